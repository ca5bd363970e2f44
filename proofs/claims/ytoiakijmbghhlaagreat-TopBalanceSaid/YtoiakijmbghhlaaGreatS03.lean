/- rightNode. Conditions: the node reads as data. | The capacity of a node, what a volume is, on both sides. Conditions: the node is an outfall or has a knot. | Plans as data; planner.within and Valid. Conditions: the plan reads as data. -/
import Derived.Test.YtoiakijmbghhlaaGreatS02
import Derived.Test.YtoiakijmbghhlaaGreatS01
set_option linter.unusedVariables false
set_option linter.unusedSimpArgs false
set_option maxRecDepth 100000
set_option maxHeartbeats 32000000
namespace Go.Proofs.YtoiakijmbghhlaaGreat
open Go.RowKit
theorem lit_ints (W:World) (B:Nat) (hB:W.heap.size=B) (T:TypeId) (xs:List Int) (n:Nat) (hn:xs.length=n) (hn2:n<=9223372036854775807) (cs:Array Value) (hcs:cs=(xs.map fun n=>.int .i64 n).toArray):IsInts (W.alloc (.cells cs T)) (.slice (some ⟨B,0,none⟩) n n) xs:=by
 subst hB;subst hcs;subst hn
 exact isL_lit eInt 1 (fun _=>rfl) _ W.heap.size T _ xs xs.length xs.length (heap_alloc_new W _) rfl (by
  show xs.map _=_
  clear hn2
  induction xs with
  | nil=>rfl
  | cons x r ih=>simp only [List.map_cons,List.flatMap_cons,ih];rfl) (Nat.le_refl _) hn2
theorem boxC {α:Type} {enc:α->List Value} {k:Nat} (hk:∀ x,(enc x).length=k) (w:World) (T:TypeId) (x:α) (cs:Array Value) (hcs:cs=(enc x).toArray):IsC enc k (w.alloc (.cells cs T)) (some ⟨w.heap.size,0,none⟩) [x]:=by
 obtain ⟨a,c,e,_,_,h⟩:=(Own.fresh hk w w.heap.size (Nat.le_refl _) T x cs hcs).isL hk
 simp only [Value.slice.injEq] at e
 obtain ⟨rfl,_,_⟩:=e
 exact h
theorem IsC.ndAt {w:World} {b off:Nat} {xs:List Nd} (h:IsC eNd 9 w (some ⟨b,off,none⟩) xs) (i:Nat) (hi:i<xs.length) :
  w.cell? ⟨b,off+i*9,none⟩=some (.string xs[i].Name)/\w.cell? ⟨b,off+i*9+1,none⟩=some (.int .i64 xs[i].Kind) /\
   w.cell? ⟨b,off+i*9+2,none⟩=some (.int .i64 xs[i].AX)/\w.cell? ⟨b,off+i*9+3,none⟩=some (.int .i64 xs[i].AY)/\w.cell? ⟨b,off+i*9+4,none⟩=some (.int .i64 xs[i].Inv) /\
   w.cell? ⟨b,off+i*9+5,none⟩=some (.int .i64 xs[i].Gr)/\w.cell? ⟨b,off+i*9+6,none⟩=some (.slice xs[i].Sh.a xs[i].Sh.xs.length xs[i].Sh.cap)/\w.cell? ⟨b,off+i*9+7,none⟩=some (.bool xs[i].Pro) /\
   w.cell? ⟨b,off+i*9+8,none⟩=some (.int .i64 xs[i].Res):=by
 obtain ⟨b',off',e,c⟩:=h.nd i hi
 simp only [Option.some.injEq,Addr.mk.injEq] at e
 obtain ⟨rfl,rfl,_⟩:=e
 exact c
theorem boxNd (w W:World) (T:TypeId) (x:Nd) (cs:Array Value) (hcs:cs=(eNd x).toArray) (B:Nat) (hB:B=w.heap.size+1) (hb:Below B (w.alloc (.cells cs T)) W) :
  W.cell? ⟨w.heap.size,0,none⟩=some (.string x.Name)/\W.cell? ⟨w.heap.size,1,none⟩=some (.int .i64 x.Kind) /\
   W.cell? ⟨w.heap.size,2,none⟩=some (.int .i64 x.AX)/\W.cell? ⟨w.heap.size,3,none⟩=some (.int .i64 x.AY)/\W.cell? ⟨w.heap.size,4,none⟩=some (.int .i64 x.Inv) /\
   W.cell? ⟨w.heap.size,5,none⟩=some (.int .i64 x.Gr)/\W.cell? ⟨w.heap.size,6,none⟩=some (.slice x.Sh.a x.Sh.xs.length x.Sh.cap)/\W.cell? ⟨w.heap.size,7,none⟩=some (.bool x.Pro) /\
   W.cell? ⟨w.heap.size,8,none⟩=some (.int .i64 x.Res):=by
 have h:=((boxC eNd_len w T x cs hcs).mono (w':=W) (by rw [hB] at hb;simpa using hb)).ndAt 0 (by simp)
 simpa using h
theorem ndB_of {x:Nd} (h1:nameB x.Name=true) (h2:posB x.AX=true) (h3:posB x.AY=true) (h4:lvlB x.Inv=true) (h5:lvlB x.Gr=true):ndB x=kindNdB x:=by simp [ndB,h1,h2,h3,h4,h5]
theorem rightNode_any (x:Nd) (w:World) (hg:gNd w x):Calls Tryz.prog 126 #[vNd x] w fun e w'=>e=.returned (.bool (ndB x))/\Below w.heap.size w w':=by
 obtain ⟨nm,kd,ax,ay,iv,gr,⟨sa,scap,sxs⟩,pr,rs⟩:=x
 have hn:=hg.name
 have hsh:IsKns w (.slice sa sxs.length scap) sxs:=hg.sh.isL
 have gi:=hg.inv
 have gg:=hg.gr
 clear hg
 simp only at hn gi gg
 simp only [vNd]
 cases h1:nameB nm
 ·have HS:Hid (ndB ⟨nm,kd,ax,ay,iv,gr,⟨sa,scap,sxs⟩,pr,rs⟩=false):=by show _=_;simp [ndB,h1]
  go_enter Tryz.func126,Tryz.ntmps126
  go_wp2_with (first|(go_at_call 183;refine (isName_any _ _ hn).mono ?_;rintro e w' ⟨rfl,rfl⟩)|(go_at_call 191;refine (between_any _ _ _ _).mono ?_;rintro e w' ⟨rfl,rfl⟩))
  go_ret
  exact ⟨ret_bool HS.out.symm,bl⟩
 cases h2:posB ax
 ·have HS:Hid (ndB ⟨nm,kd,ax,ay,iv,gr,⟨sa,scap,sxs⟩,pr,rs⟩=false):=by show _=_;simp [ndB,h2]
  have p2:=(posB_btw ax).trans h2
  go_enter Tryz.func126,Tryz.ntmps126
  go_wp2_with (first|(go_at_call 183;refine (isName_any _ _ hn).mono ?_;rintro e w' ⟨rfl,rfl⟩)|(go_at_call 191;refine (between_any _ _ _ _).mono ?_;rintro e w' ⟨rfl,rfl⟩))
  go_ret
  exact ⟨ret_bool HS.out.symm,bl⟩
 have p2:=(posB_btw ax).trans h2
 cases h3:posB ay
 ·have HS:Hid (ndB ⟨nm,kd,ax,ay,iv,gr,⟨sa,scap,sxs⟩,pr,rs⟩=false):=by show _=_;simp [ndB,h3]
  have p3:=(posB_btw ay).trans h3
  go_enter Tryz.func126,Tryz.ntmps126
  go_wp2_with (first|(go_at_call 183;refine (isName_any _ _ hn).mono ?_;rintro e w' ⟨rfl,rfl⟩)|(go_at_call 191;refine (between_any _ _ _ _).mono ?_;rintro e w' ⟨rfl,rfl⟩))
  go_ret
  exact ⟨ret_bool HS.out.symm,bl⟩
 have p3:=(posB_btw ay).trans h3
 go_enter Tryz.func126,Tryz.ntmps126
 go_wp2_with (first|(go_at_call 183;refine (isName_any _ _ hn).mono ?_;rintro e w' ⟨rfl,rfl⟩)|(go_at_call 191;refine (between_any _ _ _ _).mono ?_;rintro e w' ⟨rfl,rfl⟩))
 have hl:=lit_ints (w.alloc (.cells #[.string nm,.int .i64 kd,.int .i64 ax,.int .i64 ay,.int .i64 iv,.int .i64 gr,.slice sa sxs.length scap,.bool pr,.int .i64 rs] 48)) (w.heap.size+1) (by simp) 3 [iv,gr] 2 rfl om #[.int .i64 iv,.int .i64 gr] rfl
 refine Calls.to (level_any [iv,gr] _ _ hl) ?_
 rintro e w1 rfl hb1
 have hbx:Below (w.heap.size+1) (w.alloc (.cells #[.string nm,.int .i64 kd,.int .i64 ax,.int .i64 ay,.int .i64 iv,.int .i64 gr,.slice sa sxs.length scap,.bool pr,.int .i64 rs] 48)) w1:=(qr.alloc (by simp) _).trans (hb1.mono (by simp))
 have hbw:Below w.heap.size w w1:=(qr.alloc (Nat.le_refl _) _).trans (hbx.mono om)
 have hsh1:=hsh.mono hbw
 obtain ⟨c0,c1,c2,c3,c4,c5,c6,c7,c8⟩:=boxNd w w1 48 ⟨nm,kd,ax,ay,iv,gr,⟨sa,scap,sxs⟩,pr,rs⟩ _ rfl _ rfl hbx
 simp only at c0 c1 c2 c3 c4 c5 c6 c7 c8
 clear hb1 hl hsh
 cases hL : [iv,gr].all lvlB
 ·have HS:Hid (ndB ⟨nm,kd,ax,ay,iv,gr,⟨sa,scap,sxs⟩,pr,rs⟩=false):=by
   show _=_
   simp at hL
   cases h4:lvlB iv
   ·simp [ndB,h4]
   ·simp [ndB,hL h4]
  go_wp2_with fail
  go_ret
  exact ⟨ret_bool HS.out.symm,bl⟩
 simp only [List.all_cons,List.all_nil,Bool.and_true,Bool.and_eq_true] at hL
 have HS:=qh (ndB_of (x:=⟨nm,kd,ax,ay,iv,gr,⟨sa,scap,sxs⟩,pr,rs⟩) h1 h2 h3 hL.1 hL.2)
 have b4 : -4194304<=iv/\iv<=4194304:=by simpa [lvlB] using hL.1
 have b5 : -4194304<=gr/\gr<=4194304:=by simpa [lvlB] using hL.2
 have hL2:(lvlB iv&&lvlB gr)=true:=by simp [hL.1,hL.2]
 clear h1 h2 h3 p2 p3
 by_cases k1:kd=1
 ·subst k1
  by_cases g1:gr<=iv
  ·have q1:decide (gr<=iv)=true:=decide_eq_true g1
   have g2:¬ iv<gr:=by omega
   have HK:=qh (HS.out.trans (show kindNdB _=false from by simp [kindNdB,g2]))
   go_wp2_with fail
   go_ret
   exact ⟨ret_bool HK.out.symm,bl⟩
  have q1:decide (gr<=iv)=false:=decide_eq_false g1
  have g2:iv<gr:=by omega
  go_wp2_with fail
  refine Calls.to (shaped_any sxs _ (gr-iv) _ hsh1) ?_
  rintro e w2 rfl hb2
  have hbx2:=hbx.trans (hb2.mono (by simpa using hbx.size))
  have hbw2:=hbw.trans (hb2.mono hbw.size)
  have hsh2:=hsh1.mono hb2
  obtain ⟨c0,c1,c2,c3,c4,c5,c6,c7,c8⟩:=boxNd w w2 48 ⟨nm,1,ax,ay,iv,gr,⟨sa,scap,sxs⟩,pr,rs⟩ _ rfl _ rfl hbx2
  simp only at c0 c1 c2 c3 c4 c5 c6 c7 c8
  clear hb2 hsh1 hbx hbw
  cases hS:shapeB sxs (gr-iv)
  ·have HK:=qh (HS.out.trans (show kindNdB _=false from by simp [kindNdB,hS]))
   go_wp2_with fail
   go_ret
   exact ⟨ret_bool HK.out.symm,bl⟩
  have hS':=qh hS
  cases pr
  ·by_cases r0:rs=0
   ·have q3:=beqT r0
    have R0:=qh r0
    clear r0
    have HK:=qh (HS.out.trans (show kindNdB _=true from by simp [kindNdB,g2,hS,R0.out]))
    go_wp2_with fail
    go_ret
    exact ⟨ret_bool HK.out.symm,bl⟩
   ·have q3:=beqF r0
    have R0:=qh r0
    clear r0
    have HK:=qh (HS.out.trans (show kindNdB _=false from by simp [kindNdB,g2,hS,R0.out]))
    go_wp2_with fail
    go_ret
    exact ⟨ret_bool HK.out.symm,bl⟩
  ·have HK:=qh (HS.out.trans (show kindNdB _=false from by simp [kindNdB,g2,hS]))
   go_wp2_with fail
   go_ret
   exact ⟨ret_bool HK.out.symm,bl⟩
 by_cases k2:kd=2
 ·subst k2
  by_cases g1:gr<=iv
  ·have q1:decide (gr<=iv)=true:=decide_eq_true g1
   have g2:¬ iv<gr:=by omega
   have HK:=qh (HS.out.trans (show kindNdB _=false from by simp [kindNdB,g2]))
   go_wp2_with fail
   go_ret
   exact ⟨ret_bool HK.out.symm,bl⟩
  have q1:decide (gr<=iv)=false:=decide_eq_false g1
  have g2:iv<gr:=by omega
  go_wp2_with fail
  refine Calls.to (shaped_any sxs _ (gr-iv) _ hsh1) ?_
  rintro e w2 rfl hb2
  have hbx2:=hbx.trans (hb2.mono (by simpa using hbx.size))
  have hbw2:=hbw.trans (hb2.mono hbw.size)
  have hsh2:=hsh1.mono hb2
  obtain ⟨c0,c1,c2,c3,c4,c5,c6,c7,c8⟩:=boxNd w w2 48 ⟨nm,2,ax,ay,iv,gr,⟨sa,scap,sxs⟩,pr,rs⟩ _ rfl _ rfl hbx2
  simp only at c0 c1 c2 c3 c4 c5 c6 c7 c8
  clear hb2 hsh1 hbx hbw
  cases hS:shapeB sxs (gr-iv)
  ·have HK:=qh (HS.out.trans (show kindNdB _=false from by simp [kindNdB,hS]))
   go_wp2_with fail
   go_ret
   exact ⟨ret_bool HK.out.symm,bl⟩
  have hS':=qh hS
  cases pr
  ·by_cases r0:rs=0
   ·have q3:=beqT r0
    have R0:=qh r0
    clear r0
    have HK:=qh (HS.out.trans (show kindNdB _=true from by simp [kindNdB,g2,hS,R0.out]))
    go_wp2_with fail
    go_ret
    exact ⟨ret_bool HK.out.symm,bl⟩
   ·have q3:=beqF r0
    have R0:=qh r0
    clear r0
    have HK:=qh (HS.out.trans (show kindNdB _=false from by simp [kindNdB,g2,hS,R0.out]))
    go_wp2_with fail
    go_ret
    exact ⟨ret_bool HK.out.symm,bl⟩
  ·obtain ⟨a0,cp,e0,hcap,hbig,hs2⟩:=hsh2
   simp only [Value.slice.injEq] at e0
   obtain ⟨rfl,_,rfl⟩:=e0
   have hlen:=tabB_len (xs:=sxs) (by simp only [shapeB,Bool.and_eq_true] at hS;exact hS.1.1.1)
   obtain ⟨b,off,rfl,d1,d2⟩:=hs2.kn (sxs.length-1) om
   have HLK:=qh (lastK_eq hlen.1)
   have HK:=qh (HS.out.trans (show kindNdB _=(decide (0<=rs)&&decide (rs<=(sxs[sxs.length-1]'om).Y)) from by simp [kindNdB,g2,hS,HLK.out]))
   clear hs2 HLK
   generalize sxs[sxs.length-1]=xl at *
   go_wp2_with fail
   have w1':IntKind.i64.wrap ((sxs.length:Int)-1)=(sxs.length:Int)-1:=IntWalk.i64_in _ om
   have w2':((sxs.length:Int)-1).toNat=sxs.length-1:=by omega
   have w3':0<=(sxs.length:Int)-1:=by omega
   have w4':(sxs.length:Int)-1<sxs.length:=by omega
   go_quiet ((go_at_call 191;exact Calls.quiet_of_same (between_any _ _ _ _)))
   clear w1' w2' w3' w4'
   go_wp2_with fail
   go_ret
   exact ⟨ret_bool HK.out.symm,bl⟩
 have n1:=beqF k1
 have n2:=beqF k2
 by_cases k3:kd=3
 ·subst k3
  clear k1 k2
  by_cases g1:iv<=gr
  ·have q1:decide (iv<=gr)=true:=decide_eq_true g1
   by_cases l0:sxs.length=0
   ·have q2:((sxs.length:Int)==0)=true:=beqT om
    have L0:=qh l0
    clear l0
    cases pr
    ·by_cases r0:rs=0
     ·have q3:=beqT r0
      have R0:=qh r0
      clear r0
      have HK:=qh (HS.out.trans (show kindNdB _=true from by simp [kindNdB,g1,L0.out,R0.out]))
      go_wp2_with fail
      go_ret
      exact ⟨ret_bool HK.out.symm,bl⟩
     ·have q3:=beqF r0
      have R0:=qh r0
      clear r0
      have HK:=qh (HS.out.trans (show kindNdB _=false from by simp [kindNdB,g1,L0.out,R0.out]))
      go_wp2_with fail
      go_ret
      exact ⟨ret_bool HK.out.symm,bl⟩
    ·have HK:=qh (HS.out.trans (show kindNdB _=false from by simp [kindNdB,g1,L0.out]))
     go_wp2_with fail
     go_ret
     exact ⟨ret_bool HK.out.symm,bl⟩
   ·have q2:((sxs.length:Int)==0)=false:=beqF om
    have L0:=qh l0
    clear l0
    have HK:=qh (HS.out.trans (show kindNdB _=false from by simp [kindNdB,g1,L0.out]))
    go_wp2_with fail
    go_ret
    exact ⟨ret_bool HK.out.symm,bl⟩
  ·have q1:decide (iv<=gr)=false:=decide_eq_false g1
   have g1':gr<iv:=by omega
   have HK:=qh (HS.out.trans (show kindNdB _=false from by simp [kindNdB,Int.not_le.2 g1']))
   go_wp2_with fail
   go_ret
   exact ⟨ret_bool HK.out.symm,bl⟩
 ·have n3:=beqF k3
  have K1:=qh k1
  have K2:=qh k2
  have K3:=qh k3
  clear k1 k2 k3
  have HK:=qh (HS.out.trans (show kindNdB _=false from by simp [kindNdB,K1.out,K2.out,K3.out]))
  go_wp2_with fail
  go_ret
  exact ⟨ret_bool HK.out.symm,bl⟩
theorem swithin_any (n lo hi:Int) (w:World):Calls Tryz.prog 95 #[.int .i64 n,.int .i64 lo,.int .i64 hi] w fun e w'=>e=.returned (.bool (btwB n lo hi))/\w'=w:=by
 by_cases h1:lo<=n <;> by_cases h2:n<=hi
 all_goals
  go_enter Tryz.func95,Tryz.ntmps95
  go_wp2_with fail
  go_ret
  exact ⟨ret_bool (by simp [btwB,h1,h2]),rfl⟩
def volB (n:Int):Bool:=btwB n 0 1125899906842624
theorem sholds_any (n:Int) (w:World):Calls Tryz.prog 97 #[.int .i64 n] w fun e w'=>e=.returned (.bool (volB n))/\w'=w:=by
 have H:Hid (volB n=btwB n 0 1125899906842624):=rfl
 generalize volB n=r at *
 go_enter Tryz.func97,Tryz.ntmps97
 go_wp2_with (go_at_call 95;refine (swithin_any _ _ _ _).mono ?_;rintro e w' ⟨rfl,rfl⟩)
 go_ret
 exact ⟨ret_bool H.out.symm,rfl⟩
theorem slast_any (xs:List Kn) (v:Value) (w:World) (hv:IsKns w v xs) (h1:1<=xs.length):Calls Tryz.prog 174 #[v] w fun e w'=>e=.returned (vKn (lastK xs))/\Below w.heap.size w w':=by
 obtain ⟨a,cap,rfl,hcap,hbig,hs⟩:=hv
 have hs1:=hs.mono (qr.alloc (Nat.le_refl _) (.cells #[.int .i64 0,.int .i64 0] 100))
 obtain ⟨b,off,rfl,d1,d2⟩:=hs1.kn (xs.length-1) om
 have HL:=qh (lastK_eq h1)
 clear hs hs1
 rw [HL.out]
 clear HL
 generalize xs[xs.length-1]=xl at *
 obtain ⟨x,y⟩:=xl
 simp only at d1 d2
 go_enter Tryz.func174,Tryz.ntmps174
 go_wp2_with fail
 refine bodyPost_ret (v:=.agg #[.int .i64 x,.int .i64 y]) (by simp (maxDischargeDepth:=9) [results,Tryz.results174,go_sem]) rfl ⟨rfl,bl⟩
def capB (x:Nd):Int:=if x.Kind=3 then 0 else (lastK x.Sh.xs).Y
theorem scap_any (x:Nd) (w:World) (hg:gNd w x) (hok:x.Kind=3\/1<=x.Sh.xs.length):Calls Tryz.prog 96 #[vNd x] w fun e w'=>e=.returned (.int .i64 (capB x))/\Below w.heap.size w w':=by
 obtain ⟨nm,kd,ax,ay,iv,gr,⟨sa,scap,sxs⟩,pr,rs⟩:=x
 have hsh:IsKns w (.slice sa sxs.length scap) sxs:=hg.sh.isL
 clear hg
 simp only at hok
 simp only [vNd,vSl]
 by_cases k3:kd=3
 ·subst k3
  have HC:Hid (capB ⟨nm,3,ax,ay,iv,gr,⟨sa,scap,sxs⟩,pr,rs⟩=0):=by show _=_;simp [capB]
  rw [HC.out]
  go_enter Tryz.func96,Tryz.ntmps96
  go_wp2_with fail
  go_ret
  exact ⟨rfl,bl⟩
 ·have hlen:1<=sxs.length:=by rcases hok with h|h;exact absurd h k3;exact h
  have HC:Hid (capB ⟨nm,kd,ax,ay,iv,gr,⟨sa,scap,sxs⟩,pr,rs⟩=(lastK sxs).Y):=by show _=_;simp [capB,k3]
  rw [HC.out]
  have n3:=beqF k3
  have hlast:=fun W h=>slast_any sxs (.slice sa sxs.length scap) W h hlen
  clear k3 hok HC
  generalize lastK sxs=lk at *
  obtain ⟨lx,ly⟩:=lk
  simp only [vKn] at hlast
  have hfd:∀ w:World,(Instr.field 100 (.agg #[.int .i64 lx,.int .i64 ly]) 1).run Tryz.prog w=.ok (.int .i64 ly) w:=fun _=>by kernel_rfl
  go_enter Tryz.func96,Tryz.ntmps96
  go_wp2_with fail
  refine Calls.to (hlast _ (hsh.mono (qr.alloc (Nat.le_refl _) _))) ?_
  rintro e w1 rfl hb1
  have hbb:Below w.heap.size w w1:=(qr.alloc (Nat.le_refl _) _).trans (hb1.mono (by simp))
  clear hb1 hsh hlast
  go_wp2_with fail
  go_ret
  exact ⟨rfl,hbb⟩
theorem cel_lt {w w':World} {b off:Nat} {v:Value} (h:w.cell? ⟨b,off,none⟩=some v) (hb:Below w.heap.size w w'):w'.cell? ⟨b,off,none⟩=some v:=by
 rw [hb.cell (World.block_lt_of_cell? _ _ h)];exact h
structure PlD where
 St:Int
 Cp:Int
 Rs:Int
 I:Sl Int
 L:Sl Int
 T:Sl Kn
 W:Int
abbrev ePl (p:PlD):List Value:=[.int .i64 p.St,.int .i64 p.Cp,.int .i64 p.Rs,vSl p.I,vSl p.L,vSl p.T,.int .i64 p.W]
abbrev vPl (p:PlD):Value:=.agg #[.int .i64 p.St,.int .i64 p.Cp,.int .i64 p.Rs,vSl p.I,vSl p.L,vSl p.T,.int .i64 p.W]
structure gPl (W:World) (p:PlD):Prop where
 st:gI64 W p.St
 cp:gI64 W p.Cp
 rs:gI64 W p.Rs
 i:gInts W p.I
 l:gInts W p.L
 t:gTab W p.T
 w:gI64 W p.W
theorem rdPl:Rdr Tryz.prog 68 ePl 7 gPl:=by
 refine ⟨by kernel_rfl,fun _=>rfl,?_,?_⟩
 ·intro H e W fuel cs x h
  obtain ⟨hl,hf⟩:=rd_fields (by kernel_rfl) h
  rw [show Tryz.prog.cellsOf 68=7 from by kernel_rfl] at hl
  obtain ⟨a0,e0,g0⟩:=hf 0 3 0 (by kernel_rfl) rdI
  obtain ⟨a1,e1,g1⟩:=hf 1 3 1 (by kernel_rfl) rdI
  obtain ⟨a2,e2,g2⟩:=hf 2 3 2 (by kernel_rfl) rdI
  obtain ⟨a3,e3,g3⟩:=hf 3 28 3 (by kernel_rfl) rdInts
  obtain ⟨a4,e4,g4⟩:=hf 4 28 4 (by kernel_rfl) rdInts
  obtain ⟨a5,e5,g5⟩:=hf 5 46 5 (by kernel_rfl) rdTab
  obtain ⟨a6,e6,g6⟩:=hf 6 3 6 (by kernel_rfl) rdI
  have hj:=cutAt_join cs [1,1,1,1,1,1,1] 0 (by rw [hl];rfl)
  simp only [cutAt,Nat.zero_add,Nat.reduceAdd] at hj
  rw [e0,e1,e2,e3,e4,e5,e6] at hj
  exact ⟨⟨a0,a1,a2,a3,a4,a5,a6⟩,by simpa using hj.symm,⟨g0,g1,g2,g3,g4,g5,g6⟩⟩
 ·intro W W' a h hb
  exact ⟨h.st,h.cp,h.rs,rdInts.mono h.i hb,rdInts.mono h.l hb,rdTab.mono h.t hb,h.w⟩
theorem pwithin_any (n lo hi:Int) (w:World):Calls Tryz.prog 205 #[.int .i64 n,.int .i64 lo,.int .i64 hi] w fun e w'=>e=.returned (.bool (btwB n lo hi))/\w'=w:=by
 by_cases h1:lo<=n <;> by_cases h2:n<=hi
 all_goals
  go_enter Tryz.func205,Tryz.ntmps205
  go_wp2_with fail
  go_ret
  exact ⟨ret_bool (by simp [btwB,h1,h2]),rfl⟩
theorem boxPl (w W:World) (T:TypeId) (p:PlD) (cs:Array Value) (hcs:cs=(ePl p).toArray) (B:Nat) (hB:B=w.heap.size+1) (hb:Below B (w.alloc (.cells cs T)) W) :
  W.cell? ⟨w.heap.size,0,none⟩=some (.int .i64 p.St)/\W.cell? ⟨w.heap.size,1,none⟩=some (.int .i64 p.Cp)/\W.cell? ⟨w.heap.size,2,none⟩=some (.int .i64 p.Rs) /\
  W.cell? ⟨w.heap.size,3,none⟩=some (.slice p.I.a p.I.xs.length p.I.cap)/\W.cell? ⟨w.heap.size,4,none⟩=some (.slice p.L.a p.L.xs.length p.L.cap)/\W.cell? ⟨w.heap.size,5,none⟩=some (.slice p.T.a p.T.xs.length p.T.cap) /\
  W.cell? ⟨w.heap.size,6,none⟩=some (.int .i64 p.W):=by
 subst hB;subst hcs
 exact ⟨(hb.cell (p:=⟨w.heap.size,0,none⟩) (by simp)).trans (by simp [go_sem]),(hb.cell (p:=⟨w.heap.size,1,none⟩) (by simp)).trans (by simp [go_sem]),(hb.cell (p:=⟨w.heap.size,2,none⟩) (by simp)).trans (by simp [go_sem]),
  (hb.cell (p:=⟨w.heap.size,3,none⟩) (by simp)).trans (by simp [go_sem]),(hb.cell (p:=⟨w.heap.size,4,none⟩) (by simp)).trans (by simp [go_sem]),(hb.cell (p:=⟨w.heap.size,5,none⟩) (by simp)).trans (by simp [go_sem]),(hb.cell (p:=⟨w.heap.size,6,none⟩) (by simp)).trans (by simp [go_sem])⟩
def inB (n:Int):Bool:=btwB n 0 1099511627776
def infB (I:List Int) (i:Nat):Bool:=inB (I.getD i 0)
def relB (L:List Int) (i:Nat):Bool:=inB (L.getD i 0)&&(i==0||decide (L.getD (i-1) 0<L.getD i 0))
def endsB (T:List Kn):Bool:=decide (0<=(T.getD 0 default).Y)&&decide ((lastK T).Y<=1099511627776)
def planB (p:PlD):Bool:=
 btwB p.Cp 1 1099511627776&&(btwB p.Rs 0 p.Cp&&(btwB p.St p.Rs p.Cp&&(!decide (200<p.I.xs.length)&&(btwB p.L.xs.length 1 20&&(btwB p.W 0 1000&&(tabB p.T.xs &&
  (allFrom (infB p.I.xs) 0 p.I.xs.length&&(allFrom (relB p.L.xs) 0 p.L.xs.length&&endsB p.T.xs))))))))
theorem infB_at {I:List Int} {k:Nat} (h:k<I.length):infB I k=btwB I[k] 0 1099511627776:=by
 simp [infB,inB,List.getD,List.getElem?_eq_getElem h]
theorem relB_0 {L:List Int} (h:0<L.length):relB L 0=btwB L[0] 0 1099511627776:=by
 simp [relB,inB,List.getD,List.getElem?_eq_getElem h]
theorem relB_pos {L:List Int} {k:Nat} (h:k<L.length) (h0:0<k):relB L k=(btwB L[k] 0 1099511627776 && !decide (L[k]<=L[k-1]'om)):=by
 have e:(k==0)=false:=by rw [beq_eq_false_iff_ne];omega
 simp only [relB,inB,List.getD,List.getElem?_eq_getElem h,List.getElem?_eq_getElem (show k-1<L.length by omega),e,Bool.false_or,Option.getD_some]
 congr 1
 rw [Bool.eq_iff_iff]
 simp
theorem pvalid_any (p:PlD) (w:World) (hg:gPl w p):Calls Tryz.prog 136 #[vPl p] w fun e w'=>e=.returned (.bool (planB p))/\Below w.heap.size w w':=by
 obtain ⟨res,hres⟩:∃ res,res=planB p:=⟨_,rfl⟩
 rw [<-hres]
 have HR:=qh hres
 clear hres
 have hI:=hg.i.2.2.1
 have hL:=hg.l.2.2.1
 have hTL:=hg.t.isL
 obtain ⟨St,Cp,Rs,⟨ia,ic,is⟩,⟨la,lc,ls⟩,⟨ta,tc,ts⟩,Wt⟩:=p
 have hb0:Below w.heap.size w (w.alloc (.cells #[.int .i64 St,.int .i64 Cp,.int .i64 Rs,.slice ia is.length ic,.slice la ls.length lc,.slice ta ts.length tc,.int .i64 Wt] 68)):=qr.alloc (Nat.le_refl _) _
 simp only at hI hL hTL
 clear hg
 have HI:=qh hI
 have HL:=qh hL
 have HT:=qh hTL
 clear hI hL hTL
 simp only [vPl,vSl]
 go_enter Tryz.func136,Tryz.ntmps136
 go_wp2_with fail
 refine (pwithin_any _ _ _ _).mono ?_
 rintro e w1 ⟨rfl,rfl⟩
 cases h1:btwB Cp 1 1099511627776
 ·go_wp2_with fail
  go_ret
  exact ⟨ret_bool (by rw [HR.out];simp [planB,h1]),hb0⟩
 go_wp2_with fail
 refine (pwithin_any _ _ _ _).mono ?_
 rintro e w1 ⟨rfl,rfl⟩
 cases h2:btwB Rs 0 Cp
 ·go_wp2_with fail
  go_ret
  exact ⟨ret_bool (by rw [HR.out];simp [planB,h1,h2]),hb0⟩
 go_wp2_with fail
 refine (pwithin_any _ _ _ _).mono ?_
 rintro e w1 ⟨rfl,rfl⟩
 cases h3:btwB St Rs Cp
 ·go_wp2_with fail
  go_ret
  exact ⟨ret_bool (by rw [HR.out];simp [planB,h1,h2,h3]),hb0⟩
 by_cases hn:200<is.length
 ·have q1:decide ((200:Int)<is.length)=true:=decide_eq_true om
  have q2:decide (200<is.length)=true:=decide_eq_true hn
  go_wp2_with fail
  go_ret
  exact ⟨ret_bool (by rw [HR.out];simp [planB,h1,h2,h3,hn]),hb0⟩
 have q1:decide ((200:Int)<is.length)=false:=decide_eq_false om
 have q2:decide (200<is.length)=false:=decide_eq_false hn
 go_wp2_with fail
 refine (pwithin_any _ _ _ _).mono ?_
 rintro e w1 ⟨rfl,rfl⟩
 cases h4:btwB (ls.length:Int) 1 20
 ·go_wp2_with fail
  go_ret
  exact ⟨ret_bool (by rw [HR.out];simp [planB,h1,h2,h3,hn,h4]),hb0⟩
 go_wp2_with fail
 refine (pwithin_any _ _ _ _).mono ?_
 rintro e w1 ⟨rfl,rfl⟩
 cases h5:btwB Wt 0 1000
 ·go_wp2_with fail
  go_ret
  exact ⟨ret_bool (by rw [HR.out];simp [planB,h1,h2,h3,hn,h4,h5]),hb0⟩
 go_wp2_with fail
 refine Calls.to (tvalid_any ts _ _ (HT.out.mono hb0)) ?_
 rintro e w2 rfl hb2
 have hbw:=hb0.trans (hb2.mono hb0.size)
 cases h6:tabB ts
 ·go_wp2_with fail
  go_ret
  exact ⟨ret_bool (by rw [HR.out];simp [planB,h1,h2,h3,hn,h4,h5,h6]),hbw⟩
 obtain ⟨_,_,_,c3,c4,c5,_⟩:=boxPl w w2 68 ⟨St,Cp,Rs,⟨ia,ic,is⟩,⟨la,lc,ls⟩,⟨ta,tc,ts⟩,Wt⟩ _ rfl _ rfl (hb2.mono (by simp))
 have hres:res=(allFrom (infB is) 0 is.length&&(allFrom (relB ls) 0 ls.length&&endsB ts)):=by rw [HR.out];simp [planB,h1,h2,h3,hn,h4,h5,h6]
 have HR:=qh hres
 have ht1:=(tabB_len h6).1
 have HTL:=qh (tabB_len h6).2
 have hl1:ls.length<2147483648:=by simp [btwB] at h4;omega
 have C4:=qh c4
 have C5:=qh c5
 clear hres h1 h2 h3 h4 h5 h6 q1 q2 hb2 hb0 c4 c5
 go_wp2_with fail
 go_loopw [57] (fun s57 wr=>∃ k:Nat,k<=is.length/\s57=.int .i64 k/\wr=w2/\Hid (res=(allFrom (infB is) k is.length&&(allFrom (relB ls) 0 ls.length&&endsB ts)))) (fun s57 _=>is.length-(intOf s57).toNat)
 case atStart=>exact ⟨0,Nat.zero_le _,rfl,rfl,HR⟩
 case round=>
  obtain ⟨k,hk,rfl,rfl,hm⟩:=hrel
  by_cases hkl:k<is.length
  ·obtain ⟨b,off,rfl,d0⟩:=(HI.out.mono hbw).int k hkl
   have i1:decide (k<is.length)=true:=decide_eq_true hkl
   have x8:IntKind.i64.wrap ((k:Int)+1)=k+1:=IntWalk.i64_in _ om
   have hst:=qh ((allFrom_step (infB is) hkl).trans (by rw [infB_at hkl]))
   clear HL HT
   obtain ⟨x,hx⟩:∃ x,x=is[k]:=⟨_,rfl⟩
   rw [<-hx] at d0 hst
   clear hx
   go_wp2_with fail
   refine (pwithin_any _ _ _ _).mono ?_
   rintro e w1 ⟨rfl,rfl⟩
   cases h1:btwB x 0 1099511627776
   ·go_wp2_with fail
    go_ret
    exact ⟨ret_bool (by rw [hm.out,hst.out,h1];rfl),hbw⟩
   ·go_wp2_with fail
    go_roundw
    case measure=>simp [intOf];omega
    case rel=>exact ⟨k+1,by omega,by go_num,trivial,hm.out.trans (by rw [hst.out,h1];rfl)⟩
  ·have i1:decide (k<is.length)=false:=decide_eq_false hkl
   obtain rfl:k=is.length:=by omega
   have hm2:res=(allFrom (relB ls) 0 ls.length&&endsB ts):=by rw [hm.out,allFrom_end _ (Nat.le_refl _)];rfl
   have HM:=qh hm2
   have c4:=C4.out
   clear hm2 hm c3
   go_wp2_with fail
   go_loopw [68] (fun s68 wx=>∃ k:Nat,k<=ls.length/\s68=.int .i64 k/\wx=wr/\Hid (res=(allFrom (relB ls) k ls.length&&endsB ts))) (fun s68 _=>ls.length-(intOf s68).toNat)
   case atStart=>exact ⟨0,Nat.zero_le _,rfl,rfl,HM⟩
   case round=>
    obtain ⟨k,hk,rfl,rfl,hm⟩:=hrel
    by_cases hkl:k<ls.length
    ·obtain ⟨b,off,rfl,d0⟩:=(HL.out.mono hbw).int k hkl
     have i1:decide (k<ls.length)=true:=decide_eq_true hkl
     have x8:IntKind.i64.wrap ((k:Int)+1)=k+1:=IntWalk.i64_in _ om
     have hst:=qh (allFrom_step (relB ls) hkl)
     by_cases hk0:k=0
     ·have hr:=qh (show relB ls k=btwB ls[k] 0 1099511627776 by subst hk0;exact relB_0 hkl)
      have q0:decide (0<k)=false:=decide_eq_false om
      have q1:decide ((0:Int)<k)=false:=decide_eq_false om
      have HK0:=qh hk0
      clear hk0
      obtain ⟨x,hx⟩:∃ x,x=ls[k]:=⟨_,rfl⟩
      rw [<-hx] at d0 hr
      clear hx
      go_wp2_with fail
      refine (pwithin_any _ _ _ _).mono ?_
      rintro e w1 ⟨rfl,rfl⟩
      cases h1:btwB x 0 1099511627776
      ·go_wp2_with fail
       go_ret
       exact ⟨ret_bool (by rw [hm.out,hst.out,hr.out,h1];rfl),hbw⟩
      ·go_wp2_with fail
       go_roundw
       case measure=>simp [intOf];omega
       case rel=>exact ⟨k+1,by omega,by go_num,trivial,hm.out.trans (by rw [hst.out,hr.out,h1];rfl)⟩
     ·obtain ⟨j,hj⟩:∃ j,k=j+1:=⟨k-1,by omega⟩
      subst hj
      obtain ⟨b',off',he,d1⟩:=(HL.out.mono hbw).int j om
      simp only [Option.some.injEq,Addr.mk.injEq] at he
      obtain ⟨rfl,rfl,_⟩:=he
      have hr0:=relB_pos hkl om
      simp only [Nat.add_sub_cancel] at hr0
      have hr:=qh hr0
      have q0:decide (0<j+1)=true:=decide_eq_true om
      have q1:decide ((0:Int)<((j+1:Nat):Int))=true:=decide_eq_true om
      have q2:decide ((0:Int)<(j:Int)+1)=true:=decide_eq_true om
      have x9:IntKind.i64.wrap (((j+1:Nat):Int)-1)=j:=by rw [IntWalk.i64_in _ om];omega
      have x10:IntKind.i64.wrap ((j:Int)+1-1)=j:=by rw [IntWalk.i64_in _ om];omega
      have i2:(0:Int)<=j:=by omega
      have i3:(j:Int)<ls.length:=by omega
      obtain ⟨x,hx⟩:∃ x,x=ls[j+1]:=⟨_,rfl⟩
      obtain ⟨y,hy⟩:∃ y,y=ls[j]:=⟨_,rfl⟩
      rw [<-hx] at d0 hr
      rw [<-hy] at d1 hr
      clear hx hy hk0 hr0
      go_wp2_with fail
      refine (pwithin_any _ _ _ _).mono ?_
      rintro e w1 ⟨rfl,rfl⟩
      cases h1:btwB x 0 1099511627776
      ·go_wp2_with fail
       go_ret
       exact ⟨ret_bool (by rw [hm.out,hst.out,hr.out,h1];rfl),hbw⟩
      ·cases h2:decide (x<=y)
       ·go_wp2_with fail
        go_roundw
        case measure=>simp [intOf];omega
        case rel=>exact ⟨j+1+1,by omega,by go_num,trivial,hm.out.trans (by rw [hst.out,hr.out,h1,h2];rfl)⟩
       ·go_wp2_with fail
        go_ret
        exact ⟨ret_bool (by rw [hm.out,hst.out,hr.out,h1,h2];rfl),hbw⟩
    ·have i1:decide (k<ls.length)=false:=decide_eq_false hkl
     obtain rfl:k=ls.length:=by omega
     have he:=show endsB ts=(decide ((0:Int)<=(ts[0]'om).Y)&&decide ((ts[ts.length-1]'om).Y<=1099511627776)) by
      rw [endsB,lastK_eq ht1];simp [List.getD,List.getElem?_eq_getElem (show 0<ts.length by omega)]
     have HE:=qh he
     have HTC:=HT.out.mono hbw
     obtain ⟨tb,tcap,htv,_,_,hC⟩:=HTC
     simp only [Value.slice.injEq] at htv
     obtain ⟨rfl,_,_⟩:=htv
     obtain ⟨b,off,rfl,d0,d1⟩:=hC.kn 0 om
     obtain ⟨b',off',he',d2,d3⟩:=hC.kn (ts.length-1) om
     simp only [Option.some.injEq,Addr.mk.injEq] at he'
     obtain ⟨rfl,rfl,_⟩:=he'
     have hl2:=(show ts.length<2147483648 by have:=HTL.out;omega)
     have x9:IntKind.i64.wrap ((ts.length:Int)-1)=((ts.length-1:Nat):Int):=by rw [IntWalk.i64_in _ om];omega
     have i2:(0:Int)<=((ts.length-1:Nat):Int):=by omega
     have i3:((ts.length-1:Nat):Int)<ts.length:=by omega
     have i4:(0:Int)<ts.length:=by omega
     have c5:=C5.out
     obtain ⟨y0,hy0⟩:∃ y,y=(ts[0]'om).Y:=⟨_,rfl⟩
     obtain ⟨y1,hy1⟩:∃ y,y=(ts[ts.length-1]'om).Y:=⟨_,rfl⟩
     rw [<-hy0] at d1 HE
     rw [<-hy1] at d3 HE
     obtain ⟨m,hmm⟩:∃ m,m=ts.length-1:=⟨_,rfl⟩
     clear d0 d2 hy0 hy1 he
     rw [<-hmm] at d3 x9 i2 i3
     clear hmm ht1
     cases h1:decide (0<=y0)
     ·go_wp2_with fail
      go_ret
      exact ⟨ret_bool (by rw [hm.out,allFrom_end _ (Nat.le_refl _),HE.out,h1];rfl),hbw⟩
     ·cases h2:decide (y1<=1099511627776)
      ·go_wp2_with fail
       go_ret
       exact ⟨ret_bool (by rw [hm.out,allFrom_end _ (Nat.le_refl _),HE.out,h1,h2];rfl),hbw⟩
      ·go_wp2_with fail
       go_ret
       exact ⟨ret_bool (by rw [hm.out,allFrom_end _ (Nat.le_refl _),HE.out,h1,h2];rfl),hbw⟩
end Go.Proofs.YtoiakijmbghhlaaGreat
