/- storage.Levels: the level of a node at a volume (table.Most), of all nodes. Conditions: the arguments read as data. -/
import Derived.Test.YtoiakijmbghhlaaGreatS33
import Derived.Test.YtoiakijmbghhlaaGreatS27
set_option linter.unusedVariables false
set_option linter.unusedSimpArgs false
set_option maxRecDepth 100000
set_option maxHeartbeats 32000000
namespace Go.Proofs.YtoiakijmbghhlaaGreat
open Go.RowKit
structure NdBx (w:World) (B:Nat) (x:Nd):Prop where
 c0:w.cell? ⟨B,0,none⟩=some (.string x.Name)
 c1:w.cell? ⟨B,1,none⟩=some (.int .i64 x.Kind)
 c2:w.cell? ⟨B,2,none⟩=some (.int .i64 x.AX)
 c3:w.cell? ⟨B,3,none⟩=some (.int .i64 x.AY)
 c4:w.cell? ⟨B,4,none⟩=some (.int .i64 x.Inv)
 c5:w.cell? ⟨B,5,none⟩=some (.int .i64 x.Gr)
 c6:w.cell? ⟨B,6,none⟩=some (vSl x.Sh)
 c7:w.cell? ⟨B,7,none⟩=some (.bool x.Pro)
 c8:w.cell? ⟨B,8,none⟩=some (.int .i64 x.Res)
theorem NdBx.mono {w w':World} {B:Nat} {x:Nd} (h:NdBx w B x) (hb:Below w.heap.size w w'):NdBx w' B x:=
 ⟨box_lt h.c0 hb,box_lt h.c1 hb,box_lt h.c2 hb,box_lt h.c3 hb,box_lt h.c4 hb,box_lt h.c5 hb,box_lt h.c6 hb,box_lt h.c7 hb,box_lt h.c8 hb⟩
theorem NdBx.new (w:World) (x:Nd) (T:TypeId):NdBx (w.alloc (.cells (eNd x).toArray T)) w.heap.size x:=by
 refine ⟨?_,?_,?_,?_,?_,?_,?_,?_,?_⟩ <;> simp [go_sem]
theorem ndB_lv {x:Nd} (h:ndB x=true):(-4194304<=x.Inv/\x.Inv<=4194304)/\(-4194304<=x.Gr/\x.Gr<=4194304):=by
 simp only [ndB,Bool.and_eq_true,lvlB,decide_eq_true_eq] at h
 exact ⟨h.1.1.2,h.1.2⟩
theorem ndB_shape {x:Nd} (h:ndB x=true) (hk:x.Kind≠3):x.Inv<x.Gr/\shapeB x.Sh.xs (x.Gr-x.Inv)=true:=by
 simp only [ndB,Bool.and_eq_true,kindNdB] at h
 have h2:=h.2
 split at h2
 ·simp only [Bool.and_eq_true,decide_eq_true_eq] at h2
  exact ⟨h2.1.1.1,h2.1.1.2⟩
 ·cases h2
theorem shapeB_bd {xs:List Kn} {d:Int} (h:shapeB xs d=true) (x:Int):tabB xs=true/\0<=tabV xs x/\tabV xs x<=(lastK xs).Y/\(lastK xs).Y<=1125899906842624:=by
 simp only [shapeB,Bool.and_eq_true,decide_eq_true_eq] at h
 obtain ⟨⟨⟨ht,h0⟩,_⟩,hl⟩:=h
 have hn:=tabB_len ht
 obtain ⟨b1,b2⟩:=tabV_bd ht x
 have e0:(xs[0]'om).Y=0:=by
  have:=h0.2
  rwa [List.getD_eq_getElem?_getD,List.getElem?_eq_getElem (show 0<xs.length by omega)] at this
 rw [lastK_eq hn.1] at hl ⊢
 exact ⟨ht,by omega,b2,hl⟩
def levV (x:Nd) (v:Int):Int:=if x.Kind=3 then x.Inv else x.Inv+mostV x.Sh.xs v
theorem shapeB_ends {xs:List Kn} {d:Int} (h:shapeB xs d=true):∃ hl:0<xs.length,(xs[0]'hl).X=0/\(xs[0]'hl).Y=0/\(xs[xs.length-1]'om).X=d/\(xs[xs.length-1]'om).Y=(lastK xs).Y:=by
 simp only [shapeB,Bool.and_eq_true,decide_eq_true_eq] at h
 obtain ⟨⟨⟨ht,h0⟩,hd⟩,hl⟩:=h
 have hn:=tabB_len ht
 have hh:0<xs.length:=by omega
 rw [List.getD_eq_getElem?_getD,List.getElem?_eq_getElem hh] at h0
 rw [lastK_eq hn.1] at hd ⊢
 exact ⟨hh,h0.1,h0.2,hd,rfl⟩
theorem levV_bd {x:Nd} (h:ndB x=true) {v:Int} (hv:0<=v):x.Inv<=levV x v/\levV x v<=x.Gr:=by
 unfold levV
 by_cases hk:x.Kind=3
 ·rw [if_pos hk]
  refine ⟨Int.le_refl _,?_⟩
  simp only [ndB,Bool.and_eq_true,kindNdB] at h
  have h2:=h.2
  rw [if_neg om,if_pos hk] at h2
  simp only [Bool.and_eq_true,decide_eq_true_eq] at h2
  exact h2.1.1.1
 ·rw [if_neg hk]
  obtain ⟨hlt,hs⟩:=ndB_shape h hk
  obtain ⟨hl,e1,e2,e3,e4⟩:=shapeB_ends hs
  have:=mostV_bd (shapeB_bd hs 0).1 v om
  omega
theorem slev0_any (x:Nd) (n:Int) (w:World) (hg:gNd w x) (h:ndB x=true) (hn:volB n=true):Calls Tryz.prog 188 #[vNd x,.int .i64 n] w fun e w'=>e=.returned (.tuple #[.int .i64 (levV x n),.int .i64 0])/\Below w.heap.size w w':=by
 have hb0:=alloc_below w (.cells (eNd x).toArray 48)
 by_cases hk:x.Kind=3
 ·have HV:Hid (levV x n=x.Inv):=by show _=_;simp [levV,hk]
  rw [HV.out]
  have u:(x.Kind==3)=true:=beqT hk
  clear hg h hn
  obtain ⟨nm,kd,ax,ay,iv,gr,sh,pr,rs⟩:=x
  simp only at hk
  subst hk
  go_enter Tryz.func188,Tryz.ntmps188
  go_wp2_with fail
  go_ret2
  exact ⟨rfl,hb0⟩
 ·have HV:Hid (levV x n=x.Inv+mostV x.Sh.xs n):=by show _=_;simp [levV,hk]
  have u:(x.Kind==3)=false:=beqF hk
  obtain ⟨hlt,hs⟩:=ndB_shape h hk
  have hb:=ndB_lv h
  simp only [volB,btwB,Bool.and_eq_true,decide_eq_true_eq] at hn
  have hlb:=levV_bd h hn.1
  rw [HV.out] at hlb ⊢
  obtain ⟨hl,e1,e2,e3,e4⟩:=shapeB_ends hs
  have x1:IntKind.i64.wrap (x.Inv+mostV x.Sh.xs n)=x.Inv+mostV x.Sh.xs n:=IntWalk.i64_in _ om
  have hf:=most_any x.Sh.xs n (vSl x.Sh) _ ((rdNd.mono hg hb0).sh.isL) (shapeB_bd hs 0).1 om
  have hbx:=NdBx.new w x 48
  clear hg h hn hlt hs hb hk hlb e1 e2 e3 e4
  obtain ⟨nm,kd,ax,ay,iv,gr,⟨ca,cc,cxs⟩,pr,rs⟩:=x
  simp only at hf x1 ⊢
  generalize mostV cxs n=R at *
  go_enter Tryz.func188,Tryz.ntmps188
  go_wp2_with fail
  refine Calls.go hb0 hf ?_
  rintro e w1 rfl hb1' hb1
  have c4:=(hbx.mono hb1').c4
  simp only at c4
  clear hb1' hbx
  go_wp2_with fail
  go_ret2
  exact ⟨rfl,hb1⟩
theorem entLevs1:∀ args w,(callFunc 187 args).run Tryz.prog w=.ok (.enter 187 args) w:=by
 intro args w
 simp [go_sem]
theorem entLev0:∀ args w,(callFunc 188 args).run Tryz.prog w=.ok (.enter 188 args) w:=by
 intro args w
 simp [go_sem]
theorem slevs1_any (x:Nd) (n:Int) (w:World):Calls Tryz.prog 187 #[vNd x,.int .i64 n] w fun e w'=>e=.returned (.bool (volB n))/\Below w.heap.size w w':=by
 have hw:=fun W=>sholds_any n W
 have hb0:=alloc_below w (.cells (eNd x).toArray 48)
 generalize volB n=b at *
 obtain ⟨nm,kd,ax,ay,iv,gr,sh,pr,rs⟩:=x
 go_enter Tryz.func187,Tryz.ntmps187
 go_wp2_with fail
 refine (hw _).mono ?_
 rintro _ _ ⟨rfl,rfl⟩
 go_wp2_with fail
 go_ret
 exact ⟨rfl,hb0⟩
theorem fLev1 (w:World):NdFun 187 w (fun _ v=>.bool (volB v)) (fun x _=>ndB x=true):=
 ⟨entLevs1,fun W _ x v _ _=>slevs1_any x v W⟩
theorem fLev0 (w:World):NdFun 188 w (fun x v=>.tuple #[.int .i64 (levV x v),.int .i64 0]) (fun x v=>ndB x=true/\volB v=true):=
 ⟨entLev0,fun W _ x v hg h=>slev0_any x v W hg h.1 h.2⟩
def levsM (n:Net) (l:List Int):List Int×Int:=eachM (fun _ v=>volB v) levV n l
theorem slevs_any (n:Net) (l:Sl Int) (w:World) (hg:gNet w n) (hl:gInts w l):Calls Tryz.prog 124 #[vNet n,vSl l] w fun e w'=>
  (∃ v,e=.returned (.tuple #[v,.int .i64 (levsM n l.xs).2])/\Own w.heap.size 3 eInt 1 w' v (levsM n l.xs).1)/\Below w.heap.size w w':=by
 have hb0:=alloc_below w (.cells (eNet n).toArray 25)
 have he:=each_any 187 188 n l _ _ _ (rdNet.mono hg hb0) (rdInts.mono hl hb0) (fLev1 _) (fLev0 _)
 obtain ⟨⟨R,E⟩,hR⟩:∃ r,levsM n l.xs=r:=⟨_,rfl⟩
 rw [show eachM (fun _ v=>volB v) levV n l.xs=(R,E) from hR] at he
 rw [hR]
 clear hR hg hl
 obtain ⟨⟨na,nc,nxs⟩,⟨la,lc,lxs⟩⟩:=n
 obtain ⟨va,vc,vs⟩:=l
 simp only [vNet,vSl] at he ⊢
 go_enter Tryz.func124,Tryz.ntmps124
 go_wp2_with fail
 refine Calls.go hb0 he ?_
 rintro e w1 ⟨v,rfl,hv⟩ _ hb1
 go_wp2_with fail
 go_ret2
 exact ⟨⟨_,rfl,hv.base (by simp)⟩,hb1⟩
end Go.Proofs.YtoiakijmbghhlaaGreat
