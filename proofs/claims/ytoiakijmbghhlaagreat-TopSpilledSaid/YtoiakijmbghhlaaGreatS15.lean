/- Links that are right, the program's side: plain and sameLink. Conditions: the link reads as data. | plain. Conditions: none. | sameLink at links that share name -/
import Derived.Deep.RegionHeld3
import Derived.Deep.RegionLaw
import Derived.Test.YtoiakijmbghhlaaGreatS04
import Derived.Test.YtoiakijmbghhlaaGreatS00
set_option linter.unusedVariables false
set_option linter.unusedSimpArgs false
set_option maxRecDepth 100000
set_option maxHeartbeats 32000000
namespace Go.Proofs.YtoiakijmbghhlaaGreat
open Go.RowKit
theorem neqKn (a b:Kn) (w:World):(binOp .neq 100 (vKn a) (vKn b)).run Tryz.prog w=.ok (.bool (!decide (a=b))) w:=by
 obtain ⟨a1,a2⟩:=a
 obtain ⟨b1,b2⟩:=b
 simp [go_sem]
 by_cases h1:a1=b1 <;> by_cases h2:a2=b2 <;> simp [h1,h2]
theorem eqKns (xs ys:List Kn) (v v2:Value) (w:World) (hv:IsKns w v xs) (hv2:IsKns w v2 ys) :
  Calls Tryz.prog 240 #[v,v2] w fun e w'=>e=.returned (.bool (decide (xs=ys)))/\Below w.heap.size w w':=by
 obtain ⟨a,cap,rfl,hcap,hbig,hs⟩:=hv
 obtain ⟨a2,cap2,rfl,hcap2,hbig2,hs2⟩:=hv2
 by_cases hl:xs.length=ys.length
 ·rw [<-eqGo_iff xs ys hl]
  have Hl:Hid (xs.length=ys.length):=hl
  rw [<-hl]
  clear hl
  have hneq:=neqKn
  go_enter Tryz.func240,Tryz.ntmps240
  go_wp2_with fail
  go_loopw [13] (fun s6 wr=>∃ k:Nat,k<=xs.length/\s6=.int .i64 k/\Below w.heap.size w wr/\Hid (eqGo xs ys=eqGo (xs.drop k) (ys.drop k))) (fun i _=>xs.length-(intOf i).toNat)
  case atStart=>exact ⟨0,Nat.zero_le _,rfl,qr,rfl⟩
  case round=>
   obtain ⟨k,hk,rfl,hb,hm⟩:=hrel
   by_cases hlt:k<xs.length
   ·have hlt2:k<ys.length:=by have:=Hl.out;omega
    obtain ⟨b,off,rfl,c1,c2⟩:=(hs.mono hb).kn k hlt
    obtain ⟨b',off',rfl,d1,d2⟩:=(hs2.mono hb).kn k hlt2
    have hstep:Hid (eqGo (xs.drop k) (ys.drop k)=(decide (xs[k]=ys[k])&&eqGo (xs.drop (k+1)) (ys.drop (k+1)))):=by
     rw [List.drop_eq_getElem_cons hlt,List.drop_eq_getElem_cons hlt2];rfl
    clear hs hs2
    generalize xs[k]=x at *
    generalize ys[k]=y at *
    have i1:(0:Int)<=k:=by omega
    have i2:(k:Int)<xs.length:=by omega
    by_cases hxy:x=y
    ·subst hxy
     go_wp2_with fail
     go_quiet (fail)
     go_wp2_with fail
     go_roundw
     case rel=>exact ⟨k+1,by omega,by go_num,bl,hm.out.trans (hstep.out.trans (by simp))⟩
     case measure=>simp [intOf];omega
    ·go_wp2_with fail
     go_quiet (fail)
     go_wp2_with fail
     go_ret
     exact ⟨ret_bool (hm.out.trans (hstep.out.trans (by simp [hxy]))).symm,bl⟩
   ·go_wp2_with fail
    go_ret
    refine ⟨ret_bool ?_,hb⟩
    rw [hm.out,List.drop_eq_nil_of_le om];rfl
 ·have hd:decide (xs=ys)=false:=by
   simp;intro h;exact hl (by rw [h])
  rw [hd]
  have q:((xs.length:Int) != (ys.length:Int))=true:=by simp;omega
  have q2:(xs.length != ys.length)=true:=by simpa using hl
  clear hd
  go_enter Tryz.func240,Tryz.ntmps240
  go_wp2_with fail
  go_ret
  exact ⟨rfl,qr⟩
def plainL (l:Lk):Lk:=
 if l.Kind=1 then ⟨l.Name,l.From,l.To,l.Kind,l.Len,l.Up,l.Down,l.Sec,0,0,⟨none,0,[]⟩⟩
 else if l.Kind=2 then ⟨l.Name,l.From,l.To,l.Kind,0,l.Up,0,⟨#[]⟩,l.Wi,0,⟨none,0,[]⟩⟩
 else if l.Kind=3 then ⟨l.Name,l.From,l.To,l.Kind,0,l.Up,0,⟨#[]⟩,l.Wi,l.He,⟨none,0,[]⟩⟩
 else if l.Kind=4 then ⟨l.Name,l.From,l.To,l.Kind,0,l.Up,l.Down,⟨#[]⟩,0,0,l.Cu⟩
 else ⟨l.Name,l.From,l.To,l.Kind,0,l.Up,0,⟨#[]⟩,0,0,⟨none,0,[]⟩⟩
theorem plain_any (l:Lk) (w:World):Calls Tryz.prog 196 #[vLk l] w fun e w'=>e=.returned (vLk (plainL l))/\Below w.heap.size w w':=by
 obtain ⟨nm,fr,tt,kd,ln,up,dn,sc,wi,he,⟨ca,cc,cx⟩⟩:=l
 simp only [vLk]
 by_cases k1:kd=1
 ·subst k1
  go_enter Tryz.func196,Tryz.ntmps196
  go_wp2_with fail
  go_region
  go_wp2_with fail
  refine bodyPost_ret (v:=vLk (plainL ⟨nm,fr,tt,1,ln,up,dn,sc,wi,he,⟨ca,cc,cx⟩⟩)) (by simp (maxDischargeDepth:=9) [results,Tryz.results196,go_sem,plainL]) rfl ⟨rfl,bl⟩
 by_cases k2:kd=2
 ·subst k2
  clear k1
  go_enter Tryz.func196,Tryz.ntmps196
  go_wp2_with fail
  refine bodyPost_ret (v:=vLk (plainL ⟨nm,fr,tt,2,ln,up,dn,sc,wi,he,⟨ca,cc,cx⟩⟩)) (by simp (maxDischargeDepth:=9) [results,Tryz.results196,go_sem,plainL]) rfl ⟨rfl,bl⟩
 by_cases k3:kd=3
 ·subst k3
  clear k1 k2
  go_enter Tryz.func196,Tryz.ntmps196
  go_wp2_with fail
  go_region
  go_wp2_with fail
  refine bodyPost_ret (v:=vLk (plainL ⟨nm,fr,tt,3,ln,up,dn,sc,wi,he,⟨ca,cc,cx⟩⟩)) (by simp (maxDischargeDepth:=9) [results,Tryz.results196,go_sem,plainL]) rfl ⟨rfl,bl⟩
 by_cases k4:kd=4
 ·subst k4
  clear k1 k2 k3
  go_enter Tryz.func196,Tryz.ntmps196
  go_wp2_with fail
  go_region
  go_wp2_with fail
  refine bodyPost_ret (v:=vLk (plainL ⟨nm,fr,tt,4,ln,up,dn,sc,wi,he,⟨ca,cc,cx⟩⟩)) (by simp (maxDischargeDepth:=9) [results,Tryz.results196,go_sem,plainL]) rfl ⟨rfl,bl⟩
 have n1:=beqF k1
 have n2:=beqF k2
 have n3:=beqF k3
 have n4:=beqF k4
 have HK:Hid (plainL ⟨nm,fr,tt,kd,ln,up,dn,sc,wi,he,⟨ca,cc,cx⟩⟩=⟨nm,fr,tt,kd,0,up,0,⟨#[]⟩,0,0,⟨none,0,[]⟩⟩):=by show _=_;simp [plainL,k1,k2,k3,k4]
 rw [HK.out]
 clear k1 k2 k3 k4
 go_enter Tryz.func196,Tryz.ntmps196
 go_wp2_with fail
 refine bodyPost_ret (v:=vLk ⟨nm,fr,tt,kd,0,up,0,⟨#[]⟩,0,0,⟨none,0,[]⟩⟩) (by simp (maxDischargeDepth:=9) [results,Tryz.results196,go_sem]) rfl ⟨rfl,bl⟩
def sameB (a b:Lk):Bool:=decide (a.Len=b.Len)&&decide (a.Down=b.Down)&&strB a.Sec b.Sec&&decide (a.Wi=b.Wi)&&decide (a.He=b.He)&&decide (a.Cu.xs=b.Cu.xs)
theorem sameLink_any (nm fr tt:ByteArray) (kd ln ln' up dn dn':Int) (sc sc':ByteArray) (wi wi' he he':Int) (cu cu':Sl Kn) (w:World) (h1:IsKns w (vSl cu) cu.xs) (h2:IsKns w (vSl cu') cu'.xs) :
  Calls Tryz.prog 195 #[vLk ⟨nm,fr,tt,kd,ln,up,dn,sc,wi,he,cu⟩,vLk ⟨nm,fr,tt,kd,ln',up,dn',sc',wi',he',cu'⟩] w
   fun e w'=>e=.returned (.bool (sameB ⟨nm,fr,tt,kd,ln,up,dn,sc,wi,he,cu⟩ ⟨nm,fr,tt,kd,ln',up,dn',sc',wi',he',cu'⟩))/\Below w.heap.size w w':=by
 have HS:Hid (sameB ⟨nm,fr,tt,kd,ln,up,dn,sc,wi,he,cu⟩ ⟨nm,fr,tt,kd,ln',up,dn',sc',wi',he',cu'⟩=(decide (ln=ln')&&decide (dn=dn')&&strB sc sc'&&decide (wi=wi')&&decide (he=he')&&decide (cu.xs=cu'.xs))):=rfl
 generalize sameB ⟨nm,fr,tt,kd,ln,up,dn,sc,wi,he,cu⟩ ⟨nm,fr,tt,kd,ln',up,dn',sc',wi',he',cu'⟩=res at *
 obtain ⟨ca,cc,cx⟩:=cu
 obtain ⟨da,dc,dx⟩:=cu'
 simp only [vLk,vSl] at *
 by_cases q1:ln=ln'
 rotate_left
 ·have r1:=beqF q1
  have HK:Hid (res=false):=by show _=_;rw [HS.out];simp [q1]
  clear q1
  go_enter Tryz.func195,Tryz.ntmps195
  go_wp2_with fail
  go_ret
  exact ⟨ret_bool HK.out.symm,bl⟩
 subst q1
 by_cases q2:dn=dn'
 rotate_left
 ·have r1:=beqF q2
  have HK:Hid (res=false):=by show _=_;rw [HS.out];simp [q2]
  clear q2
  go_enter Tryz.func195,Tryz.ntmps195
  go_wp2_with fail
  go_ret
  exact ⟨ret_bool HK.out.symm,bl⟩
 subst q2
 cases q3:strB sc sc'
 ·have r1:(sc.toList==sc'.toList)=false:=q3
  have HK:Hid (res=false):=by show _=_;rw [HS.out];simp [q3]
  clear q3
  go_enter Tryz.func195,Tryz.ntmps195
  go_wp2_with fail
  go_ret
  exact ⟨ret_bool HK.out.symm,bl⟩
 have r3:(sc.toList==sc'.toList)=true:=q3
 by_cases q4:wi=wi'
 rotate_left
 ·have r1:=beqF q4
  have HK:Hid (res=false):=by show _=_;rw [HS.out];simp [q4]
  clear q4 q3
  go_enter Tryz.func195,Tryz.ntmps195
  go_wp2_with fail
  go_ret
  exact ⟨ret_bool HK.out.symm,bl⟩
 subst q4
 by_cases q5:he=he'
 rotate_left
 ·have r1:=beqF q5
  have HK:Hid (res=false):=by show _=_;rw [HS.out];simp [q5]
  clear q5 q3
  go_enter Tryz.func195,Tryz.ntmps195
  go_wp2_with fail
  go_ret
  exact ⟨ret_bool HK.out.symm,bl⟩
 subst q5
 have HK:Hid (res=decide (cx=dx)):=by show _=_;rw [HS.out];simp [q3]
 clear q3 HS
 go_enter Tryz.func195,Tryz.ntmps195
 go_wp2_with fail
 refine Calls.to (eqKns cx dx _ _ _ (h1.mono (bl)) (h2.mono (bl))) ?_
 rintro e w1 rfl hb1
 have hbb:Below w.heap.size w w1:=((qr.alloc (Nat.le_refl _) _).alloc (by first|(simp;done)|(simp;omega)) _).trans (hb1.mono (by first|(simp;done)|(simp;omega)))
 clear hb1
 go_wp2_with fail
 go_ret
 exact ⟨ret_bool HK.out.symm,hbb⟩
theorem ent199:∀ args w,(callFunc 199 args).run Tryz.prog w=.ok (.enter 199 args) w:=by
 intro args w
 simp [go_sem]
def kOut (k:Kn):Bool:=!(btwB k.X 0 4194304) || !(btwB k.Y 0 1099511627776)
theorem rlink1_any (k:Kn) (w:World):Calls Tryz.prog 199 #[vKn k] w fun e w'=>e=.returned (.bool (kOut k))/\Below w.heap.size w w':=by
 have HK:Hid (kOut k=(!(btwB k.X 0 4194304) || !(btwB k.Y 0 1099511627776))):=rfl
 cases h1:btwB k.X 0 4194304 <;> cases h2:btwB k.Y 0 1099511627776
 all_goals
  have HK2:=qh (HK.out.trans (by rw [h1,h2]))
  go_enter Tryz.func199,Tryz.ntmps199
  go_wp2_with (go_at_call 191;refine (between_any _ _ _ _).mono ?_;rintro e w' ⟨rfl,rfl⟩)
  go_ret
  exact ⟨ret_bool HK2.out.symm,bl⟩
theorem curveB_any (xs:List Kn):curveB xs=(tabB xs && !(xs.any kOut)):=by
 simp only [curveB]
 congr 1
 rw [List.all_eq_not_any_not]
 congr 1
 congr 1
 funext k
 simp [kOut,btwB]
theorem isName_lit (s:ByteArray) (hs:s.size<=maxLen) (b:Bool) (h:nameB s=b) (W:World):Calls Tryz.prog 183 #[.string s] W fun e w'=>e=.returned (.bool b)/\w'=W:=by
 rw [<-h];exact isName_any s W hs
theorem level_lit (n:Int) (b:Bool) (h:lvlB n=b) (W:World) (v:Value) (hv:IsInts W v [n]):Calls Tryz.prog 192 #[v] W fun e w'=>e=.returned (.bool b)/\Below W.heap.size W w':=by
 have:=level_any [n] v W hv
 simp only [List.all_cons,List.all_nil,Bool.and_true,h] at this
 exact this
theorem box_lt {w w':World} {b off:Nat} {v:Value} (h:w.cell? ⟨b,off,none⟩=some v) (hb:Below w.heap.size w w'):w'.cell? ⟨b,off,none⟩=some v:=by
 rw [hb.cell (World.block_lt_of_cell? _ _ h)];exact h
theorem ints1 (W:World) (n:Int) (T:TypeId):IsInts (W.alloc (.cells #[.int .i64 n] T)) (.slice (some ⟨W.heap.size,0,none⟩) 1 1) [n]:=lit_ints W _ rfl T [n] 1 rfl om _ rfl
theorem intsD (W:World) (n:Int) (T:TypeId) (B:Nat) (hB:W.heap.size=B):IsInts ((W.alloc (.cells #[.int .i64 n] T)).drew) (.slice (some ⟨B,0,none⟩) 1 1) [n]:=
 (lit_ints W B hB T [n] 1 rfl om _ rfl).mono (qr.drew)
theorem plain_lit {l p:Lk} (hp:plainL l=p) (W:World):Calls Tryz.prog 196 #[vLk l] W fun e w'=>e=.returned (vLk p)/\Below W.heap.size W w':=by
 rw [<-hp];exact plain_any l W
theorem same_lit {nm fr tt:ByteArray} {kd ln ln' up dn dn':Int} {sc sc':ByteArray} {wi wi' he he':Int} {cu cu':Sl Kn} {b:Bool} (h:sameB ⟨nm,fr,tt,kd,ln,up,dn,sc,wi,he,cu⟩ ⟨nm,fr,tt,kd,ln',up,dn',sc',wi',he',cu'⟩=b) (w:World) (h1:IsKns w (vSl cu) cu.xs) (h2:IsKns w (vSl cu') cu'.xs) :
  Calls Tryz.prog 195 #[vLk ⟨nm,fr,tt,kd,ln,up,dn,sc,wi,he,cu⟩,vLk ⟨nm,fr,tt,kd,ln',up,dn',sc',wi',he',cu'⟩] w fun e w'=>e=.returned (.bool b)/\Below w.heap.size w w':=by
 rw [<-h];exact sameLink_any nm fr tt kd ln ln' up dn dn' sc sc' wi wi' he he' cu cu' w h1 h2
theorem plainL_form (l:Lk):∃ (ln dn:Int) (sc:ByteArray) (wi he:Int) (cu:Sl Kn),plainL l=⟨l.Name,l.From,l.To,l.Kind,ln,l.Up,dn,sc,wi,he,cu⟩/\(cu=⟨none,0,[]⟩\/cu=l.Cu):=by
 unfold plainL
 split
 ·exact ⟨_,_,_,_,_,_,rfl,.inl rfl⟩
 split
 ·exact ⟨_,_,_,_,_,_,rfl,.inl rfl⟩
 split
 ·exact ⟨_,_,_,_,_,_,rfl,.inl rfl⟩
 split
 ·exact ⟨_,_,_,_,_,_,rfl,.inr rfl⟩
 ·exact ⟨_,_,_,_,_,_,rfl,.inl rfl⟩
theorem rightLink_bad1 (nm fr tt:ByteArray) (kd ln up dn:Int) (sc:ByteArray) (wi he:Int) (ca:Option Addr) (cc:Nat) (cx:List Kn) (w:World) (hn:nm.size<=maxLen) (hf:fr.size<=maxLen) (ht:tt.size<=maxLen) (h1:nameB nm=false) :
  Calls Tryz.prog 128 #[vLk ⟨nm,fr,tt,kd,ln,up,dn,sc,wi,he,⟨ca,cc,cx⟩⟩] w fun e w'=>e=.returned (.bool false)/\Below w.heap.size w w':=by
 simp only [vLk,vSl]
 go_enter Tryz.func128,Tryz.ntmps128
 go_wp2_with fail
 refine wp_region_more_lit (by kernel_rfl) (by kernel_rfl) ?_
 repeat (go_big_quiet_step (((go_at_call 183;exact Calls.more_same (isName_lit _ (by first|exact hn|exact hf|exact ht) _ (by assumption) _)))))
 refine wpQuiet_nil ?_
 intro _ hwq
 obtain ⟨xq,hwq⟩:=hwq
 subst hwq
 go_wp2_with fail
 go_ret
 exact ⟨rfl,Below.more (qr.alloc (Nat.le_refl _) _) (by simp) _⟩
theorem rightLink_bad2 (nm fr tt:ByteArray) (kd ln up dn:Int) (sc:ByteArray) (wi he:Int) (ca:Option Addr) (cc:Nat) (cx:List Kn) (w:World) (hn:nm.size<=maxLen) (hf:fr.size<=maxLen) (ht:tt.size<=maxLen) (h1:nameB nm=true) (h2:nameB fr=false) :
  Calls Tryz.prog 128 #[vLk ⟨nm,fr,tt,kd,ln,up,dn,sc,wi,he,⟨ca,cc,cx⟩⟩] w fun e w'=>e=.returned (.bool false)/\Below w.heap.size w w':=by
 simp only [vLk,vSl]
 go_enter Tryz.func128,Tryz.ntmps128
 go_wp2_with fail
 refine wp_region_more_lit (by kernel_rfl) (by kernel_rfl) ?_
 repeat (go_big_quiet_step (((go_at_call 183;exact Calls.more_same (isName_lit _ (by first|exact hn|exact hf|exact ht) _ (by assumption) _)))))
 refine wpQuiet_nil ?_
 intro _ hwq
 obtain ⟨xq,hwq⟩:=hwq
 subst hwq
 go_wp2_with fail
 go_ret
 exact ⟨rfl,Below.more (qr.alloc (Nat.le_refl _) _) (by simp) _⟩
theorem rightLink_bad3 (nm fr tt:ByteArray) (kd ln up dn:Int) (sc:ByteArray) (wi he:Int) (ca:Option Addr) (cc:Nat) (cx:List Kn) (w:World) (hn:nm.size<=maxLen) (hf:fr.size<=maxLen) (ht:tt.size<=maxLen) (h1:nameB nm=true) (h2:nameB fr=true) (h3:nameB tt=false) :
  Calls Tryz.prog 128 #[vLk ⟨nm,fr,tt,kd,ln,up,dn,sc,wi,he,⟨ca,cc,cx⟩⟩] w fun e w'=>e=.returned (.bool false)/\Below w.heap.size w w':=by
 simp only [vLk,vSl]
 go_enter Tryz.func128,Tryz.ntmps128
 go_wp2_with fail
 refine wp_region_more_lit (by kernel_rfl) (by kernel_rfl) ?_
 repeat (go_big_quiet_step (((go_at_call 183;exact Calls.more_same (isName_lit _ (by first|exact hn|exact hf|exact ht) _ (by assumption) _)))))
 refine wpQuiet_nil ?_
 intro _ hwq
 obtain ⟨xq,hwq⟩:=hwq
 subst hwq
 go_wp2_with fail
 go_ret
 exact ⟨rfl,Below.more (qr.alloc (Nat.le_refl _) _) (by simp) _⟩
theorem rightLink_bad4 (nm fr tt:ByteArray) (kd ln up dn:Int) (sc:ByteArray) (wi he:Int) (ca:Option Addr) (cc:Nat) (cx:List Kn) (w:World) (hn:nm.size<=maxLen) (hf:fr.size<=maxLen) (ht:tt.size<=maxLen) (h1:nameB nm=true) (h2:nameB fr=true) (h3:nameB tt=true) (h4:(fr.toList==tt.toList)=true) :
  Calls Tryz.prog 128 #[vLk ⟨nm,fr,tt,kd,ln,up,dn,sc,wi,he,⟨ca,cc,cx⟩⟩] w fun e w'=>e=.returned (.bool false)/\Below w.heap.size w w':=by
 simp only [vLk,vSl]
 go_enter Tryz.func128,Tryz.ntmps128
 go_wp2_with fail
 refine wp_region_more_lit (by kernel_rfl) (by kernel_rfl) ?_
 repeat (go_big_quiet_step (((go_at_call 183;exact Calls.more_same (isName_lit _ (by first|exact hn|exact hf|exact ht) _ (by assumption) _)))))
 refine wpQuiet_nil ?_
 intro _ hwq
 obtain ⟨xq,hwq⟩:=hwq
 subst hwq
 go_wp2_with fail
 go_ret
 exact ⟨rfl,Below.more (qr.alloc (Nat.le_refl _) _) (by simp) _⟩
theorem rightLink_bad5 (nm fr tt:ByteArray) (kd ln up dn:Int) (sc:ByteArray) (wi he:Int) (ca:Option Addr) (cc:Nat) (cx:List Kn) (w:World) (hn:nm.size<=maxLen) (hf:fr.size<=maxLen) (ht:tt.size<=maxLen) (h1:nameB nm=true) (h2:nameB fr=true) (h3:nameB tt=true) (h4:(fr.toList==tt.toList)=false) (h5:lvlB up=false) :
  Calls Tryz.prog 128 #[vLk ⟨nm,fr,tt,kd,ln,up,dn,sc,wi,he,⟨ca,cc,cx⟩⟩] w fun e w'=>e=.returned (.bool false)/\Below w.heap.size w w':=by
 simp only [vLk,vSl]
 go_enter Tryz.func128,Tryz.ntmps128
 go_wp2_with fail
 first|(go_region_law (first|(go_simp;go_at_call 183;refine (isName_lit _ (by first|exact hn|exact hf|exact ht) _ (by assumption) _).mono ?_;rintro e w' ⟨rfl,rfl⟩)|(go_simp;go_at_call 192;refine (level_lit up _ h5 _ _ (by first|exact intsD _ _ _ _ (by simp)|exact lit_ints _ _ (by simp) _ _ _ rfl om _ rfl)).mono ?_;rintro e w1 ⟨rfl,hb1⟩)))|fail "law"
 all_goals
  have hbb:Below w.heap.size w w1:=by first|exact ((qr.alloc (Nat.le_refl _) _).alloc (by simp) _).drew.trans (hb1.mono (by simp;omega))|exact (((qr.alloc (Nat.le_refl _) _).drew).alloc (by simp) _).trans (hb1.mono (by simp;omega))
  clear hb1
  go_wp2_with fail
  go_ret
  exact ⟨rfl,hbb⟩
theorem strB_self (s:ByteArray):strB s s=true:=by simp [strB]
theorem strB_nil (s:ByteArray):strB s ⟨#[]⟩=emptyB s:=by
 have:(⟨#[]⟩:ByteArray).toList = []:=toList_nil rfl
 simp [strB,emptyB,this]
section
variable (nm fr tt : ByteArray) (ln up dn : Int) (sc : ByteArray) (wi he : Int) (ca : Option Addr) (cc : Nat) (cx : List Kn)
theorem kindP_1 (h:sameB ⟨nm,fr,tt,1,ln,up,dn,sc,wi,he,⟨ca,cc,cx⟩⟩ (plainL ⟨nm,fr,tt,1,ln,up,dn,sc,wi,he,⟨ca,cc,cx⟩⟩)=true):kindLkB ⟨nm,fr,tt,1,ln,up,dn,sc,wi,he,⟨ca,cc,cx⟩⟩=(btwB ln 1 16777216&&lvlB dn&&nameB sc):=by
 simp [sameB,plainL,strB_self] at h
 simp [kindLkB,btwB,h]
theorem kindP_2 (h:sameB ⟨nm,fr,tt,2,ln,up,dn,sc,wi,he,⟨ca,cc,cx⟩⟩ (plainL ⟨nm,fr,tt,2,ln,up,dn,sc,wi,he,⟨ca,cc,cx⟩⟩)=true):kindLkB ⟨nm,fr,tt,2,ln,up,dn,sc,wi,he,⟨ca,cc,cx⟩⟩=btwB wi 1 1048576:=by
 simp [sameB,plainL,strB_nil] at h
 simp [kindLkB,btwB,h]
theorem kindP_3 (h:sameB ⟨nm,fr,tt,3,ln,up,dn,sc,wi,he,⟨ca,cc,cx⟩⟩ (plainL ⟨nm,fr,tt,3,ln,up,dn,sc,wi,he,⟨ca,cc,cx⟩⟩)=true):kindLkB ⟨nm,fr,tt,3,ln,up,dn,sc,wi,he,⟨ca,cc,cx⟩⟩=(btwB wi 1 32768&&btwB he 1 32768):=by
 simp [sameB,plainL,strB_nil] at h
 simp [kindLkB,btwB,h]
theorem kindP_4 (h:sameB ⟨nm,fr,tt,4,ln,up,dn,sc,wi,he,⟨ca,cc,cx⟩⟩ (plainL ⟨nm,fr,tt,4,ln,up,dn,sc,wi,he,⟨ca,cc,cx⟩⟩)=true):kindLkB ⟨nm,fr,tt,4,ln,up,dn,sc,wi,he,⟨ca,cc,cx⟩⟩=(lvlB dn&&decide (dn<up)&&tabB cx && !(cx.any kOut)):=by
 simp [sameB,plainL,strB_nil] at h
 simp [kindLkB,h,curveB_any,Bool.and_assoc]
end
theorem kind_same {l:Lk} (h:sameB l (plainL l)=false):kindLkB l=false:=by
 cases hk:kindLkB l with
 | false=>rfl
 | true=>
  exfalso
  obtain ⟨nm,fr,tt,kd,ln,up,dn,sc,wi,he,⟨ca,cc,cx⟩⟩:=l
  unfold kindLkB at hk
  simp only at hk
  by_cases k1:kd=1
  ·subst k1;simp [sameB,plainL,strB_self,strB_nil] at h hk;simp_all
  by_cases k2:kd=2
  ·subst k2;simp [sameB,plainL,strB_self,strB_nil] at h hk;simp_all
  by_cases k3:kd=3
  ·subst k3;simp [sameB,plainL,strB_self,strB_nil] at h hk;simp_all
  by_cases k4:kd=4
  ·subst k4;simp [sameB,plainL,strB_self,strB_nil] at h hk;simp_all
  simp [k1,k2,k3,k4] at hk
theorem rightLink_same (nm fr tt:ByteArray) (kd ln up dn:Int) (sc:ByteArray) (wi he:Int) (ca:Option Addr) (cc:Nat) (cx:List Kn) (w:World) (hn:nm.size<=maxLen) (hf:fr.size<=maxLen) (ht:tt.size<=maxLen) (h1:nameB nm=true) (h2:nameB fr=true) (h3:nameB tt=true) (h4:(fr.toList==tt.toList)=false) (h5:lvlB up=true) (hs:sc.size<=maxLen) (hcu:IsKns w (.slice ca cx.length cc) cx) (ln' dn':Int) (sc':ByteArray) (wi' he':Int) (cu':Sl Kn) (hp:plainL ⟨nm,fr,tt,kd,ln,up,dn,sc,wi,he,⟨ca,cc,cx⟩⟩=⟨nm,fr,tt,kd,ln',up,dn',sc',wi',he',cu'⟩) (hcu':∀ W,Below w.heap.size w W->IsKns W (vSl cu') cu'.xs) (hS:sameB ⟨nm,fr,tt,kd,ln,up,dn,sc,wi,he,⟨ca,cc,cx⟩⟩ ⟨nm,fr,tt,kd,ln',up,dn',sc',wi',he',cu'⟩=false) :
  Calls Tryz.prog 128 #[vLk ⟨nm,fr,tt,kd,ln,up,dn,sc,wi,he,⟨ca,cc,cx⟩⟩] w fun e w'=>e=.returned (.bool false)/\Below w.heap.size w w':=by
 simp only [vLk,vSl]
 go_enter Tryz.func128,Tryz.ntmps128
 go_wp2_with fail
 first|(go_region_held3 (fun w'=>Below w.heap.size w w'/\w'.cell? ⟨w.heap.size,0,none⟩=some (.string nm)/\w'.cell? ⟨w.heap.size,1,none⟩=some (.string fr)/\w'.cell? ⟨w.heap.size,2,none⟩=some (.string tt)/\w'.cell? ⟨w.heap.size,3,none⟩=some (.int .i64 kd)/\w'.cell? ⟨w.heap.size,4,none⟩=some (.int .i64 ln)/\w'.cell? ⟨w.heap.size,5,none⟩=some (.int .i64 up)/\w'.cell? ⟨w.heap.size,6,none⟩=some (.int .i64 dn)/\w'.cell? ⟨w.heap.size,7,none⟩=some (.string sc)/\w'.cell? ⟨w.heap.size,8,none⟩=some (.int .i64 wi)/\w'.cell? ⟨w.heap.size,9,none⟩=some (.int .i64 he)/\w'.cell? ⟨w.heap.size,10,none⟩=some (.slice ca cx.length cc)) (first|((try go_split_ands);(refine ⟨?_,?_,?_,?_,?_,?_,?_,?_,?_,?_,?_,?_⟩ <;> (first|(exact box_lt (by assumption) hb1)|(exact (qr.alloc (Nat.le_refl _) _).drew)|(exact Below.alloc (by assumption) (Below.size (by assumption)) _)|(exact Below.trans (by assumption) (hb1.mono (Below.size (by assumption))))|(simp [*,go_sem];done))))|go_keep) ((first|(go_at_call 183;refine (isName_lit _ (by first|exact hn|exact hf|exact ht) _ (by assumption) _).mono ?_;rintro e w' ⟨rfl,rfl⟩)|(go_at_call 192;refine (level_lit up _ h5 _ _ (by exact intsD _ _ _ _ (by simp))).mono ?_;rintro e w1 ⟨rfl,hb1⟩)|(go_at_call 196;refine (plain_lit hp _).mono ?_;rintro e w1 ⟨rfl,hb1⟩)|(go_at_call 195;(try dsimp only at *);(try go_split_ands);refine (same_lit hS _ (hcu.mono (by assumption)) (hcu' _ (by assumption))).mono ?_;rintro e w1 ⟨rfl,hb1⟩))))|fail "held3"
 (first|go_split_ands|(dsimp only at *;go_split_ands))
 have hbb:Below w.heap.size w w1:=by assumption
 go_wp2_with fail
 go_ret
 exact ⟨rfl,hbb⟩
theorem rightLink_good (nm fr tt:ByteArray) (kd ln up dn:Int) (sc:ByteArray) (wi he:Int) (ca:Option Addr) (cc:Nat) (cx:List Kn) (w:World) (hn:nm.size<=maxLen) (hf:fr.size<=maxLen) (ht:tt.size<=maxLen) (h1:nameB nm=true) (h2:nameB fr=true) (h3:nameB tt=true) (h4:(fr.toList==tt.toList)=false) (h5:lvlB up=true) (hs:sc.size<=maxLen) (hcu:IsKns w (.slice ca cx.length cc) cx) (ln' dn':Int) (sc':ByteArray) (wi' he':Int) (cu':Sl Kn) (hp:plainL ⟨nm,fr,tt,kd,ln,up,dn,sc,wi,he,⟨ca,cc,cx⟩⟩=⟨nm,fr,tt,kd,ln',up,dn',sc',wi',he',cu'⟩) (hcu':∀ W,Below w.heap.size w W->IsKns W (vSl cu') cu'.xs) (hS:sameB ⟨nm,fr,tt,kd,ln,up,dn,sc,wi,he,⟨ca,cc,cx⟩⟩ ⟨nm,fr,tt,kd,ln',up,dn',sc',wi',he',cu'⟩=true) :
  Calls Tryz.prog 128 #[vLk ⟨nm,fr,tt,kd,ln,up,dn,sc,wi,he,⟨ca,cc,cx⟩⟩] w fun e w'=>e=.returned (.bool (kindLkB ⟨nm,fr,tt,kd,ln,up,dn,sc,wi,he,⟨ca,cc,cx⟩⟩))/\Below w.heap.size w w':=by
 simp only [vLk,vSl]
 have HP:=qh hp
 go_enter Tryz.func128,Tryz.ntmps128
 go_wp2_with fail
 first|(go_region_held3 (fun w'=>Below w.heap.size w w'/\w'.cell? ⟨w.heap.size,0,none⟩=some (.string nm)/\w'.cell? ⟨w.heap.size,1,none⟩=some (.string fr)/\w'.cell? ⟨w.heap.size,2,none⟩=some (.string tt)/\w'.cell? ⟨w.heap.size,3,none⟩=some (.int .i64 kd)/\w'.cell? ⟨w.heap.size,4,none⟩=some (.int .i64 ln)/\w'.cell? ⟨w.heap.size,5,none⟩=some (.int .i64 up)/\w'.cell? ⟨w.heap.size,6,none⟩=some (.int .i64 dn)/\w'.cell? ⟨w.heap.size,7,none⟩=some (.string sc)/\w'.cell? ⟨w.heap.size,8,none⟩=some (.int .i64 wi)/\w'.cell? ⟨w.heap.size,9,none⟩=some (.int .i64 he)/\w'.cell? ⟨w.heap.size,10,none⟩=some (.slice ca cx.length cc)) (first|((try go_split_ands);(refine ⟨?_,?_,?_,?_,?_,?_,?_,?_,?_,?_,?_,?_⟩ <;> (first|(exact box_lt (by assumption) hb1)|(exact (qr.alloc (Nat.le_refl _) _).drew)|(exact Below.alloc (by assumption) (Below.size (by assumption)) _)|(exact Below.trans (by assumption) (hb1.mono (Below.size (by assumption))))|(simp [*,go_sem];done))))|go_keep) ((first|(go_at_call 183;refine (isName_lit _ (by first|exact hn|exact hf|exact ht) _ (by assumption) _).mono ?_;rintro e w' ⟨rfl,rfl⟩)|(go_at_call 192;refine (level_lit up _ h5 _ _ (by exact intsD _ _ _ _ (by simp))).mono ?_;rintro e w1 ⟨rfl,hb1⟩)|(go_at_call 196;refine (plain_lit hp _).mono ?_;rintro e w1 ⟨rfl,hb1⟩)|(go_at_call 195;(try dsimp only at *);(try go_split_ands);refine (same_lit hS _ (hcu.mono (by assumption)) (hcu' _ (by assumption))).mono ?_;rintro e w1 ⟨rfl,hb1⟩))))|fail "held3"
 (first|go_split_ands|(dsimp only at *;go_split_ands))
 have hbb:Below w.heap.size w w1:=by assumption
 have c3:w1.cell? ⟨w.heap.size,3,none⟩=some (.int .i64 kd):=by assumption
 have c4:w1.cell? ⟨w.heap.size,4,none⟩=some (.int .i64 ln):=by assumption
 have c5:w1.cell? ⟨w.heap.size,5,none⟩=some (.int .i64 up):=by assumption
 have c6:w1.cell? ⟨w.heap.size,6,none⟩=some (.int .i64 dn):=by assumption
 have c7:w1.cell? ⟨w.heap.size,7,none⟩=some (.string sc):=by assumption
 have c8:w1.cell? ⟨w.heap.size,8,none⟩=some (.int .i64 wi):=by assumption
 have c9:w1.cell? ⟨w.heap.size,9,none⟩=some (.int .i64 he):=by assumption
 have c10:w1.cell? ⟨w.heap.size,10,none⟩=some (.slice ca cx.length cc):=by assumption
 have hcu1:=hcu.mono hbb
 have hSS:=hS
 rw [<-HP.out] at hSS
 clear hS hp hcu hcu'
 by_cases k1:kd=1
 ·subst k1
  have HR:=qh (kindP_1 nm fr tt ln up dn sc wi he ca cc cx hSS)
  clear hSS
  cases t1:btwB ln 1 16777216
  ·have HK:=qh (HR.out.trans (by simp [t1]:_=false))
   go_wp2_with (first|(go_at_call 191;refine (between_any _ _ _ _).mono ?_;rintro e w' ⟨rfl,rfl⟩)|(go_at_call 183;refine (isName_any _ _ hs).mono ?_;rintro e w' ⟨rfl,rfl⟩))
   go_ret
   exact ⟨ret_bool HK.out.symm,by first|assumption|(exact bl;done)⟩
  have T1:=qh t1
  go_wp2_with (first|(go_at_call 191;refine (between_any _ _ _ _).mono ?_;rintro e w' ⟨rfl,rfl⟩)|(go_at_call 183;refine (isName_any _ _ hs).mono ?_;rintro e w' ⟨rfl,rfl⟩))
  refine Calls.to (level_any [dn] _ _ (ints1 _ _ _)) ?_
  rintro e w2 rfl hb2
  have hb12:Below w'.heap.size w' w2:=(qr.alloc (Nat.le_refl _) _).trans (hb2.mono (by simp))
  have hbb2:=hbb.trans (hb12.mono hbb.size)
  have c7:=box_lt c7 hb12
  clear hb2 hb12 c3 c4 c5 c6 c8 c9 c10 hcu1
  have HE:Hid ([dn].all lvlB=lvlB dn):=by show _=_;simp
  rw [HE.out]
  cases t2:lvlB dn
  ·have HK:=qh (HR.out.trans (by simp [T1.out,t2]:_=false))
   go_wp2_with (first|(go_at_call 191;refine (between_any _ _ _ _).mono ?_;rintro e w' ⟨rfl,rfl⟩)|(go_at_call 183;refine (isName_any _ _ hs).mono ?_;rintro e w' ⟨rfl,rfl⟩))
   go_ret
   exact ⟨ret_bool HK.out.symm,by first|assumption|(exact bl;done)⟩
  cases t3:nameB sc
  ·have HK:=qh (HR.out.trans (by simp [T1.out,t2,t3]:_=false))
   go_wp2_with (first|(go_at_call 191;refine (between_any _ _ _ _).mono ?_;rintro e w' ⟨rfl,rfl⟩)|(go_at_call 183;refine (isName_any _ _ hs).mono ?_;rintro e w' ⟨rfl,rfl⟩))
   go_ret
   exact ⟨ret_bool HK.out.symm,by first|assumption|(exact bl;done)⟩
  ·have HK:=qh (HR.out.trans (by simp [T1.out,t2,t3]:_=true))
   go_wp2_with (first|(go_at_call 191;refine (between_any _ _ _ _).mono ?_;rintro e w' ⟨rfl,rfl⟩)|(go_at_call 183;refine (isName_any _ _ hs).mono ?_;rintro e w' ⟨rfl,rfl⟩))
   go_ret
   exact ⟨ret_bool HK.out.symm,by first|assumption|(exact bl;done)⟩
 by_cases k2:kd=2
 ·subst k2
  have HR:=qh (kindP_2 nm fr tt ln up dn sc wi he ca cc cx hSS)
  clear hSS k1
  cases t1:btwB wi 1 1048576
  ·have HK:=qh (HR.out.trans (by simp [t1]:_=false))
   go_wp2_with (first|(go_at_call 191;refine (between_any _ _ _ _).mono ?_;rintro e w' ⟨rfl,rfl⟩)|(go_at_call 183;refine (isName_any _ _ hs).mono ?_;rintro e w' ⟨rfl,rfl⟩))
   go_ret
   exact ⟨ret_bool HK.out.symm,by first|assumption|(exact bl;done)⟩
  ·have HK:=qh (HR.out.trans (by simp [t1]:_=true))
   go_wp2_with (first|(go_at_call 191;refine (between_any _ _ _ _).mono ?_;rintro e w' ⟨rfl,rfl⟩)|(go_at_call 183;refine (isName_any _ _ hs).mono ?_;rintro e w' ⟨rfl,rfl⟩))
   go_ret
   exact ⟨ret_bool HK.out.symm,by first|assumption|(exact bl;done)⟩
 by_cases k3:kd=3
 ·subst k3
  have HR:=qh (kindP_3 nm fr tt ln up dn sc wi he ca cc cx hSS)
  clear hSS k1 k2
  cases t1:btwB wi 1 32768
  ·have HK:=qh (HR.out.trans (by simp [t1]:_=false))
   go_wp2_with (first|(go_at_call 191;refine (between_any _ _ _ _).mono ?_;rintro e w' ⟨rfl,rfl⟩)|(go_at_call 183;refine (isName_any _ _ hs).mono ?_;rintro e w' ⟨rfl,rfl⟩))
   go_ret
   exact ⟨ret_bool HK.out.symm,by first|assumption|(exact bl;done)⟩
  cases t2:btwB he 1 32768
  ·have HK:=qh (HR.out.trans (by simp [t1,t2]:_=false))
   go_wp2_with (first|(go_at_call 191;refine (between_any _ _ _ _).mono ?_;rintro e w' ⟨rfl,rfl⟩)|(go_at_call 183;refine (isName_any _ _ hs).mono ?_;rintro e w' ⟨rfl,rfl⟩))
   go_ret
   exact ⟨ret_bool HK.out.symm,by first|assumption|(exact bl;done)⟩
  ·have HK:=qh (HR.out.trans (by simp [t1,t2]:_=true))
   go_wp2_with (first|(go_at_call 191;refine (between_any _ _ _ _).mono ?_;rintro e w' ⟨rfl,rfl⟩)|(go_at_call 183;refine (isName_any _ _ hs).mono ?_;rintro e w' ⟨rfl,rfl⟩))
   go_ret
   exact ⟨ret_bool HK.out.symm,by first|assumption|(exact bl;done)⟩
 by_cases k4:kd=4
 ·subst k4
  have HR:=qh (kindP_4 nm fr tt ln up dn sc wi he ca cc cx hSS)
  clear hSS k1 k2 k3
  go_wp2_with fail
  refine Calls.to (level_any [dn] _ _ (ints1 _ _ _)) ?_
  rintro e w2 rfl hb2
  have hb12:Below w1.heap.size w1 w2:=(qr.alloc (Nat.le_refl _) _).trans (hb2.mono (by simp))
  have hbb2:=hbb.trans (hb12.mono hbb.size)
  have c5:=box_lt c5 hb12
  have c6:=box_lt c6 hb12
  have c10:=box_lt c10 hb12
  have hcu2:=hcu1.mono hb12
  clear hb2 hb12 c3 c4 c7 c8 c9 hcu1
  have HE:Hid ([dn].all lvlB=lvlB dn):=by show _=_;simp
  rw [HE.out]
  cases t2:lvlB dn
  ·have HK:=qh (HR.out.trans (by simp [t2]:_=false))
   go_wp2_with (first|(go_at_call 191;refine (between_any _ _ _ _).mono ?_;rintro e w' ⟨rfl,rfl⟩)|(go_at_call 183;refine (isName_any _ _ hs).mono ?_;rintro e w' ⟨rfl,rfl⟩))
   go_ret
   exact ⟨ret_bool HK.out.symm,by first|assumption|(exact bl;done)⟩
  have T2:=qh t2
  cases t3:decide (dn<up)
  ·have HK:=qh (HR.out.trans (by simp [T2.out,t3]:_=false))
   go_wp2_with (first|(go_at_call 191;refine (between_any _ _ _ _).mono ?_;rintro e w' ⟨rfl,rfl⟩)|(go_at_call 183;refine (isName_any _ _ hs).mono ?_;rintro e w' ⟨rfl,rfl⟩))
   go_ret
   exact ⟨ret_bool HK.out.symm,by first|assumption|(exact bl;done)⟩
  have T3:=qh t3
  go_wp2_with fail
  refine Calls.to (tvalid_any cx _ _ hcu2) ?_
  rintro e w3 rfl hb3
  have hbb3:=hbb2.trans (hb3.mono hbb2.size)
  have c10:=box_lt c10 hb3
  have hcu3:=hcu2.mono hb3
  clear hb3 hcu2
  cases t4:tabB cx
  ·have HK:=qh (HR.out.trans (by simp [T2.out,T3.out,t4]:_=false))
   go_wp2_with (first|(go_at_call 191;refine (between_any _ _ _ _).mono ?_;rintro e w' ⟨rfl,rfl⟩)|(go_at_call 183;refine (isName_any _ _ hs).mono ?_;rintro e w' ⟨rfl,rfl⟩))
   go_ret
   exact ⟨ret_bool HK.out.symm,by first|assumption|(exact bl;done)⟩
  have T4:=qh t4
  go_wp2_with fail
  refine Calls.to (containsKn 199 #[] ent199 kOut cx _ _ hcu3 (fun W _ x _=>rlink1_any x W)) ?_
  rintro e w4 rfl hb4
  have hbb4:=hbb3.trans (hb4.mono hbb3.size)
  clear hb4
  cases t5:cx.any kOut
  ·have HK:=qh (HR.out.trans (by simp [T2.out,T3.out,T4.out,t5]:_=true))
   go_wp2_with (first|(go_at_call 191;refine (between_any _ _ _ _).mono ?_;rintro e w' ⟨rfl,rfl⟩)|(go_at_call 183;refine (isName_any _ _ hs).mono ?_;rintro e w' ⟨rfl,rfl⟩))
   go_ret
   exact ⟨ret_bool HK.out.symm,by first|assumption|(exact bl;done)⟩
  ·have HK:=qh (HR.out.trans (by simp [T2.out,T3.out,T4.out,t5]:_=false))
   go_wp2_with (first|(go_at_call 191;refine (between_any _ _ _ _).mono ?_;rintro e w' ⟨rfl,rfl⟩)|(go_at_call 183;refine (isName_any _ _ hs).mono ?_;rintro e w' ⟨rfl,rfl⟩))
   go_ret
   exact ⟨ret_bool HK.out.symm,by first|assumption|(exact bl;done)⟩
 have HR:Hid (kindLkB ⟨nm,fr,tt,kd,ln,up,dn,sc,wi,he,⟨ca,cc,cx⟩⟩=false):=by show _=_;simp [kindLkB,k1,k2,k3,k4]
 have n1:=beqF k1
 have n2:=beqF k2
 have n3:=beqF k3
 have n4:=beqF k4
 clear k1 k2 k3 k4 hSS
 go_wp2_with fail
 go_ret
 exact ⟨ret_bool HR.out.symm,hbb⟩
theorem lkB_of' {l:Lk} (h1:nameB l.Name=true) (h2:nameB l.From=true) (h3:nameB l.To=true) (h4:strB l.From l.To=false) (h5:lvlB l.Up=true):lkB l=kindLkB l:=by simp [lkB,h1,h2,h3,h4,h5]
theorem rightLink_any (l:Lk) (w:World) (hg:gLk w l):Calls Tryz.prog 128 #[vLk l] w fun e w'=>e=.returned (.bool (lkB l))/\Below w.heap.size w w':=by
 obtain ⟨nm,fr,tt,kd,ln,up,dn,sc,wi,he,⟨ca,cc,cx⟩⟩:=l
 have hn:=hg.name
 have hf:=hg.src
 have ht:=hg.dst
 have hs:=hg.sec
 have hcu:IsKns w (.slice ca cx.length cc) cx:=hg.cu.isL
 clear hg
 simp only at hn hf ht hs
 cases h1:nameB nm
 ·rw [show lkB ⟨nm,fr,tt,kd,ln,up,dn,sc,wi,he,⟨ca,cc,cx⟩⟩=false from by simp [lkB,h1]]
  exact rightLink_bad1 nm fr tt kd ln up dn sc wi he ca cc cx w hn hf ht h1
 cases h2:nameB fr
 ·rw [show lkB ⟨nm,fr,tt,kd,ln,up,dn,sc,wi,he,⟨ca,cc,cx⟩⟩=false from by simp [lkB,h2]]
  exact rightLink_bad2 nm fr tt kd ln up dn sc wi he ca cc cx w hn hf ht h1 h2
 cases h3:nameB tt
 ·rw [show lkB ⟨nm,fr,tt,kd,ln,up,dn,sc,wi,he,⟨ca,cc,cx⟩⟩=false from by simp [lkB,h3]]
  exact rightLink_bad3 nm fr tt kd ln up dn sc wi he ca cc cx w hn hf ht h1 h2 h3
 cases h4:strB fr tt
 rotate_left
 ·rw [show lkB ⟨nm,fr,tt,kd,ln,up,dn,sc,wi,he,⟨ca,cc,cx⟩⟩=false from by simp [lkB,h4]]
  exact rightLink_bad4 nm fr tt kd ln up dn sc wi he ca cc cx w hn hf ht h1 h2 h3 h4
 cases h5:lvlB up
 ·rw [show lkB ⟨nm,fr,tt,kd,ln,up,dn,sc,wi,he,⟨ca,cc,cx⟩⟩=false from by simp [lkB,h5]]
  exact rightLink_bad5 nm fr tt kd ln up dn sc wi he ca cc cx w hn hf ht h1 h2 h3 h4 h5
 rw [lkB_of' (l:=⟨nm,fr,tt,kd,ln,up,dn,sc,wi,he,⟨ca,cc,cx⟩⟩) h1 h2 h3 h4 h5]
 obtain ⟨ln',dn',sc',wi',he',cu',hp,hcase⟩:=plainL_form ⟨nm,fr,tt,kd,ln,up,dn,sc,wi,he,⟨ca,cc,cx⟩⟩
 simp only at hp hcase
 have hcu':∀ W,Below w.heap.size w W->IsKns W (vSl cu') cu'.xs:=by
  intro W hW
  rcases hcase with rfl|rfl
  ·exact IsL.nil _ _ _
  ·exact hcu.mono hW
 cases hS:sameB ⟨nm,fr,tt,kd,ln,up,dn,sc,wi,he,⟨ca,cc,cx⟩⟩ (plainL ⟨nm,fr,tt,kd,ln,up,dn,sc,wi,he,⟨ca,cc,cx⟩⟩)
 ·rw [kind_same hS]
  rw [hp] at hS
  exact rightLink_same nm fr tt kd ln up dn sc wi he ca cc cx w hn hf ht h1 h2 h3 h4 h5 hs hcu ln' dn' sc' wi' he' cu' hp hcu' hS
 ·rw [hp] at hS
  exact rightLink_good nm fr tt kd ln up dn sc wi he ca cc cx w hn hf ht h1 h2 h3 h4 h5 hs hcu ln' dn' sc' wi' he' cu' hp hcu' hS
end Go.Proofs.YtoiakijmbghhlaaGreat
