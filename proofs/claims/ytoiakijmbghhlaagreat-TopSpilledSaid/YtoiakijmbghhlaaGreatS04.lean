/- IndexFunc and ContainsFunc at knots, nodes, links. Conditions: none. | Nodes that are right, the program's side. Conditions: the node reads as data. | rightNode. Conditions: the node reads as data. -/
import Derived.Test.YtoiakijmbghhlaaGreatS01
import Derived.Test.YtoiakijmbghhlaaGreatS02
import Derived.Test.YtoiakijmbghhlaaGreatS03
set_option linter.unusedVariables false
set_option linter.unusedSimpArgs false
set_option maxRecDepth 100000
set_option maxHeartbeats 32000000
namespace Go.Proofs.YtoiakijmbghhlaaGreat
open Go.RowKit
theorem indexKn (g:Nat) (lb:Array Value) (eg:∀ args w,(callFunc g args).run Tryz.prog w=.ok (.enter g args) w) (p:Kn->Bool) (xs:List Kn) (v:Value) (w:World)
  (hv:IsKns w v xs) (hp:PredOn Tryz.prog g lb vKn p xs w) :
  Calls Tryz.prog 242 #[v,.func (.func g) #[] lb] w fun e w'=>e=.returned (.int .i64 (idxFrom p xs 0))/\Below w.heap.size w w':=by
 obtain ⟨a,cap,rfl,hcap,hbig,hs⟩:=hv
 go_enter Tryz.func242,Tryz.ntmps242
 go_wp2
 go_loopw [5,8] (fun _ s8 wr=>∃ k:Nat,k<=xs.length/\s8=.int .i64 k/\Below w.heap.size w wr/\Hid (idxFrom p xs 0=idxFrom p (xs.drop k) k)) (fun _ i _=>xs.length-(RowKit.intOf i).toNat)
 case atStart=>exact ⟨0,Nat.zero_le _,rfl,qr,rfl⟩
 case round=>
  obtain ⟨k,hk,rfl,hb,hm⟩:=hrel
  by_cases hlt:k<xs.length
  ·obtain ⟨b,off,rfl,c0,c1⟩:=(hs.mono hb).kn k hlt
   have hx:=hp wr hb xs[k] (List.getElem_mem hlt)
   have hstep:Hid (idxFrom p (xs.drop k) k=if p xs[k] then (k:Int) else idxFrom p (xs.drop (k+1)) (k+1)):=by
    rw [List.drop_eq_getElem_cons hlt];rfl
   clear hs hp
   generalize xs[k]=y at *
   cases hpy:p y
   all_goals
    rw [hpy] at hx hstep
    clear hpy
    go_wp2_with fail
    refine (Calls.to hx ?_)
    rintro e w1 rfl hb1
    have hbb:=hb.trans (hb1.mono hb.size)
    go_wp2_with fail
   ·go_roundw
    case rel=>exact ⟨k+1,by omega,by go_num,bl,hm.out.trans (hstep.out.trans (by simp))⟩
    case measure=>simp [RowKit.intOf];omega
   ·go_ret
    exact ⟨ret_int (hm.out.trans (hstep.out.trans (by simp))).symm,bl⟩
  ·go_wp2
   go_ret
   refine ⟨ret_int ?_,bl⟩
   rw [hm.out,List.drop_eq_nil_of_le om];rfl
theorem containsKn (g:Nat) (lb:Array Value) (eg:∀ args w,(callFunc g args).run Tryz.prog w=.ok (.enter g args) w) (p:Kn->Bool) (xs:List Kn) (v:Value) (w:World)
  (hv:IsKns w v xs) (hp:PredOn Tryz.prog g lb vKn p xs w) :
  Calls Tryz.prog 198 #[v,.func (.func g) #[] lb] w fun e w'=>e=.returned (.bool (xs.any p))/\Below w.heap.size w w':=by
 go_enter Tryz.func198,Tryz.ntmps198
 go_wp2_with fail
 refine Calls.to (indexKn g lb eg p xs v w hv hp) ?_
 rintro e w1 rfl hb
 go_wp2_with fail
 go_ret
 exact ⟨ret_bool (idxFrom_any p xs 0),hb⟩
theorem indexNd (g:Nat) (lb:Array Value) (eg:∀ args w,(callFunc g args).run Tryz.prog w=.ok (.enter g args) w) (p:Nd->Bool) (xs:List Nd) (v:Value) (w:World)
  (hv:IsNds w v xs) (hp:PredOn Tryz.prog g lb vNd p xs w) :
  Calls Tryz.prog 34 #[v,.func (.func g) #[] lb] w fun e w'=>e=.returned (.int .i64 (idxFrom p xs 0))/\Below w.heap.size w w':=by
 obtain ⟨a,cap,rfl,hcap,hbig,hs⟩:=hv
 go_enter Tryz.func34,Tryz.ntmps34
 go_wp2
 go_loopw [5,8] (fun _ s8 wr=>∃ k:Nat,k<=xs.length/\s8=.int .i64 k/\Below w.heap.size w wr/\Hid (idxFrom p xs 0=idxFrom p (xs.drop k) k)) (fun _ i _=>xs.length-(RowKit.intOf i).toNat)
 case atStart=>exact ⟨0,Nat.zero_le _,rfl,qr,rfl⟩
 case round=>
  obtain ⟨k,hk,rfl,hb,hm⟩:=hrel
  by_cases hlt:k<xs.length
  ·obtain ⟨b,off,rfl,c0,c1,c2,c3,c4,c5,c6,c7,c8⟩:=(hs.mono hb).nd k hlt
   have hx:=hp wr hb xs[k] (List.getElem_mem hlt)
   have hstep:Hid (idxFrom p (xs.drop k) k=if p xs[k] then (k:Int) else idxFrom p (xs.drop (k+1)) (k+1)):=by
    rw [List.drop_eq_getElem_cons hlt];rfl
   clear hs hp
   generalize xs[k]=y at *
   cases hpy:p y
   all_goals
    rw [hpy] at hx hstep
    clear hpy
    go_wp2_with fail
    refine (Calls.to hx ?_)
    rintro e w1 rfl hb1
    have hbb:=hb.trans (hb1.mono hb.size)
    go_wp2_with fail
   ·go_roundw
    case rel=>exact ⟨k+1,by omega,by go_num,bl,hm.out.trans (hstep.out.trans (by simp))⟩
    case measure=>simp [RowKit.intOf];omega
   ·go_ret
    exact ⟨ret_int (hm.out.trans (hstep.out.trans (by simp))).symm,bl⟩
  ·go_wp2
   go_ret
   refine ⟨ret_int ?_,bl⟩
   rw [hm.out,List.drop_eq_nil_of_le om];rfl
theorem indexLk (g:Nat) (lb:Array Value) (eg:∀ args w,(callFunc g args).run Tryz.prog w=.ok (.enter g args) w) (p:Lk->Bool) (xs:List Lk) (v:Value) (w:World)
  (hv:IsLks w v xs) (hp:PredOn Tryz.prog g lb vLk p xs w) :
  Calls Tryz.prog 116 #[v,.func (.func g) #[] lb] w fun e w'=>e=.returned (.int .i64 (idxFrom p xs 0))/\Below w.heap.size w w':=by
 obtain ⟨a,cap,rfl,hcap,hbig,hs⟩:=hv
 go_enter Tryz.func116,Tryz.ntmps116
 go_wp2
 go_loopw [5,8] (fun _ s8 wr=>∃ k:Nat,k<=xs.length/\s8=.int .i64 k/\Below w.heap.size w wr/\Hid (idxFrom p xs 0=idxFrom p (xs.drop k) k)) (fun _ i _=>xs.length-(RowKit.intOf i).toNat)
 case atStart=>exact ⟨0,Nat.zero_le _,rfl,qr,rfl⟩
 case round=>
  obtain ⟨k,hk,rfl,hb,hm⟩:=hrel
  by_cases hlt:k<xs.length
  ·obtain ⟨b,off,rfl,c0,c1,c2,c3,c4,c5,c6,c7,c8,c9,c10⟩:=(hs.mono hb).lk k hlt
   have hx:=hp wr hb xs[k] (List.getElem_mem hlt)
   have hstep:Hid (idxFrom p (xs.drop k) k=if p xs[k] then (k:Int) else idxFrom p (xs.drop (k+1)) (k+1)):=by
    rw [List.drop_eq_getElem_cons hlt];rfl
   clear hs hp
   generalize xs[k]=y at *
   cases hpy:p y
   all_goals
    rw [hpy] at hx hstep
    clear hpy
    go_wp2_with fail
    refine (Calls.to hx ?_)
    rintro e w1 rfl hb1
    have hbb:=hb.trans (hb1.mono hb.size)
    go_wp2_with fail
   ·go_roundw
    case rel=>exact ⟨k+1,by omega,by go_num,bl,hm.out.trans (hstep.out.trans (by simp))⟩
    case measure=>simp [RowKit.intOf];omega
   ·go_ret
    exact ⟨ret_int (hm.out.trans (hstep.out.trans (by simp))).symm,bl⟩
  ·go_wp2
   go_ret
   refine ⟨ret_int ?_,bl⟩
   rw [hm.out,List.drop_eq_nil_of_le om];rfl
def btwB (n lo hi:Int):Bool:=decide (lo<=n)&&decide (n<=hi)
theorem posB_btw (n:Int):btwB n (-16777216) 16777216=posB n:=by
 simp [btwB,posB]
theorem between_any (n lo hi:Int) (w:World):Calls Tryz.prog 191 #[.int .i64 n,.int .i64 lo,.int .i64 hi] w fun e w'=>e=.returned (.bool (btwB n lo hi))/\w'=w:=by
 by_cases h1:lo<=n <;> by_cases h2:n<=hi
 all_goals
  go_enter Tryz.func191,Tryz.ntmps191
  go_wp2_with fail
  go_ret
  exact ⟨ret_bool (by simp [btwB,h1,h2]),rfl⟩
theorem ent239:∀ args w,(callFunc 239 args).run Tryz.prog w=.ok (.enter 239 args) w:=by
 intro args w
 simp [go_sem]
theorem level1_any (n:Int) (w:World):Calls Tryz.prog 239 #[.int .i64 n] w fun e w'=>e=.returned (.bool (!lvlB n))/\Below w.heap.size w w':=by
 by_cases h1:n < -4194304 <;> by_cases h2:4194304<n
 all_goals
  go_enter Tryz.func239,Tryz.ntmps239
  go_wp2_with fail
  go_ret
  exact ⟨ret_bool (by simp [lvlB];omega),qr⟩
theorem level_any (xs:List Int) (v:Value) (w:World) (hv:IsInts w v xs) :
  Calls Tryz.prog 192 #[v] w fun e w'=>e=.returned (.bool (xs.all lvlB))/\Below w.heap.size w w':=by
 have he:xs.all lvlB = !(xs.any fun n=>!lvlB n):=by simp [List.all_eq_not_any_not]
 rw [he]
 clear he
 cases ht:xs.any fun n=>!lvlB n
 all_goals
  go_enter Tryz.func192,Tryz.ntmps192
  go_wp2_with fail
  refine Calls.to (containsInts 239 #[] ent239 (fun n=>!lvlB n) xs v w hv (fun W _ x _=>level1_any x W)) ?_
  rintro e w1 rfl hb
  go_wp2_with fail
  go_ret
  exact ⟨rfl,hb⟩
theorem eqKn0 (x y:Int) (w:World):(binOp .eql 100 (.agg #[.int .i64 x,.int .i64 y]) (.agg #[.int .i64 0,.int .i64 0])).run Tryz.prog w=.ok (.bool (decide (x=0/\y=0))) w:=by
 simp [go_sem]
 by_cases h1:x=0 <;> by_cases h2:y=0 <;> simp [h1,h2]
theorem lastK_eq {xs:List Kn} (h:1<=xs.length):lastK xs=xs[xs.length-1]'om:=by
 simp [lastK,List.getD,List.getElem?_eq_getElem (show xs.length-1<xs.length by omega)]
theorem shapeB_false {xs:List Kn} {d:Int} (h:tabB xs=false):shapeB xs d=false:=by simp [shapeB,h]
theorem shapeB_is {xs:List Kn} {d:Int} (h:tabB xs=true) (h1:1<=xs.length):shapeB xs d=(decide ((xs[0]'om).X=0/\(xs[0]'om).Y=0)&&decide ((xs[xs.length-1]'om).X=d)&&decide ((xs[xs.length-1]'om).Y<=1125899906842624)):=by
 simp only [shapeB,h,lastK_eq h1,List.getD,List.getElem?_eq_getElem (show 0<xs.length by omega),Option.getD_some,Bool.true_and]
theorem shaped_any (xs:List Kn) (v:Value) (d:Int) (w:World) (hv:IsKns w v xs) :
  Calls Tryz.prog 193 #[v,.int .i64 d] w fun e w'=>e=.returned (.bool (shapeB xs d))/\Below w.heap.size w w':=by
 have hv0:=hv
 obtain ⟨a,cap,rfl,hcap,hbig,hs⟩:=hv
 cases ht:tabB xs
 ·have HS:=qh (shapeB_false (d:=d) ht)
  have HT:=qh ht
  clear ht
  go_enter Tryz.func193,Tryz.ntmps193
  go_wp2_with fail
  refine Calls.to (tvalid_any xs _ _ hv0) ?_
  rintro e w1 rfl hb
  rw [HT.out]
  go_wp2_with fail
  go_ret
  exact ⟨ret_bool HS.out.symm,hb⟩
 ·have h1:=(tabB_len ht).1
  have HS:=qh (shapeB_is (d:=d) ht h1)
  have HT:=qh ht
  clear ht
  go_enter Tryz.func193,Tryz.ntmps193
  go_wp2_with fail
  refine Calls.to (tvalid_any xs _ _ hv0) ?_
  rintro e w1 rfl hb
  rw [HT.out]
  have hs1:=hs.mono hb
  obtain ⟨b,off,rfl,c1,c2⟩:=hs1.kn 0 om
  obtain ⟨d1,d2⟩:=hs1.knAt (xs.length-1) om
  rw [Nat.zero_mul,Nat.add_zero] at c1 c2
  have e0:=eqKn0
  clear hs hs1 hv0
  generalize xs[0]=x0 at *
  generalize xs[xs.length-1]=xl at *
  by_cases q1:x0.X=0/\x0.Y=0
  ·have r1:decide (x0.X=0/\x0.Y=0)=true:=decide_eq_true q1
   have Q1:=qh q1
   clear q1
   by_cases q2:xl.X=d
   ·have r2:=beqT q2
    have Q2:=qh q2
    clear q2
    by_cases q3:xl.Y<=1125899906842624
    ·have r3:decide (xl.Y<=1125899906842624)=true:=decide_eq_true q3
     go_wp2_with fail
     go_ret
     exact ⟨ret_bool (HS.out.trans (by simp [Q1.out,Q2.out,q3])).symm,bl⟩
    ·have r3:decide (xl.Y<=1125899906842624)=false:=decide_eq_false q3
     go_wp2_with fail
     go_ret
     exact ⟨ret_bool (HS.out.trans (by simp [Q1.out,Q2.out,q3])).symm,bl⟩
   ·have r2:=beqF q2
    have Q2:=qh q2
    clear q2
    go_wp2_with fail
    go_ret
    exact ⟨ret_bool (HS.out.trans (by simp [Q1.out,Q2.out])).symm,bl⟩
  ·have r1:decide (x0.X=0/\x0.Y=0)=false:=decide_eq_false q1
   have Q1:=qh q1
   clear q1
   go_wp2_with fail
   go_ret
   exact ⟨ret_bool (HS.out.trans (by simp [Q1.out])).symm,bl⟩
theorem lit_ints (W:World) (B:Nat) (hB:W.heap.size=B) (T:TypeId) (xs:List Int) (n:Nat) (hn:xs.length=n) (hn2:n<=9223372036854775807) (cs:Array Value) (hcs:cs=(xs.map fun n=>.int .i64 n).toArray):IsInts (W.alloc (.cells cs T)) (.slice (some ⟨B,0,none⟩) n n) xs:=by
 subst hB;subst hcs;subst hn
 exact isL_lit eInt 1 (fun _=>rfl) _ W.heap.size T _ xs xs.length xs.length (heap_alloc_new W _) rfl (by
  show xs.map _=_
  clear hn2
  induction xs with
  | nil=>rfl
  | cons x r ih=>simp only [List.map_cons,List.flatMap_cons,ih];rfl) (Nat.le_refl _) hn2
theorem boxC {α:Type} {enc:α->List Value} {k:Nat} (hk:∀ x,(enc x).length=k) (w:World) (T:TypeId) (x:α) (cs:Array Value) (hcs:cs=(enc x).toArray):IsC enc k (w.alloc (.cells cs T)) (some ⟨w.heap.size,0,none⟩) [x]:=by
 obtain ⟨a,c,e,_,_,h⟩:=(Own.fresh hk w w.heap.size (Nat.le_refl _) T x cs hcs).isL hk
 simp only [Value.slice.injEq] at e
 obtain ⟨rfl,_,_⟩:=e
 exact h
theorem IsC.ndAt {w:World} {b off:Nat} {xs:List Nd} (h:IsC eNd 9 w (some ⟨b,off,none⟩) xs) (i:Nat) (hi:i<xs.length) :
  w.cell? ⟨b,off+i*9,none⟩=some (.string xs[i].Name)/\w.cell? ⟨b,off+i*9+1,none⟩=some (.int .i64 xs[i].Kind) /\
   w.cell? ⟨b,off+i*9+2,none⟩=some (.int .i64 xs[i].AX)/\w.cell? ⟨b,off+i*9+3,none⟩=some (.int .i64 xs[i].AY)/\w.cell? ⟨b,off+i*9+4,none⟩=some (.int .i64 xs[i].Inv) /\
   w.cell? ⟨b,off+i*9+5,none⟩=some (.int .i64 xs[i].Gr)/\w.cell? ⟨b,off+i*9+6,none⟩=some (.slice xs[i].Sh.a xs[i].Sh.xs.length xs[i].Sh.cap)/\w.cell? ⟨b,off+i*9+7,none⟩=some (.bool xs[i].Pro) /\
   w.cell? ⟨b,off+i*9+8,none⟩=some (.int .i64 xs[i].Res):=by
 obtain ⟨b',off',e,c⟩:=h.nd i hi
 simp only [Option.some.injEq,Addr.mk.injEq] at e
 obtain ⟨rfl,rfl,_⟩:=e
 exact c
theorem boxNd (w W:World) (T:TypeId) (x:Nd) (cs:Array Value) (hcs:cs=(eNd x).toArray) (B:Nat) (hB:B=w.heap.size+1) (hb:Below B (w.alloc (.cells cs T)) W) :
  W.cell? ⟨w.heap.size,0,none⟩=some (.string x.Name)/\W.cell? ⟨w.heap.size,1,none⟩=some (.int .i64 x.Kind) /\
   W.cell? ⟨w.heap.size,2,none⟩=some (.int .i64 x.AX)/\W.cell? ⟨w.heap.size,3,none⟩=some (.int .i64 x.AY)/\W.cell? ⟨w.heap.size,4,none⟩=some (.int .i64 x.Inv) /\
   W.cell? ⟨w.heap.size,5,none⟩=some (.int .i64 x.Gr)/\W.cell? ⟨w.heap.size,6,none⟩=some (.slice x.Sh.a x.Sh.xs.length x.Sh.cap)/\W.cell? ⟨w.heap.size,7,none⟩=some (.bool x.Pro) /\
   W.cell? ⟨w.heap.size,8,none⟩=some (.int .i64 x.Res):=by
 have h:=((boxC eNd_len w T x cs hcs).mono (w':=W) (by rw [hB] at hb;simpa using hb)).ndAt 0 (by simp)
 simpa using h
theorem ndB_of {x:Nd} (h1:nameB x.Name=true) (h2:posB x.AX=true) (h3:posB x.AY=true) (h4:lvlB x.Inv=true) (h5:lvlB x.Gr=true):ndB x=kindNdB x:=by simp [ndB,h1,h2,h3,h4,h5]
theorem rightNode_any (x:Nd) (w:World) (hg:gNd w x):Calls Tryz.prog 126 #[vNd x] w fun e w'=>e=.returned (.bool (ndB x))/\Below w.heap.size w w':=by
 obtain ⟨nm,kd,ax,ay,iv,gr,⟨sa,scap,sxs⟩,pr,rs⟩:=x
 have hn:=hg.name
 have hsh:IsKns w (.slice sa sxs.length scap) sxs:=hg.sh.isL
 have gi:=hg.inv
 have gg:=hg.gr
 clear hg
 simp only at hn gi gg
 simp only [vNd]
 cases h1:nameB nm
 ·have HS:Hid (ndB ⟨nm,kd,ax,ay,iv,gr,⟨sa,scap,sxs⟩,pr,rs⟩=false):=by show _=_;simp [ndB,h1]
  go_enter Tryz.func126,Tryz.ntmps126
  go_wp2_with (first|(go_at_call 183;refine (isName_any _ _ hn).mono ?_;rintro e w' ⟨rfl,rfl⟩)|(go_at_call 191;refine (between_any _ _ _ _).mono ?_;rintro e w' ⟨rfl,rfl⟩))
  go_ret
  exact ⟨ret_bool HS.out.symm,bl⟩
 cases h2:posB ax
 ·have HS:Hid (ndB ⟨nm,kd,ax,ay,iv,gr,⟨sa,scap,sxs⟩,pr,rs⟩=false):=by show _=_;simp [ndB,h2]
  have p2:=(posB_btw ax).trans h2
  go_enter Tryz.func126,Tryz.ntmps126
  go_wp2_with (first|(go_at_call 183;refine (isName_any _ _ hn).mono ?_;rintro e w' ⟨rfl,rfl⟩)|(go_at_call 191;refine (between_any _ _ _ _).mono ?_;rintro e w' ⟨rfl,rfl⟩))
  go_ret
  exact ⟨ret_bool HS.out.symm,bl⟩
 have p2:=(posB_btw ax).trans h2
 cases h3:posB ay
 ·have HS:Hid (ndB ⟨nm,kd,ax,ay,iv,gr,⟨sa,scap,sxs⟩,pr,rs⟩=false):=by show _=_;simp [ndB,h3]
  have p3:=(posB_btw ay).trans h3
  go_enter Tryz.func126,Tryz.ntmps126
  go_wp2_with (first|(go_at_call 183;refine (isName_any _ _ hn).mono ?_;rintro e w' ⟨rfl,rfl⟩)|(go_at_call 191;refine (between_any _ _ _ _).mono ?_;rintro e w' ⟨rfl,rfl⟩))
  go_ret
  exact ⟨ret_bool HS.out.symm,bl⟩
 have p3:=(posB_btw ay).trans h3
 go_enter Tryz.func126,Tryz.ntmps126
 go_wp2_with (first|(go_at_call 183;refine (isName_any _ _ hn).mono ?_;rintro e w' ⟨rfl,rfl⟩)|(go_at_call 191;refine (between_any _ _ _ _).mono ?_;rintro e w' ⟨rfl,rfl⟩))
 have hl:=lit_ints (w.alloc (.cells #[.string nm,.int .i64 kd,.int .i64 ax,.int .i64 ay,.int .i64 iv,.int .i64 gr,.slice sa sxs.length scap,.bool pr,.int .i64 rs] 48)) (w.heap.size+1) (by simp) 3 [iv,gr] 2 rfl om #[.int .i64 iv,.int .i64 gr] rfl
 refine Calls.to (level_any [iv,gr] _ _ hl) ?_
 rintro e w1 rfl hb1
 have hbx:Below (w.heap.size+1) (w.alloc (.cells #[.string nm,.int .i64 kd,.int .i64 ax,.int .i64 ay,.int .i64 iv,.int .i64 gr,.slice sa sxs.length scap,.bool pr,.int .i64 rs] 48)) w1:=(qr.alloc (by simp) _).trans (hb1.mono (by simp))
 have hbw:Below w.heap.size w w1:=(qr.alloc (Nat.le_refl _) _).trans (hbx.mono om)
 have hsh1:=hsh.mono hbw
 obtain ⟨c0,c1,c2,c3,c4,c5,c6,c7,c8⟩:=boxNd w w1 48 ⟨nm,kd,ax,ay,iv,gr,⟨sa,scap,sxs⟩,pr,rs⟩ _ rfl _ rfl hbx
 simp only at c0 c1 c2 c3 c4 c5 c6 c7 c8
 clear hb1 hl hsh
 cases hL : [iv,gr].all lvlB
 ·have HS:Hid (ndB ⟨nm,kd,ax,ay,iv,gr,⟨sa,scap,sxs⟩,pr,rs⟩=false):=by
   show _=_
   simp at hL
   cases h4:lvlB iv
   ·simp [ndB,h4]
   ·simp [ndB,hL h4]
  go_wp2_with fail
  go_ret
  exact ⟨ret_bool HS.out.symm,bl⟩
 simp only [List.all_cons,List.all_nil,Bool.and_true,Bool.and_eq_true] at hL
 have HS:=qh (ndB_of (x:=⟨nm,kd,ax,ay,iv,gr,⟨sa,scap,sxs⟩,pr,rs⟩) h1 h2 h3 hL.1 hL.2)
 have b4 : -4194304<=iv/\iv<=4194304:=by simpa [lvlB] using hL.1
 have b5 : -4194304<=gr/\gr<=4194304:=by simpa [lvlB] using hL.2
 have hL2:(lvlB iv&&lvlB gr)=true:=by simp [hL.1,hL.2]
 clear h1 h2 h3 p2 p3
 by_cases k1:kd=1
 ·subst k1
  by_cases g1:gr<=iv
  ·have q1:decide (gr<=iv)=true:=decide_eq_true g1
   have g2:¬ iv<gr:=by omega
   have HK:=qh (HS.out.trans (show kindNdB _=false from by simp [kindNdB,g2]))
   go_wp2_with fail
   go_ret
   exact ⟨ret_bool HK.out.symm,bl⟩
  have q1:decide (gr<=iv)=false:=decide_eq_false g1
  have g2:iv<gr:=by omega
  go_wp2_with fail
  refine Calls.to (shaped_any sxs _ (gr-iv) _ hsh1) ?_
  rintro e w2 rfl hb2
  have hbx2:=hbx.trans (hb2.mono (by simpa using hbx.size))
  have hbw2:=hbw.trans (hb2.mono hbw.size)
  have hsh2:=hsh1.mono hb2
  obtain ⟨c0,c1,c2,c3,c4,c5,c6,c7,c8⟩:=boxNd w w2 48 ⟨nm,1,ax,ay,iv,gr,⟨sa,scap,sxs⟩,pr,rs⟩ _ rfl _ rfl hbx2
  simp only at c0 c1 c2 c3 c4 c5 c6 c7 c8
  clear hb2 hsh1 hbx hbw
  cases hS:shapeB sxs (gr-iv)
  ·have HK:=qh (HS.out.trans (show kindNdB _=false from by simp [kindNdB,hS]))
   go_wp2_with fail
   go_ret
   exact ⟨ret_bool HK.out.symm,bl⟩
  have hS':=qh hS
  cases pr
  ·by_cases r0:rs=0
   ·have q3:=beqT r0
    have R0:=qh r0
    clear r0
    have HK:=qh (HS.out.trans (show kindNdB _=true from by simp [kindNdB,g2,hS,R0.out]))
    go_wp2_with fail
    go_ret
    exact ⟨ret_bool HK.out.symm,bl⟩
   ·have q3:=beqF r0
    have R0:=qh r0
    clear r0
    have HK:=qh (HS.out.trans (show kindNdB _=false from by simp [kindNdB,g2,hS,R0.out]))
    go_wp2_with fail
    go_ret
    exact ⟨ret_bool HK.out.symm,bl⟩
  ·have HK:=qh (HS.out.trans (show kindNdB _=false from by simp [kindNdB,g2,hS]))
   go_wp2_with fail
   go_ret
   exact ⟨ret_bool HK.out.symm,bl⟩
 by_cases k2:kd=2
 ·subst k2
  by_cases g1:gr<=iv
  ·have q1:decide (gr<=iv)=true:=decide_eq_true g1
   have g2:¬ iv<gr:=by omega
   have HK:=qh (HS.out.trans (show kindNdB _=false from by simp [kindNdB,g2]))
   go_wp2_with fail
   go_ret
   exact ⟨ret_bool HK.out.symm,bl⟩
  have q1:decide (gr<=iv)=false:=decide_eq_false g1
  have g2:iv<gr:=by omega
  go_wp2_with fail
  refine Calls.to (shaped_any sxs _ (gr-iv) _ hsh1) ?_
  rintro e w2 rfl hb2
  have hbx2:=hbx.trans (hb2.mono (by simpa using hbx.size))
  have hbw2:=hbw.trans (hb2.mono hbw.size)
  have hsh2:=hsh1.mono hb2
  obtain ⟨c0,c1,c2,c3,c4,c5,c6,c7,c8⟩:=boxNd w w2 48 ⟨nm,2,ax,ay,iv,gr,⟨sa,scap,sxs⟩,pr,rs⟩ _ rfl _ rfl hbx2
  simp only at c0 c1 c2 c3 c4 c5 c6 c7 c8
  clear hb2 hsh1 hbx hbw
  cases hS:shapeB sxs (gr-iv)
  ·have HK:=qh (HS.out.trans (show kindNdB _=false from by simp [kindNdB,hS]))
   go_wp2_with fail
   go_ret
   exact ⟨ret_bool HK.out.symm,bl⟩
  have hS':=qh hS
  cases pr
  ·by_cases r0:rs=0
   ·have q3:=beqT r0
    have R0:=qh r0
    clear r0
    have HK:=qh (HS.out.trans (show kindNdB _=true from by simp [kindNdB,g2,hS,R0.out]))
    go_wp2_with fail
    go_ret
    exact ⟨ret_bool HK.out.symm,bl⟩
   ·have q3:=beqF r0
    have R0:=qh r0
    clear r0
    have HK:=qh (HS.out.trans (show kindNdB _=false from by simp [kindNdB,g2,hS,R0.out]))
    go_wp2_with fail
    go_ret
    exact ⟨ret_bool HK.out.symm,bl⟩
  ·obtain ⟨a0,cp,e0,hcap,hbig,hs2⟩:=hsh2
   simp only [Value.slice.injEq] at e0
   obtain ⟨rfl,_,rfl⟩:=e0
   have hlen:=tabB_len (xs:=sxs) (by simp only [shapeB,Bool.and_eq_true] at hS;exact hS.1.1.1)
   obtain ⟨b,off,rfl,d1,d2⟩:=hs2.kn (sxs.length-1) om
   have HLK:=qh (lastK_eq hlen.1)
   have HK:=qh (HS.out.trans (show kindNdB _=(decide (0<=rs)&&decide (rs<=(sxs[sxs.length-1]'om).Y)) from by simp [kindNdB,g2,hS,HLK.out]))
   clear hs2 HLK
   generalize sxs[sxs.length-1]=xl at *
   go_wp2_with fail
   have w1':IntKind.i64.wrap ((sxs.length:Int)-1)=(sxs.length:Int)-1:=IntWalk.i64_in _ om
   have w2':((sxs.length:Int)-1).toNat=sxs.length-1:=by omega
   have w3':0<=(sxs.length:Int)-1:=by omega
   have w4':(sxs.length:Int)-1<sxs.length:=by omega
   go_quiet ((go_at_call 191;exact Calls.quiet_of_same (between_any _ _ _ _)))
   clear w1' w2' w3' w4'
   go_wp2_with fail
   go_ret
   exact ⟨ret_bool HK.out.symm,bl⟩
 have n1:=beqF k1
 have n2:=beqF k2
 by_cases k3:kd=3
 ·subst k3
  clear k1 k2
  by_cases g1:iv<=gr
  ·have q1:decide (iv<=gr)=true:=decide_eq_true g1
   by_cases l0:sxs.length=0
   ·have q2:((sxs.length:Int)==0)=true:=beqT om
    have L0:=qh l0
    clear l0
    cases pr
    ·by_cases r0:rs=0
     ·have q3:=beqT r0
      have R0:=qh r0
      clear r0
      have HK:=qh (HS.out.trans (show kindNdB _=true from by simp [kindNdB,g1,L0.out,R0.out]))
      go_wp2_with fail
      go_ret
      exact ⟨ret_bool HK.out.symm,bl⟩
     ·have q3:=beqF r0
      have R0:=qh r0
      clear r0
      have HK:=qh (HS.out.trans (show kindNdB _=false from by simp [kindNdB,g1,L0.out,R0.out]))
      go_wp2_with fail
      go_ret
      exact ⟨ret_bool HK.out.symm,bl⟩
    ·have HK:=qh (HS.out.trans (show kindNdB _=false from by simp [kindNdB,g1,L0.out]))
     go_wp2_with fail
     go_ret
     exact ⟨ret_bool HK.out.symm,bl⟩
   ·have q2:((sxs.length:Int)==0)=false:=beqF om
    have L0:=qh l0
    clear l0
    have HK:=qh (HS.out.trans (show kindNdB _=false from by simp [kindNdB,g1,L0.out]))
    go_wp2_with fail
    go_ret
    exact ⟨ret_bool HK.out.symm,bl⟩
  ·have q1:decide (iv<=gr)=false:=decide_eq_false g1
   have g1':gr<iv:=by omega
   have HK:=qh (HS.out.trans (show kindNdB _=false from by simp [kindNdB,Int.not_le.2 g1']))
   go_wp2_with fail
   go_ret
   exact ⟨ret_bool HK.out.symm,bl⟩
 ·have n3:=beqF k3
  have K1:=qh k1
  have K2:=qh k2
  have K3:=qh k3
  clear k1 k2 k3
  have HK:=qh (HS.out.trans (show kindNdB _=false from by simp [kindNdB,K1.out,K2.out,K3.out]))
  go_wp2_with fail
  go_ret
  exact ⟨ret_bool HK.out.symm,bl⟩
end Go.Proofs.YtoiakijmbghhlaaGreat
