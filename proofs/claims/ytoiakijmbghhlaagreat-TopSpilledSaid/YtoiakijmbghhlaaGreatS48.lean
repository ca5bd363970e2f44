/- overflow.Count, Of, Total, as in chapter 38. Conditions: the arguments read as data. -/
import Derived.Test.YtoiakijmbghhlaaGreatS46
set_option linter.unusedVariables false
set_option linter.unusedSimpArgs false
set_option maxRecDepth 100000
set_option maxHeartbeats 32000000
namespace Go.Proofs.YtoiakijmbghhlaaGreat
open Go.RowKit
def countGo (s g:Int):List Ev->Option (Int×Int)
 | []=>some (s,g)
 | x :: r=>if 1152921504606846976<wrap64 (s+x.Total) then none else countGo (wrap64 (s+x.Total)) (if g<x.Total then x.Total else g) r
def lsumE:List Ev->Int
 | []=>0
 | x :: r=>x.Total+lsumE r
theorem lsumE_nonneg:∀ l:List Ev,(∀ x∈l,0<=x.Total)->0<=lsumE l
 | [],_=>Int.le_refl 0
 | x :: r,h=>by
  have h0:=h x (by simp)
  have h1:=lsumE_nonneg r (fun y hy=>h y (by simp [hy]))
  simp only [lsumE];omega
def CountIs (xs:List Ev) (e:Ending):Prop:=
 if rightM xs=true then
  match countGo 0 0 xs with
  | some (s,g)=>e=.returned (.tuple #[.int .i64 xs.length,.int .i64 s,.int .i64 g,.int .i64 0])
  | none=>e=.returned (.tuple #[.int .i64 0,.int .i64 0,.int .i64 0,.int .i64 5])
 else e=.returned (.tuple #[.int .i64 0,.int .i64 0,.int .i64 0,.int .i64 1])
theorem count_any (xs:List Ev) (v:Value) (w:World) (hv:IsEvs w v xs) :
  Calls Tryz.prog 38 #[v] w fun e w'=>CountIs xs e/\Below w.heap.size w w':=by
 obtain ⟨a,cap,rfl,hcap,hbig,hs⟩:=hv
 have hv:IsEvs w (.slice a xs.length cap) xs:=⟨a,cap,rfl,hcap,hbig,hs⟩
 cases hr:rightM xs
 ·have HR:=qh hr
  clear hr
  go_enter Tryz.func38,Tryz.ntmps38
  go_wp2_with fail
  refine Calls.to (right_any xs _ _ hv) ?_
  rintro e w1 rfl hb
  rw [HR.out]
  go_wp2_with fail
  ((try simp only [Exit.inBlock,Exit.then]);refine bodyPost_ret (results_tmp4 rfl _ _ _) rfl ?_)
  exact ⟨by simp [CountIs,HR.out],hb⟩
 ·have HR:=qh hr
  clear hr
  go_enter Tryz.func38,Tryz.ntmps38
  go_wp2_with fail
  refine Calls.to (right_any xs _ _ hv) ?_
  rintro e w1 rfl hb1
  rw [HR.out]
  go_wp2_with fail
  go_loopw [6,7,15] (fun s6 s7 s15 wr=>∃ (k:Nat) (s g:Int),k<=xs.length/\s15=.int .i64 k/\s6=.int .i64 s/\s7=.int .i64 g/\Below w.heap.size w wr/\Hid (countGo 0 0 xs=countGo s g (xs.drop k))) (fun _ _ i _=>xs.length-(intOf i).toNat)
  case atStart=>exact ⟨0,0,0,Nat.zero_le _,rfl,rfl,rfl,hb1,rfl⟩
  case round=>
   obtain ⟨k,s,g,hk,rfl,rfl,rfl,hb,hm⟩:=hrel
   by_cases hlt:k<xs.length
   ·obtain ⟨b,off,rfl,c1,c2,c3,c4⟩:=(hs.mono hb).ev k hlt
    have hdrop:Hid (xs.drop k=xs[k] :: xs.drop (k+1)):=List.drop_eq_getElem_cons hlt
    clear hs
    generalize xs[k]=x at *
    by_cases hq:1152921504606846976<wrap64 (s+x.Total)
    ·go_wp2_with fail
     ((try simp only [Exit.inBlock,Exit.then]);refine bodyPost_ret (results_tmp4 rfl _ _ _) rfl ?_)
     exact ⟨by simp [CountIs,HR.out,hm.out,hdrop.out,countGo,hq],bl⟩
    ·by_cases hg:g<x.Total
     all_goals
      go_wp2_with fail
      go_roundw
      case measure=>simp [intOf];omega
      case rel=>exact ⟨k+1,_,_,by omega,by go_num,rfl,rfl,bl,hm.out.trans (by rw [hdrop.out];simp [countGo,hq,hg])⟩
   ·go_wp2_with fail
    ((try simp only [Exit.inBlock,Exit.then]);refine bodyPost_ret (results_tmp4 rfl _ _ _) rfl ?_)
    have h1:=hm.out
    rw [List.drop_eq_nil_of_le om] at h1
    exact ⟨by simp [CountIs,HR.out,h1,countGo],hb⟩
theorem countGo_ok:∀ (xs:List Ev) (s g:Int),0<=s->g<=s->(∀ x∈xs,0<=x.Total)->s+lsumE xs<=1152921504606846976->∃ m,countGo s g xs=some (s+lsumE xs,m)/\m<=s+lsumE xs
 | [],s,g,_,hg,_,_=>⟨g,by simp [countGo,lsumE],by simp [lsumE];exact hg⟩
 | x :: r,s,g,h0,hg,hx,hs=>by
  have hx0:=hx x (by simp)
  have hr:∀ x∈r,0<=x.Total:=fun y hy=>hx y (by simp [hy])
  have hn:=lsumE_nonneg r hr
  simp only [lsumE] at hs ⊢
  rw [countGo,IntWalk.wrap64_in _ om,if_neg om]
  obtain ⟨m,h1,h2⟩:=countGo_ok r (s+x.Total) (if g<x.Total then x.Total else g) om (by split <;> omega) hr om
  exact ⟨m,by rw [h1];congr 2;omega,by omega⟩
theorem ent104:∀ args w,(callFunc 104 args).run Tryz.prog w=.ok (.enter 104 args) w:=by
 intro args w
 simp [go_sem]
theorem total1 (s:St) (w:World):Calls Tryz.prog 104 #[vSt s] w fun e w'=>e=.returned (.bool (decide (300<(s.P.xs.length:Int))))/\Below w.heap.size w w':=by
 obtain ⟨V,⟨aP,cP,P⟩,S,O⟩:=s
 go_enter Tryz.func104,Tryz.ntmps104
 go_wp2_with fail
 go_ret
 exact ⟨ret_bool (by simp <;> omega),bl⟩
def ofGo (node:Int):List St->List Int->Option (List Int)
 | [],out=>some out
 | s :: r,out=>if node<0\/(s.P.xs.length:Int)<=node then none else ofGo node r (out ++ [s.P.xs.getD node.toNat 0])
def ofM (xs:List St) (node:Int):List Ev×Int:=
 if 10000<xs.length then ([],4)
 else match ofGo node xs [] with
  | none=>([],2)
  | some l=>spillsM l 1
theorem of_any (xs:List St) (v:Value) (node:Int) (w:World) (hv:IsSts w v xs) (hg:∀ x∈xs,gSt w x) :
  Calls Tryz.prog 37 #[v,.int .i64 node] w fun e w'=>(∃ v',e=.returned (.tuple #[v',.int .i64 (ofM xs node).2])/\Own w.heap.size 190 eEv 4 w' v' (ofM xs node).1)/\Below w.heap.size w w':=by
 obtain ⟨a,cap,rfl,hcap,hbig,hs⟩:=hv
 by_cases h1:10000<xs.length
 ·go_enter Tryz.func37,Tryz.ntmps37
  go_wp2_with fail
  go_ret2
  have hR:ofM xs node=([],4):=by simp [ofM,h1]
  rw [hR]
  exact ⟨⟨_,rfl,World.ownsRow_nil _ _ _ _⟩,qr⟩
 ·have HG:=qh hg
  clear hg
  go_enter Tryz.func37,Tryz.ntmps37
  go_wp2_with (refine wpList_mk0 _ rfl _ _ 28 rfl w.heap.size 3 _ 1 8 undInts infInt eInt _ xs.length rfl rfl rfl om om (Nat.le_refl _) ?_;intro w1 hown1 hb1)
  go_loopw [6,17] (fun s6 s17 wr=>∃ (k:Nat) (out:List Int),k<=xs.length/\s17=.int .i64 k/\out.length=k/\Own w.heap.size 3 eInt 1 wr s6 out/\Below w.heap.size w wr/\Hid (ofGo node xs []=ofGo node (xs.drop k) out)) (fun _ i _=>xs.length-(intOf i).toNat)
  case atStart=>exact ⟨0,[],Nat.zero_le _,rfl,rfl,hown1,hb1,rfl⟩
  case round=>
   obtain ⟨k,out,hk,rfl,hol,hown,hb,hm⟩:=hrel
   have hol':=qh hol
   have hlo:out.length<2147483648:=by omega
   have hsz:=hb.size
   clear hol
   by_cases hlt:k<xs.length
   ·obtain ⟨b,off,rfl,c0,c1,c2,c3⟩:=(hs.mono hb).st k hlt
    have hgk:=((HG.out _ (List.getElem_mem hlt)).2.1).later hb
    have hdrop:Hid (xs.drop k=xs[k] :: xs.drop (k+1)):=List.drop_eq_getElem_cons hlt
    clear hs
    generalize xs[k]=x at *
    obtain ⟨V,⟨aP,cP,P⟩,S,O⟩:=x
    obtain ⟨q1,q2,q3,q4⟩:=hgk
    simp only at q1 q2 q3 q4 c1
    by_cases hn:node<0\/(P.length:Int)<=node
    ·have hR:ofM xs node=([],2):=by simp [ofM,h1,hm.out,hdrop.out,ofGo,hn]
     have HR:=qh hR
     clear hR
     by_cases hn0:node<0
     all_goals
      go_wp2_with fail
      go_ret2
      rw [HR.out]
      exact ⟨⟨_,rfl,World.ownsRow_nil _ _ _ _⟩,bl⟩
    ·obtain ⟨i,rfl⟩:∃ i:Nat,node=i:=⟨node.toNat,by omega⟩
     have hi:i<P.length:=by omega
     obtain ⟨b2,off2,rfl,d0⟩:=q3.int i hi
     have hstep:Hid (ofGo i xs []=ofGo i (xs.drop (k+1)) (out ++ [P[i]])):=by
      show _=_
      rw [hm.out,hdrop.out,ofGo,if_neg hn]
      simp [List.getD,List.getElem?_eq_getElem hi]
     clear hn
     generalize P[i]=y at *
     go_wp2_with (at_builtin;go_must (refine wpList_pushB rfl _ _ 28 rfl 3 _ 1 8 undInts infInt rfl (by decide) y (fun _=>rfl) (by simp [Value.oneCell']) _ out rfl (hown.below (qr.alloc (Nat.le_refl _) _)) _ rfl (by simp) hlo (by decide) (by simp;omega) _ rfl ?_);intro g3 cap3 w2 hown2 hbg2 hgl2 hb2 hc21 hc22)
     have hbb2:=((hb.alloc hb.size _).trans hb2)
     go_wp2_with fail
     go_roundw
     case measure=>simp [intOf];omega
     case rel=>exact ⟨k+1,_,by omega,by go_num,by rw [List.length_append,hol'.out];rfl,hown2,hbb2,hstep.out⟩
   ·have hR:ofM xs node=spillsM out 1:=by
     have h2:=hm.out
     rw [List.drop_eq_nil_of_le om] at h2
     simp [ofM,h1,h2,ofGo]
    have HR:=qh hR
    clear hR
    have hI:=hown.isL (fun _=>rfl)
    go_wp2_with fail
    refine Calls.to (spillsX_any out _ 1 _ hI) ?_
    rintro e w3 ⟨v',rfl,hown3⟩ hb3
    go_wp2_with fail
    go_ret2
    rw [HR.out]
    exact ⟨⟨_,rfl,hown3.base hb.size⟩,hb.trans (hb3.mono hb.size)⟩
def wsum (s:Int):List Int->Int
 | []=>s
 | v :: r=>wsum (wrap64 (s+v)) r
def totalGo (g at':Int):Nat->List St->Int×Int×Int
 | _,[]=>if g<0 then (0,0,14) else (g,at',0)
 | k,s :: r=>if s.P.xs.any volBad=true then (0,0,2) else if g<wsum 0 s.P.xs then totalGo (wsum 0 s.P.xs) k (k+1) r else totalGo g at' (k+1) r
def totalM (xs:List St):Int×Int×Int:=
 if 10000<xs.length\/(xs.any fun s=>decide (300<(s.P.xs.length:Int)))=true then (0,0,4) else totalGo (-1) 0 0 xs
def TotIs (t:Int×Int×Int) (e:Ending):Prop:=e=.returned (.tuple #[.int .i64 t.1,.int .i64 t.2.1,.int .i64 t.2.2])
theorem total_any (xs:List St) (v:Value) (w:World) (hv:IsSts w v xs) (hg:∀ x∈xs,gSt w x) :
  Calls Tryz.prog 36 #[v] w fun e w'=>TotIs (totalM xs) e/\Below w.heap.size w w':=by
 have hv':=hv
 obtain ⟨a,cap,rfl,hcap,hbig,hs⟩:=hv
 by_cases h1:10000<xs.length
 ·have d1:decide (10000<xs.length)=true:=by simpa using h1
  go_enter Tryz.func36,Tryz.ntmps36
  go_wp2_with fail
  go_ret3
  exact ⟨by simp [TotIs,totalM,h1],qr⟩
 ·have d1:decide (10000<xs.length)=false:=by simpa using h1
  have HG:=qh hg
  clear hg
  cases h2:xs.any fun s=>decide (300<(s.P.xs.length:Int))
  ·have H2:=qh h2
   have HT:Hid (totalM xs=totalGo (-1) 0 0 xs):=by
    show _=_
    unfold totalM
    rw [if_neg]
    rintro (h|h)
    ·exact h1 h
    ·rw [h2] at h;cases h
   clear h2
   go_enter Tryz.func36,Tryz.ntmps36
   go_wp2_with fail
   refine Calls.to (containsSts 104 #[] ent104 _ xs _ w hv' (fun W _ x _=>total1 x W)) ?_
   rintro e w1 rfl hb1
   rw [H2.out]
   go_wp2_with fail
   go_loopw [5,6,22] (fun s5 s6 s22 wr=>∃ (k:Nat) (g t:Int),k<=xs.length/\s22=.int .i64 k/\s5=.int .i64 g/\s6=.int .i64 t/\Below w.heap.size w wr/\Hid (totalGo (-1) 0 0 xs=totalGo g t k (xs.drop k))) (fun _ _ i _=>xs.length-(intOf i).toNat)
   case atStart=>exact ⟨0,-1,0,Nat.zero_le _,rfl,rfl,rfl,hb1,rfl⟩
   case round=>
    obtain ⟨k,g,t,hk,rfl,rfl,rfl,hb,hm⟩:=hrel
    have hsz:=hb.size
    by_cases hlt:k<xs.length
    ·obtain ⟨b,off,rfl,c0,c1,c2,c3⟩:=(hs.mono hb).st k hlt
     have hgk:=((HG.out _ (List.getElem_mem hlt)).2.1).later hb
     have hdrop:Hid (xs.drop k=xs[k] :: xs.drop (k+1)):=List.drop_eq_getElem_cons hlt
     clear hs hv'
     generalize xs[k]=x at *
     obtain ⟨V,⟨aP,cP,P⟩,S,O⟩:=x
     obtain ⟨q1,q2,q3,q4⟩:=hgk
     simp only at q1 q2 q3 q4 c0 c1 c2 c3
     have hstep:Hid (totalGo (-1) 0 0 xs=if P.any volBad=true then (0,0,2) else if g<wsum 0 P then totalGo (wsum 0 P) k (k+1) (xs.drop (k+1)) else totalGo g t (k+1) (xs.drop (k+1))):=by
      show _=_
      rw [hm.out,hdrop.out,totalGo]
     have hbx:Below wr.heap.size wr (wr.alloc (.cells #[vSl V,.slice aP P.length cP,vSl S,vSl O] 31)):=qr.alloc (Nat.le_refl _) _
     have hI:IsInts (wr.alloc (.cells #[vSl V,.slice aP P.length cP,vSl S,vSl O] 31)) (.slice aP P.length cP) P:=⟨aP,cP,rfl,q1,q2,q3.mono hbx⟩
     cases hbad:P.any volBad
     ·have HB:=qh hbad
      clear hbad
      go_wp2_with fail
      refine Calls.to (volumes_any P _ _ hI) ?_
      rintro e w2 rfl hb2
      rw [HB.out]
      have hb2':=hbx.trans (hb2.mono hbx.size)
      have hbb2:=hb.trans (hb2'.mono hb.size)
      have e1:w2.cell? ⟨wr.heap.size,1,none⟩=some (.slice aP P.length cP):=by
       rw [hb2.cell (by simp),World.cell?_alloc_new];rfl
      have q3':=q3.mono hb2'
      clear hb2 hI hbx
      go_wp2_with fail
      go_loop [10,36] (fun s i=>∃ (j:Nat) (sm:Int),j<=P.length/\i=.int .i64 j/\s=.int .i64 sm/\Hid (wsum 0 P=wsum sm (P.drop j))) (fun _ i=>P.length-(intOf i).toNat)
      case atStart=>exact ⟨0,0,Nat.zero_le _,rfl,rfl,rfl⟩
      case round=>
       obtain ⟨j,sm,hj,rfl,rfl,hw⟩:=hrel
       by_cases hjl:j<P.length
       ·obtain ⟨b2,off2,rfl,d0⟩:=q3'.int j hjl
        have hd2:Hid (P.drop j=P[j] :: P.drop (j+1)):=List.drop_eq_getElem_cons hjl
        generalize P[j]=y at *
        go_wp2_with fail
        go_round
        case measure=>simp [intOf];omega
        case rel=>exact ⟨j+1,_,by omega,by go_num,rfl,hw.out.trans (by rw [hd2.out,wsum])⟩
       ·have hw':=hw.out
        rw [List.drop_eq_nil_of_le om] at hw'
        simp only [wsum] at hw'
        have HW:=qh hw'
        clear hw'
        by_cases hgs:g<sm
        all_goals
         have HGS:=qh hgs
         go_wp2_with fail
         go_roundw
         case measure=>simp [intOf];omega
        ·exact ⟨k+1,_,_,by omega,by go_num,rfl,rfl,hbb2,by show _=_;rw [hstep.out,HB.out,HW.out];simp only [HGS.out,Bool.false_eq_true,if_true,if_false]⟩
        ·exact ⟨k+1,_,_,by omega,by go_num,rfl,rfl,hbb2,by show _=_;rw [hstep.out,HB.out,HW.out];simp only [HGS.out,Bool.false_eq_true,if_true,if_false]⟩
     ·have HB:=qh hbad
      clear hbad
      go_wp2_with fail
      refine Calls.to (volumes_any P _ _ hI) ?_
      rintro e w2 rfl hb2
      rw [HB.out]
      have hb2':=hbx.trans (hb2.mono hbx.size)
      have hbb2:=hb.trans (hb2'.mono hb.size)
      go_wp2_with fail
      go_ret3
      exact ⟨by simp [TotIs,HT.out,hstep.out,HB.out],hbb2⟩
    ·have h3:=hm.out
     rw [List.drop_eq_nil_of_le om,totalGo] at h3
     have H3:=qh h3
     clear h3
     by_cases hg0:g<0
     ·have hT:totalM xs=(0,0,14):=by rw [HT.out,H3.out,if_pos hg0]
      have HTT:=qh hT
      clear hT
      go_wp2_with fail
      go_ret3
      exact ⟨by simp [TotIs,HTT.out],hb⟩
     ·have hT:totalM xs=(g,t,0):=by rw [HT.out,H3.out,if_neg hg0]
      have HTT:=qh hT
      clear hT
      go_wp2_with fail
      go_ret3
      exact ⟨by simp [TotIs,HTT.out],hb⟩
  ·have H2:=qh h2
   clear h2
   go_enter Tryz.func36,Tryz.ntmps36
   go_wp2_with fail
   refine Calls.to (containsSts 104 #[] ent104 _ xs _ w hv' (fun W _ x _=>total1 x W)) ?_
   rintro e w1 rfl hb1
   rw [H2.out]
   go_wp2_with fail
   go_ret3
   exact ⟨by have hq:totalM xs=(0,0,4):=(by unfold totalM;rw [if_pos (.inr H2.out)]);simp [TotIs,hq],hb1⟩
end Go.Proofs.YtoiakijmbghhlaaGreat
