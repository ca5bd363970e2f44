/- overflow: spills, volumes, big, as in chapter 38. Conditions: the arguments read as data. | Plain facts on the way of a spill: how long it can be, one step of it. No function is named. Conditions: none. -/
import Derived.BigRegion
import Derived.Deep.RegionHeld3
import Derived.Deep.DeepMust
import Derived.Deep.QuietTactic
import Derived.BigQuiet
import Derived.Lib.Hide
import Derived.Test.YtoiakijmbghhlaaGreatS00
import Derived.Test.YtoiakijmbghhlaaGreatS02
import Derived.Test.YtoiakijmbghhlaaGreatS01
import Derived.Test.YtoiakijmbghhlaaGreatS05
import Derived.Test.YtoiakijmbghhlaaGreatS17
set_option linter.unusedVariables false
set_option linter.unusedSimpArgs false
set_option maxRecDepth 100000
set_option maxHeartbeats 32000000
namespace Go.Proofs.YtoiakijmbghhlaaGreat
open Go.RowKit
theorem ent177:∀ args w,(callFunc 177 args).run Tryz.prog w=.ok (.enter 177 args) w:=by
 intro args w
 simp [go_sem]
def volBad (v:Int):Bool:=decide (v<0)||decide (1125899906842624<v)
theorem volumes1 (v:Int) (w:World):Calls Tryz.prog 177 #[.int .i64 v] w fun e w'=>e=.returned (.bool (volBad v))/\Below w.heap.size w w':=by
 go_enter Tryz.func177,Tryz.ntmps177
 unfold volBad
 by_cases h:v<0
 all_goals
  go_wp2
  go_ret
  exact ⟨by simp <;> omega,qr⟩
theorem volumes_any (xs:List Int) (v:Value) (w:World) (hv:IsInts w v xs) :
  Calls Tryz.prog 105 #[v] w fun e w'=>e=.returned (.int .i64 (if xs.any volBad then 2 else 0))/\Below w.heap.size w w':=by
 cases ht:xs.any volBad
 all_goals
  go_enter Tryz.func105,Tryz.ntmps105
  go_wp2_with fail
  refine Calls.to (containsInts 177 #[] ent177 volBad xs v w hv (fun W _ x _=>volumes1 x W)) ?_
  rintro e w1 rfl hb
  go_wp2_with fail
  go_ret
  exact ⟨rfl,hb⟩
def bigGo (s:Int):List Int->Bool
 | []=>false
 | v :: r=>if 1152921504606846976<wrap64 (s+v) then true else bigGo (wrap64 (s+v)) r
theorem big_any (xs:List Int) (v:Value) (w:World) (hv:IsInts w v xs) :
  Calls Tryz.prog 149 #[v] w fun e w'=>e=.returned (.bool (bigGo 0 xs))/\Below w.heap.size w w':=by
 obtain ⟨a,cap,rfl,hcap,hbig,hs⟩:=hv
 go_enter Tryz.func149,Tryz.ntmps149
 go_wp2
 go_loop [3,8] (fun s s8=>∃ (k:Nat) (t:Int),k<=xs.length/\s8=.int .i64 k/\s=.int .i64 t/\Hid (bigGo 0 xs=bigGo t (xs.drop k))) (fun _ i=>xs.length-(intOf i).toNat)
 case atStart=>exact ⟨0,0,Nat.zero_le _,rfl,rfl,rfl⟩
 case round=>
  obtain ⟨k,t,hk,rfl,rfl,hm⟩:=hrel
  by_cases hlt:k<xs.length
  ·obtain ⟨b,off,rfl,hc⟩:=hs.int k hlt
   have hstep:Hid (bigGo t (xs.drop k)=if 1152921504606846976<wrap64 (t+xs[k]) then true else bigGo (wrap64 (t+xs[k])) (xs.drop (k+1))):=by
    rw [List.drop_eq_getElem_cons hlt];rfl
   clear hs
   generalize xs[k]=y at *
   by_cases hq:1152921504606846976<wrap64 (t+y)
   all_goals
    go_wp2
   ·go_ret
    exact ⟨ret_bool (hm.out.trans (hstep.out.trans (if_pos hq))).symm,qr⟩
   ·go_round
    case rel=>exact ⟨k+1,_,by omega,by go_num,rfl,hm.out.trans (hstep.out.trans (if_neg om))⟩
    case measure=>simp [intOf];omega
  ·go_wp2
   go_ret
   refine ⟨ret_bool ?_,qr⟩
   rw [hm.out,List.drop_eq_nil_of_le om];rfl
def spillsGo (dry:Int):List Int->Nat->List Ev->Bool->Int->List Ev
 | [],_,out,_,_=>out
 | v :: r,k,out,op,last=>
  if v=0 then spillsGo dry r (k+1) out op last
  else
   let out':=if op=false\/dry<=k-last-1 then out ++ [⟨k,0,0,0⟩] else out
   let x:=out'.getD (out'.length-1) default
   spillsGo dry r (k+1) (out'.set (out'.length-1) ⟨x.From,k+1,wrap64 (x.Total+v),if x.Peak<v then v else x.Peak⟩) true k
theorem undEvs:Tryz.prog.underlying 94=some (.slice 190):=by kernel_rfl
theorem infEv:(Tryz.prog.info? 190).map (fun i=>(i.zero,i.size,i.bytes))=some (some (.agg #[.int .i64 0,.int .i64 0,.int .i64 0,.int .i64 0]),4,32):=by kernel_rfl
theorem spills_any (xs:List Int) (v:Value) (dry:Int) (w:World) (hv:IsInts w v xs) (hlen:xs.length<=10000) :
  Calls Tryz.prog 150 #[v,.int .i64 dry] w fun e w'=>(∃ v',e=.returned v'/\Own w.heap.size 190 eEv 4 w' v' (spillsGo dry xs 0 [] false 0))/\Below w.heap.size w w':=by
 obtain ⟨a,cap,rfl,hcap,hbig,hs⟩:=hv
 go_enter Tryz.func150,Tryz.ntmps150
 go_wp2
 go_loopw [5,6,7,13] (fun s5 s6 s7 s13 wr=>∃ (k:Nat) (out:List Ev) (op:Bool) (last:Int),k<=xs.length/\s13=.int .i64 k/\s6=.bool op/\s7=.int .i64 last/\0<=last/\last<=k/\out.length<=k/\Hid (op=true->out≠[]) /\
   Own w.heap.size 190 eEv 4 wr s5 out/\Below w.heap.size w wr/\Hid (spillsGo dry xs 0 [] false 0=spillsGo dry (xs.drop k) k out op last)) (fun _ _ _ i _=>xs.length-(intOf i).toNat)
 case atStart=>exact ⟨0,[],false,0,Nat.zero_le _,rfl,rfl,rfl,by omega,by omega,by simp,by simp [Hid],World.ownsRow_nil _ _ _ _,qr,rfl⟩
 case round=>
  obtain ⟨k,out,op,last,hk,rfl,rfl,rfl,hl0,hlk,hol,hop,hown,hb,hm⟩:=hrel
  by_cases hlt:k<xs.length
  ·obtain ⟨b,off,rfl,hc⟩:=(hs.mono hb).int k hlt
   clear hs
   have hdrop:Hid (xs.drop k=xs[k] :: xs.drop (k+1)):=List.drop_eq_getElem_cons hlt
   generalize xs[k]=y at *
   by_cases hy:y=0
   ·subst hy
    go_wp2
    go_roundw
    case rel=>exact ⟨k+1,out,op,last,by omega,by go_num,rfl,rfl,hl0,by omega,by omega,hop,hown,hb,hm.out.trans (by rw [hdrop.out];simp [spillsGo])⟩
    case measure=>simp [intOf];omega
   ·have hy':(y==0)=false:=by simpa using hy
    cases op
    ·go_wp2_with (at_builtin;go_must (refine wpList_push rfl _ _ 94 rfl 190 _ 4 32 undEvs infEv rfl (by decide) ⟨k,0,0,0⟩ eEv_len (by simp [Value.oneCell']) _ out rfl hown rfl om (by decide) hb.size _ rfl ?_);intro g cap2 w1 hown1 hbg hgl hb1 hc1 hc2)
     have hbw:=hb.trans hb1
     have hlen1:(out ++ [(⟨k,0,0,0⟩:Ev)]).length=out.length+1:=by simp
     have c2:=hown1.cellAt' eEv_len out.length 2 (by simp) om
     have c3:=hown1.cellAt' eEv_len out.length 3 (by simp) om
     have c1:=hown1.cellAt' eEv_len out.length 1 (by simp) om
     have f1:=hown1.free (out.length*4+1)
     have f2:=hown1.free (out.length*4+2)
     have f3:=hown1.free (out.length*4+3)
     simp at c1 c2 c3
     go_region
     go_wp2
     go_roundw
     case rel=>
      refine ⟨k+1,_,true,k,by omega,by go_num,rfl,rfl,by omega,by omega,?_,?_,((hown1.store eEv_len out.length 1 (by simp) om _ ⟨k,k+1,0,0⟩ ?_).store eEv_len out.length 2 (by simp) om _ ⟨k,k+1,wrap64 y,0⟩ ?_).store eEv_len out.length 3 (by simp) om _ ⟨k,k+1,wrap64 y,if 0<y then y else 0⟩ ?_,bl,hm.out.trans ?_⟩
      ·simp;omega
      ·simp [Hid]
      ·simp
      ·simp
      ·simp
      ·rw [hdrop.out]
       simp [spillsGo,hy]
     case measure=>simp [intOf];omega
    ·have hne:0<out.length:=by
      have:=hop.out rfl
      cases out
      ·exact absurd rfl this
      ·simp
     by_cases hd:dry<=k-last-1
     ·go_wp2_with (at_builtin;go_must (refine wpList_push rfl _ _ 94 rfl 190 _ 4 32 undEvs infEv rfl (by decide) ⟨k,0,0,0⟩ eEv_len (by simp [Value.oneCell']) _ out rfl hown rfl om (by decide) hb.size _ rfl ?_);intro g cap2 w1 hown1 hbg hgl hb1 hc1 hc2)
      have hbw:=hb.trans hb1
      have hlen1:(out ++ [(⟨k,0,0,0⟩:Ev)]).length=out.length+1:=by simp
      have c2:=hown1.cellAt' eEv_len out.length 2 (by simp) om
      have c3:=hown1.cellAt' eEv_len out.length 3 (by simp) om
      have c1:=hown1.cellAt' eEv_len out.length 1 (by simp) om
      have f1:=hown1.free (out.length*4+1)
      have f2:=hown1.free (out.length*4+2)
      have f3:=hown1.free (out.length*4+3)
      simp at c1 c2 c3
      go_region
      go_wp2
      go_roundw
      case rel=>
       refine ⟨k+1,_,true,k,by omega,by go_num,rfl,rfl,by omega,by omega,?_,?_,((hown1.store eEv_len out.length 1 (by simp) om _ ⟨k,k+1,0,0⟩ ?_).store eEv_len out.length 2 (by simp) om _ ⟨k,k+1,wrap64 y,0⟩ ?_).store eEv_len out.length 3 (by simp) om _ ⟨k,k+1,wrap64 y,if 0<y then y else 0⟩ ?_,bl,hm.out.trans ?_⟩
       ·simp;omega
       ·simp [Hid]
       ·simp
       ·simp
       ·simp
       ·rw [hdrop.out]
        simp [spillsGo,hy,hd]
      case measure=>simp [intOf];omega
     ·obtain ⟨n,hn⟩:∃ n,out.length=n+1:=⟨out.length-1,by omega⟩
      obtain ⟨g,cap2,rfl,hbg,hgl,hc1,hc2⟩:=hown.place hne
      have hnl:n<out.length:=by omega
      obtain ⟨E,hE⟩:∃ E,Hid (out[n]'hnl=E):=⟨out[n]'hnl,rfl⟩
      have c1:=hown.cellAt' eEv_len n 1 om om
      have c2:=hown.cellAt' eEv_len n 2 om om
      have c3:=hown.cellAt' eEv_len n 3 om om
      rw [hE.out] at c1 c2 c3
      have f1:=hown.free (n*4+1)
      have f2:=hown.free (n*4+2)
      have f3:=hown.free (n*4+3)
      simp at c1 c2 c3
      rw [hn] at hown hc1 ⊢
      have Hn:Hid (out.length=n+1):=hn
      have hnk:n<k:=by omega
      have Hne:Hid (out≠[]):=hop.out rfl
      have Hd:Hid (¬ dry<=k-last-1):=hd
      clear hn hol hne hop
      by_cases hp:E.Peak<y
      all_goals
       go_wp2
       go_region
       go_wp2
       go_roundw
       case rel=>
        refine ⟨k+1,_,true,k,by omega,by go_num,rfl,rfl,by omega,by omega,?_,?_,((hown.store eEv_len n 1 om om _ ⟨E.From,k+1,E.Total,E.Peak⟩ ?_).store eEv_len n 2 (by simp;omega) om _ ⟨E.From,k+1,wrap64 (E.Total+y),E.Peak⟩ ?_).store eEv_len n 3 (by simp;omega) om _ ⟨E.From,k+1,wrap64 (E.Total+y),if E.Peak<y then y else E.Peak⟩ ?_,bl,hm.out.trans ?_⟩
        ·simp [Hn.out];omega
        ·simp [Hid,Hne.out]
        ·rw [hE.out];simp
        ·simp
        ·first|(rw [if_pos hp];simp;done)|(rw [if_neg om];simp)
        ·rw [hdrop.out]
         have hd2:¬ dry<=(k:Int)-last-1:=by have:=Hd.out;omega
         simp [spillsGo,hy,hd2,Hn.out,hE.out,hnl]
       case measure=>simp [intOf];omega
  ·go_wp2
   go_ret
   refine ⟨⟨_,rfl,?_⟩,hb⟩
   rw [hm.out,List.drop_eq_nil_of_le om];exact hown
def spillsM (xs:List Int) (dry:Int):List Ev×Int:=
 if 10000<xs.length then ([],4)
 else if xs.any volBad=true\/dry<1 then ([],2)
 else if bigGo 0 xs=true then ([],5)
 else (spillsGo dry xs 0 [] false 0,0)
theorem spillsX_any (xs:List Int) (v:Value) (dry:Int) (w:World) (hv:IsInts w v xs) :
  Calls Tryz.prog 85 #[v,.int .i64 dry] w fun e w'=>(∃ v',e=.returned (.tuple #[v',.int .i64 (spillsM xs dry).2])/\Own w.heap.size 190 eEv 4 w' v' (spillsM xs dry).1)/\Below w.heap.size w w':=by
 unfold spillsM
 obtain ⟨a,cap,rfl,hcap,hbig,hs⟩:=hv
 have hv:IsInts w (.slice a xs.length cap) xs:=⟨a,cap,rfl,hcap,hbig,hs⟩
 by_cases h1:10000<xs.length
 ·rw [if_pos h1]
  go_enter Tryz.func85,Tryz.ntmps85
  go_wp2_with fail
  go_ret2
  exact ⟨⟨_,rfl,World.ownsRow_nil _ _ _ _⟩,qr⟩
 ·rw [if_neg h1]
  by_cases h2:xs.any volBad=true
  ·rw [if_pos (.inl h2)]
   go_enter Tryz.func85,Tryz.ntmps85
   go_wp2_with fail
   refine Calls.to (volumes_any xs _ _ hv) ?_
   rintro e w1 rfl hb
   go_wp2_with fail
   go_ret2
   exact ⟨⟨_,rfl,World.ownsRow_nil _ _ _ _⟩,hb⟩
  ·by_cases h3:dry<1
   ·rw [if_pos (.inr h3)]
    go_enter Tryz.func85,Tryz.ntmps85
    go_wp2_with fail
    refine Calls.to (volumes_any xs _ _ hv) ?_
    rintro e w1 rfl hb
    go_wp2_with fail
    go_ret2
    exact ⟨⟨_,rfl,World.ownsRow_nil _ _ _ _⟩,hb⟩
   ·rw [if_neg (by intro h;rcases h with h|h <;> contradiction)]
    have h2':xs.any volBad=false:=by simpa using h2
    clear h2
    cases h4:bigGo 0 xs
    all_goals
     go_enter Tryz.func85,Tryz.ntmps85
     go_wp2_with fail
     refine Calls.to (volumes_any xs _ _ hv) ?_
     rintro e w1 rfl hb
     go_wp2_with fail
     refine Calls.to (big_any xs _ _ (hv.mono hb)) ?_
     rintro e w2 rfl hb2
     have hbb:=hb.trans (hb2.mono hb.size)
     go_wp2_with fail
    ·refine Calls.mono (spills_any xs _ dry _ (hv.mono hbb) om) ?_
     rintro e w3 ⟨⟨v',rfl,hown⟩,hb3⟩
     go_wp2_with fail
     go_ret2
     exact ⟨⟨_,rfl,hown.base (by have:=hbb.size;omega)⟩,hbb.trans (hb3.mono hbb.size)⟩
    ·go_ret2
     exact ⟨⟨_,rfl,World.ownsRow_nil _ _ _ _⟩,hbb⟩
def evBad (last:Int) (x:Ev):Bool:=
 decide (x.From<last)||decide (x.To<=x.From)||decide (10000<x.To)||decide (x.Peak<1)||decide (1125899906842624<x.Peak)||decide (x.Total<x.Peak)||decide (1152921504606846976<x.Total) ||
 decide (x.To-x.From<x.Total / x.Peak)||(decide (x.Total / x.Peak=x.To-x.From)&&decide (0<x.Total % x.Peak))
def rightGo (last:Int):List Ev->Bool
 | []=>true
 | x :: r=>if evBad last x then false else rightGo x.To r
def rightM (xs:List Ev):Bool:=if 10000<xs.length then false else rightGo 0 xs
theorem right_any (xs:List Ev) (v:Value) (w:World) (hv:IsEvs w v xs) :
  Calls Tryz.prog 106 #[v] w fun e w'=>e=.returned (.bool (rightM xs))/\Below w.heap.size w w':=by
 obtain ⟨a,cap,rfl,hcap,hbig,hs⟩:=hv
 unfold rightM
 by_cases h0:10000<xs.length
 ·rw [if_pos h0]
  go_enter Tryz.func106,Tryz.ntmps106
  go_wp2_with fail
  go_ret
  exact ⟨rfl,qr⟩
 ·rw [if_neg h0]
  go_enter Tryz.func106,Tryz.ntmps106
  go_wp2_with fail
  go_loopw [3,11] (fun s3 s6 wr=>∃ (k:Nat) (t:Int),k<=xs.length/\s6=.int .i64 k/\s3=.int .i64 t/\0<=t/\Below w.heap.size w wr/\Hid (rightGo 0 xs=rightGo t (xs.drop k))) (fun _ i _=>xs.length-(intOf i).toNat)
  case atStart=>exact ⟨0,0,Nat.zero_le _,rfl,rfl,by omega,qr,rfl⟩
  case round=>
   obtain ⟨k,t,hk,rfl,rfl,ht0,hb,hm⟩:=hrel
   by_cases hlt:k<xs.length
   ·obtain ⟨b,off,rfl,c1,c2,c3,c4⟩:=(hs.mono hb).ev k hlt
    have hdrop:Hid (xs.drop k=xs[k] :: xs.drop (k+1)):=List.drop_eq_getElem_cons hlt
    clear hs
    generalize xs[k]=x at *
    have hfalse:evBad t x=true->rightGo 0 xs=false:=by
     intro h;rw [hm.out,hdrop.out];simp [rightGo,h]
    have HF:=qh hfalse
    clear hfalse
    by_cases q1:x.From<t
    ·go_wp2_with fail
     go_ret
     exact ⟨ret_bool (HF.out (by simp [evBad,q1])).symm,bl⟩
    by_cases q2:x.To<=x.From
    ·go_wp2_with fail
     go_ret
     exact ⟨ret_bool (HF.out (by simp [evBad,q2])).symm,bl⟩
    by_cases q3:10000<x.To
    ·go_wp2_with fail
     go_ret
     exact ⟨ret_bool (HF.out (by simp [evBad,q3])).symm,bl⟩
    by_cases q4:x.Peak<1
    ·go_wp2_with fail
     go_ret
     exact ⟨ret_bool (HF.out (by simp [evBad,q4])).symm,bl⟩
    by_cases q5:1125899906842624<x.Peak
    ·go_wp2_with fail
     go_ret
     exact ⟨ret_bool (HF.out (by simp [evBad,q5])).symm,bl⟩
    by_cases q6:x.Total<x.Peak
    ·go_wp2_with fail
     go_ret
     exact ⟨ret_bool (HF.out (by simp [evBad,q6])).symm,bl⟩
    by_cases q7:1152921504606846976<x.Total
    ·go_wp2_with fail
     go_ret
     exact ⟨ret_bool (HF.out (by simp [evBad,q7])).symm,bl⟩
    have b1:0<=x.Total:=by omega
    have b2:1<=x.Peak:=by omega
    have b3:0<=x.From:=by omega
    have b4:x.To<=10000:=by omega
    have b5:x.From<x.To:=by omega
    have b6:x.Total<=1152921504606846976:=by omega
    have b7:0<=x.Total / x.Peak:=Int.ediv_nonneg om om
    have b8:x.Total / x.Peak<=x.Total:=Int.ediv_le_self _ om
    have z0:(x.Peak==0)=false:=by simp;omega
    by_cases q8:x.To-x.From<x.Total / x.Peak
    ·go_wp2_with fail
     go_quiet (fail)
     go_wp2_with fail
     go_ret
     exact ⟨ret_bool (HF.out (by simp [evBad,q8])).symm,bl⟩
    have q8':decide (x.To-x.From<x.Total / x.Peak)=false:=by simpa using q8
    have Q8:=qh q8
    clear q8
    have hgood:x.Total / x.Peak≠x.To-x.From\/¬ 0<x.Total % x.Peak->evBad t x=false:=by
     intro h
     have q8:=Q8.out
     rcases h with h|h <;> simp [evBad,h] <;> omega
    have HG:=qh hgood
    clear hgood
    by_cases q9:x.Total / x.Peak=x.To-x.From
    ·have q9':(x.Total / x.Peak==x.To-x.From)=true:=by simpa using q9
     have Q9:=qh q9
     clear q9
     by_cases q10:0<x.Total % x.Peak
     ·go_wp2_with fail
      go_quiet (fail)
      go_wp2_with fail
      go_ret
      exact ⟨ret_bool (HF.out (by simp [evBad,Q9.out,q10])).symm,bl⟩
     ·go_wp2_with fail
      go_quiet (fail)
      go_wp2_with fail
      go_roundw
      case rel=>exact ⟨k+1,_,by omega,by go_num,rfl,by omega,bl,hm.out.trans (by rw [hdrop.out];simp [rightGo,HG.out (.inr q10)])⟩
      case measure=>simp [intOf];omega
    ·have q9':(x.Total / x.Peak==x.To-x.From)=false:=by simpa using q9
     have Q9:=qh q9
     clear q9
     go_wp2_with fail
     go_quiet (fail)
     go_wp2_with fail
     go_roundw
     case rel=>exact ⟨k+1,_,by omega,by go_num,rfl,by omega,bl,hm.out.trans (by rw [hdrop.out];simp [rightGo,HG.out (.inl Q9.out)])⟩
     case measure=>simp [intOf];omega
   ·go_wp2_with fail
    go_ret
    refine ⟨ret_bool ?_,hb⟩
    rw [hm.out,List.drop_eq_nil_of_le om];rfl
theorem nodup_len:∀ (N:Nat) (ys:List Int),ys.Nodup->(∀ y∈ys,0<=y/\y<(N:Int))->ys.length<=N
 | 0,ys,_,h=>by
  cases ys with
  | nil=>simp
  | cons y r=>have:=h y (by simp);omega
 | N+1,ys,hn,h=>by
  have h1:=nodup_len N (ys.erase (N:Int)) (hn.erase _) (by
   intro y hy
   have hm:=List.mem_of_mem_erase hy
   have hb:=h y hm
   have hne:y≠(N:Int):=by
    rintro rfl
    exact (List.Nodup.not_mem_erase hn) hy
   omega)
  have h2:=List.length_erase (a:=(N:Int)) (l:=ys)
  split at h2 <;> omega
theorem lastI_snoc (ys:List Int) (k:Int):lastI (ys ++ [k])=k:=by
 simp [lastI,List.getD]
theorem causeM_stop1 {ns:List Nd} {ls:List Lk} {V:List Int} {f:Nat} {w:List Int} (h:nextM ns (nmAt ns (lastI w).toNat) ls<0):causeM ns ls V (f+1) w=lastI w:=by
 simp [causeM,h]
theorem causeM_stop2 {ns:List Nd} {ls:List Lk} {V:List Int} {f:Nat} {w:List Int} (h:w.contains (nextM ns (nmAt ns (lastI w).toNat) ls)=true):causeM ns ls V (f+1) w=lastI w:=by
 simp only [causeM,h,if_true]
 split <;> rfl
theorem causeM_stop3 {ns:List Nd} {ls:List Lk} {V:List Int} {f:Nat} {w:List Int} (h:fullM ns V (nextM ns (nmAt ns (lastI w).toNat) ls).toNat=false):causeM ns ls V (f+1) w=lastI w:=by
 simp only [causeM,h]
 split
 ·rfl
 ·split <;> rfl
theorem causeM_step {ns:List Nd} {ls:List Lk} {V:List Int} {f:Nat} {w:List Int} (h1:¬ nextM ns (nmAt ns (lastI w).toNat) ls<0) (h2:w.contains (nextM ns (nmAt ns (lastI w).toNat) ls)=false)
  (h3:fullM ns V (nextM ns (nmAt ns (lastI w).toNat) ls).toNat=true):causeM ns ls V (f+1) w=causeM ns ls V f (w ++ [nextM ns (nmAt ns (lastI w).toNat) ls]):=by
 simp only [causeM,h1,h2,h3,if_false,if_true,Bool.false_eq_true]
end Go.Proofs.YtoiakijmbghhlaaGreat
