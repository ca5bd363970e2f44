/- Lists of numbers: sought, compared, written out. No function of the program is named. Conditions: none. -/
import Derived.Deep.RegionHeld3
import Derived.Deep.DeepMust
import Derived.Deep.DeepCutAuto
import Derived.Deep.QuietTactic
import Derived.BigQuiet
import Derived.Lib.Hide
import Derived.Test.YtoiakijmbghhlaaGreatS01
set_option linter.unusedVariables false
set_option linter.unusedSimpArgs false
set_option maxRecDepth 100000
set_option maxHeartbeats 32000000
namespace Go.Proofs.YtoiakijmbghhlaaGreat
open Go.RowKit
theorem indexInts (g:Nat) (lb:Array Value) (eg:∀ args w,(callFunc g args).run Tryz.prog w=.ok (.enter g args) w) (p:Int->Bool) (xs:List Int) (v:Value) (w:World)
  (hv:IsInts w v xs) (hp:PredOn Tryz.prog g lb (fun x=>.int .i64 x) p xs w) :
  Calls Tryz.prog 81 #[v,.func (.func g) #[] lb] w fun e w'=>e=.returned (.int .i64 (idxFrom p xs 0))/\Below w.heap.size w w':=by
 obtain ⟨a,cap,rfl,hcap,hbig,hs⟩:=hv
 go_enter Tryz.func81,Tryz.ntmps81
 go_wp2
 go_loopw [5,8] (fun _ s8 wr=>∃ k:Nat,k<=xs.length/\s8=.int .i64 k/\Below w.heap.size w wr/\Hid (idxFrom p xs 0=idxFrom p (xs.drop k) k)) (fun _ i _=>xs.length-(intOf i).toNat)
 case atStart=>exact ⟨0,Nat.zero_le _,rfl,qr,rfl⟩
 case round=>
  obtain ⟨k,hk,rfl,hb,hm⟩:=hrel
  obtain ⟨x,rfl⟩:=more_of_below hb
  by_cases hlt:k<xs.length
  ·obtain ⟨b,off,rfl,hc⟩:=hs.int k hlt
   have hx:=hp (more w x) (below_more w x) xs[k] (List.getElem_mem hlt)
   have hstep:Hid (idxFrom p (xs.drop k) k=if p xs[k] then (k:Int) else idxFrom p (xs.drop (k+1)) (k+1)):=by
    rw [List.drop_eq_getElem_cons hlt];rfl
   clear hs hp
   generalize xs[k]=y at *
   cases hpy:p y
   all_goals
    rw [hpy] at hx hstep
    clear hpy
    go_wp2_with fail
    refine (Calls.on hx ?_)
    rintro e x' rfl
    go_wp2_with fail
   ·go_roundw
    case rel=>exact ⟨k+1,by omega,by go_num,bl,hm.out.trans (hstep.out.trans (by simp))⟩
    case measure=>simp [intOf];omega
   ·go_ret
    exact ⟨ret_int (hm.out.trans (hstep.out.trans (by simp))).symm,bl⟩
  ·go_wp2
   go_ret
   refine ⟨ret_int ?_,below_more _ _⟩
   rw [hm.out,List.drop_eq_nil_of_le om];rfl
theorem containsInts (g:Nat) (lb:Array Value) (eg:∀ args w,(callFunc g args).run Tryz.prog w=.ok (.enter g args) w) (p:Int->Bool) (xs:List Int) (v:Value) (w:World)
  (hv:IsInts w v xs) (hp:PredOn Tryz.prog g lb (fun x=>.int .i64 x) p xs w) :
  Calls Tryz.prog 24 #[v,.func (.func g) #[] lb] w fun e w'=>e=.returned (.bool (xs.any p))/\Below w.heap.size w w':=by
 go_enter Tryz.func24,Tryz.ntmps24
 go_wp2_with fail
 refine Calls.to (indexInts g lb eg p xs v w hv hp) ?_
 rintro e w1 rfl hb
 go_wp2_with fail
 go_ret
 exact ⟨ret_bool (idxFrom_any p xs 0),hb⟩
def eqGo {α:Type} [DecidableEq α]:List α->List α->Bool
 | x :: r,y :: s=>decide (x=y)&&eqGo r s
 | _,_=>true
theorem eqGo_iff {α:Type} [DecidableEq α]:∀ (xs ys:List α),xs.length=ys.length->eqGo xs ys=decide (xs=ys)
 | [],[],_=>by simp [eqGo]
 | x :: r,y :: s,h=>by
  simp only [eqGo,eqGo_iff r s (by simpa using h)]
  by_cases h1:x=y <;> by_cases h2:r=s <;> simp [h1,h2]
 | [],_ :: _,h=>by simp at h
 | _ :: _,[],h=>by simp at h
theorem undInts:Tryz.prog.underlying 28=some (.slice 3):=by kernel_rfl
theorem infInt:(Tryz.prog.info? 3).map (fun i=>(i.zero,i.size,i.bytes))=some (some (.int .i64 0),1,8):=by kernel_rfl
theorem isL_lit {α:Type} (enc:α->List Value) (k:Nat) (hk:∀ x,(enc x).length=k) (w:World) (b:Nat) (e:TypeId) (cs:Array Value) (xs:List α) (n cap:Nat) (hb:w.heap[b]? = some (.cells cs e (0,0))) (hn:n=xs.length) (hcs:cs.toList=xs.flatMap enc) (hc:xs.length<=cap) (hc2:cap<=9223372036854775807) :
  IsL enc k w (.slice (some ⟨b,0,none⟩) n cap) xs:=by
 refine ⟨some ⟨b,0,none⟩,cap,by rw [hn],hc,hc2,fun i hi=>⟨b,0,rfl,fun j hj=>?_⟩⟩
 have h1:=flat_get enc k hk xs i j hi hj
 rw [<-hcs] at h1
 simp only [World.cell?,hb,Nat.zero_add]
 simpa using h1
end Go.Proofs.YtoiakijmbghhlaaGreat
