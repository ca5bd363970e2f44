/- simulate.Run: what holds at the head of its loop, and one round. No function of the program is named. Conditions: none. | planLarge and planMany: what they say no to is small. Conditions: the arguments read as data. -/
import Derived.Test.YtoiakijmbghhlaaGreatS41
import Derived.Test.YtoiakijmbghhlaaGreatS26
import Derived.Test.YtoiakijmbghhlaaGreatS13
import Derived.Test.YtoiakijmbghhlaaGreatS19
import Derived.Test.YtoiakijmbghhlaaGreatS04
set_option linter.unusedVariables false
set_option linter.unusedSimpArgs false
set_option maxRecDepth 100000
set_option maxHeartbeats 32000000
namespace Go.Proofs.YtoiakijmbghhlaaGreat
open Go.RowKit
def SGood (n:Net) (s:St):Prop:=stB n s=true/\∀ i,i<n.Ns.xs.length->s.P.xs.getD i 0≠0->s.V.xs.getD i 0=capB (ndK n i)
theorem SGood.same {n:Net} {a b:St} (h:SameSt a b) (hb:SGood n b):SGood n a:=by
 obtain ⟨h1,h2,h3,h4⟩:=h
 have e:stB n a=stB n b:=by unfold stB stLen;rw [h1,h2,h3,h4]
 refine ⟨e.trans hb.1,?_⟩
 rw [h1,h2]
 exact hb.2
theorem AvS.low {B C:Nat} {vT vU:Value} {s:St} (h:AvS C vT vU s) (hB:B<=C):AvS B vT vU s:=by
 have f:∀ {α:Type} {r:Sl α},AvR C vT vU r->AvR B vT vU r:=fun h hx b off e=>⟨Nat.le_trans hB (h hx b off e).1,(h hx b off e).2⟩
 exact ⟨f h.1,f h.2.1,f h.2.2.1,f h.2.2.2⟩
structure SRunI (B b21:Nat) (w:World) (vT vU:Value) (n:Net) (sts:List St) (leds:List Led) (xk:St) (k:Nat):Prop where
 T:Own B 31 eSt 4 w vT sts
 U:Own B 56 eLed 3 w vU leds
 ne:∀ g,vT.ownBlock=some g->vU.ownBlock≠some g
 st:∀ s∈sts,(gSt w s/\AvS B vT vU s)/\SGood n s
 cur:gSt w xk
 ls:sts.length=k
 ll:leds.length=k
 k21:w.heap[b21]? = some (.cells (eSt xk).toArray 31 (0,0))
theorem SRunI.next {B b21:Nat} {w W W' w':World} {vT vU:Value} {n:Net} {sts:List St} {leds:List Led} {xk:St} {k:Nat} (h:SRunI B b21 w vT vU n sts leds xk k)
  (hb:Below w.heap.size w W) (hB:B<=w.heap.size) (h21:b21<B) {s' sc:St} {g:Led}
  (hst:SGood n s') (hgs:gSt W s') (hf:FarS w.heap.size s' g) (hsame:SameSt sc s')
  (hs':W'.heap.size=W.heap.size) (ho:∀ b,b≠b21->W'.heap[b]? = W.heap[b]?) (h21':W'.heap[b21]? = some (.cells (eSt s').toArray 31 (0,0)))
  {tT tU:Value} {c1 c2:Nat} (hM:CjM B W' vT vU sts leds sc g true true true true true tT tU c1 c2 w'):SRunI B b21 w' tT tU n (sts ++ [sc]) (leds ++ [g]) s' (k+1):=by
 have hTlt:∀ b,vT.ownBlock=some b->b<w.heap.size:=fun b e=>(h.T.lt b e).2
 have hUlt:∀ b,vU.ownBlock=some b->b<w.heap.size:=fun b e=>(h.U.lt b e).2
 have hTge:∀ b,vT.ownBlock=some b->B<=b:=fun b e=>(h.T.lt b e).1
 have hUge:∀ b,vU.ownBlock=some b->B<=b:=fun b e=>(h.U.lt b e).1
 have hsz:=hb.size
 have hk2:∀ b,(B<=b/\vT.ownBlock≠some b/\vU.ownBlock≠some b)->b<W.heap.size->w'.heap[b]? = W.heap[b]?:=fun b h1 h2=>
  (hM.m.kept b om h1.2.1 h1.2.2).trans (ho b om)
 have hk1:∀ b,(B<=b/\vT.ownBlock≠some b/\vU.ownBlock≠some b)->b<w.heap.size->w'.heap[b]? = w.heap[b]?:=fun b h1 h2=>(hk2 b h1 om).trans (hb.block b h2)
 have hnew:∀ b,w.heap.size<=b->(B<=b/\vT.ownBlock≠some b/\vU.ownBlock≠some b):=fun b h1=>⟨by omega,fun e=>by have:=hTlt b e;omega,fun e=>by have:=hUlt b e;omega⟩
 have hgs':gSt w' s':=gSl_near hgs hk2 (fun _ b off e=>hnew b (hf.V b off e)) (fun _ b off e=>hnew b (hf.P b off e)) (fun _ b off e=>hnew b (hf.S b off e)) (fun _ b off e=>hnew b (hf.O b off e))
 have hTp:∀ b,tT.ownBlock=some b->vT.ownBlock=some b\/w.heap.size<=b:=fun b e=>by
  rcases hM.m.Tp b e with h|h
  ·exact .inl h
  ·right;omega
 have hUp:∀ b,tU.ownBlock=some b->vU.ownBlock=some b\/w.heap.size<=b:=fun b e=>by
  rcases hM.m.Up b e with h|h
  ·exact .inl h
  ·right;omega
 refine ⟨hM.m.T,hM.m.U,hM.m.ne,fun s hs=>?_,hgs',by simp [h.ls],by simp [h.ll],?_⟩
 ·rcases List.mem_append.1 hs with hs|hs
  ·obtain ⟨⟨k1,k2⟩,k3⟩:=h.st s hs
   exact ⟨⟨gSl_near k1 hk1 k2.1 k2.2.1 k2.2.2.1 k2.2.2.2,k2.step k1 hTp hUp⟩,k3⟩
  ·rw [List.mem_singleton] at hs
   subst hs
   obtain ⟨k1,k2⟩:=hM.cp rfl
   exact ⟨⟨k1,k2.low om⟩,hst.same hsame⟩
 ·rw [hM.m.kept b21 om (fun e=>by have:=hTge _ e;omega) (fun e=>by have:=hUge _ e;omega)]
  exact h21'
inductive SimOut (w:World) (n:Net) (steps:Int):Value->Prop
 | no (e:Int):e≠0->SimOut w n steps (.tuple #[.slice none 0 0,.slice none 0 0,.int .i64 e])
 | ok (sts:List St) (leds:List Led) (vT vU:Value):netB n=true->(sts.length:Int)=steps->leds.length=sts.length->IsL eSt 4 w vT sts->IsL eLed 3 w vU leds ->
   (∀ s∈sts,gSt w s/\SGood n s)->SimOut w n steps (.tuple #[vT,vU,.int .i64 0])
abbrev IsRusL (w:World) (v:Value) (xs:List RuD):Prop:=IsL eRu 4 w v xs
abbrev IsInsL (w:World) (v:Value) (xs:List InD):Prop:=IsL eIn 2 w v xs
theorem indexRusL (g:Nat) (lb:Array Value) (eg:∀ args w,(callFunc g args).run Tryz.prog w=.ok (.enter g args) w) (p:RuD->Bool) (xs:List RuD) (v:Value) (w:World)
  (hv:IsRusL w v xs) (hp:PredOn Tryz.prog g lb vRu p xs w) :
  Calls Tryz.prog 118 #[v,.func (.func g) #[] lb] w fun e w'=>e=.returned (.int .i64 (idxFrom p xs 0))/\Below w.heap.size w w':=by
 obtain ⟨a,cap,rfl,hcap,hbig,hs⟩:=hv
 go_enter Tryz.func118,Tryz.ntmps118
 go_wp2
 go_loopw [5,8] (fun _ s8 wr=>∃ k:Nat,k<=xs.length/\s8=.int .i64 k/\Below w.heap.size w wr/\Hid (idxFrom p xs 0=idxFrom p (xs.drop k) k)) (fun _ i _=>xs.length-(RowKit.intOf i).toNat)
 case atStart=>exact ⟨0,Nat.zero_le _,rfl,qr,rfl⟩
 case round=>
  obtain ⟨k,hk,rfl,hb,hm⟩:=hrel
  by_cases hlt:k<xs.length
  ·obtain ⟨b,off,rfl,c0,c1,c2,c3⟩:=(hs.mono hb).ru k hlt
   have hx:=hp wr hb xs[k] (List.getElem_mem hlt)
   have hstep:Hid (idxFrom p (xs.drop k) k=if p xs[k] then (k:Int) else idxFrom p (xs.drop (k+1)) (k+1)):=by
    rw [List.drop_eq_getElem_cons hlt];rfl
   clear hs hp
   generalize xs[k]=y at *
   cases hpy:p y
   all_goals
    rw [hpy] at hx hstep
    clear hpy
    go_wp2_with fail
    refine (Calls.to hx ?_)
    rintro e w1 rfl hb1
    have hbb:=hb.trans (hb1.mono hb.size)
    go_wp2_with fail
   ·go_roundw
    case rel=>exact ⟨k+1,by omega,by go_num,bl,hm.out.trans (hstep.out.trans (by simp))⟩
    case measure=>simp [RowKit.intOf];omega
   ·go_ret
    exact ⟨ret_int (hm.out.trans (hstep.out.trans (by simp))).symm,bl⟩
  ·go_wp2
   go_ret
   refine ⟨ret_int ?_,bl⟩
   rw [hm.out,List.drop_eq_nil_of_le om];rfl
theorem containsRusL (g:Nat) (lb:Array Value) (eg:∀ args w,(callFunc g args).run Tryz.prog w=.ok (.enter g args) w) (p:RuD->Bool) (xs:List RuD) (v:Value) (w:World)
  (hv:IsRusL w v xs) (hp:PredOn Tryz.prog g lb vRu p xs w) :
  Calls Tryz.prog 49 #[v,.func (.func g) #[] lb] w fun e w'=>e=.returned (.bool (xs.any p))/\Below w.heap.size w w':=by
 go_enter Tryz.func49,Tryz.ntmps49
 go_wp2_with fail
 refine Calls.to (indexRusL g lb eg p xs v w hv hp) ?_
 rintro e w1 rfl hb
 go_wp2_with fail
 go_ret
 exact ⟨ret_bool (idxFrom_any p xs 0),hb⟩
theorem indexInsL (g:Nat) (lb:Array Value) (eg:∀ args w,(callFunc g args).run Tryz.prog w=.ok (.enter g args) w) (p:InD->Bool) (xs:List InD) (v:Value) (w:World)
  (hv:IsInsL w v xs) (hp:PredOn Tryz.prog g lb vIn p xs w) :
  Calls Tryz.prog 119 #[v,.func (.func g) #[] lb] w fun e w'=>e=.returned (.int .i64 (idxFrom p xs 0))/\Below w.heap.size w w':=by
 obtain ⟨a,cap,rfl,hcap,hbig,hs⟩:=hv
 go_enter Tryz.func119,Tryz.ntmps119
 go_wp2
 go_loopw [5,8] (fun _ s8 wr=>∃ k:Nat,k<=xs.length/\s8=.int .i64 k/\Below w.heap.size w wr/\Hid (idxFrom p xs 0=idxFrom p (xs.drop k) k)) (fun _ i _=>xs.length-(RowKit.intOf i).toNat)
 case atStart=>exact ⟨0,Nat.zero_le _,rfl,qr,rfl⟩
 case round=>
  obtain ⟨k,hk,rfl,hb,hm⟩:=hrel
  by_cases hlt:k<xs.length
  ·obtain ⟨b,off,rfl,c0,c1⟩:=(hs.mono hb).inf k hlt
   have hx:=hp wr hb xs[k] (List.getElem_mem hlt)
   have hstep:Hid (idxFrom p (xs.drop k) k=if p xs[k] then (k:Int) else idxFrom p (xs.drop (k+1)) (k+1)):=by
    rw [List.drop_eq_getElem_cons hlt];rfl
   clear hs hp
   generalize xs[k]=y at *
   cases hpy:p y
   all_goals
    rw [hpy] at hx hstep
    clear hpy
    go_wp2_with fail
    refine (Calls.to hx ?_)
    rintro e w1 rfl hb1
    have hbb:=hb.trans (hb1.mono hb.size)
    go_wp2_with fail
   ·go_roundw
    case rel=>exact ⟨k+1,by omega,by go_num,bl,hm.out.trans (hstep.out.trans (by simp))⟩
    case measure=>simp [RowKit.intOf];omega
   ·go_ret
    exact ⟨ret_int (hm.out.trans (hstep.out.trans (by simp))).symm,bl⟩
  ·go_wp2
   go_ret
   refine ⟨ret_int ?_,bl⟩
   rw [hm.out,List.drop_eq_nil_of_le om];rfl
theorem containsInsL (g:Nat) (lb:Array Value) (eg:∀ args w,(callFunc g args).run Tryz.prog w=.ok (.enter g args) w) (p:InD->Bool) (xs:List InD) (v:Value) (w:World)
  (hv:IsInsL w v xs) (hp:PredOn Tryz.prog g lb vIn p xs w) :
  Calls Tryz.prog 51 #[v,.func (.func g) #[] lb] w fun e w'=>e=.returned (.bool (xs.any p))/\Below w.heap.size w w':=by
 go_enter Tryz.func51,Tryz.ntmps51
 go_wp2_with fail
 refine Calls.to (indexInsL g lb eg p xs v w hv hp) ?_
 rintro e w1 rfl hb
 go_wp2_with fail
 go_ret
 exact ⟨ret_bool (idxFrom_any p xs 0),hb⟩
theorem containsNdT (g:Nat) (lb:Array Value) (eg:∀ args w,(callFunc g args).run Tryz.prog w=.ok (.enter g args) w) (p:Nd->Bool) (xs:List Nd) (v:Value) (w:World)
  (hv:IsNds w v xs) (hp:PredOn Tryz.prog g lb vNd p xs w) :
  Calls Tryz.prog 43 #[v,.func (.func g) #[] lb] w fun e w'=>e=.returned (.bool (xs.any p))/\Below w.heap.size w w':=by
 go_enter Tryz.func43,Tryz.ntmps43
 go_wp2_with fail
 refine Calls.to (indexNd g lb eg p xs v w hv hp) ?_
 rintro e w1 rfl hb
 go_wp2_with fail
 go_ret
 exact ⟨ret_bool (idxFrom_any p xs 0),hb⟩
theorem containsLkT (g:Nat) (lb:Array Value) (eg:∀ args w,(callFunc g args).run Tryz.prog w=.ok (.enter g args) w) (p:Lk->Bool) (xs:List Lk) (v:Value) (w:World)
  (hv:IsLks w v xs) (hp:PredOn Tryz.prog g lb vLk p xs w) :
  Calls Tryz.prog 45 #[v,.func (.func g) #[] lb] w fun e w'=>e=.returned (.bool (xs.any p))/\Below w.heap.size w w':=by
 go_enter Tryz.func45,Tryz.ntmps45
 go_wp2_with fail
 refine Calls.to (indexLk g lb eg p xs v w hv hp) ?_
 rintro e w1 rfl hb
 go_wp2_with fail
 go_ret
 exact ⟨ret_bool (idxFrom_any p xs 0),hb⟩
theorem ent44:∀ args w,(callFunc 44 args).run Tryz.prog w=.ok (.enter 44 args) w:=by
 intro args w
 simp [go_sem]
theorem ent46:∀ args w,(callFunc 46 args).run Tryz.prog w=.ok (.enter 46 args) w:=by
 intro args w
 simp [go_sem]
theorem ent48:∀ args w,(callFunc 48 args).run Tryz.prog w=.ok (.enter 48 args) w:=by
 intro args w
 simp [go_sem]
theorem ent50:∀ args w,(callFunc 50 args).run Tryz.prog w=.ok (.enter 50 args) w:=by
 intro args w
 simp [go_sem]
theorem ent52:∀ args w,(callFunc 52 args).run Tryz.prog w=.ok (.enter 52 args) w:=by
 intro args w
 simp [go_sem]
def pg1 (x:Nd):Bool:=decide ((20:Int)<x.Sh.xs.length)||decide ((60:Int)<x.Name.size)
def pg2 (x:Lk):Bool:=decide ((20:Int)<x.Cu.xs.length)||decide ((60:Int)<x.Name.size)||decide ((60:Int)<x.From.size)||decide ((60:Int)<x.To.size)||decide ((60:Int)<x.Sec.size)
def pm1 (x:SecD):Bool:=decide ((20:Int)<x.A.xs.length)||decide ((20:Int)<x.B.xs.length)
def pm2 (x:RuD):Bool:=decide ((8:Int)<x.W.xs.length)
def pm3 (x:InD):Bool:=decide ((40:Int)<x.V.xs.length)
theorem plarge1_any (x:Nd) (w:World):Calls Tryz.prog 44 #[vNd x] w fun e w'=>e=.returned (.bool (pg1 x))/\Below w.heap.size w w':=by
 obtain ⟨nm,kd,ax,ay,iv,gr,⟨sa,scap,sxs⟩,pr,rs⟩:=x
 have H:Hid (pg1 ⟨nm,kd,ax,ay,iv,gr,⟨sa,scap,sxs⟩,pr,rs⟩=(decide ((20:Int)<sxs.length)||decide ((60:Int)<nm.size))):=rfl
 generalize pg1 ⟨nm,kd,ax,ay,iv,gr,⟨sa,scap,sxs⟩,pr,rs⟩=res at *
 simp only [vNd,vSl]
 cases h1:decide ((20:Int)<sxs.length)
 rotate_left
 ·have HK:=qh (H.out.trans (by simp [h1,Bool.true_or]:_=true))
  go_enter Tryz.func44,Tryz.ntmps44
  go_wp2_with fail
  go_ret
  exact ⟨ret_bool HK.out.symm,bl⟩
 cases h2:decide ((60:Int)<nm.size)
 rotate_left
 ·have HK:=qh (H.out.trans (by simp [h1,h2]:_=true))
  go_enter Tryz.func44,Tryz.ntmps44
  go_wp2_with fail
  go_ret
  exact ⟨ret_bool HK.out.symm,bl⟩
 ·have HK:=qh (H.out.trans (by simp [h1,h2]:_=false))
  go_enter Tryz.func44,Tryz.ntmps44
  go_wp2_with fail
  go_ret
  exact ⟨ret_bool HK.out.symm,bl⟩
theorem plarge2_any (x:Lk) (w:World):Calls Tryz.prog 46 #[vLk x] w fun e w'=>e=.returned (.bool (pg2 x))/\Below w.heap.size w w':=by
 obtain ⟨nm,fr,tt,kd,ln,up,dn,sc,wi,he,⟨sa,scap,sxs⟩⟩:=x
 have H:Hid (pg2 ⟨nm,fr,tt,kd,ln,up,dn,sc,wi,he,⟨sa,scap,sxs⟩⟩=(decide ((20:Int)<sxs.length)||decide ((60:Int)<nm.size)||decide ((60:Int)<fr.size)||decide ((60:Int)<tt.size)||decide ((60:Int)<sc.size))):=rfl
 generalize pg2 ⟨nm,fr,tt,kd,ln,up,dn,sc,wi,he,⟨sa,scap,sxs⟩⟩=res at *
 simp only [vLk,vSl]
 cases h1:decide ((20:Int)<sxs.length)
 rotate_left
 ·have HK:=qh (H.out.trans (by simp [h1,Bool.true_or,Bool.true_or,Bool.true_or]:_=true))
  go_enter Tryz.func46,Tryz.ntmps46
  go_wp2_with fail
  go_ret
  exact ⟨ret_bool HK.out.symm,bl⟩
 cases h2:decide ((60:Int)<nm.size)
 rotate_left
 ·have HK:=qh (H.out.trans (by simp [h1,h2,Bool.false_or,Bool.true_or,Bool.true_or]:_=true))
  go_enter Tryz.func46,Tryz.ntmps46
  go_wp2_with fail
  go_ret
  exact ⟨ret_bool HK.out.symm,bl⟩
 cases h3:decide ((60:Int)<fr.size)
 rotate_left
 ·have HK:=qh (H.out.trans (by simp [h1,h2,h3,Bool.false_or,Bool.false_or,Bool.true_or]:_=true))
  go_enter Tryz.func46,Tryz.ntmps46
  go_wp2_with fail
  go_ret
  exact ⟨ret_bool HK.out.symm,bl⟩
 cases h4:decide ((60:Int)<tt.size)
 rotate_left
 ·have HK:=qh (H.out.trans (by simp [h1,h2,h3,h4]:_=true))
  go_enter Tryz.func46,Tryz.ntmps46
  go_wp2_with fail
  go_ret
  exact ⟨ret_bool HK.out.symm,bl⟩
 cases h5:decide ((60:Int)<sc.size)
 rotate_left
 ·have HK:=qh (H.out.trans (by simp [h1,h2,h3,h4,h5]:_=true))
  go_enter Tryz.func46,Tryz.ntmps46
  go_wp2_with fail
  go_ret
  exact ⟨ret_bool HK.out.symm,bl⟩
 ·have HK:=qh (H.out.trans (by simp [h1,h2,h3,h4,h5]:_=false))
  go_enter Tryz.func46,Tryz.ntmps46
  go_wp2_with fail
  go_ret
  exact ⟨ret_bool HK.out.symm,bl⟩
theorem pmany1_any (x:SecD) (w:World):Calls Tryz.prog 48 #[vSec x] w fun e w'=>e=.returned (.bool (pm1 x))/\Below w.heap.size w w':=by
 obtain ⟨nm,ht,pr,⟨aa,ac,axs⟩,⟨ba,bc,bxs⟩⟩:=x
 have H:Hid (pm1 ⟨nm,ht,pr,⟨aa,ac,axs⟩,⟨ba,bc,bxs⟩⟩=(decide ((20:Int)<axs.length)||decide ((20:Int)<bxs.length))):=rfl
 generalize pm1 ⟨nm,ht,pr,⟨aa,ac,axs⟩,⟨ba,bc,bxs⟩⟩=res at *
 simp only [vSec,vSl]
 cases h1:decide ((20:Int)<axs.length)
 rotate_left
 ·have HK:=qh (H.out.trans (by simp [h1,Bool.true_or]:_=true))
  go_enter Tryz.func48,Tryz.ntmps48
  go_wp2_with fail
  go_ret
  exact ⟨ret_bool HK.out.symm,bl⟩
 cases h2:decide ((20:Int)<bxs.length)
 rotate_left
 ·have HK:=qh (H.out.trans (by simp [h1,h2]:_=true))
  go_enter Tryz.func48,Tryz.ntmps48
  go_wp2_with fail
  go_ret
  exact ⟨ret_bool HK.out.symm,bl⟩
 ·have HK:=qh (H.out.trans (by simp [h1,h2]:_=false))
  go_enter Tryz.func48,Tryz.ntmps48
  go_wp2_with fail
  go_ret
  exact ⟨ret_bool HK.out.symm,bl⟩
theorem pmany2_any (x:RuD) (w:World):Calls Tryz.prog 50 #[vRu x] w fun e w'=>e=.returned (.bool (pm2 x))/\Below w.heap.size w w':=by
 obtain ⟨nm,⟨wa,wc,wxs⟩,l,s⟩:=x
 have H:Hid (pm2 ⟨nm,⟨wa,wc,wxs⟩,l,s⟩=decide ((8:Int)<wxs.length)):=rfl
 generalize pm2 ⟨nm,⟨wa,wc,wxs⟩,l,s⟩=res at *
 simp only [vRu,vSl]
 cases h1:decide ((8:Int)<wxs.length)
 ·have HK:=qh (H.out.trans (by simp [h1]:_=false))
  go_enter Tryz.func50,Tryz.ntmps50
  go_wp2_with fail
  go_ret
  exact ⟨ret_bool HK.out.symm,bl⟩
 ·have HK:=qh (H.out.trans (by simp [h1]:_=true))
  go_enter Tryz.func50,Tryz.ntmps50
  go_wp2_with fail
  go_ret
  exact ⟨ret_bool HK.out.symm,bl⟩
theorem pmany3_any (x:InD) (w:World):Calls Tryz.prog 52 #[vIn x] w fun e w'=>e=.returned (.bool (pm3 x))/\Below w.heap.size w w':=by
 obtain ⟨nm,⟨wa,wc,wxs⟩⟩:=x
 have H:Hid (pm3 ⟨nm,⟨wa,wc,wxs⟩⟩=decide ((40:Int)<wxs.length)):=rfl
 generalize pm3 ⟨nm,⟨wa,wc,wxs⟩⟩=res at *
 simp only [vIn,vSl]
 cases h1:decide ((40:Int)<wxs.length)
 ·have HK:=qh (H.out.trans (by simp [h1]:_=false))
  go_enter Tryz.func52,Tryz.ntmps52
  go_wp2_with fail
  go_ret
  exact ⟨ret_bool HK.out.symm,bl⟩
 ·have HK:=qh (H.out.trans (by simp [h1]:_=true))
  go_enter Tryz.func52,Tryz.ntmps52
  go_wp2_with fail
  go_ret
  exact ⟨ret_bool HK.out.symm,bl⟩
theorem plarge_any (n:Net) (w:World) (hg:gNet w n):Calls Tryz.prog 7 #[vNet n] w fun e w'=>(∃ b,e=.returned (.bool b)/\(b=false->n.Ns.xs.length<=12/\n.Ls.xs.length<=12))/\Below w.heap.size w w':=by
 obtain ⟨⟨na,nc,nxs⟩,⟨la,lc,lxs⟩⟩:=n
 have isN:IsNds w (.slice na nxs.length nc) nxs:=hg.1.isL
 have isL:IsLks w (.slice la lxs.length lc) lxs:=hg.2.isL
 clear hg
 simp only [vNet,vSl]
 have hb0:Below w.heap.size w (w.alloc (.cells #[.slice na nxs.length nc,.slice la lxs.length lc] 25)):=qr.alloc (Nat.le_refl _) _
 cases h1:decide ((12:Int)<nxs.length)
 rotate_left
 ·go_enter Tryz.func7,Tryz.ntmps7
  go_wp2_with fail
  go_ret
  exact ⟨⟨_,rfl,fun h=>by cases h⟩,bl⟩
 cases h2:decide ((12:Int)<lxs.length)
 rotate_left
 ·go_enter Tryz.func7,Tryz.ntmps7
  go_wp2_with fail
  go_ret
  exact ⟨⟨_,rfl,fun h=>by cases h⟩,bl⟩
 have HS:Hid (nxs.length<=12/\lxs.length<=12):=qh (by
  have a:=of_decide_eq_false h1
  have b:=of_decide_eq_false h2
  omega)
 go_enter Tryz.func7,Tryz.ntmps7
 go_wp2_with fail
 refine Calls.to (containsNdT 44 #[] ent44 pg1 nxs _ _ (isN.mono hb0) (fun W _ x _=>plarge1_any x W)) ?_
 rintro e w1 rfl hb1
 have hbb:=hb0.trans (hb1.mono hb0.size)
 obtain ⟨e0,e1⟩:=boxNet w w1 25 ⟨⟨na,nc,nxs⟩,⟨la,lc,lxs⟩⟩ _ rfl _ rfl (hb1.mono (by simp))
 simp only [vSl] at e0 e1
 cases t1:nxs.any pg1
 rotate_left
 ·go_wp2_with fail
  go_ret
  exact ⟨⟨_,rfl,fun h=>by cases h⟩,hbb⟩
 have isL1:=isL.mono hbb
 clear hb1 hb0 isL isN
 have hcl:=containsLkT 46 #[] ent46 pg2 lxs _ _ isL1 (fun W _ x _=>plarge2_any x W)
 generalize lxs.any pg2=r at hcl
 go_wp2_with fail
 refine Calls.to hcl ?_
 rintro e w2 rfl hb2
 have hbb2:=hbb.trans (hb2.mono hbb.size)
 clear hb2 hbb hcl
 go_wp2_with fail
 go_ret
 exact ⟨⟨_,rfl,fun _=>HS.out⟩,hbb2⟩
theorem pmany_any (ss:List SecD) (vS:Value) (rs:List RuD) (vR:Value) (is:List InD) (vI:Value) (w:World) (hs:IsSecL w vS ss) (hr:IsRusL w vR rs) (hi:IsInsL w vI is) :
    Calls Tryz.prog 8 #[vS,vR,vI] w fun e w'=>(∃ b,e=.returned (.bool b))/\Below w.heap.size w w':=by
  have c1:=containsSec 48 #[] ent48 pm1 ss vS w hs (fun W _ x _=>pmany1_any x W)
  have c2:=fun W hW=>containsRusL 50 #[] ent50 pm2 rs vR W (IsL.mono hr hW) (fun W _ x _=>pmany2_any x W)
  have c3:=fun W hW=>containsInsL 52 #[] ent52 pm3 is vI W (IsL.mono hi hW) (fun W _ x _=>pmany3_any x W)
  generalize ss.any pm1=r1 at c1
  generalize rs.any pm2=r2 at c2
  generalize is.any pm3=r3 at c3
  obtain ⟨sa,sc,rfl,-⟩:=hs
  obtain ⟨ra,rc,rfl,-⟩:=hr
  obtain ⟨ia,ic,rfl,-⟩:=hi
  cases h1:decide ((8:Int)<ss.length)
  rotate_left
  · go_enter Tryz.func8,Tryz.ntmps8
    go_wp2_with fail
    go_ret
    exact ⟨⟨_,rfl⟩,bl⟩
  cases h2:decide ((8:Int)<rs.length)
  all_goals
    cases h3:decide ((8:Int)<is.length)
    all_goals
      go_enter Tryz.func8,Tryz.ntmps8
      go_wp2_with fail
      refine Calls.to c1 ?_
      rintro e w1 rfl hb1
      cases r1
      rotate_left
      · go_wp2_with fail
        go_ret
        exact ⟨⟨_,rfl⟩,hb1⟩
      replace c2:=c2 w1 hb1
      go_wp2_with fail
      first
        | (go_ret;exact ⟨⟨_,rfl⟩,hb1⟩)
        | (refine Calls.to c2 ?_
           rintro e w2 rfl hb2
           replace hb2 := hb1.trans (hb2.mono hb1.size)
           clear c1 c2
           cases r2
           rotate_left
           · go_wp2_with fail
             go_ret
             exact ⟨⟨_, rfl⟩, hb2⟩
           replace c3 := c3 w2 hb2
           go_wp2_with fail
           first
             | (go_ret; exact ⟨⟨_, rfl⟩, hb2⟩)
             | (refine Calls.to c3 ?_
                rintro e w3 rfl hb3
                replace hb3:=hb2.trans (hb3.mono hb2.size)
                clear c3
                go_wp2_with fail
                go_ret
                exact ⟨⟨_,rfl⟩,hb3⟩))
end Go.Proofs.YtoiakijmbghhlaaGreat
