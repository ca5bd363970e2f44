/- TopSpilled, the plain law: the spills of a node have the sum of what stands above it, the cause of a spill is a full node, the greatest sum is that of the worst -/
import Derived.Test.YtoiakijmbghhlaaGreatS47
import Derived.Test.YtoiakijmbghhlaaGreatS48
import Derived.Test.YtoiakijmbghhlaaGreatS46
import Derived.Test.YtoiakijmbghhlaaGreatS42
set_option linter.unusedVariables false
set_option linter.unusedSimpArgs false
set_option maxRecDepth 100000
set_option maxHeartbeats 32000000
namespace Go.Proofs.YtoiakijmbghhlaaGreat
open Go.RowKit
def evGo (d:Int):List Int->Nat->Option Ev->List Ev
 | [],_,none=>[]
 | [],_,some e=>[e]
 | v :: r,k,none=>if v=0 then evGo d r (k+1) none else evGo d r (k+1) (some ⟨k,k+1,v,v⟩)
 | v :: r,k,some e=>
  if v=0 then evGo d r (k+1) (some e)
  else if d<=k-e.To then e :: evGo d r (k+1) (some ⟨k,k+1,v,v⟩)
  else evGo d r (k+1) (some ⟨e.From,k+1,e.Total+v,if e.Peak<v then v else e.Peak⟩)
def spSum (l:List Int):Int:=l.foldr (· + ·) 0
theorem spSum_cons (x:Int) (l:List Int):spSum (x :: l)=x+spSum l:=rfl
theorem spSum_nonneg (l:List Int) (h:∀ v∈l,0<=v):0<=spSum l:=by
 induction l with
 | nil=>exact Int.le_refl 0
 | cons x r ih=>rw [spSum_cons];have:=h x (by simp);have:=ih (fun v hv=>h v (by simp [hv]));omega
theorem spSum_le (l:List Int) (h:∀ v∈l,v<=1125899906842624):spSum l<=1125899906842624*l.length:=by
 induction l with
 | nil=>simp [spSum]
 | cons x r ih=>rw [spSum_cons];have:=h x (by simp);have:=ih (fun v hv=>h v (by simp [hv]));simp only [List.length_cons];omega
theorem spillsGo_ev (d:Int):∀ (xs:List Int) (k:Nat) (pre:List Ev) (e:Ev),(∀ v∈xs,0<=v)->0<=e.Total->e.Total+spSum xs<=1152921504606846976->0<=e.Peak ->
  spillsGo d xs k (pre ++ [e]) true (e.To-1)=pre ++ evGo d xs k (some e)
 | [],_,_,_,_,_,_,_=>rfl
 | v :: r,k,pre,e,hv,h0,hs,hp=>by
  have hv0:=hv v (by simp)
  have hv':∀ v∈r,0<=v:=fun x hx=>hv x (by simp [hx])
  have hr:=spSum_nonneg r hv'
  rw [spSum_cons] at hs
  by_cases hz:v=0
  ·simp only [spillsGo,evGo,if_pos hz]
   exact spillsGo_ev d r (k+1) pre e hv' h0 om hp
  ·have e1:(k:Int)-(e.To-1)-1=k-e.To:=by omega
   by_cases hd:d<=k-e.To
   ·simp only [spillsGo,evGo,if_neg hz,e1,hd,or_true,if_true]
    have e2:(pre ++ [e] ++ [(⟨k,0,0,0⟩:Ev)]).length-1=(pre ++ [e]).length:=by simp
    have e3:(pre ++ [e] ++ [(⟨k,0,0,0⟩:Ev)]).getD (pre ++ [e]).length default=⟨k,0,0,0⟩:=by simp [List.getD]
    rw [e2,e3]
    dsimp only
    rw [List.set_append_right _ _ (Nat.le_refl _),Nat.sub_self,List.set_cons_zero,Int.zero_add,IntWalk.wrap64_in _ om,if_pos (show (0:Int)<v by omega)]
    have:=spillsGo_ev d r (k+1) (pre ++ [e]) ⟨k,k+1,v,v⟩ hv' om (by show v+spSum r<=_;omega) om
    rw [show ((⟨k,k+1,v,v⟩:Ev).To-1)=(k:Int) from by simp] at this
    rw [this];simp
   ·simp only [spillsGo,evGo,if_neg hz,e1,hd,or_false,Bool.true_eq_false,if_false]
    have e2:(pre ++ [e]).length-1=pre.length:=by simp
    have e3:(pre ++ [e]).getD pre.length default=e:=by simp [List.getD]
    rw [e2,e3]
    rw [List.set_append_right _ _ (Nat.le_refl _),Nat.sub_self,List.set_cons_zero,IntWalk.wrap64_in _ om]
    have:=spillsGo_ev d r (k+1) pre ⟨e.From,k+1,e.Total+v,if e.Peak<v then v else e.Peak⟩ hv' (by show 0<=e.Total+v;omega) (by show e.Total+v+spSum r<=_;omega) (by show 0<=(if e.Peak<v then v else e.Peak);split <;> omega)
    rw [show ((⟨e.From,k+1,e.Total+v,if e.Peak<v then v else e.Peak⟩:Ev).To-1)=(k:Int) from by simp] at this
    exact this
theorem spillsGo_ev0 (d:Int):∀ (xs:List Int) (k:Nat) (l:Int),(∀ v∈xs,0<=v)->spSum xs<=1152921504606846976->spillsGo d xs k [] false l=evGo d xs k none
 | [],_,_,_,_=>rfl
 | v :: r,k,l,hv,hs=>by
  have hv0:=hv v (by simp)
  have hv':∀ v∈r,0<=v:=fun x hx=>hv x (by simp [hx])
  have hr:=spSum_nonneg r hv'
  rw [spSum_cons] at hs
  by_cases hz:v=0
  ·simp only [spillsGo,evGo,if_pos hz]
   exact spillsGo_ev0 d r (k+1) l hv' om
  ·simp only [spillsGo,evGo,if_neg hz,true_or,if_true]
   have:=spillsGo_ev d r (k+1) [] ⟨k,k+1,v,v⟩ hv' om (by show v+spSum r<=_;omega) om
   rw [show ((⟨k,k+1,v,v⟩:Ev).To-1)=(k:Int) from by simp] at this
   simp only [List.nil_append] at this ⊢
   rw [<-this]
   simp only [List.length_cons,List.length_nil,Nat.add_sub_cancel,List.getD_cons_zero,List.set_cons_zero,Int.zero_add]
   rw [IntWalk.wrap64_in _ om,if_pos (show (0:Int)<v by omega)]
structure EvG (last k:Int) (e:Ev):Prop where
 a:last<=e.From
 b:e.From<e.To
 c:e.To<=k
 p:1<=e.Peak
 q:e.Peak<=1125899906842624
 t:e.Peak<=e.Total
 s:e.Total<=e.Peak*(e.To-e.From)
theorem EvG.good {last k:Int} {e:Ev} (h:EvG last k e) (hk:k<=10000) (ht:e.Total<=1152921504606846976):evBad last e=false:=by
 have hp:=h.p
 have h8:=h.s
 have d1:e.Total=e.Peak*(e.Total / e.Peak)+e.Total % e.Peak:=(Int.mul_ediv_add_emod e.Total e.Peak).symm
 have d2:0<=e.Total % e.Peak:=Int.emod_nonneg _ om
 have d3:e.Total / e.Peak<=e.To-e.From:=by
  have:=Int.ediv_le_ediv (c:=e.Peak) om h8
  rwa [Int.mul_ediv_cancel_left _ om] at this
 have d4:e.Total / e.Peak=e.To-e.From->e.Total % e.Peak=0:=fun e1=>by
  rw [e1] at d1
  omega
 have:=h.a
 have:=h.b
 have:=h.c
 have:=h.q
 have:=h.t
 simp only [evBad,Bool.or_eq_false_iff,decide_eq_false_iff_not,Bool.and_eq_false_iff]
 refine ⟨⟨⟨⟨⟨⟨⟨⟨by omega,by omega⟩,by omega⟩,by omega⟩,by omega⟩,by omega⟩,by omega⟩,by omega⟩,?_⟩
 by_cases e1:e.Total / e.Peak=e.To-e.From
 ·right;rw [d4 e1];omega
 ·exact .inl e1
theorem EvG.one (k:Nat) {v last:Int} (hl:last<=k) (h:0<=v/\v<=1125899906842624) (hz:v≠0):EvG last ((k+1:Nat):Int) ⟨k,k+1,v,v⟩:=by
 refine ⟨hl,?_,?_,?_,h.2,Int.le_refl v,?_⟩
 ·show (k:Int)<k+1;omega
 ·show (k:Int)+1<=((k+1:Nat):Int);omega
 ·show 1<=v;omega
 ·show v<=v*((k:Int)+1-k)
  rw [show (k:Int)+1-k=1 by omega,Int.mul_one]
  exact Int.le_refl v
theorem EvG.more {last:Int} {k:Nat} {e:Ev} (h:EvG last k e) {v:Int} (hv:0<=v/\v<=1125899906842624):EvG last ((k+1:Nat):Int) ⟨e.From,k+1,e.Total+v,if e.Peak<v then v else e.Peak⟩:=by
 obtain ⟨P,hP⟩:∃ P,P=(if e.Peak<v then v else e.Peak):=⟨_,rfl⟩
 have h1:=h.p
 have h2:=h.q
 have h3:=h.t
 have h4:=h.s
 have h5:=h.b
 have h6:=h.c
 have hPv:v<=P/\e.Peak<=P/\P<=1125899906842624/\P<=e.Total+v:=by rw [hP];split <;> omega
 have a1:e.Peak*(e.To-e.From)<=P*(e.To-e.From):=Int.mul_le_mul_of_nonneg_right hPv.2.1 om
 have a2:P*(e.To-e.From)<=P*(k-e.From):=Int.mul_le_mul_of_nonneg_left om om
 have a3:P*((k:Int)+1-e.From)=P*(k-e.From)+P:=by
  rw [show (k:Int)+1-e.From=(k-e.From)+1 by omega,Int.mul_add,Int.mul_one]
 rw [<-hP]
 refine ⟨h.a,?_,?_,?_,hPv.2.2.1,hPv.2.2.2,?_⟩
 ·show e.From<(k:Int)+1;omega
 ·show (k:Int)+1<=((k+1:Nat):Int);omega
 ·show 1<=P;omega
 ·show e.Total+v<=P*((k:Int)+1-e.From)
  omega
theorem EvG.wait {last:Int} {k:Nat} {e:Ev} (h:EvG last k e):EvG last ((k+1:Nat):Int) e:=⟨h.a,h.b,by have:=h.c;omega,h.p,h.q,h.t,h.s⟩
def EvR (last:Int) (l:List Ev) (s:Int) (m:Nat):Prop:=rightGo last l=true/\lsumE l=s/\l.length<=m/\∀ x∈l,0<=x.Total
theorem evGo_right (d:Int):∀ (xs:List Int) (k:Nat) (e:Ev) (last:Int),(∀ v∈xs,0<=v/\v<=1125899906842624)->k+xs.length<=10000->EvG last k e->e.Total+spSum xs<=1152921504606846976 ->
  EvR last (evGo d xs k (some e)) (e.Total+spSum xs) (xs.length+1)
 | [],k,e,last,_,hk,he,ht=>by
  have hg:=he.good (by simp at hk;omega) (by simpa [spSum] using ht)
  have:=he.t
  have:=he.p
  refine ⟨by simp [evGo,rightGo,hg],by simp [evGo,lsumE,spSum],by simp [evGo],fun x hx=>?_⟩
  simp only [evGo,List.mem_singleton] at hx
  subst hx
  omega
 | v :: r,k,e,last,hv,hk,he,ht=>by
  have hv0:=hv v (by simp)
  have hv':∀ v∈r,0<=v/\v<=1125899906842624:=fun x hx=>hv x (by simp [hx])
  have hr:=spSum_nonneg r (fun x hx=>(hv' x hx).1)
  simp only [List.length_cons] at hk ⊢
  rw [spSum_cons] at ht ⊢
  by_cases hz:v=0
  ·simp only [evGo,if_pos hz]
   obtain ⟨h1,h2,h3,h4⟩:=evGo_right d r (k+1) e last hv' om he.wait om
   exact ⟨h1,by rw [h2];omega,by omega,h4⟩
  ·by_cases hd:d<=k-e.To
   ·simp only [evGo,if_neg hz,if_pos hd]
    have hc:=he.c
    obtain ⟨h1,h2,h3,h4⟩:=evGo_right d r (k+1) ⟨k,k+1,v,v⟩ e.To hv' om (EvG.one k hc hv0 hz) (by
     show v+spSum r<=_
     have:=he.t
     have:=he.p
     omega)
    have hg:=he.good om om
    have:=he.t
    have:=he.p
    have h2:lsumE (evGo d r (k+1) (some ⟨k,k+1,v,v⟩))=v+spSum r:=h2
    refine ⟨by simp [rightGo,hg,h1],by simp only [lsumE,h2],by simp only [List.length_cons];omega,fun x hx=>?_⟩
    rcases List.mem_cons.1 hx with rfl|hx
    ·omega
    ·exact h4 x hx
   ·simp only [evGo,if_neg hz,if_neg hd]
    obtain ⟨h1,h2,h3,h4⟩:=evGo_right d r (k+1) ⟨e.From,k+1,e.Total+v,if e.Peak<v then v else e.Peak⟩ last hv' om (he.more hv0) (by show e.Total+v+spSum r<=_;omega)
    exact ⟨h1,by rw [h2];show e.Total+v+spSum r=_;omega,by omega,h4⟩
theorem evGo_right0 (d:Int):∀ (xs:List Int) (k:Nat),(∀ v∈xs,0<=v/\v<=1125899906842624)->k+xs.length<=10000->spSum xs<=1152921504606846976->EvR 0 (evGo d xs k none) (spSum xs) (xs.length+1)
 | [],_,_,_,_=>⟨rfl,rfl,by simp [evGo],fun x hx=>by simp [evGo] at hx⟩
 | v :: r,k,hv,hk,ht=>by
  have hv0:=hv v (by simp)
  have hv':∀ v∈r,0<=v/\v<=1125899906842624:=fun x hx=>hv x (by simp [hx])
  simp only [List.length_cons] at hk ⊢
  rw [spSum_cons] at ht ⊢
  by_cases hz:v=0
  ·simp only [evGo,if_pos hz]
   obtain ⟨h1,h2,h3,h4⟩:=evGo_right0 d r (k+1) hv' om om
   exact ⟨h1,by rw [h2];omega,by omega,h4⟩
  ·simp only [evGo,if_neg hz]
   obtain ⟨h1,h2,h3,h4⟩:=evGo_right d r (k+1) ⟨k,k+1,v,v⟩ 0 hv' om (EvG.one k om hv0 hz) (by show v+spSum r<=_;omega)
   exact ⟨h1,h2,by omega,h4⟩
theorem bigGo_no:∀ (xs:List Int) (s:Int),(∀ v∈xs,0<=v/\v<=1125899906842624)->0<=s->s+spSum xs<=1152921504606846976->bigGo s xs=false
 | [],_,_,_,_=>rfl
 | v :: r,s,hv,h0,hs=>by
  have hv0:=hv v (by simp)
  have hv':∀ v∈r,0<=v/\v<=1125899906842624:=fun x hx=>hv x (by simp [hx])
  have hr:=spSum_nonneg r (fun x hx=>(hv' x hx).1)
  rw [spSum_cons] at hs
  have hw:=IntWalk.wrap64_in (s+v) om
  have hq:¬ (1152921504606846976<s+v):=by omega
  simp only [bigGo,hw,if_neg hq]
  exact bigGo_no r (s+v) hv' om om
theorem wsum_sum:∀ (xs:List Int) (s:Int),(∀ v∈xs,0<=v/\v<=1125899906842624)->0<=s->s+spSum xs<=1152921504606846976->wsum s xs=s+spSum xs
 | [],s,_,_,_=>by simp [wsum,spSum]
 | v :: r,s,hv,h0,hs=>by
  have hv0:=hv v (by simp)
  have hv':∀ v∈r,0<=v/\v<=1125899906842624:=fun x hx=>hv x (by simp [hx])
  have hr:=spSum_nonneg r (fun x hx=>(hv' x hx).1)
  rw [spSum_cons] at hs ⊢
  rw [wsum,IntWalk.wrap64_in _ om,wsum_sum r (s+v) hv' om om]
  omega
theorem vols_ok {xs:List Int} (hv:∀ v∈xs,0<=v/\v<=1125899906842624):xs.any volBad=false:=by
 rw [List.any_eq_false]
 intro v h
 have:=hv v h
 simp only [volBad,Bool.or_eq_true,decide_eq_true_eq]
 omega
theorem spills_short {xs:List Int} (hv:∀ v∈xs,0<=v/\v<=1125899906842624) (hl:xs.length<=100):(spillsM xs 1).2=0/\∀ e,CountIs (spillsM xs 1).1 e->∃ m g:Int,e=.returned (.tuple #[.int .i64 m,.int .i64 (wsum 0 xs),.int .i64 g,.int .i64 0]):=by
 have hs:=spSum_le xs (fun v h=>(hv v h).2)
 have h0:=spSum_nonneg xs (fun v h=>(hv v h).1)
 have hs2:spSum xs<=1152921504606846976:=by omega
 have he:spillsM xs 1=(evGo 1 xs 0 none,0):=by
  rw [spillsM,if_neg om,vols_ok hv,if_neg (by simp),bigGo_no xs 0 hv (Int.le_refl 0) om,spillsGo_ev0 1 xs 0 0 (fun v h=>(hv v h).1) hs2]
  simp
 obtain ⟨h1,h2,h3,h4⟩:=evGo_right0 1 xs 0 hv om hs2
 obtain ⟨m,hm,-⟩:=countGo_ok (evGo 1 xs 0 none) 0 0 (Int.le_refl 0) (Int.le_refl 0) h4 (by rw [h2];omega)
 rw [he]
 refine ⟨rfl,fun e hc=>⟨((evGo 1 xs 0 none).length:Int),m,?_⟩⟩
 have hr:rightM (evGo 1 xs 0 none)=true:=by rw [rightM,if_neg om,h1]
 rw [CountIs,if_pos hr,hm] at hc
 rw [hc,h2,wsum_sum xs 0 hv (Int.le_refl 0) om]
def pondL (sts:List St) (i:Nat):List Int:=sts.map fun s=>s.P.xs.getD i 0
theorem ofGo_pond (i:Nat):∀ (sts:List St) (out:List Int),(∀ s∈sts,i<s.P.xs.length)->ofGo i sts out=some (out ++ pondL sts i)
 | [],out,_=>by simp [ofGo,pondL]
 | s :: r,out,h=>by
  have h0:=h s (by simp)
  rw [ofGo,if_neg om,ofGo_pond i r _ (fun x hx=>h x (by simp [hx]))]
  simp [pondL]
theorem SGood.pond {n:Net} {s:St} (h:SGood n s):∀ v∈s.P.xs,0<=v/\v<=1125899906842624:=by
 obtain ⟨h1,h2,h3,h4,h5,h6⟩:=stB_parts h.1
 intro v hv
 obtain ⟨i,hi,rfl⟩:=List.getElem_of_mem hv
 have:=(h5 i om).2.2
 simp only [List.getD,List.getElem?_eq_getElem hi,Option.getD_some] at this
 exact ⟨this.1,this.2.1⟩
theorem SGood.len {n:Net} {s:St} (h:SGood n s):s.V.xs.length=n.Ns.xs.length/\s.P.xs.length=n.Ns.xs.length:=by
 obtain ⟨h1,h2,h3,h4,h5,h6⟩:=stB_parts h.1
 exact ⟨h1,h2⟩
theorem pond_ok {n:Net} {sts:List St} (h:∀ s∈sts,SGood n s) (i:Nat) (hi:i<n.Ns.xs.length):∀ v∈pondL sts i,0<=v/\v<=1125899906842624:=by
 intro v hv
 simp only [pondL,List.mem_map] at hv
 obtain ⟨s,hs,rfl⟩:=hv
 have:=(h s hs).len
 have hl:i<s.P.xs.length:=by omega
 have:=(h s hs).pond s.P.xs[i] (List.getElem_mem hl)
 simpa [List.getD,hl] using this
theorem of_short {n:Net} {sts:List St} (h:∀ s∈sts,SGood n s) (hl:sts.length<=12) (i:Nat) (hi:i<n.Ns.xs.length):(ofM sts i).2=0/\∀ e,CountIs (ofM sts i).1 e->∃ m g:Int,e=.returned (.tuple #[.int .i64 m,.int .i64 (wsum 0 (pondL sts i)),.int .i64 g,.int .i64 0]):=by
 have e:ofM sts i=spillsM (pondL sts i) 1:=by
  rw [ofM,if_neg om,ofGo_pond i sts [] (fun s hs=>by have:=(h s hs).len;omega)]
  rfl
 rw [e]
 exact spills_short (pond_ok h i hi) (by simp [pondL];omega)
theorem totalM_short {n:Net} {sts:List St} (h:∀ s∈sts,SGood n s) (hl:sts.length<=12) (hn:n.Ns.xs.length<=12):totalM sts=totalGo (-1) 0 0 sts:=by
 have:(sts.any fun s=>decide (300<(s.P.xs.length:Int)))=false:=by
  rw [List.any_eq_false]
  intro s hs
  have:=(h s hs).len
  simp only [decide_eq_true_eq]
  omega
 rw [totalM,this,if_neg (by simp;omega)]
theorem totalGo_step {n:Net} {s:St} (h:SGood n s) (g at':Int) (k:Nat) (r:List St):totalGo g at' k (s :: r)=if g<wsum 0 s.P.xs then totalGo (wsum 0 s.P.xs) k (k+1) r else totalGo g at' (k+1) r:=by
 rw [totalGo,vols_ok h.pond,if_neg (by simp)]
theorem wsum_pond {n:Net} {s:St} (h:SGood n s) (hn:n.Ns.xs.length<=12):0<=wsum 0 s.P.xs:=by
 have hp:=h.pond
 have hl:=h.len
 have hs:=spSum_le s.P.xs (fun v h=>(hp v h).2)
 have h0:=spSum_nonneg s.P.xs (fun v h=>(hp v h).1)
 rw [wsum_sum s.P.xs 0 hp (Int.le_refl 0) om]
 omega
theorem causeM_full {ns:List Nd} {ls:List Lk} {V:List Int}:∀ (f:Nat) (w:List Int),(0<=lastI w/\lastI w<(ns.length:Int)/\fullM ns V (lastI w).toNat=true) ->
  0<=causeM ns ls V f w/\causeM ns ls V f w<(ns.length:Int)/\fullM ns V (causeM ns ls V f w).toNat=true
 | 0,w,h=>h
 | f+1,w,h=>by
  simp only [causeM]
  split
  ·exact h
  ·rename_i h1
   split
   ·exact h
   ·split
    ·rename_i h2 h3
     refine causeM_full f _ ?_
     rw [lastI_snoc]
     refine ⟨by omega,?_,h3⟩
     rcases nextM_bd ns (nmAt ns (lastI w).toNat) ls with q|q
     ·exact q.2
     ·omega
    ·exact h
def CauseOk (n:Net) (s:St) (nm:ByteArray) (c:Nat):Prop:=c<n.Ns.xs.length/\findNd n.Ns.xs nm=(c:Int)/\s.V.xs.getD c 0=capB (ndK n c)/\(ndK n c).Kind≠3
theorem SGood.cause {n:Net} {s:St} (hn:netB n=true) (h:SGood n s) (i:Nat) (hi:i<n.Ns.xs.length) (hp:s.P.xs.getD i 0≠0):(ndK n i).Kind≠3/\s.V.xs.getD i 0=capB (ndK n i)/\(causeP n s i).2=0/\∃ c,CauseOk n s (causeP n s i).1 c:=by
 obtain ⟨h1,h2,h3,h4,h5,h6⟩:=stB_parts h.1
 have hk:(ndK n i).Kind≠3:=fun e=>hp ((h5 i hi).2.2.2.2 (by simp [isOut,e]))
 have hf:=h.2 i hi hp
 have e:causeP n s i=(nmAt n.Ns.xs (causeM n.Ns.xs n.Ls.xs s.V.xs n.Ns.xs.length [(i:Int)]).toNat,0):=by
  rw [causeP,hn,h.1,if_neg (by simp),if_neg om,if_neg (by simpa using hp)]
 have hfull:fullM n.Ns.xs s.V.xs i=true:=by
  simp only [fullM,Bool.and_eq_true,Bool.not_eq_true',decide_eq_false_iff_not,decide_eq_true_eq]
  exact ⟨hk,hf⟩
 obtain ⟨c0,c1,c2⟩:=causeM_full (ls:=n.Ls.xs) n.Ns.xs.length [(i:Int)] ⟨by simp [lastI],by simp [lastI];omega,by simpa [lastI] using hfull⟩
 obtain ⟨c,hc⟩:=Int.eq_ofNat_of_zero_le c0
 rw [hc] at c1 c2 e
 have hcl:c<n.Ns.xs.length:=by omega
 have c2:fullM n.Ns.xs s.V.xs c=true:=c2
 simp only [fullM,Bool.and_eq_true,Bool.not_eq_true',decide_eq_false_iff_not,decide_eq_true_eq] at c2
 refine ⟨hk,hf,by rw [e],c,hcl,?_,c2.2,c2.1⟩
 have:=(netB_nd hn c hcl).2
 rw [e]
 show findNd n.Ns.xs (nmAt n.Ns.xs c)=c
 simpa [nmAt,List.getD,hcl] using this
end Go.Proofs.YtoiakijmbghhlaaGreat
