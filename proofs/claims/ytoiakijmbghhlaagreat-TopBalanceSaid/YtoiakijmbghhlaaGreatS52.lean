/- TopBalance: what its walk stands on: the map of what passed, what a state holds. Conditions: none. -/
import Derived.Test.YtoiakijmbghhlaaGreatS41
import Derived.Test.YtoiakijmbghhlaaGreatS45
import Derived.Test.YtoiakijmbghhlaaGreatS46
import Derived.Test.YtoiakijmbghhlaaGreatS47
import Derived.Test.YtoiakijmbghhlaaGreatS49
import Derived.Test.YtoiakijmbghhlaaGreatS51
set_option linter.unusedVariables false
set_option linter.unusedSimpArgs false
set_option maxRecDepth 100000
set_option maxHeartbeats 32000000
namespace Go.Proofs.YtoiakijmbghhlaaGreat
open Go.RowKit Go.Maps
theorem MapI.look1 {w:World} {b n:Nat} {f:Int->Option Int} (h:MapI w b n f) {k:Int} (hk:(Lit.int .i64 k).wf=true) :
  (Instr.lookup 65 (.map (some b)) (.int .i64 k) false).run Tryz.prog w=.ok (.int .i64 ((f k).getD 0)) w:=by
 obtain ⟨D,hD,hf⟩:=h
 obtain ⟨v,ps,hrun,hv⟩:=hD.lookup kInt undMII (zeroI w) (zd:=.lit (.int .i64 0)) (zp:=[]) (plainElem_int undI (by decide)) (keyI hk)
 obtain ⟨c,rfl,hc,_⟩:=plainElem_int_inv undI hv
 have hc:=congrArg Prod.fst hc
 simp only at hc
 suffices hcc:c=(f k).getD 0 by rw [hrun,hcc]
 clear hrun
 cases hn:f k with
 | none=>
  have hh:Maps.has D (.int .i64 k)=false:=by rw [(hf k).1,hn];rfl
  rw [atKey_of_not_has hh] at hc
  exact (lit_inj hc).symm
 | some y=>
  rw [(hf k).2 y hn] at hc
  exact (lit_inj hc).symm
theorem MapI.upd1 {w:World} {b n:Nat} {f:Int->Option Int} (h:MapI w b n f) (hn:n<maxLen) {k y:Int} (hk:(Lit.int .i64 k).wf=true) (hy:(Lit.int .i64 y).wf=true) :
  ∃ w',(Instr.mapUpdate 65 (.map (some b)) (.int .i64 k) (.int .i64 y)).run Tryz.prog w=.ok () w'/\MapI w' b (n+1) (setF f k y)/\w.grownBy w' (some b):=by
 obtain ⟨D,hD,hf⟩:=h
 obtain ⟨w',h1,h2,h3⟩:=hD.update kInt undMII hn (keyI hk) (plainElem_int undI hy)
 exact ⟨w',h1,MapI.put hD.isMap hf h2,h3⟩
def MapP (w:World) (b:Nat) (l:List Led) (M k i:Nat):Prop:=∃ c f,MapI w b c f/\c<=12*k+i/\∀ j,j<M->(f (j:Int)).getD 0=if j<i then passL l j (k+1) else passL l j k
theorem MapP.below {w w':World} {b:Nat} {l:List Led} {M k i:Nat} (h:MapP w b l M k i) (hb:Below w.heap.size w w'):MapP w' b l M k i:=by
 obtain ⟨c,f,h1,h2⟩:=h
 exact ⟨c,f,h1.below hb,h2⟩
theorem MapP.made (w:World) (l:List Led) (M:Nat):MapP (w.alloc (.map #[] 0)) w.heap.size l M 0 0:=⟨0,_,MapI.made w,by omega,fun j hj=>by simp [passL,sg]⟩
theorem MapP.look {w:World} {b:Nat} {l:List Led} {M k i:Nat} (h:MapP w b l M k i) {j:Nat} (hj:j<M) (hM:M<=12) :
  (Instr.lookup 65 (.map (some b)) (.int .i64 (j:Int)) false).run Tryz.prog w=.ok (.int .i64 (if j<i then passL l j (k+1) else passL l j k)) w:=by
 obtain ⟨c,f,h1,h2,h3⟩:=h
 have:=h1.look1 (k:=(j:Int)) (wfI om)
 rw [h3 j hj] at this
 exact this
theorem MapP.upd {w:World} {b:Nat} {l:List Led} {M k i:Nat} (h:MapP w b l M k i) (hi:i<M) (hM:M<=12) (hk:k<=12) {z:Int} (hz:z=passL l i (k+1)) (hb : -9223372036854775808<=z/\z<=9223372036854775807) :
  ∃ w',(Instr.mapUpdate 65 (.map (some b)) (.int .i64 (i:Int)) (.int .i64 z)).run Tryz.prog w=.ok () w'/\MapP w' b l M k (i+1)/\w.grownBy w' (some b):=by
 obtain ⟨c,f,h1,h2,h3⟩:=h
 obtain ⟨w',k1,k2,k3⟩:=h1.upd1 (by simp only [maxLen];omega) (k:=(i:Int)) (y:=z) (wfI om) (wfI hb)
 refine ⟨w',k1,⟨c+1,_,k2,by omega,fun j hj=>?_⟩,k3⟩
 unfold setF
 by_cases e:j=i
 ·subst e
  rw [if_pos rfl,if_pos om,hz];rfl
 ·rw [if_neg om,h3 j hj]
  by_cases e2:j<i
  ·rw [if_pos e2,if_pos om]
  ·rw [if_neg e2,if_neg om]
theorem MapP.over {w:World} {b:Nat} {l:List Led} {M k:Nat} (h:MapP w b l M k M) (hM:M<=12):MapP w b l M (k+1) 0:=by
 obtain ⟨c,f,h1,h2,h3⟩:=h
 exact ⟨c,f,h1,by omega,fun j hj=>by rw [h3 j hj,if_pos hj,if_neg (Nat.not_lt_zero _)]⟩
theorem heldGo_sum:∀ (vs ps:List Int) (a:Int),vs.length=ps.length->vs.length<=12->0<=a->a<=27021597764222976*(1+(12-vs.length:Nat))->(∀ i,i<vs.length->0<=vs.getD i 0+ps.getD i 0/\vs.getD i 0+ps.getD i 0<=2251799813685248) ->
  heldGo vs ps a=a+sg (fun i=>vs.getD i 0+ps.getD i 0) vs.length
 | [],[],a,_,_,_,_,_=>by simp [heldGo,sg]
 | [],_ :: _,_,h,_,_,_,_=>by simp at h
 | _ :: _,[],_,h,_,_,_,_=>by simp at h
 | v :: vs,p :: ps,a,h,h12,h0,h1,hb=>by
  have hb0:=hb 0 (by simp)
  simp only [List.getD_cons_zero] at hb0
  simp only [List.length_cons] at h12 h1 h
  have e1:wrap64 (v+p)=v+p:=IntWalk.wrap64_in (v+p) om
  have e2:wrap64 (a+(v+p))=a+(v+p):=IntWalk.wrap64_in (a+(v+p)) om
  have ih:=heldGo_sum vs ps (a+(v+p)) om om om om (fun i hi=>by
   have:=hb (i+1) (by simp;omega)
   simpa [List.getD] using this)
  have hs:∀ m,sg (fun i=>(v :: vs).getD i 0+(p :: ps).getD i 0) (m+1)=(v+p)+sg (fun i=>vs.getD i 0+ps.getD i 0) m:=by
   intro m
   induction m with
   | zero=>simp [sg]
   | succ m ihm=>
    rw [sg_succ,ihm,sg_succ]
    simp only [List.getD_cons_succ]
    omega
  simp only [heldGo,e1,e2,List.length_cons]
  rw [ih,hs]
  omega
theorem held_ok {n:Net} {s:St} (hn:netB n=true) (hs:stB n s=true) (hN:n.Ns.xs.length<=12):heldXM n s=(heldL n s,0):=by
 have hp:=stB_parts hs
 unfold heldXM
 rw [if_pos (by rw [hn,hs];rfl)]
 have:=heldGo_sum s.V.xs s.P.xs 0 (by rw [hp.1,hp.2.1]) (by rw [hp.1];exact hN) (Int.le_refl 0) om (fun i hi=>by
  have a:=hp.2.2.2.2.1 i (by rw [<-hp.1];exact hi)
  have c:=capB_le hn i (by rw [<-hp.1];exact hi)
  omega)
 unfold heldV heldL
 rw [this,hp.1,Int.zero_add]
theorem RunCh.ledB {n:Net} {x:St} {ins:List InD} {sts:List St} {leds:List Led} (h:RunCh n x ins sts leds) (hl:leds.length=sts.length) (hN:n.Ns.xs.length<=12) (hL:n.Ls.xs.length<=12):∀ g∈leds,ledB n g=true:=by
 intro g hg
 obtain ⟨j,hj,rfl⟩:=List.mem_iff_getElem.1 hg
 obtain ⟨q,-,-,hc⟩:=h j om hj
 exact ledB_ok hc hN hL
theorem RunCh.stB {n:Net} {x:St} {ins:List InD} {sts:List St} {leds:List Led} (h:RunCh n x ins sts leds) (hl:leds.length=sts.length) (hx:stB n x=true):∀ k,k<=sts.length->stB n ((x :: sts).getD k x)=true
 | 0,_=>by simpa using hx
 | k+1,hk=>by
  obtain ⟨q,-,-,hc⟩:=h k om om
  have e:(x :: sts).getD (k+1) x=sts[k]'om:=by simp [List.getD,show k<sts.length from by omega]
  rw [e];exact hc.st'
end Go.Proofs.YtoiakijmbghhlaaGreat
