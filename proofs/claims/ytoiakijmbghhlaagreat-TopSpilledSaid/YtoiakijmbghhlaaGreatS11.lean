/- A region that draws its order: a head walked once in every world of a class, then a tail walked order by order. | The difference of two wide integers. Conditions: it is not negative. -/
import Derived.StillTail
import Derived.Test.YtoiakijmbghhlaaGreatS00
import Derived.Test.YtoiakijmbghhlaaGreatS10
set_option linter.unusedVariables false
set_option linter.unusedSimpArgs false
set_option maxRecDepth 100000
set_option maxHeartbeats 32000000
namespace Go.Proofs.YtoiakijmbghhlaaGreat
open Go.RowKit
section
variable {P : Program} {ops : Array Oper} {md : Region.Mode} {C : World → Prop}
def tailB (md:Region.Mode) (ops:Array Oper) (n:Nat):Bool:=
 (List.range ops.size).all fun t=>decide (t<=n)||(List.range t).any fun j=>decide (n<=j)&&Region.waitsFor md ops t j
theorem tail_waits2 {n:Nat} {listed:Array Bool} (hs:Region.sinkB md ops n=true) (hc:tailB md ops n=true) (hn:n<ops.size) (inv:HeadInv md ops n listed) :
  ∀ (d i:Nat),n-i=d->i<n->listed.getD i true=false->∀ t,n<=t->t ∉ Region.ready md ops listed:=by
 intro d
 induction d using Nat.strongRecOn with
 | _ d ih=>
  intro i hd hi hun t ht hr
  obtain ⟨_,ot,hot,hall⟩:=mem_ready.1 hr
  have htlt:t<ops.size:=(Array.getElem?_eq_some_iff.1 hot).1
  by_cases htn:t=n
  ·subst htn
   have h1:=List.all_eq_true.1 hs i (List.mem_range.2 hi)
   obtain ⟨j,hj,hj2⟩:=List.any_eq_true.1 h1
   simp only [Bool.and_eq_true,decide_eq_true_eq] at hj2
   obtain ⟨oj,hoj,e,he,hb,hon⟩:=Region.waitsFor_spec hj2.2
   have hjle:j<=t:=by have:=List.mem_range.1 hj;omega
   by_cases hjt:j=t
   ·subst hjt
    have:oj=ot:=Option.some.inj (hoj.symm.trans hot)
    subst this
    have h2:=hall e he hb
    rw [hon,getD_both hun] at h2
    cases h2
   ·cases hl:listed.getD j false with
    | true=>
     have h2:=inv.closed j oj hoj hl e he hb
     rw [hon,getD_both hun] at h2
     cases h2
    | false=>
     have hjs:j<listed.size:=by rw [inv.size];omega
     exact ih (t-j) om j rfl om (getD_in hjs hl) t (Nat.le_refl _) hr
  ·have h1:=List.all_eq_true.1 hc t (List.mem_range.2 htlt)
   simp only [Bool.or_eq_true,decide_eq_true_eq] at h1
   rcases h1 with h1|h1
   ·omega
   ·obtain ⟨j,hj,hj2⟩:=List.any_eq_true.1 h1
    simp only [Bool.and_eq_true,decide_eq_true_eq] at hj2
    obtain ⟨o',ho',e,he,hb,hon⟩:=Region.waitsFor_spec hj2.2
    have:o'=ot:=Option.some.inj (ho'.symm.trans hot)
    subst this
    have h2:=hall e he hb
    have:=List.mem_range.1 hj
    rw [hon,getD_both (inv.tail j hj2.1 om)] at h2
    cases h2
def wpAnyQL (P:Program) (md:Region.Mode) (ops:Array Oper) (C:World->Prop) (n:Nat) (L:Array Bool->Act->Prop):Nat->Array Bool->Act->Prop
 | 0,listed,a=>L listed a
 | f+1,listed,a=>
  Region.ready md ops listed≠[]/\∀ i∈Region.ready md ops listed,i<n/\qOp P ops C i (wpAnyQL P md ops C n L f (listed.setIfInBounds i true)) a
theorem wpAny_of_headQ {n g:Nat} {L:Array Bool->Act->Prop} {Q':Exit->Act->World->Prop} (hL:∀ listed a w,C w->L listed a->wpAny P md ops Q' g listed a w) :
  ∀ (f:Nat) (listed:Array Bool) (a:Act) (w:World),C w->wpAnyQL P md ops C n L f listed a->wpAny P md ops Q' (f+g) listed a w
 | 0,listed,a,w,hw,h=>by rw [Nat.zero_add];exact hL _ _ _ hw h
 | f+1,listed,a,w,hw,h=>by
  rw [show f+1+g=(f+g)+1 by omega]
  exact ⟨fun h0=>absurd h0 h.1,fun i hi=>wpOp_of_qOp hw (fun a' w' hw' h'=>wpAny_of_headQ hL f _ a' w' hw' h') (h.2 i hi).2⟩
theorem wpAnyQL_first {n i:Nat} {oi:Oper} {v:Value} {L:Array Bool->Act->Prop} (hi:ops[i]? = some oi) (hsel:∀ (j:Nat) (o:Oper) cs b,ops[j]? = some o->o.op≠.select cs b)
  (hs:Region.sinkB md ops n=true) (hc:tailB md ops n=true) (hn:n<ops.size) (hin:i<n)
  (hdone:∀ listed a,L listed a->∀ j∈Region.ready md ops listed,n<=j) :
  ∀ (f:Nat) (listed:Array Bool) (a:Act),HeadInv md ops n listed ->
   (∀ j oj,ops[j]? = some oj->j≠i->listed.getD j true=false->(∀ e∈oj.after,Region.binds md e=true->e.on≠i)->oi.apart ops oj=true) ->
   i∈Region.ready md ops listed->YieldsIn P ops C oi v a ->
   wpAnyQL P md ops C n L f (listed.setIfInBounds i true) (a.put oi.dst v)->wpAnyQL P md ops C n L (f+1) listed a:=by
 intro f
 induction f with
 | zero=>
  intro listed a inv _ hr hy H
  have hun:=(mem_ready.1 hr).1
  refine ⟨fun h=>(by rw [h] at hr;cases hr),fun j hj=>?_⟩
  have hjn:j<n:=by
   rcases Nat.lt_or_ge j n with h|h
   ·exact h
   ·exact absurd hj (tail_waits2 hs hc hn inv _ i rfl hin hun j h)
  refine ⟨hjn,?_⟩
  by_cases hji:j=i
  ·subst hji;exact hy.qOp hi H
  ·have:=hdone _ _ H j (ready_mono hj hji)
   omega
 | succ f ih=>
  intro listed a inv hfree hr hy H
  have hun:=(mem_ready.1 hr).1
  refine ⟨fun h=>(by rw [h] at hr;cases hr),fun j hj=>?_⟩
  have hjn:j<n:=by
   rcases Nat.lt_or_ge j n with h|h
   ·exact h
   ·exact absurd hj (tail_waits2 hs hc hn inv _ i rfl hin hun j h)
  refine ⟨hjn,?_⟩
  by_cases hji:j=i
  ·subst hji;exact hy.qOp hi H
  ·have h1:=(H.2 j (ready_mono hj hji)).2
   obtain ⟨hjun,oj,hoj,hall⟩:=mem_ready.1 hj
   have hnot:∀ e∈oj.after,Region.binds md e=true->e.on≠i:=fun e he hb heq=>by
    have h1:=hall e he hb
    rw [heq,getD_both hun] at h1
    cases h1
   have h2:=qOp_put hoj (hfree j oj hoj hji hjun hnot) (fun cs b=>hsel i oi cs b hi) (fun cs b=>hsel j oj cs b hoj) hy h1
   have hfree':∀ k ok,ops[k]? = some ok->k≠i->(listed.setIfInBounds j true).getD k true=false ->
     (∀ e∈ok.after,Region.binds md e=true->e.on≠i)->oi.apart ops ok=true:=fun k ok hk hki hun hno=>by
    refine hfree k ok hk hki ?_ hno
    by_cases hjk:j=k
    ·subst hjk;exact hjun
    ·rw [getD_set_ne true hjk] at hun;exact hun
   refine qOp_mono (fun a' h3=>ih (listed.setIfInBounds j true) a' (inv.set hj hjn) hfree' (ready_mono hr (Ne.symm hji)) h3.1 ?_) h2
   rw [Array.setIfInBounds_comm _ _ hji]
   exact h3.2
def marked:Nat->Nat->Array Bool->Array Bool
 | 0,_,l=>l
 | f+1,k,l=>marked f (k+1) (l.setIfInBounds k true)
def headB (md:Region.Mode) (ops:Array Oper) (n:Nat):Nat->Nat->Array Bool->Bool
 | 0,_,listed=>(Region.ready md ops listed).all fun j=>decide (n<=j)
 | f+1,k,listed=>(Region.ready md ops listed).contains k&&Region.free md ops listed k&&headB md ops n f (k+1) (listed.setIfInBounds k true)
def headTailB (md:Region.Mode) (ops:Array Oper) (n:Nat):Bool:=
 Region.noSelect ops&&decide (n<ops.size)&&Region.sinkB md ops n&&tailB md ops n&&headB md ops n n 0 (Array.replicate ops.size false)
theorem wpAnyQL_lex {n:Nat} {Lq:Act->Prop} (hsel:Region.noSelect ops=true) (hs:Region.sinkB md ops n=true) (hc:tailB md ops n=true) (hn:n<ops.size) :
  ∀ (l:List Oper) (k:Nat) (listed:Array Bool) (a:Act),(∀ j,j<l.length->l[j]? = ops[k+j]?)->k+l.length=n->HeadInv md ops n listed ->
  headB md ops n l.length k listed=true->wpQuiet P ops C Lq l a ->
  wpAnyQL P md ops C n (fun listed' a'=>((Region.ready md ops listed').all fun j=>decide (n<=j))=true/\listed'=marked l.length k listed/\Lq a') l.length listed a
 | [],k,listed,a,_,hk,_,hB,h=>⟨by simpa [headB] using hB,rfl,h⟩
 | o :: l,k,listed,a,hl,hk,inv,hB,h=>by
  have h0:ops[k]? = some o:=by simpa using (hl 0 (by simp)).symm
  simp only [List.length_cons,headB,Bool.and_eq_true] at hB
  obtain ⟨⟨hr,hf⟩,hB'⟩:=hB
  have hkn:k<n:=by simp only [List.length_cons] at hk;omega
  have hr':k∈Region.ready md ops listed:=by simpa using hr
  have hst:qOp P ops C k (wpQuiet P ops C Lq l) a:=by unfold qOp;simp only [h0];exact h
  obtain ⟨v,hy,hK⟩:=yieldsIn_of_qOp h0 hst
  exact wpAnyQL_first h0 (Region.noSelect_spec hsel) hs hc hn hkn (fun listed' a' hL j hj=>by have:=List.all_eq_true.1 hL.1 j hj;simpa using this) l.length listed a inv (Region.free_spec h0 hf) hr' hy
   (wpAnyQL_lex hsel hs hc hn l (k+1) _ _ (fun j hj=>by have:=hl (j+1) (by simp;omega);simpa [Nat.add_assoc,Nat.add_comm 1 j] using this) (by simp only [List.length_cons] at hk;omega) (inv.set hr' hkn) hB' hK)
theorem wp_region_more_tail {id:Nat} {Q:Exit->Act->World->Prop} {a:Act} {w:World} {l:List Oper} (n:Nat) (hm:P.follows .mixedOrders=true) (hB:headTailB .any l.toArray n=true)
  (h:wpQuiet P l.toArray (fun w'=>∃ x,w'=more w x) (fun a'=>∀ w',(∃ x,w'=more w x)->wpAny P .any l.toArray Q (l.length-n) (marked n 0 (Array.replicate l.length false)) a' w') (l.take n) a):(Code.region id l.toArray true).wp P Q a w:=by
 simp only [headTailB,Bool.and_eq_true,decide_eq_true_eq] at hB
 obtain ⟨⟨⟨⟨hsel,hn⟩,hs⟩,hc⟩,hlex⟩:=hB
 have hn':n<l.length:=by simpa using hn
 have htl:(l.take n).length=n:=by simp;omega
 have inv0:HeadInv .any l.toArray n (Array.replicate l.toArray.size false):=
  ⟨by simp,fun j oj _ hl=>(by rw [getD_replicate_false] at hl;cases hl),fun t _ ht=>getD_in (by simpa using ht) (getD_replicate_false _ _)⟩
 have H:=wpAnyQL_lex (md:=.any) (C:=fun w'=>∃ x,w'=more w x) hsel hs hc hn (l.take n) 0 _ a (fun j hj=>by
  have hj':j<n:=by rw [htl] at hj;exact hj
  simp [hj']) (by simpa using htl) inv0 (by rw [htl];exact hlex) h
 refine wp_region_any hm ?_
 have:=wpAny_of_headQ (Q':=Q) (g:=l.length-n) (fun listed a' w' hw' hL=>by
  obtain ⟨_,rfl,h3⟩:=hL
  have:=h3 w' hw'
  rw [htl]
  simpa using this) _ _ _ { w with drawn:=w.drawn+1 } ⟨⟨#[],w.drawn+1⟩,by simp [more]⟩ H
 rw [htl,show n+(l.length-n)=l.toArray.size by simp;omega] at this
 exact this
end
theorem split64 (V:Nat):∃ A B,A*18446744073709551616+B=V/\B<18446744073709551616:=
 ⟨V / 18446744073709551616,V % 18446744073709551616,by rw [Nat.mul_comm];exact Nat.div_add_mod V _,Nat.mod_lt _ (by decide)⟩
theorem wsub_any (h1 l1 h2 l2 h l:Nat) (w:World) (b1:h1<576460752303423488) (b2:h2<576460752303423488) (b3:l1<1152921504606846976) (b4:l2<1152921504606846976) (b5:l<1152921504606846976)
  (hv:h*1152921504606846976+l+(h2*1152921504606846976+l2)=h1*1152921504606846976+l1) :
  Calls Tryz.prog 247 #[vW h1 l1,vW h2 l2] w fun e w'=>e=.returned (.tuple #[vW h l,.int .i64 0])/\Below w.heap.size w w':=by
 obtain ⟨A,B,eA,lB⟩:=split64 (h1*1152921504606846976+l1)
 obtain ⟨C,D,eC,lD⟩:=split64 (h2*1152921504606846976+l2)
 obtain ⟨H,L,eH,lL⟩:=split64 (h*1152921504606846976+l)
 have lA:A<36028797018963968:=by omega
 have lH:H<36028797018963968:=by omega
 have hv1:=fun W=>wvalue_any h1 l1 A B W b1 b3 eA.symm lB
 have hv2:=fun W=>wvalue_any h2 l2 C D W b2 b4 eC.symm lD
 have ho1:=fun W=>wvalid_any h1 l1 W om b3
 have ho2:=fun W=>wvalid_any h2 l2 W om b4
 have hm:=fun W=>wminus_any C D W
 have hs:=fun W=>wsum_any A B C D H L W lA lB lD lL (by rw [eA,eC,eH];exact hv)
 have hp:=fun W=>wplaced_any H L h l W lH lL eH.symm b5
 generalize nzB C D=z at *
 have hb0:Below w.heap.size w (((w.alloc (.cells #[.int .i64 (h1:Int),.int .i64 (l1:Int)] 321)).alloc (.cells #[.int .i64 (h2:Int),.int .i64 (l2:Int)] 321)).alloc (.cells #[.int .i64 0,.int .i64 0] 321)):=bl
 have hX:Bi2 (((w.alloc (.cells #[.int .i64 (h1:Int),.int .i64 (l1:Int)] 321)).alloc (.cells #[.int .i64 (h2:Int),.int .i64 (l2:Int)] 321)).alloc (.cells #[.int .i64 0,.int .i64 0] 321)) w.heap.size h1 l1:=by
  refine ⟨?_,?_,?_,?_⟩ <;> simp [go_sem]
 have hY:Bi2 (((w.alloc (.cells #[.int .i64 (h1:Int),.int .i64 (l1:Int)] 321)).alloc (.cells #[.int .i64 (h2:Int),.int .i64 (l2:Int)] 321)).alloc (.cells #[.int .i64 0,.int .i64 0] 321)) (w.heap.size+1) h2 l2:=by
  refine ⟨?_,?_,?_,?_⟩ <;> simp [go_sem]
 have hR:Bi2 (((w.alloc (.cells #[.int .i64 (h1:Int),.int .i64 (l1:Int)] 321)).alloc (.cells #[.int .i64 (h2:Int),.int .i64 (l2:Int)] 321)).alloc (.cells #[.int .i64 0,.int .i64 0] 321)) (w.heap.size+1+1) 0 0:=by
  refine ⟨?_,?_,?_,?_⟩ <;> simp [go_sem]
 clear eA eC eH lA lB lD lL lH hv
 go_enter Tryz.func247,Tryz.ntmps247
 go_wp2_with fail
 refine Calls.go hb0 (ho1 _) ?_
 rintro e w1 rfl hb1' hb1
 have hX:=hX.mono hb1'
 have hY:=hY.mono hb1'
 have hR:=hR.mono hb1'
 obtain ⟨y0,y1,fy0,fy1⟩:=hY
 have hY:Bi2 w1 (w.heap.size+1) h2 l2:=⟨y0,y1,fy0,fy1⟩
 clear hb1' hb0
 go_wp2_with fail
 refine Calls.go hb1 (ho2 _) ?_
 rintro e w2 rfl hb2' hb2
 have hX:=hX.mono hb2'
 have hY:=hY.mono hb2'
 have hR:=hR.mono hb2'
 clear hb2' hb1 y0 y1 fy0 fy1 ho1 ho2
 go_wp2_with fail
 generalize hwn:w.heap.size=n at *
 have HX:=hX
 have HY:=hY
 have HR:=hR
 have hsz:n+1+1<w2.heap.size:=hR.lt
 have hwn:Hid (w.heap.size=n):=hwn
 generalize w2=W at *
 obtain ⟨x0,x1,fx0,fx1⟩:=hX
 obtain ⟨y0,y1,fy0,fy1⟩:=hY
 obtain ⟨r0,r1,fr0,fr1⟩:=hR
 clear fy0 fy1 fx0 fx1
 obtain ⟨x0,x1,fx0,fx1⟩:=HX
 obtain ⟨y0,y1,fy0,fy1⟩:=HY
 refine wp_region_more_tail 6 (by kernel_rfl) (by kernel_rfl) ?_
 simp only [List.take_succ_cons,List.take_zero]
 go_big_quiet_step (fail)
 go_big_quiet_step (first|(go_at_call 288;exact Calls.more_of (hv1 _)) )
 go_big_quiet_step (fail)
 go_big_quiet_step (first|(go_at_call 288;exact Calls.more_of (hv2 _)) )
 go_big_quiet_step (first|(go_at_call 289;exact Calls.more_of (hm _)) )
 go_big_quiet_step (first|(go_at_call 287;exact Calls.more_of (hs _)) )
 refine wpQuiet_nil ?_
 intro _ hwq
 obtain ⟨xq,hwq⟩:=hwq
 subst hwq
 refine wpAny_ready (rs:=[6]) (by kernel_rfl) (by simp) ?_
 refine AllReady.cons rfl (fun K hK=>?_) AllReady.nil
 go_simp
 go_at_call 285
 refine (hp _).mono ?_
 rintro e5 v5 ⟨rfl,hw5⟩
 have k5:Below W.heap.size W v5:=(below_more W xq).trans (hw5.mono (by rw [size_more];omega))
 obtain ⟨r05,r15,fr05,fr15⟩:=HR.mono k5
 refine hK _ _ ?_
 clear hK K
 refine wpAny_take (i:=7) (v:=?_) rfl (by kernel_rfl) (by kernel_rfl) (by kernel_rfl) (fun _ _ _ h=>h) (Or.inl ⟨by rfl,?_⟩) ?_
 case refine_2=>(intro w;go_simp;try (with_reducible rfl))
 refine wpAny_take (i:=8) (v:=?_) rfl (by kernel_rfl) (by kernel_rfl) (by kernel_rfl) (fun _ _ _ h=>h) (Or.inl ⟨by rfl,?_⟩) ?_
 case refine_2=>(intro w;go_simp;try (with_reducible rfl))
 refine wpAny_ready (rs:=[9]) (by kernel_rfl) (by simp) ?_
 refine AllReady.cons rfl (fun K hK=>?_) AllReady.nil
 go_simp
 refine hK _ _ ?_
 clear hK K
 refine wpAny_ready (rs:=[10]) (by kernel_rfl) (by simp) ?_
 refine AllReady.cons rfl (fun K hK=>?_) AllReady.nil
 go_simp
 refine hK _ _ ?_
 clear hK K
 refine wpAny_done (by kernel_rfl) ?_ _
 have hbz:Below n w ((v5.setCell ⟨n+1+1,0,none⟩ (.int .i64 (h:Int))).setCell ⟨n+1+1,1,none⟩ (.int .i64 (l:Int))):=below_set2 (hb2.trans (Below.mono k5 om)) om _ _
 clear hv1 hv2 hm hs hp
 go_wp2_with fail
 exact bodyPost_ret (v:=.tuple #[vW h l,.int .i64 0]) (by simp (maxDischargeDepth:=9) [results,Tryz.results247,go_sem,r05,r15]) rfl ⟨rfl,(show w.heap.size=n from hwn) ▸ hbz⟩
end Go.Proofs.YtoiakijmbghhlaaGreat
