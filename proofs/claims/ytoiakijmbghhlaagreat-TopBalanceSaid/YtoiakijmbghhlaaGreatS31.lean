/- balance, plain: the account of a set of nodes over a controlled step. Conditions: the step is one (CStep). | balance: within, valid, sum, given, listed. Conditions: the arguments read as data. | routing.Step, ground: the blocks of its own variables; a state's row of truth values turned. Conditions: none. -/
import Derived.Test.YtoiakijmbghhlaaGreatS24
import Derived.Test.YtoiakijmbghhlaaGreatS14
import Derived.Test.YtoiakijmbghhlaaGreatS17
import Derived.Test.YtoiakijmbghhlaaGreatS26
import Derived.Test.YtoiakijmbghhlaaGreatS30
set_option linter.unusedVariables false
set_option linter.unusedSimpArgs false
set_option maxRecDepth 100000
set_option maxHeartbeats 32000000
namespace Go.Proofs.YtoiakijmbghhlaaGreat
open Go.RowKit
structure Led where
 I:Int
 O:Int
 P:Sl Int
structure CStep (n:Net) (s:St) (q:List Int) (s':St) (g:Led):Prop where
 st:stB n s=true
 two:∃ s2:St,s2.V.xs=s.V.xs/\s2.P.xs=s.P.xs/\StepR n s2 q s' g.I g.O g.P.xs
theorem sg_abs {f:Nat->Int} {b:Int}:∀ {n:Nat},(∀ i,i<n->-b<=f i/\f i<=b)->-(n*b)<=sg f n/\sg f n<=n*b
 | 0,_=>by simp [sg]
 | n+1,h=>by
  have h1:=sg_abs (n:=n) (fun i hi=>h i om)
  have h2:=h n om
  rw [sg_succ]
  rw [show ((n+1:Nat):Int)*b=n*b+b by rw [Int.natCast_add,Int.add_mul];simp]
  omega
def difF (s s':St) (q:List Int) (i:Nat):Int:=s.V.xs.getD i 0+s.P.xs.getD i 0+q.getD i 0-s'.V.xs.getD i 0-s'.P.xs.getD i 0
def linkF (n:Net) (ins:Nat->Bool) (p:List Int) (k:Nat):Int:=
 if ins (toN n k) && !ins (frmN n k) then p.getD k 0 else if ins (frmN n k) && !ins (toN n k) then -p.getD k 0 else 0
def lostQ (n:Net) (ins:Nat->Bool) (q:List Int) (i:Nat):Int:=if ins i&&isOut n i then q.getD i 0 else 0
def lostP (n:Net) (ins:Nat->Bool) (p:List Int) (k:Nat):Int:=if ins (toN n k)&&isOut n (toN n k) then p.getD k 0 else 0
section
variable {n : Net} {s s' : St} {q : List Int} {g : Led}
theorem CStep.net (h:CStep n s q s' g):netB n=true:=by obtain ⟨_,_,_,_,h2⟩:=h;exact h2.net
theorem CStep.st' (h:CStep n s q s' g):stB n s'=true:=by obtain ⟨_,_,_,_,h2⟩:=h;exact h2.st'
theorem CStep.ql (h:CStep n s q s' g):q.length=n.Ns.xs.length:=by obtain ⟨_,_,_,_,h2⟩:=h;exact h2.ql
theorem CStep.qb (h:CStep n s q s' g):∀ i,i<n.Ns.xs.length->0<=q.getD i 0/\q.getD i 0<=1125899906842624:=by obtain ⟨_,_,_,_,h2⟩:=h;exact h2.qb
theorem CStep.pl (h:CStep n s q s' g):g.P.xs.length=n.Ls.xs.length:=by obtain ⟨_,_,_,_,h2⟩:=h;exact h2.pl
theorem CStep.pb (h:CStep n s q s' g):∀ k,k<n.Ls.xs.length->0<=g.P.xs.getD k 0/\g.P.xs.getD k 0<=4503599627370496:=by obtain ⟨_,_,_,_,h2⟩:=h;exact h2.pb
theorem CStep.gi (h:CStep n s q s' g):g.I=sg (fun i=>q.getD i 0) n.Ns.xs.length:=by obtain ⟨_,_,_,_,h2⟩:=h;exact h2.gi
theorem CStep.go (h:CStep n s q s' g):g.O=sg (lostQ n (fun _=>true) q) n.Ns.xs.length+sg (lostP n (fun _=>true) g.P.xs) n.Ls.xs.length:=by
 obtain ⟨_,_,_,_,h2⟩:=h
 rw [h2.go]
 congr 1
theorem CStep.bd (h:CStep n s q s' g) (i:Nat) (hi:i<n.Ns.xs.length):0<=s.V.xs.getD i 0/\s.V.xs.getD i 0<=1125899906842624/\0<=s.P.xs.getD i 0/\s.P.xs.getD i 0<=1125899906842624 /\
  0<=s'.V.xs.getD i 0/\s'.V.xs.getD i 0<=1125899906842624/\0<=s'.P.xs.getD i 0/\s'.P.xs.getD i 0<=1125899906842624:=by
 have a:=(stB_parts h.st).2.2.2.2.1 i hi
 have b:=(stB_parts h.st').2.2.2.2.1 i hi
 have c:=capB_le h.net i hi
 omega
theorem CStep.dif (h:CStep n s q s' g) (ins:Nat->Bool):sg (fun i=>if ins i then difF s s' q i else 0) n.Ns.xs.length+sg (linkF n ins g.P.xs) n.Ls.xs.length=sg (lostQ n ins q) n.Ns.xs.length+sg (lostP n ins g.P.xs) n.Ls.xs.length:=by
 obtain ⟨hst,s2,e1,e2,h2⟩:=h
 have hb:=stB_parts hst
 have hb':=stB_parts h2.st'
 have key:=account (n:=n.Ns.xs.length) (m:=n.Ls.xs.length) (frm:=frmN n) (dst:=toN n) (fun k hk=>(ends_lt h2.net hk).1) (fun k hk=>(ends_lt h2.net hk).2) (isOut n) ins (difF s s' q) (fun i=>q.getD i 0) (fun k=>g.P.xs.getD k 0)
  (fun i hi ho=>by
   have:=h2.held i hi ho
   rw [e1,e2] at this
   unfold outS inS at this
   unfold difF
   omega)
  (fun i hi ho=>by
   refine ⟨?_,h2.fall i hi ho⟩
   have a:=hb.2.2.2.2.1 i hi
   have b:=hb'.2.2.2.2.1 i hi
   have c:=cap_out ho
   have d:=a.2.2.2.2 ho
   have e:=b.2.2.2.2 ho
   unfold difF
   omega)
 have hl:sg (linkF n ins g.P.xs) n.Ls.xs.length=sg (fun k=>if ins (toN n k) then g.P.xs.getD k 0 else 0) n.Ls.xs.length-sg (fun k=>if ins (frmN n k) then g.P.xs.getD k 0 else 0) n.Ls.xs.length:=by
  rw [<-sg_sub]
  refine sg_congr (fun k _=>?_)
  unfold linkF
  cases ins (toN n k) <;> cases ins (frmN n k) <;> simp
 rw [hl]
 unfold lostQ lostP
 omega
end
def goneF (n:Net) (ins:Nat->Bool) (q p:List Int) (i:Nat):Int:=if isOut n i&&ins i then q.getD i 0+sg (fun k=>if toN n k=i then p.getD k 0 else 0) n.Ls.xs.length else 0
theorem gone_eq {n:Net} (hn:netB n=true) (ins:Nat->Bool) (q p:List Int):sg (goneF n ins q p) n.Ns.xs.length=sg (lostQ n ins q) n.Ns.xs.length+sg (lostP n ins p) n.Ls.xs.length:=by
 have h:sg (lostP n ins p) n.Ls.xs.length=sg (fun i=>sg (fun k=>if ins i&&isOut n i then (if toN n k=i then p.getD k 0 else 0) else 0) n.Ls.xs.length) n.Ns.xs.length:=by
  rw [sg_swap]
  refine sg_congr (fun k hk=>?_)
  unfold lostP
  rw [<-sg_pick (ends_lt hn hk).2 (if ins (toN n k)&&isOut n (toN n k) then p.getD k 0 else 0)]
  refine sg_congr (fun i _=>?_)
  by_cases e:toN n k=i
  ·subst e;simp
  ·rw [if_neg (show ¬ i=toN n k from fun h=>e h.symm),if_neg e];simp
 rw [h,<-sg_add]
 refine sg_congr (fun i _=>?_)
 unfold goneF lostQ
 cases ins i <;> cases isOut n i <;> simp [sg_zero]
theorem ent201:∀ args w,(callFunc 201 args).run Tryz.prog w=.ok (.enter 201 args) w:=by
 intro args w
 simp [go_sem]
theorem ent135:∀ args w,(callFunc 135 args).run Tryz.prog w=.ok (.enter 135 args) w:=by
 intro args w
 simp [go_sem]
def wiOut (most n:Int):Bool:=decide (n<0)||decide (most<n)
def wiB (xs:List Int) (most:Int):Bool:=!(xs.any (wiOut most))
theorem wiB_of {xs:List Int} {most:Int} (h:∀ x∈xs,0<=x/\x<=most):wiB xs most=true:=by
 unfold wiB
 rw [Bool.not_eq_true',List.any_eq_false]
 intro x hx
 have:=h x hx
 simp [wiOut];omega
theorem wiB_at {xs:List Int} {most:Int} (h:wiB xs most=true):∀ x∈xs,0<=x/\x<=most:=by
 unfold wiB at h
 rw [Bool.not_eq_true',List.any_eq_false] at h
 intro x hx
 have:=h x hx
 simp [wiOut] at this;omega
theorem bawithin1_any (n most:Int) (B:Nat) (w:World) (hc:w.cell? ⟨B,0,none⟩=some (.int .i64 most)) :
  Calls Tryz.prog 201 #[.int .i64 n,.pointer (some ⟨B,0,none⟩)] w fun e w'=>e=.returned (.bool (wiOut most n))/\Below w.heap.size w w':=by
 by_cases h1:n<0 <;> by_cases h2:most<n
 all_goals
  go_enter Tryz.func201,Tryz.ntmps201
  go_wp2_with fail
  go_ret
  exact ⟨ret_bool (by simp [wiOut,h1,h2]),qr⟩
theorem bawithin_any (xs:List Int) (v:Value) (most:Int) (w:World) (hv:IsInts w v xs) :
  Calls Tryz.prog 132 #[v,.int .i64 most] w fun e w'=>e=.returned (.bool (wiB xs most))/\Below w.heap.size w w':=by
 have hb0:Below w.heap.size w (w.alloc (.cells #[.int .i64 most] 3)):=qr.alloc (Nat.le_refl _) _
 have hv1:=hv.mono hb0
 cases ht:xs.any (wiOut most)
 all_goals
  have HT:Hid (wiB xs most=_):=qh (by unfold wiB;rw [ht])
  rw [HT.out]
  go_enter Tryz.func132,Tryz.ntmps132
  go_wp2_with fail
  refine Calls.to (containsInts 201 #[.pointer (some ⟨w.heap.size,0,none⟩)] ent201 (wiOut most) xs _ _ hv1 (fun W hW x _=>bawithin1_any x most _ W ((hW.cell (p:=⟨w.heap.size,0,none⟩) (by simp)).trans (by simp [go_sem])))) ?_
  rintro e w1 rfl hb1
  rw [ht]
  have hbb:=hb0.trans (hb1.mono hb0.size)
  clear hb0 hb1 hv hv1 ht
  go_wp2_with fail
  go_ret
  exact ⟨rfl,hbb⟩
abbrev eLed (g:Led):List Value:=[.int .i64 g.I,.int .i64 g.O,vSl g.P]
abbrev vLed (g:Led):Value:=.agg #[.int .i64 g.I,.int .i64 g.O,vSl g.P]
def ledB (n:Net) (g:Led):Bool:=wiB [g.I,g.O] 1152921504606846976&&(decide (g.P.xs.length=n.Ls.xs.length)&&wiB g.P.xs 9007199254740992)
theorem boxLed (w W:World) (T:TypeId) (g:Led) (cs:Array Value) (hcs:cs=(eLed g).toArray) (B:Nat) (hB:B=w.heap.size) (hb:Below (B+1) (w.alloc (.cells cs T)) W) :
  W.cell? ⟨B,0,none⟩=some (.int .i64 g.I)/\W.cell? ⟨B,1,none⟩=some (.int .i64 g.O)/\W.cell? ⟨B,2,none⟩=some (.slice g.P.a g.P.xs.length g.P.cap):=by
 subst hB;subst hcs
 exact ⟨(hb.cell (p:=⟨w.heap.size,0,none⟩) (by simp)).trans (by simp [go_sem]),(hb.cell (p:=⟨w.heap.size,1,none⟩) (by simp)).trans (by simp [go_sem]),(hb.cell (p:=⟨w.heap.size,2,none⟩) (by simp)).trans (by simp [go_sem])⟩
theorem ints2 (w:World) (a b:Int) (T:TypeId):IsInts (w.alloc (.cells #[.int .i64 a,.int .i64 b] T)) (.slice (some ⟨w.heap.size,0,none⟩) 2 2) [a,b]:=
 isL_lit eInt 1 (fun _=>rfl) _ _ T #[.int .i64 a,.int .i64 b] [a,b] 2 2 (heap_alloc_new w _) rfl rfl (Nat.le_refl 2) om
theorem bawithin_lit {xs:List Int} {most:Int} {b:Bool} (h:wiB xs most=b) (v:Value) (w:World) (hv:IsInts w v xs) :
  Calls Tryz.prog 132 #[v,.int .i64 most] w fun e w'=>e=.returned (.bool b)/\Below w.heap.size w w':=by
 rw [<-h];exact bawithin_any xs v most w hv
theorem bavalid_any (n:Net) (g:Led) (w:World) (hgp:IsInts w (vSl g.P) g.P.xs):Calls Tryz.prog 67 #[vNet n,vLed g] w fun e w'=>e=.returned (.bool (ledB n g))/\Below w.heap.size w w':=by
 obtain ⟨W,hW⟩:∃ W,W=allocs w [((eNet n).toArray,25),((eLed g).toArray,56)]:=⟨_,rfl⟩
 have hbw:Below w.heap.size w W:=by rw [hW];exact allocs_below _ _
 have t0:W.heap[w.heap.size]? = some (.cells (eNet n).toArray 25 (0,0)):=by rw [hW];exact allocs_at [((eNet n).toArray,25),((eLed g).toArray,56)] w 0 (by simp)
 have t1:W.heap[w.heap.size+1]? = some (.cells (eLed g).toArray 56 (0,0)):=by rw [hW];exact allocs_at [((eNet n).toArray,25),((eLed g).toArray,56)] w 1 (by simp)
 have HW:Hid (W=(w.alloc (.cells (eNet n).toArray 25)).alloc (.cells (eLed g).toArray 56)):=qh hW
 have q1:W.cell? ⟨w.heap.size,1,none⟩=some (.slice n.Ls.a n.Ls.xs.length n.Ls.cap):=(tank_blk t0 1).trans rfl
 have g0:W.cell? ⟨w.heap.size+1,0,none⟩=some (.int .i64 g.I):=(tank_blk t1 0).trans rfl
 have g1:W.cell? ⟨w.heap.size+1,1,none⟩=some (.int .i64 g.O):=(tank_blk t1 1).trans rfl
 have g2:W.cell? ⟨w.heap.size+1,2,none⟩=some (.slice g.P.a g.P.xs.length g.P.cap):=(tank_blk t1 2).trans rfl
 have HP:=qh (hgp.mono hbw)
 obtain ⟨res,hres⟩:∃ res,res=ledB n g:=⟨_,rfl⟩
 rw [<-hres]
 have HR:=qh hres
 obtain ⟨b1,h1⟩:∃ b,wiB [g.I,g.O] 1152921504606846976=b:=⟨_,rfl⟩
 obtain ⟨b2,h2⟩:∃ b,wiB g.P.xs 9007199254740992=b:=⟨_,rfl⟩
 have H1:=qh h1
 have H2:=qh h2
 obtain ⟨m,hm⟩:∃ m,m=n.Ls.xs.length:=⟨_,rfl⟩
 obtain ⟨l,hl⟩:∃ l,l=g.P.xs.length:=⟨_,rfl⟩
 have HM:=qh hm
 have HL:=qh hl
 have hP:=hgp.mono hbw
 simp only [vSl] at hP
 rw [<-hm] at q1
 rw [<-hl] at g2 hP
 have c1:=bawithin_lit h1 _ _ (ints2 W g.I g.O 3)
 have c2:=fun W2 (hW2:Below W.heap.size W W2)=>bawithin_lit h2 _ _ (hP.mono hW2)
 have hbA:Below W.heap.size W (W.alloc (.cells #[.int .i64 g.I,.int .i64 g.O] 3)):=qr.alloc (Nat.le_refl _) _
 clear hW t0 t1 hgp hres hm hl h1 h2 hP
 simp only [vNet,vLed,vSl]
 go_enter Tryz.func67,Tryz.ntmps67
 go_upto_region 1 with (fail)
 first|rw [HM.out,HL.out,<-HW.out]|rw [<-HM.out,<-HL.out,<-HW.out]|rw [<-HW.out]
 clear HW
 cases b1
 ·have HF:Hid (res=false):=qh (by rw [HR.out];unfold ledB;rw [H1.out];rfl)
  go_wp2_with fail
  refine Calls.to c1 ?_
  rintro e w2 rfl hb2
  have hbb:=hbw.trans ((hbA.trans (hb2.mono hbA.size)).mono hbw.size)
  clear c1 c2
  go_wp2_with fail
  go_ret
  exact ⟨ret_bool HF.out.symm,hbb⟩
 by_cases hlm:l=m
 rotate_left
 ·have HF:Hid (res=false):=qh (by rw [HR.out];unfold ledB;rw [<-HL.out,<-HM.out,decide_eq_false hlm,Bool.false_and,Bool.and_false])
  have i1:(l==m)=false:=by simpa using hlm
  have i2:((l:Int)==(m:Int))=false:=by simp;omega
  have i3:decide (l=m)=false:=decide_eq_false hlm
  go_wp2_with fail
  refine Calls.to c1 ?_
  rintro e w2 rfl hb2
  have hba:=hbA.trans (hb2.mono hbA.size)
  have hbb:=hbw.trans (hba.mono hbw.size)
  have q1:=cel_lt q1 hba
  have g2:=cel_lt g2 hba
  clear c1 c2 hlm
  go_wp2_with fail
  go_ret
  exact ⟨ret_bool HF.out.symm,hbb⟩
 subst hlm
 have HF:Hid (res=b2):=qh (by rw [HR.out];unfold ledB;rw [H1.out,H2.out,<-HL.out,<-HM.out];simp)
 have i1:(l==l)=true:=by simp
 have i2:((l:Int)==(l:Int))=true:=by simp
 go_wp2_with fail
 refine Calls.to c1 ?_
 rintro e w2 rfl hb2
 have hba:=hbA.trans (hb2.mono hbA.size)
 have hbb:=hbw.trans (hba.mono hbw.size)
 have q1:=cel_lt q1 hba
 have g2:=cel_lt g2 hba
 have c2:=c2 _ hba
 clear c1 hba
 cases b2
 all_goals
  go_wp2_with fail
  refine Calls.to c2 ?_
  rintro e w3 rfl hb3
  have hbb:=hbb.trans (hb3.mono hbb.size)
  clear c2
  go_wp2_with fail
  go_ret
  exact ⟨ret_bool HF.out.symm,hbb⟩
theorem sum_take_succ (l:List Int) (k:Nat) (h:k<l.length):(l.take (k+1)).sum=(l.take k).sum+l[k]:=by
 rw [List.take_succ_eq_append_getElem h,List.sum_append];simp
theorem sum_bd {l:List Int} {B:Int} (hB:0<=B):(∀ x∈l,0<=x/\x<=B)->0<=l.sum/\l.sum<=l.length*B:=by
 induction l with
 | nil=>intro _;simp
 | cons a r ih=>
  intro h
  have h1:=ih (fun x hx=>h x (List.mem_cons_of_mem _ hx))
  have h2:=h a List.mem_cons_self
  rw [List.sum_cons,List.length_cons,show ((r.length+1:Nat):Int)*B=r.length*B+B by rw [Int.natCast_add,Int.add_mul];simp]
  omega
theorem basum0_any (xs:List Int) (v:Value) (w:World) (hv:IsInts w v xs) (hl:xs.length<=1000) (hbd:∀ x∈xs,0<=x/\x<=4503599627370496) :
  Calls Tryz.prog 64 #[v] w fun e w'=>e=.returned (.int .i64 xs.sum)/\Below w.heap.size w w':=by
 have HB:Hid (∀ k,k<=xs.length->0<=(xs.take k).sum/\(xs.take k).sum<=4503599627370496000):=qh (fun k hk=>by
  have:=sum_bd (l:=xs.take k) (B:=4503599627370496) (by decide) (fun x hx=>hbd x (List.mem_of_mem_take hx))
  rw [List.length_take,Nat.min_eq_left hk] at this
  omega)
 have HV:=qh hv
 obtain ⟨a,cap,rfl,-,-,-⟩:=hv
 obtain ⟨m,hm⟩:∃ m,m=xs.length:=⟨_,rfl⟩
 have HM:=qh hm
 have HBD:=qh hbd
 rw [<-hm] at hl ⊢
 clear hm hbd
 go_enter Tryz.func64,Tryz.ntmps64
 go_wp2_with fail
 go_loopw [3,8] (fun s3 s8 wr=>∃ k:Nat,k<=m/\s8=.int .i64 k/\s3=.int .i64 (xs.take k).sum/\wr=w) (fun _ s8 _=>m-(RowKit.intOf s8).toNat)
 case atStart=>exact ⟨0,Nat.zero_le _,rfl,by simp,rfl⟩
 case round=>
  obtain ⟨k,hk,rfl,rfl,rfl⟩:=hrel
  by_cases hkm:k<m
  ·have hkn:k<xs.length:=by rw [<-HM.out];exact hkm
   obtain ⟨b,off,ea,d0⟩:=(show IsC eInt 1 wr a xs from by obtain ⟨a',c',e,_,_,h⟩:=HV.out;cases e;exact h).int k hkn
   have hs:=sum_take_succ xs k hkn
   have h1:=HB.out k om
   have h2:=HB.out (k+1) om
   rw [hs] at h2
   obtain ⟨x,hx⟩:∃ x,x=xs[k]'hkn:=⟨_,rfl⟩
   obtain ⟨s,hs2⟩:∃ s,s=(xs.take k).sum:=⟨_,rfl⟩
   rw [<-hx,<-hs2] at h2 hs
   rw [<-hx] at d0
   rw [<-hs2] at h1 ⊢
   have HS:=qh hs
   have i1:decide (k<m)=true:=decide_eq_true hkm
   have x7:IntKind.i64.wrap ((k:Int)+1)=k+1:=IntWalk.i64_in _ om
   have x8:IntKind.i64.wrap (s+x)=s+x:=IntWalk.i64_in _ om
   have i4:(0:Int)<=k:=by omega
   have i5:(k:Int)<m:=by omega
   subst ea
   have HKM:=qh hkm
   clear hs hx hs2 hkn hkm
   go_wp2_with fail
   have hlt:=HKM.out
   refine ⟨⟨k+1,hlt,by go_num,by rw [HS.out];exact ⟨rfl,trivial⟩⟩,?_⟩
   simp [RowKit.intOf,x7];omega
  ·have i1:decide (k<m)=false:=decide_eq_false hkm
   have HE:Hid ((xs.take k).sum=xs.sum):=qh (by rw [List.take_of_length_le (by have:=HM.out;omega)])
   rw [HE.out]
   go_wp2_with fail
   go_ret
   exact ⟨rfl,qr⟩
theorem mem_getD {l:List Int} {x:Int} (h:x∈l):∃ i,i<l.length/\l.getD i 0=x:=by
 obtain ⟨i,hi,rfl⟩:=List.mem_iff_getElem.1 h
 exact ⟨i,hi,by simp [List.getD,hi]⟩
theorem mixL.skip {F G:Nat->Int} {n k:Nat} {xs:List Int} (h:mixL F G n k xs) (hk:k<n) (he:F k=G k):mixL F G n (k+1) xs:=by
 refine ⟨h.1,fun i hi=>?_⟩
 rw [h.2 i hi]
 by_cases e:i=k
 ·subst e;rw [if_neg (Nat.lt_irrefl i),if_pos om,he]
 ·by_cases h2:i<k
  ·rw [if_pos h2,if_pos om]
  ·rw [if_neg h2,if_neg om]
structure FarS (base:Nat) (s:St) (g:Led):Prop where
 V:∀ b off,s.V.a=some ⟨b,off,none⟩->base<=b
 P:∀ b off,s.P.a=some ⟨b,off,none⟩->base<=b
 S:∀ b off,s.S.a=some ⟨b,off,none⟩->base<=b
 O:∀ b off,s.O.a=some ⟨b,off,none⟩->base<=b
 G:∀ b off,g.P.a=some ⟨b,off,none⟩->base<=b
inductive StepOut (base:Nat) (w:World) (n:Net) (s:St) (q:List Int):Value->Prop
 | no (e:Int):e≠0->StepOut base w n s q (.tuple #[.agg #[.slice none 0 0,.slice none 0 0,.slice none 0 0,.slice none 0 0],.agg #[.int .i64 0,.int .i64 0,.slice none 0 0],.int .i64 e])
 | ok (s':St) (g:Led):StepR n s q s' g.I g.O g.P.xs->gSt w s'->gInts w g.P->FarS base s' g->StepOut base w n s q (.tuple #[vSt s',vLed g,.int .i64 0])
theorem blk_set {w:World} {b:Nat} {cs:Array Value} {T:TypeId} {z:Nat×Nat} (h:w.heap[b]? = some (.cells cs T z)) (i:Nat) (v:Value):(w.setCell ⟨b,i,none⟩ v).heap[b]? = some (.cells (cs.setIfInBounds i v) T z):=by
 simp [World.setCell,Array.getElem?_modify,h]
theorem setCell_id {w:World} {b i:Nat} {cs:Array Value} {T:TypeId} {z:Nat×Nat} {v:Value} (h:w.heap[b]? = some (.cells cs T z)) (hv:cs[i]? = some v):w.setCell ⟨b,i,none⟩ v=w:=by
 have hh:(w.setCell ⟨b,i,none⟩ v).heap=w.heap:=by
  refine Array.ext_getElem? fun j=>?_
  by_cases e:j=b
  ·subst e
   rw [blk_set h,h]
   obtain ⟨hi,hx⟩:=Array.getElem?_eq_some_iff.1 hv
   have:cs.setIfInBounds i v=cs:=by
    refine Array.ext_getElem? fun k=>?_
    by_cases e2:i=k
    ·subst e2;rw [Array.getElem?_setIfInBounds_self_of_lt hi,hv]
    ·rw [Array.getElem?_setIfInBounds_ne e2]
   rw [this]
  ·exact Below.heap_setCell _ _ _ _ e
 have:(w.setCell ⟨b,i,none⟩ v) = { w with heap:=(w.setCell ⟨b,i,none⟩ v).heap }:=rfl
 rw [this,hh]
theorem blk_far {w:World} {b:Nat} {o:Obj} (h:w.heap[b]? = some o) (a:Addr) (v:Value) (ha:b≠a.block):(w.setCell a v).heap[b]? = some o:=(Below.heap_setCell _ _ _ _ ha).trans h
theorem blk_mono {w w':World} {b:Nat} {o:Obj} (h:w.heap[b]? = some o) (hb:Below w.heap.size w w'):w'.heap[b]? = some o:=
 (hb.block b (Array.getElem?_eq_some_iff.1 h).1).trans h
structure SB (w:World) (b5 b10 b11 b16:Nat) (n:Net) (cg:Array Value):Prop where
 k5:w.heap[b5]? = some (.cells (eNet n).toArray 25 (0,0))
 k10:w.heap[b10]? = some (.cells #[.slice none 0 0,.slice none 0 0,.slice none 0 0,.slice none 0 0] 31 (0,0))
 k11:w.heap[b11]? = some (.cells #[.int .i64 0,.int .i64 0,.slice none 0 0] 56 (0,0))
 k16:w.heap[b16]? = some (.cells cg 56 (0,0))
 d1:b5<b10
 d2:b10<b11
 d3:b11<b16
section
variable {w w' : World} {b5 b10 b11 b16 : Nat} {n : Net} {cg : Array Value}
theorem SB.mono (h:SB w b5 b10 b11 b16 n cg) (hb:Below w.heap.size w w'):SB w' b5 b10 b11 b16 n cg:=⟨blk_mono h.k5 hb,blk_mono h.k10 hb,blk_mono h.k11 hb,blk_mono h.k16 hb,h.d1,h.d2,h.d3⟩
theorem SB.far (h:SB w b5 b10 b11 b16 n cg) (a:Addr) (v:Value) (h1:b11<a.block) (h2:b16≠a.block):SB (w.setCell a v) b5 b10 b11 b16 n cg:=
 ⟨blk_far h.k5 _ _ (by have:=h.d1;have:=h.d2;omega),blk_far h.k10 _ _ (by have:=h.d2;omega),blk_far h.k11 _ _ om,blk_far h.k16 _ _ h2,h.d1,h.d2,h.d3⟩
theorem SB.set (h:SB w b5 b10 b11 b16 n cg) (i:Nat) (v:Value):SB (w.setCell ⟨b16,i,none⟩ v) b5 b10 b11 b16 n (cg.setIfInBounds i v):=
 ⟨blk_far h.k5 _ _ (by have:=h.d1;have:=h.d2;have:=h.d3;show b5≠b16;omega),blk_far h.k10 _ _ (by have:=h.d2;have:=h.d3;show b10≠b16;omega),blk_far h.k11 _ _ (by have:=h.d3;show b11≠b16;omega),blk_set h.k16 i v,h.d1,h.d2,h.d3⟩
theorem SB.kept (h:SB w b5 b10 b11 b16 n cg) (hk:∀ j,j<=b11\/j=b16->j<w.heap.size->w'.heap[j]? = w.heap[j]?):SB w' b5 b10 b11 b16 n cg:=
 ⟨(hk b5 (.inl (by have:=h.d1;have:=h.d2;omega)) (Array.getElem?_eq_some_iff.1 h.k5).1).trans h.k5,(hk b10 (.inl (by have:=h.d2;omega)) (Array.getElem?_eq_some_iff.1 h.k10).1).trans h.k10,(hk b11 (.inl (Nat.le_refl _)) (Array.getElem?_eq_some_iff.1 h.k11).1).trans h.k11,(hk b16 (.inr rfl) (Array.getElem?_eq_some_iff.1 h.k16).1).trans h.k16,h.d1,h.d2,h.d3⟩
end
theorem Sett.set (w W:World) {B:Nat} {uV uP uS uO uH:Value} {vs ps ss:List Int} {os:List Bool} {hs:List Int} (h:Sett w W B uV uP uS uO uH vs ps ss os hs) (a:Addr) (u:Value) (ha:w.heap.size<=a.block) (h0:a.block≠B) (h1:uV.ownBlock≠some a.block) (h2:uP.ownBlock≠some a.block) (h3:uS.ownBlock≠some a.block) (h4:uO.ownBlock≠some a.block) (h5:uH.ownBlock≠some a.block) :
  Sett w (W.setCell a u) B uV uP uS uO uH vs ps ss os hs:=by
 have C:=h.cl
 exact ⟨⟨C.bel.setCell ha u,C.base,cell_far C.c0 _ _ (Ne.symm h0),cell_far C.c1 _ _ (Ne.symm h0),cell_far C.c2 _ _ (Ne.symm h0),cell_far C.c3 _ _ (Ne.symm h0),C.V.far _ _ h1,C.P.far _ _ h2,C.S.far _ _ h3,C.O.far _ _ h4,C.aV,C.aP⟩,h.H.far _ _ h5,h.aH⟩
theorem Sett.setO {w W:World} {B:Nat} {uV uP uS uO uH u:Value} {vs ps ss:List Int} {os os':List Bool} {hs:List Int} (h:Sett w W B uV uP uS uO uH vs ps ss os hs) (hO:Own w.heap.size 4 eBool 1 W u os')
  (hSB:uS.ownBlock≠some B) (hu:∀ g,u.ownBlock=some g->g≠B/\uV.ownBlock≠some g/\uP.ownBlock≠some g/\uH.ownBlock≠some g):Sett w (W.setCell ⟨B,3,none⟩ u) B uV uP uS u uH vs ps ss os' hs:=by
 have C:=h.cl
 have o:∀ (i:Nat) (v:Value),i≠3->W.cell? ⟨B,i,none⟩=some v->(W.setCell ⟨B,3,none⟩ u).cell? ⟨B,i,none⟩=some v:=fun i v hi hv=>(World.cell?_setCell_other _ _ _ _ (by intro e;simp only [Addr.mk.injEq] at e;omega)).trans hv
 refine ⟨⟨C.bel.setCell (p:=⟨B,3,none⟩) C.base u,C.base,o 0 _ om C.c0,o 1 _ om C.c1,o 2 _ om C.c2,World.cell?_setCell_same' _ _ _ (by rw [C.c3];rfl),C.V.far _ _ (fun e=>(C.aV B e).1 rfl),C.P.far _ _ (fun e=>(C.aP B e).1 rfl),C.S.far _ _ hSB,hO.far _ _ (fun e=>(hu B e).1 rfl),?_,?_⟩,h.H.far _ _ (fun e=>(h.aH B e).1 rfl),?_⟩
 ·intro g hg
  have a:=C.aV g hg
  exact ⟨a.1,a.2.1,a.2.2.1,fun e=>(hu g e).2.1 hg⟩
 ·intro g hg
  have a:=C.aP g hg
  exact ⟨a.1,a.2.1,a.2.2.1,fun e=>(hu g e).2.2.1 hg⟩
 ·intro g hg
  have a:=h.aH g hg
  exact ⟨a.1,a.2.1,a.2.2.1,a.2.2.2.1,fun e=>(hu g e).2.2.2 hg⟩
def heldF (n:Net) (h1 ps:List Int) (k i:Nat):Int:=
 h1.getD i 0-sg (fun j=>if frmN n j=i then ps.getD j 0 else 0) k+if isOut n i then 0 else sg (fun j=>if toN n j=i then ps.getD j 0 else 0) k
theorem heldF_zero (n:Net) (h1 ps:List Int) (i:Nat):heldF n h1 ps 0 i=h1.getD i 0:=by
 unfold heldF
 simp only [sg]
 split <;> omega
theorem heldF_bd {n:Net} {h1 ps:List Int} {k i m:Nat} (hk:k<=m) (hm:m<=400) (h0:0<=h1.getD i 0/\h1.getD i 0<=4503599627370496) (hp:∀ j,j<m->0<=ps.getD j 0/\ps.getD j 0<=4503599627370496) : -1801439850948198400<=heldF n h1 ps k i/\heldF n h1 ps k i<=1805943450575568896:=by
 have a:=sg_bd (f:=fun j=>if frmN n j=i then ps.getD j 0 else 0) (b:=4503599627370496) (n:=k) (fun j hj=>by
  have:=hp j om
  split
  ·exact this
  ·omega)
 have b:=sg_bd (f:=fun j=>if toN n j=i then ps.getD j 0 else 0) (b:=4503599627370496) (n:=k) (fun j hj=>by
  have:=hp j om
  split
  ·exact this
  ·omega)
 unfold heldF
 split <;> omega
theorem heldF_out {n:Net} {h1 ps hs:List Int} {k N:Nat} (hl:hs.length=N) (hf:frmN n k<N) (ho:isOut n (toN n k)=true) (hh:∀ i,i<N->hs.getD i 0=heldF n h1 ps k i) :
  ∀ i,i<N->(hs.set (frmN n k) (hs.getD (frmN n k) 0-ps.getD k 0)).getD i 0=heldF n h1 ps (k+1) i:=by
 intro i hi
 rw [getD_set _ _ _ _ om]
 have h:=hh i hi
 unfold heldF at h ⊢
 rw [sg_succ,sg_succ]
 by_cases e:i=frmN n k
 ·subst e
  rw [if_pos rfl,if_pos rfl,h]
  cases hi2:isOut n (frmN n k)
  ·rw [if_neg (show ¬ toN n k=frmN n k from fun e=>by rw [e,hi2] at ho;cases ho)]
   simp;omega
  ·simp;omega
 ·rw [if_neg e,if_neg (Ne.symm e),h]
  cases hi2:isOut n i
  ·rw [if_neg (show ¬ toN n k=i from fun e=>by rw [e,hi2] at ho;cases ho)]
   simp
  ·simp
theorem heldF_in {n:Net} {h1 ps hs:List Int} {k N:Nat} (hl:hs.length=N) (hf:frmN n k<N) (ht:toN n k<N) (ho:isOut n (toN n k)=false) (hh:∀ i,i<N->hs.getD i 0=heldF n h1 ps k i) :
  ∀ i,i<N->((hs.set (frmN n k) (hs.getD (frmN n k) 0-ps.getD k 0)).set (toN n k) ((hs.set (frmN n k) (hs.getD (frmN n k) 0-ps.getD k 0)).getD (toN n k) 0+ps.getD k 0)).getD i 0=heldF n h1 ps (k+1) i:=by
 intro i hi
 rw [getD_set _ _ _ _ (by rw [List.length_set];omega),getD_set _ _ _ _ om,getD_set _ _ _ _ om]
 have h:=hh i hi
 have h2:=hh _ hf
 have h3:=hh _ ht
 unfold heldF at h h2 h3 ⊢
 rw [sg_succ,sg_succ]
 by_cases e:i=toN n k
 ·subst e
  rw [if_pos rfl,if_pos rfl]
  rw [ho] at h ⊢
  by_cases e2:toN n k=frmN n k
  ·rw [if_pos e2,if_pos e2.symm,<-e2,h]
   simp;omega
  ·rw [if_neg e2,if_neg (Ne.symm e2),h]
   simp;omega
 ·rw [if_neg e,if_neg (Ne.symm e)]
  by_cases e2:i=frmN n k
  ·subst e2
   rw [if_pos rfl,if_pos rfl,h]
   cases isOut n (frmN n k)
   ·simp;omega
   ·simp;omega
  ·rw [if_neg e2,if_neg (Ne.symm e2),h]
   cases isOut n i
   ·simp
   ·simp
theorem SetR.i64 {n:Net} {hs vs ps gs:List Int} {b:Bool} {w:World} (h:SetR n hs vs ps gs b) (hn:netB n=true) (hb:∀ i,i<n.Ns.xs.length->-2305843009213693952<=hs.getD i 0/\hs.getD i 0<=2305843009213693952) :
  (∀ x∈vs,gI64 w x)/\(∀ x∈ps,gI64 w x):=by
 have key:∀ i,i<n.Ns.xs.length->-2305843009213693952<=vs.getD i 0/\vs.getD i 0<=2305843009213693952/\-9223372036854775808<=ps.getD i 0/\ps.getD i 0<=9223372036854775807:=fun i hi=>by
  have a:=h.v i hi
  have b:=h.h i hi
  have c:=hb i hi
  have d:=capB_le hn i hi
  have e:=h.p i hi
  split at b <;> omega
 refine ⟨fun x hx=>?_,fun x hx=>?_⟩
 ·obtain ⟨i,hi,rfl⟩:=mem_getD hx
  have:=key i (by rw [<-h.lv];exact hi)
  exact gI64_of (w:=w) om om
 ·obtain ⟨i,hi,rfl⟩:=mem_getD hx
  have:=key i (by rw [<-h.lp];exact hi)
  exact gI64_of (w:=w) om om
theorem LimI.i64 {frm:Nat->Nat} {wt held:Nat->Int} {m i:Nat} {ps:List Int} {w:World} (h:LimI frm wt held m i ps):∀ x∈ps,gI64 w x:=fun x hx=>by
 obtain ⟨i,hi,rfl⟩:=mem_getD hx
 have:=h.bd i (by rw [<-h.len];exact hi)
 exact gI64_of (w:=w) om om
theorem fiveB {b5 b7 b10 b11 w W w4 b14 b16 w8 w9:Nat} (h:b5=w/\b7=w+1/\b10=w+2/\b11=w+3/\b11<W) (h2:b11<w4/\w4<=b14/\b14<b16/\w<=w4/\b16<w8) (h3:b16<w9) :
  b10<w4/\b11<w4/\w<=b10/\w<=b11/\b11<w9/\b10<w9:=by omega
theorem far9 {w w4 b11 b14 b16 w8 w9:Nat} (h2:b11<w4/\w4<=b14/\b14<b16/\w<=w4/\b16<w8) (h3:b16<w9):w<=w9:=by omega
def set7 (w:World) (b10 b11:Nat) (u0 u1 u2 u3 l0 l1 l2:Value):World:=
 ((((((w.setCell ⟨b10,0,none⟩ u0).setCell ⟨b10,1,none⟩ u1).setCell ⟨b10,2,none⟩ u2).setCell ⟨b10,3,none⟩ u3).setCell ⟨b11,0,none⟩ l0).setCell ⟨b11,1,none⟩ l1).setCell ⟨b11,2,none⟩ l2
theorem Own.under7 {α:Type} {W:World} {base:Nat} {e:TypeId} {enc:α->List Value} {k:Nat} {v:Value} {xs:List α} (h:Own base e enc k W v xs) {b10 b11:Nat} (h1:b10<base) (h2:b11<base) (u0 u1 u2 u3 l0 l1 l2:Value):Own base e enc k (set7 W b10 b11 u0 u1 u2 u3 l0 l1 l2) v xs:=
 ((((((h.under (a:=⟨b10,0,none⟩) h1 u0).under (a:=⟨b10,1,none⟩) h1 u1).under (a:=⟨b10,2,none⟩) h1 u2).under (a:=⟨b10,3,none⟩) h1 u3).under (a:=⟨b11,0,none⟩) h2 l0).under (a:=⟨b11,1,none⟩) h2 l1).under (a:=⟨b11,2,none⟩) h2 l2
theorem Below.set7 {w W:World} {B:Nat} (h:Below B w W) {b10 b11:Nat} (h1:B<=b10) (h2:B<=b11) (u0 u1 u2 u3 l0 l1 l2:Value):Below B w (set7 W b10 b11 u0 u1 u2 u3 l0 l1 l2):=
 ((((((h.setCell (p:=⟨b10,0,none⟩) h1 u0).setCell (p:=⟨b10,1,none⟩) h1 u1).setCell (p:=⟨b10,2,none⟩) h1 u2).setCell (p:=⟨b10,3,none⟩) h1 u3).setCell (p:=⟨b11,0,none⟩) h2 l0).setCell (p:=⟨b11,1,none⟩) h2 l1).setCell (p:=⟨b11,2,none⟩) h2 l2
theorem set7_heap (w:World) {b10 b11 b:Nat} (h1:b≠b10) (h2:b≠b11) (u0 u1 u2 u3 l0 l1 l2:Value):(set7 w b10 b11 u0 u1 u2 u3 l0 l1 l2).heap[b]? = w.heap[b]?:=by
 unfold set7
 rw [Below.heap_setCell _ _ _ _ (show b≠(⟨b11,2,none⟩:Addr).block from h2),Below.heap_setCell _ _ _ _ (show b≠(⟨b11,1,none⟩:Addr).block from h2),Below.heap_setCell _ _ _ _ (show b≠(⟨b11,0,none⟩:Addr).block from h2),Below.heap_setCell _ _ _ _ (show b≠(⟨b10,3,none⟩:Addr).block from h1),Below.heap_setCell _ _ _ _ (show b≠(⟨b10,2,none⟩:Addr).block from h1),Below.heap_setCell _ _ _ _ (show b≠(⟨b10,1,none⟩:Addr).block from h1),Below.heap_setCell _ _ _ _ (show b≠(⟨b10,0,none⟩:Addr).block from h1)]
theorem set7_cells {w:World} {b10 b11:Nat} (hne:b10≠b11) (y10:w.heap[b10]? = some (.cells #[.slice none 0 0,.slice none 0 0,.slice none 0 0,.slice none 0 0] 31 (0,0))) (y11:w.heap[b11]? = some (.cells #[.int .i64 0,.int .i64 0,.slice none 0 0] 56 (0,0))) (u0 u1 u2 u3 l0 l1 l2:Value) :
  (set7 w b10 b11 u0 u1 u2 u3 l0 l1 l2).heap[b10]? = some (.cells #[u0,u1,u2,u3] 31 (0,0))/\(set7 w b10 b11 u0 u1 u2 u3 l0 l1 l2).heap[b11]? = some (.cells #[l0,l1,l2] 56 (0,0)):=by
 unfold set7
 constructor
 ·refine blk_far (blk_far (blk_far ?_ _ _ hne) _ _ hne) _ _ hne
  exact blk_set (blk_set (blk_set (blk_set y10 0 u0) 1 u1) 2 u2) 3 u3
 ·have h:((((w.setCell ⟨b10,0,none⟩ u0).setCell ⟨b10,1,none⟩ u1).setCell ⟨b10,2,none⟩ u2).setCell ⟨b10,3,none⟩ u3).heap[b11]? = _:=blk_far (blk_far (blk_far (blk_far y11 ⟨b10,0,none⟩ u0 (Ne.symm hne)) ⟨b10,1,none⟩ u1 (Ne.symm hne)) ⟨b10,2,none⟩ u2 (Ne.symm hne)) ⟨b10,3,none⟩ u3 (Ne.symm hne)
  exact blk_set (blk_set (blk_set h 0 l0) 1 l1) 2 l2
end Go.Proofs.YtoiakijmbghhlaaGreat
