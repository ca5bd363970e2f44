/- routing, plain: what a step does, from what its parts do. Conditions: the network and the state are right. | routing: holds. Conditions: a state that reads, as many ponded waters as volumes, at most a million; none below zero, none above 2^61. | routing: within, valid, the second closure of Step. Conditions: valid: network and state read as data, the sections are data. | catalogue.Find at any name. Conditions: the sections are data. | routing: named. Conditions: the network reads as data (at most 400 links), the sections are data. | storage.Capacity at any node. Conditions: the node reads as data. | routing: part. Conditions: three numbers from 0 on; the quotient is a number. -/
import Derived.Test.YtoiakijmbghhlaaGreatS23
import Derived.Test.YtoiakijmbghhlaaGreatS16
import Derived.Test.YtoiakijmbghhlaaGreatS03
set_option linter.unusedVariables false
set_option linter.unusedSimpArgs false
set_option maxRecDepth 100000
set_option maxHeartbeats 32000000
namespace Go.Proofs.YtoiakijmbghhlaaGreat
open Go.RowKit
def ndK (n:Net) (i:Nat):Nd:=n.Ns.xs.getD i default
def isOut (n:Net) (i:Nat):Bool:=decide ((ndK n i).Kind=3)
def frmN (n:Net) (k:Nat):Nat:=(findNd n.Ns.xs (n.Ls.xs.getD k default).From).toNat
def toN (n:Net) (k:Nat):Nat:=(findNd n.Ns.xs (n.Ls.xs.getD k default).To).toNat
theorem ndK_at {n:Net} {i:Nat} (h:i<n.Ns.xs.length):ndK n i=n.Ns.xs[i]:=by simp [ndK,List.getD,h]
theorem netB_size {n:Net} (h:netB n=true):n.Ns.xs.length<=300/\n.Ls.xs.length<=400:=by
 simp [netB] at h;omega
theorem ends_lt {n:Net} (h:netB n=true) {k:Nat} (hk:k<n.Ls.xs.length):frmN n k<n.Ns.xs.length/\toN n k<n.Ns.xs.length:=by
 have h1:=netB_lk h k hk
 have h2:=findNd_bd n.Ns.xs n.Ls.xs[k].From
 have h3:=findNd_bd n.Ns.xs n.Ls.xs[k].To
 have e:n.Ls.xs.getD k default=n.Ls.xs[k]:=by simp [List.getD,hk]
 unfold frmN toN
 rw [e];omega
theorem ends_edge {n:Net} (h:netB n=true) {k:Nat} (hk:k<n.Ls.xs.length) (hk2:k<(edgesM n.Ns.xs n.Ls.xs).length):(edgesM n.Ns.xs n.Ls.xs)[k]=((frmN n k:Int),(toN n k:Int)):=by
 have h1:=netB_lk h k hk
 have e:n.Ls.xs.getD k default=n.Ls.xs[k]:=by simp [List.getD,hk]
 have h4:(edgesM n.Ns.xs n.Ls.xs)[k]=(findNd n.Ns.xs n.Ls.xs[k].From,findNd n.Ns.xs n.Ls.xs[k].To):=by simp [edgesM]
 unfold frmN toN
 rw [h4,e]
 exact Prod.ext (by simp;omega) (by simp;omega)
def mixL (F G:Nat->Int) (n k:Nat) (xs:List Int):Prop:=xs.length=n/\∀ i,i<n->xs.getD i 0=if i<k then F i else G i
theorem mixL.set {F G:Nat->Int} {n k:Nat} {xs:List Int} (h:mixL F G n k xs) (hk:k<n) {y:Int} (hy:y=F k):mixL F G n (k+1) (xs.set k y):=by
 refine ⟨by rw [List.length_set];exact h.1,fun i hi=>?_⟩
 have hl:=h.1
 rw [getD_set _ _ _ _ om]
 by_cases e:i=k
 ·subst e;rw [if_pos rfl,if_pos om,hy]
 ·rw [if_neg e,h.2 i hi]
  by_cases h2:i<k
  ·rw [if_pos h2,if_pos om]
  ·rw [if_neg h2,if_neg om]
theorem mixL.all {F G:Nat->Int} {n k:Nat} {xs:List Int} (h:mixL F G n k xs) (hk:n<=k):xs.length=n/\∀ i,i<n->xs.getD i 0=F i:=
 ⟨h.1,fun i hi=>by rw [h.2 i hi,if_pos om]⟩
theorem mixL.none {F:Nat->Int} {n:Nat} {xs:List Int} (h:xs.length=n):mixL F (fun i=>xs.getD i 0) n 0 xs:=⟨h,fun i _=>by simp⟩
theorem mixL.here {F G:Nat->Int} {n k:Nat} {xs:List Int} (h:mixL F G n k xs) (hk:k<n) (hk2:k<xs.length):xs[k]=G k:=by
 have:=h.2 k hk
 rw [if_neg (Nat.lt_irrefl k)] at this
 simpa [List.getD,hk2] using this
structure SetR (n:Net) (hs vs ps gs:List Int) (b:Bool):Prop where
 lv:vs.length=n.Ns.xs.length
 lp:ps.length=n.Ns.xs.length
 lh:gs.length=n.Ns.xs.length
 h:∀ i,i<n.Ns.xs.length->gs.getD i 0=if isOut n i then 0 else hs.getD i 0
 v:∀ i,i<n.Ns.xs.length->vs.getD i 0=min (gs.getD i 0) (capB (ndK n i))
 p:∀ i,i<n.Ns.xs.length->ps.getD i 0=gs.getD i 0-vs.getD i 0
 b:b=true->∀ i,i<n.Ns.xs.length->ps.getD i 0<=1125899906842624
def outS (n:Net) (ps:List Int) (i:Nat):Int:=sg (fun k=>if frmN n k=i then ps.getD k 0 else 0) n.Ls.xs.length
def inS (n:Net) (ps:List Int) (i:Nat):Int:=sg (fun k=>if toN n k=i then ps.getD k 0 else 0) n.Ls.xs.length
structure StepR (n:Net) (s:St) (q:List Int) (s':St) (gi go:Int) (ps:List Int):Prop where
 net:netB n=true
 st:stB n s=true
 st':stB n s'=true
 ql:q.length=n.Ns.xs.length
 qb:∀ i,i<n.Ns.xs.length->0<=q.getD i 0/\q.getD i 0<=1125899906842624
 pl:ps.length=n.Ls.xs.length
 pb:∀ k,k<n.Ls.xs.length->0<=ps.getD k 0/\ps.getD k 0<=4503599627370496
 held:∀ i,i<n.Ns.xs.length->isOut n i=false->s'.V.xs.getD i 0+s'.P.xs.getD i 0=s.V.xs.getD i 0+s.P.xs.getD i 0+q.getD i 0-outS n ps i+inS n ps i
 fall:∀ i,i<n.Ns.xs.length->isOut n i=true->outS n ps i=0
 full:∀ i,i<n.Ns.xs.length->s'.P.xs.getD i 0≠0->s'.V.xs.getD i 0=capB (ndK n i)
 gi:gi=sg (fun i=>q.getD i 0) n.Ns.xs.length
 go:go=sg (fun i=>if isOut n i then q.getD i 0 else 0) n.Ns.xs.length+sg (fun k=>if isOut n (toN n k) then ps.getD k 0 else 0) n.Ls.xs.length
 ss:s'.S.xs=s.S.xs
theorem stB_parts {n:Net} {s:St} (h:stB n s=true):s.V.xs.length=n.Ns.xs.length/\s.P.xs.length=n.Ns.xs.length/\s.S.xs.length=n.Ls.xs.length/\s.O.xs.length=n.Ls.xs.length /\
  (∀ i,i<n.Ns.xs.length->0<=s.V.xs.getD i 0/\s.V.xs.getD i 0<=capB (ndK n i)/\0<=s.P.xs.getD i 0/\s.P.xs.getD i 0<=1125899906842624/\(isOut n i=true->s.P.xs.getD i 0=0)) /\
  (∀ k,k<n.Ls.xs.length->0<=s.S.xs.getD k 0/\s.S.xs.getD k 0<=1000/\(s.O.xs.getD k false=true->(n.Ls.xs.getD k default).Kind=4)):=by
 have hl:stLen n s=true:=by cases q:stLen n s;rw [stB_len q] at h;cases h;rfl
 rw [stB_is hl,Bool.and_eq_true,allFrom_iff,allFrom_iff] at h
 simp only [stLen,Bool.and_eq_true,decide_eq_true_eq] at hl
 obtain ⟨⟨⟨h1,h2⟩,h3⟩,h4⟩:=hl
 refine ⟨h1,h2,h3,h4,fun i hi=>?_,fun k hk=>?_⟩
 ·have:=h.1 i hi
  simp [okV,btwB,volB] at this
  refine ⟨this.1.1.1,this.1.1.2,this.1.2.1,this.1.2.2,fun e=>?_⟩
  have e:(ndK n i).Kind=3:=of_decide_eq_true e
  rcases this.2 with q|q
  ·exact absurd (by simpa [ndK,List.getD] using e) q
  ·simpa [List.getD] using q
 ·have:=h.2 k hk
  simp [okS,btwB] at this
  refine ⟨this.1.1,this.1.2,fun e=>?_⟩
  rcases this.2 with q|q
  ·rw [show s.O.xs.getD k false=false from by simpa [List.getD] using q] at e;cases e
  ·simpa [List.getD] using q
theorem stB_of {n:Net} {s:St} (h1:s.V.xs.length=n.Ns.xs.length) (h2:s.P.xs.length=n.Ns.xs.length) (h3:s.S.xs.length=n.Ls.xs.length) (h4:s.O.xs.length=n.Ls.xs.length)
  (hv:∀ i,i<n.Ns.xs.length->0<=s.V.xs.getD i 0/\s.V.xs.getD i 0<=capB (ndK n i)/\0<=s.P.xs.getD i 0/\s.P.xs.getD i 0<=1125899906842624/\(isOut n i=true->s.P.xs.getD i 0=0))
  (hs:∀ k,k<n.Ls.xs.length->0<=s.S.xs.getD k 0/\s.S.xs.getD k 0<=1000/\(s.O.xs.getD k false=true->(n.Ls.xs.getD k default).Kind=4)):stB n s=true:=by
 have hl:stLen n s=true:=by simp [stLen,h1,h2,h3,h4]
 rw [stB_is hl,Bool.and_eq_true,allFrom_iff,allFrom_iff]
 refine ⟨fun i hi=>?_,fun k hk=>?_⟩
 ·obtain ⟨a,b,c,d,e⟩:=hv i hi
  simp [okV,btwB,volB]
  refine ⟨⟨⟨a,b⟩,c,d⟩,?_⟩
  by_cases q:(n.Ns.xs[i]?.getD default).Kind=3
  ·exact .inr (by have:=e (decide_eq_true (show (ndK n i).Kind=3 from by simpa [ndK,List.getD] using q));simpa [List.getD] using this)
  ·exact .inl q
 ·obtain ⟨a,b,c⟩:=hs k hk
  simp [okS,btwB]
  refine ⟨⟨a,b⟩,?_⟩
  cases q:s.O.xs[k]?.getD false
  ·exact .inl rfl
  ·exact .inr (by have:=c (by simpa [List.getD] using q);simpa [List.getD] using this)
theorem cap_out {n:Net} {i:Nat} (h:isOut n i=true):capB (ndK n i)=0:=by
 simp only [isOut,decide_eq_true_eq] at h
 unfold capB
 rw [if_pos h]
theorem capB_le {n:Net} (h:netB n=true) (i:Nat) (hi:i<n.Ns.xs.length) : -1125899906842624<=capB (ndK n i)/\capB (ndK n i)<=1125899906842624:=by
 have hb:=(netB_nd h i hi).1
 rw [ndK_at hi]
 revert hb
 generalize n.Ns.xs[i]=x
 intro h
 unfold capB
 split
 ·decide
 ·rename_i k3
  have hk:1<=x.Sh.xs.length:=by
   rcases ndB_knot h with q|q
   ·exact absurd q k3
   ·exact q
  have k:x.Kind=1\/x.Kind=2:=by
   by_cases k:x.Kind=1\/x.Kind=2
   ·exact k
   ·simp only [ndB,Bool.and_eq_true,kindNdB,if_neg k,if_neg k3] at h
    simp at h
  simp only [ndB,Bool.and_eq_true,kindNdB,if_pos k,shapeB] at h
  have ht:=h.2.1.1.2.1.1.1
  rw [lastK_eq hk]
  exact (tabB_at ht _ om).2.2
theorem stepR_of {n:Net} {s s':St} {q h1 h2 h3 h4 v1 p1 ps:List Int} {w:Nat->Int} {gi go:Int} (hn:netB n=true) (hs:stB n s=true) (ql:q.length=n.Ns.xs.length)
  (qb:∀ i,i<n.Ns.xs.length->0<=q.getD i 0/\q.getD i 0<=1125899906842624)
  (e1:∀ i,i<n.Ns.xs.length->h1.getD i 0=s.V.xs.getD i 0+s.P.xs.getD i 0+if isOut n i then 0 else q.getD i 0)
  (r1:SetR n h1 v1 p1 h2 true) (lm:LimI (frmN n) w (fun i=>h2.getD i 0) n.Ls.xs.length n.Ns.xs.length ps)
  (e3:∀ i,i<n.Ns.xs.length->h3.getD i 0=h2.getD i 0-outS n ps i+if isOut n i then 0 else inS n ps i)
  (r2:SetR n h3 s'.V.xs s'.P.xs h4 true) (hgi:gi=sg (fun i=>q.getD i 0) n.Ns.xs.length)
  (hgo:go=sg (fun i=>if isOut n i then q.getD i 0 else 0) n.Ns.xs.length+sg (fun k=>if isOut n (toN n k) then ps.getD k 0 else 0) n.Ls.xs.length)
  (hss:s'.S.xs=s.S.xs) (hol:s'.O.xs.length=n.Ls.xs.length) (ho:∀ k,s'.O.xs.getD k false=true->(n.Ls.xs.getD k default).Kind=4):StepR n s q s' gi go ps:=by
 obtain ⟨lV,lP,lS,lO,hv,hset⟩:=stB_parts hs
 have hpn:∀ i,0<=outS n ps i/\0<=inS n ps i:=fun i=>⟨sg_nonneg fun k hk=>by
  split
  ·exact (lm.bd k hk).1
  ·exact Int.le_refl _,sg_nonneg fun k hk=>by
  split
  ·exact (lm.bd k hk).1
  ·exact Int.le_refl _⟩
 have hle:∀ i,i<n.Ns.xs.length->outS n ps i<=h2.getD i 0:=fun i hi=>lm.sum i hi
 have hfall:∀ i,i<n.Ns.xs.length->isOut n i=true->outS n ps i=0:=fun i hi ho=>by
  have a:=hle i hi
  have b:=r1.h i hi
  rw [if_pos ho] at b
  have:=(hpn i).1
  omega
 have hh4:∀ i,i<n.Ns.xs.length->0<=h4.getD i 0/\(isOut n i=false->h4.getD i 0=s.V.xs.getD i 0+s.P.xs.getD i 0+q.getD i 0-outS n ps i+inS n ps i):=fun i hi=>by
  have a:=r2.h i hi
  have b:=e3 i hi
  have c:=r1.h i hi
  have d:=e1 i hi
  have f:=hle i hi
  have g:=hpn i
  cases ho:isOut n i
  ·simp only [ho,Bool.false_eq_true,if_false] at a b c d
   exact ⟨by omega,fun _=>by omega⟩
  ·simp only [ho,if_true] at a
   exact ⟨by omega,fun h=>by cases h⟩
 refine ⟨hn,hs,stB_of r2.lv r2.lp (by rw [hss];exact lS) hol (fun i hi=>?_) (fun k hk=>?_),ql,qb,lm.len,lm.bd,fun i hi ho=>?_,hfall,fun i hi hp=>?_,hgi,hgo,hss⟩
 ·have a:=r2.v i hi
  have b:=r2.p i hi
  have c:=r2.b rfl i hi
  have d:=(hh4 i hi).1
  have e:=hv i hi
  refine ⟨by omega,by omega,by omega,c,fun ho=>?_⟩
  have f:=r2.h i hi
  rw [if_pos ho] at f
  have:=cap_out ho
  omega
 ·rw [hss]
  exact ⟨(hset k hk).1,(hset k hk).2.1,ho k⟩
 ·have b:=r2.p i hi
  have:=(hh4 i hi).2 ho
  omega
 ·have a:=r2.v i hi
  have b:=r2.p i hi
  omega
def holdsL (vs ps:List Int) (k:Nat) (xs:List Int):Prop:=
 xs.length=vs.length/\∀ i,i<vs.length->xs.getD i 0=if i<k then vs.getD i 0+ps.getD i 0 else vs.getD i 0
theorem holdsL_set {vs ps xs:List Int} {k:Nat} (h:holdsL vs ps k xs) (hk:k<vs.length) (y:Int) (hy:y=vs.getD k 0+ps.getD k 0):holdsL vs ps (k+1) (xs.set k y):=by
 refine ⟨by rw [List.length_set];exact h.1,fun i hi=>?_⟩
 have hx:=h.1
 have q:=h.2 i hi
 by_cases e:i=k
 ·subst e
  rw [if_pos om,<-hy]
  simp [List.getD,List.getElem?_set,show i<xs.length from by omega]
 ·rw [show (xs.set k y).getD i 0=xs.getD i 0 from by simp [List.getD,List.getElem?_set,Ne.symm e],q]
  by_cases h2:i<k
  ·rw [if_pos h2,if_pos om]
  ·rw [if_neg h2,if_neg om]
theorem holdsL_all {vs ps xs:List Int} {k:Nat} (h:holdsL vs ps k xs) (hk:vs.length<=k) (hp:ps.length=vs.length):xs=List.zipWith (· + ·) vs ps:=by
 refine List.ext_getElem (by rw [h.1,List.length_zipWith];omega) fun i h1 h2=>?_
 have hx:=h.1
 have q:=h.2 i om
 rw [if_pos om] at q
 have i1:i<vs.length:=by omega
 have i2:i<ps.length:=by omega
 rw [List.getElem_zipWith]
 simpa [List.getD,h1,i1,i2] using q
theorem rholds_any (s:St) (w:World) (hgs:gSt w s) (hp:s.P.xs.length=s.V.xs.length) (hn:s.V.xs.length<=1000000)
  (hbd:∀ k (h:k<s.V.xs.length) (h2:k<s.P.xs.length),0<=s.V.xs[k]/\s.V.xs[k]<=2305843009213693952/\0<=s.P.xs[k]/\s.P.xs[k]<=2305843009213693952) :
  Calls Tryz.prog 169 #[vSt s] w fun e w'=>(∃ u,e=.returned u/\Own w.heap.size 3 eInt 1 w' u (List.zipWith (· + ·) s.V.xs s.P.xs))/\Below w.heap.size w w':=by
 obtain ⟨W,hW⟩:∃ W,W=allocs w [((eSt s).toArray,31)]:=⟨_,rfl⟩
 have hbw:Below w.heap.size w W:=by rw [hW];exact allocs_below _ _
 have hsz:w.heap.size<=W.heap.size:=hbw.size
 have t2:W.heap[w.heap.size]? = some (.cells (eSt s).toArray 31 (0,0)):=by rw [hW];exact allocs_at [((eSt s).toArray,31)] w 0 (by simp)
 have HW:Hid (W=w.alloc (.cells (eSt s).toArray 31)):=qh hW
 have s0:W.cell? ⟨w.heap.size,0,none⟩=some (.slice s.V.a s.V.xs.length s.V.cap):=(tank_blk t2 0).trans rfl
 have s1:W.cell? ⟨w.heap.size,1,none⟩=some (.slice s.P.a s.P.xs.length s.P.cap):=(tank_blk t2 1).trans rfl
 have s2:W.cell? ⟨w.heap.size,2,none⟩=some (.slice s.S.a s.S.xs.length s.S.cap):=(tank_blk t2 2).trans rfl
 have s3:W.cell? ⟨w.heap.size,3,none⟩=some (.slice s.O.a s.O.xs.length s.O.cap):=(tank_blk t2 3).trans rfl
 have HS:=qh (rdSt.mono hgs hbw)
 have hcl:=cloneInt_any s.V.xs _ W (HS.out.1.isL) hn
 have HBD:=qh hbd
 have HN:=qh hn
 have HPL:=qh hp
 clear hW t2 hgs hbd hn hp
 simp only [vSt,vSl] at hcl ⊢
 go_enter Tryz.func169,Tryz.ntmps169
 go_upto_region 1 with (fail)
 rw [<-HW.out]
 clear HW
 go_wp2_with fail
 refine Calls.to hcl ?_
 rintro e w1 ⟨u,rfl,hO⟩ hb1
 have hbr:=hbw.trans (hb1.mono hbw.size)
 have hbW:=hb1
 have r1:=s1
 have s0:=cel_lt s0 hb1
 have s1:=cel_lt s1 hb1
 have s2:=cel_lt s2 hb1
 have s3:=cel_lt s3 hb1
 clear hcl hb1
 obtain ⟨m,hm⟩:∃ m,m=s.V.xs.length:=⟨_,rfl⟩
 have HM:=qh hm
 rw [HPL.out,<-hm] at s1 r1
 have R1:=qh r1
 have hm4:m<=1000000:=by have:=HN.out;omega
 have HSZ:=qh hsz
 clear hm hsz r1
 go_wp2_with fail
 go_loopw [12] (fun s12 wr=>∃ (k:Nat) (xs:List Int),k<=m/\s12=.int .i64 k/\Below w.heap.size w wr/\Below W.heap.size W wr/\Own W.heap.size 3 eInt 1 wr u xs/\Hid (holdsL s.V.xs s.P.xs k xs)) (fun s12 _=>m-(RowKit.intOf s12).toNat)
 case atStart=>exact ⟨0,s.V.xs,Nat.zero_le _,rfl,hbr,hbW,hO,qh ⟨rfl,fun i _=>(if_neg (Nat.not_lt_zero i)).symm⟩⟩
 case round=>
  obtain ⟨k,xs,hk,rfl,hb,hbV,hO,hq⟩:=hrel
  have xl:xs.length=m:=by have:=hq.out.1;have:=HM.out;omega
  by_cases hkm:k<m
  ·have hkx:k<xs.length:=by omega
   obtain ⟨g,c,hu,hg,hgl,-,-⟩:=hO.place om
   rw [xl] at hu
   subst hu
   have f0:=hO.free k
   have hkP:k<s.P.xs.length:=by rw [HPL.out,<-HM.out];exact hkm
   have hkV:k<s.V.xs.length:=by rw [<-HM.out];exact hkm
   have gS:=rdSt.mono HS.out hbV
   obtain ⟨b,off,ea,e1⟩:=gS.2.1.2.2.1.int k hkP
   have e0:=hO.int1 hkx rfl
   have hv:=hq.out.2 k hkV
   rw [if_neg (Nat.lt_irrefl k)] at hv
   have hbk:=HBD.out k hkV hkP
   obtain ⟨y,hy⟩:∃ y,y=xs[k]'hkx:=⟨_,rfl⟩
   have hyv:y=s.V.xs[k]'hkV:=by rw [hy];simpa [List.getD,hkx,hkV] using hv
   obtain ⟨p,hpp⟩:∃ p,p=s.P.xs[k]'hkP:=⟨_,rfl⟩
   rw [<-hyv,<-hpp] at hbk
   rw [<-hy] at e0
   rw [<-hpp] at e1
   have HY:Hid (y+p=s.V.xs.getD k 0+s.P.xs.getD k 0):=qh (by rw [hyv,hpp];simp [List.getD,hkV,hkP])
   have x7:IntKind.i64.wrap ((k:Int)+1)=k+1:=IntWalk.i64_in _ om
   have x8:IntKind.i64.wrap (y+p)=y+p:=IntWalk.i64_in _ om
   have i1:decide (k<m)=true:=decide_eq_true hkm
   have i4:(0:Int)<=k:=by omega
   have i5:(k:Int)<m:=by omega
   have HKM:=qh hkm
   have HKV:=qh hkV
   have s1:=cel_lt R1.out hbV
   rw [ea] at s1
   have EA:=qh ea
   have hO':=hO.put1 hkx (y+p)
   have hb':=hb.setCell (p:=⟨g,k,none⟩) (Nat.le_trans HSZ.out hg) (.int .i64 (y+p))
   have hbV':=hbV.setCell (p:=⟨g,k,none⟩) hg (.int .i64 (y+p))
   clear hO gS hv hy hyv hpp hbk hkP hkV hb hbV xl hkm s0 s2 s3 hkx hg
   go_wp2_with fail
   clear ea s1 e0 e1
   have hlt:=HKM.out
   refine ⟨⟨k+1,xs.set k (y+p),hlt,by go_num,hb',hbV',hO',qh (holdsL_set hq.out HKV.out _ HY.out)⟩,?_⟩
   simp [RowKit.intOf];omega
  ·have i1:decide (k<m)=false:=decide_eq_false hkm
   have hz:=holdsL_all hq.out (by have:=HM.out;omega) HPL.out
   rw [hz] at hO
   clear xl hz hq
   go_wp2_with fail
   go_ret
   exact ⟨⟨_,rfl,hO.base HSZ.out⟩,hb⟩
theorem rwithin_any (v m:Int) (w:World):Calls Tryz.prog 166 #[.int .i64 v,.int .i64 m] w fun e w'=>e=.returned (.bool (decide (0<=v)&&decide (v<=m)))/\Below w.heap.size w w':=by
 obtain ⟨y1,h1⟩:∃ y,decide (0<=v)=y:=⟨_,rfl⟩
 obtain ⟨y2,h2⟩:∃ y,decide (v<=m)=y:=⟨_,rfl⟩
 rw [h1,h2]
 go_enter Tryz.func166,Tryz.ntmps166
 cases y1
 ·go_wp2
  go_ret
  exact ⟨rfl,qr⟩
 ·go_wp2
  go_ret
  exact ⟨ret_bool (by cases y2 <;> rfl),qr⟩
theorem rstep2_any (v:Int) (w:World):Calls Tryz.prog 165 #[.int .i64 v] w fun e w'=>e=.returned (.bool (!(decide (0<=v)&&decide (v<=1125899906842624))))/\Below w.heap.size w w':=by
 have hw:=rwithin_any v 1125899906842624 w
 obtain ⟨y1,h1⟩:∃ y,(decide (0<=v)&&decide (v<=1125899906842624))=y:=⟨_,rfl⟩
 rw [h1] at hw ⊢
 go_enter Tryz.func165,Tryz.ntmps165
 go_wp2_with fail
 refine Calls.to hw ?_
 rintro e w1 rfl hb1
 cases y1
 ·go_wp2_with fail
  go_ret
  exact ⟨rfl,hb1⟩
 ·go_wp2_with fail
  go_ret
  exact ⟨rfl,hb1⟩
theorem rvalid_any (n:Net) (ss:List SecD) (v:Value) (s:St) (w:World) (hg:gNet w n) (hv:IsSecs w v ss) (hgs:gSt w s) :
  Calls Tryz.prog 164 #[vNet n,v,vSt s] w fun e w'=>e=.returned (.bool (netB n&&stB n s&&catB ss))/\Below w.heap.size w w':=by
 obtain ⟨W,hW⟩:∃ W,W=allocs w [((eNet n).toArray,25),((eSt s).toArray,31)]:=⟨_,rfl⟩
 have hbw:Below w.heap.size w W:=by rw [hW];exact allocs_below _ _
 have t0:W.heap[w.heap.size]? = some (.cells (eNet n).toArray 25 (0,0)):=by rw [hW];exact allocs_at [((eNet n).toArray,25),((eSt s).toArray,31)] w 0 (by simp)
 have t2:W.heap[w.heap.size+1]? = some (.cells (eSt s).toArray 31 (0,0)):=by rw [hW];exact allocs_at [((eNet n).toArray,25),((eSt s).toArray,31)] w 1 (by simp)
 have HW:Hid (W=(w.alloc (.cells (eNet n).toArray 25)).alloc (.cells (eSt s).toArray 31)):=qh hW
 have q0:W.cell? ⟨w.heap.size,0,none⟩=some (.slice n.Ns.a n.Ns.xs.length n.Ns.cap):=(tank_blk t0 0).trans rfl
 have q1:W.cell? ⟨w.heap.size,1,none⟩=some (.slice n.Ls.a n.Ls.xs.length n.Ls.cap):=(tank_blk t0 1).trans rfl
 have s0:W.cell? ⟨w.heap.size+1,0,none⟩=some (.slice s.V.a s.V.xs.length s.V.cap):=(tank_blk t2 0).trans rfl
 have s1:W.cell? ⟨w.heap.size+1,1,none⟩=some (.slice s.P.a s.P.xs.length s.P.cap):=(tank_blk t2 1).trans rfl
 have s2:W.cell? ⟨w.heap.size+1,2,none⟩=some (.slice s.S.a s.S.xs.length s.S.cap):=(tank_blk t2 2).trans rfl
 have s3:W.cell? ⟨w.heap.size+1,3,none⟩=some (.slice s.O.a s.O.xs.length s.O.cap):=(tank_blk t2 3).trans rfl
 have hsv:=svalid_any n s W (rdNet.mono hg hbw) (rdSt.mono hgs hbw)
 have HV:=qh (hv.mono hbw)
 obtain ⟨y1,h1⟩:∃ y,(netB n&&stB n s)=y:=⟨_,rfl⟩
 obtain ⟨y2,h2⟩:∃ y,catB ss=y:=⟨_,rfl⟩
 rw [h1] at hsv
 rw [h1,h2]
 have H2:=qh h2
 obtain ⟨⟨va,vc,hvv,-,-,-⟩,-⟩:=hv
 subst hvv
 clear hW t0 t2 hg hgs h1 h2
 simp only [vNet,vSt,vSl] at hsv ⊢
 go_enter Tryz.func164,Tryz.ntmps164
 go_upto_region 1 with (fail)
 rw [<-HW.out]
 clear HW
 go_wp2_with fail
 refine Calls.to hsv ?_
 rintro e w1 rfl hb1
 have hbr:=hbw.trans (hb1.mono hbw.size)
 cases y1
 ·go_wp2_with fail
  go_ret
  exact ⟨ret_bool (by simp),hbr⟩
 ·have hca:=catvalid_any ss _ w1 (HV.out.mono hb1)
  rw [H2.out] at hca
  clear hsv hb1 q0 q1 s0 s1 s2 s3
  go_wp2_with fail
  refine Calls.to hca ?_
  rintro e w2 rfl hb2
  have hbr2:=hbr.trans (hb2.mono hbr.size)
  cases y2
  ·go_wp2_with fail
   go_ret
   exact ⟨rfl,hbr2⟩
  ·go_wp2_with fail
   go_ret
   exact ⟨rfl,hbr2⟩
theorem ent270:∀ args w,(callFunc 270 args).run Tryz.prog w=.ok (.enter 270 args) w:=by
 intro args w
 simp [go_sem]
theorem find1_any (x:SecD) (nm:ByteArray) (B:Nat) (w:World) (hc:w.cell? ⟨B,0,none⟩=some (.string nm)) :
  Calls Tryz.prog 270 #[vSec x,.pointer (some ⟨B,0,none⟩)] w fun e w'=>e=.returned (.bool (strB x.N nm))/\Below w.heap.size w w':=by
 have H:Hid (strB x.N nm=(x.N.toList==nm.toList)):=rfl
 obtain ⟨xn,ht,pr,⟨sa,scap,sxs⟩,⟨ta,tcap,txs⟩⟩:=x
 simp only at H
 simp only [vSec]
 generalize strB xn nm=r at *
 cases h:(xn.toList==nm.toList)
 all_goals
  have HH:=qh (H.out.trans h)
  clear H
  go_enter Tryz.func270,Tryz.ntmps270
  go_wp2_with fail
  go_ret
  exact ⟨ret_bool HH.out.symm,bl⟩
def findE (ss:List SecD) (nm:ByteArray):Int:=if catB ss=true then (if 0<=idxFrom (fun s:SecD=>strB s.N nm) ss 0 then 0 else 9) else 1
theorem catfind_any (ss:List SecD) (v:Value) (nm:ByteArray) (w:World) (hv:IsSecs w v ss) :
  Calls Tryz.prog 227 #[v,.string nm] w fun e w'=>(∃ i:Int,e=.returned (.tuple #[.int .i64 i,.int .i64 (findE ss nm)]))/\Below w.heap.size w w':=by
 obtain ⟨W,hW⟩:∃ W,W=allocs w [(#[.string nm],9)]:=⟨_,rfl⟩
 have hbw:Below w.heap.size w W:=by rw [hW];exact allocs_below _ _
 have t0:W.heap[w.heap.size]? = some (.cells #[.string nm] 9 (0,0)):=by rw [hW];exact allocs_at [(#[.string nm],9)] w 0 (by simp)
 have HW:Hid (W=w.alloc (.cells #[.string nm] 9)):=qh hW
 have c0:W.cell? ⟨w.heap.size,0,none⟩=some (.string nm):=(tank_blk t0 0).trans rfl
 have HV:=qh (hv.mono hbw)
 have hca:=catvalid_any ss v W HV.out
 obtain ⟨y0,h0⟩:∃ y,catB ss=y:=⟨_,rfl⟩
 obtain ⟨ix,hix⟩:∃ ix,ix=idxFrom (fun s:SecD=>strB s.N nm) ss 0:=⟨_,rfl⟩
 have HIX:=qh hix
 obtain ⟨fe,hfe⟩:∃ fe,fe=findE ss nm:=⟨_,rfl⟩
 rw [<-hfe]
 unfold findE at hfe
 rw [<-hix,h0] at hfe
 rw [h0] at hca
 have HF:=qh hfe
 obtain ⟨⟨va,vc,hvv,-,-,-⟩,-⟩:=hv
 subst hvv
 clear hW t0 hfe hix h0
 go_enter Tryz.func227,Tryz.ntmps227
 go_upto_region 1 with (fail)
 rw [<-HW.out]
 clear HW
 go_wp2_with fail
 refine Calls.to hca ?_
 rintro e w1 rfl hb1
 have hbr:=hbw.trans (hb1.mono hbw.size)
 cases y0
 ·go_wp2_with fail
  go_ret2
  exact ⟨⟨0,by rw [HF.out];rfl⟩,hbr⟩
 ·have c1:=cel_lt c0 hb1
  have hin:=indexSec 270 #[.pointer (some ⟨w.heap.size,0,none⟩)] ent270 (fun s=>strB s.N nm) ss _ w1 (HV.out.mono hb1).1 (fun V hV s _=>find1_any s nm _ V (cel_lt c1 hV))
  rw [<-HIX.out] at hin
  clear hca hb1 c0
  go_wp2_with fail
  refine Calls.to hin ?_
  rintro e w2 rfl hb2
  have hbr2:=hbr.trans (hb2.mono hbr.size)
  by_cases h:0<=ix
  ·have i1:decide (0<=ix)=true:=decide_eq_true h
   have hf:fe=0:=by rw [HF.out,if_pos trivial,if_pos h]
   have HF0:=qh hf
   clear hin hb2 h hf
   go_wp2_with fail
   go_ret2
   exact ⟨⟨ix,by rw [HF0.out];rfl⟩,hbr2⟩
  ·have i1:decide (0<=ix)=false:=decide_eq_false h
   have hf:fe=9:=by rw [HF.out,if_pos trivial,if_neg h]
   have HF0:=qh hf
   clear hin hb2 h hf
   go_wp2_with fail
   go_ret2
   exact ⟨⟨0,by rw [HF0.out];rfl⟩,hbr2⟩
theorem rnamed_any (n:Net) (ss:List SecD) (v:Value) (w:World) (hg:gNet w n) (hv:IsSecs w v ss) (hl:n.Ls.xs.length<=400) :
  Calls Tryz.prog 167 #[vNet n,v] w fun e w'=>(∃ b:Bool,e=.returned (.bool b))/\Below w.heap.size w w':=by
 obtain ⟨W,hW⟩:∃ W,W=allocs w [((eNet n).toArray,25)]:=⟨_,rfl⟩
 have hbw:Below w.heap.size w W:=by rw [hW];exact allocs_below _ _
 have t0:W.heap[w.heap.size]? = some (.cells (eNet n).toArray 25 (0,0)):=by rw [hW];exact allocs_at [((eNet n).toArray,25)] w 0 (by simp)
 have HW:Hid (W=w.alloc (.cells (eNet n).toArray 25)):=qh hW
 have q0:W.cell? ⟨w.heap.size,0,none⟩=some (.slice n.Ns.a n.Ns.xs.length n.Ns.cap):=(tank_blk t0 0).trans rfl
 have q1:W.cell? ⟨w.heap.size,1,none⟩=some (.slice n.Ls.a n.Ls.xs.length n.Ls.cap):=(tank_blk t0 1).trans rfl
 have HG:=qh (rdNet.mono hg hbw)
 have HV:=qh (hv.mono hbw)
 obtain ⟨⟨va,vc,hvv,-,-,-⟩,-⟩:=hv
 subst hvv
 obtain ⟨m,hm⟩:∃ m,m=n.Ls.xs.length:=⟨_,rfl⟩
 have HM:=qh hm
 have hm4:m<2147483648:=by omega
 simp only [vNet,vSl]
 clear hW t0 hg hl
 rw [<-hm] at q1
 clear hm
 go_enter Tryz.func167,Tryz.ntmps167
 go_upto_region 1 with (fail)
 first|rw [HM.out,<-HW.out]|rw [<-HW.out]
 clear HW
 go_wp2_with fail
 go_loopw [12] (fun s12 wr=>∃ (k:Nat),k<=m/\s12=.int .i64 k/\Below W.heap.size W wr) (fun s12 _=>m-(RowKit.intOf s12).toNat)
 case atStart=>exact ⟨0,Nat.zero_le _,rfl,qr⟩
 case round=>
  obtain ⟨k,hk,rfl,hbW⟩:=hrel
  obtain ⟨wo,hwo⟩:∃ wo,wo=wr:=⟨_,rfl⟩
  subst hwo
  have hbr:=hbw.trans (hbW.mono hbw.size)
  by_cases hkm:k<m
  ·have q1:=cel_lt q1 hbW
   have hkn:k<n.Ls.xs.length:=by rw [<-HM.out];exact hkm
   obtain ⟨b,off,ea,c0,c1,c2,c3,c4,c5,c6,c7,c8,c9,c10⟩:=((rdNet.mono HG.out hbW).2.2.2.1).lk k hkn
   obtain ⟨x,hx⟩:∃ x,x=n.Ls.xs[k]'hkn:=⟨_,rfl⟩
   rw [<-hx] at c0 c1 c2 c3 c4 c5 c6 c7 c8 c9 c10
   have i1:decide (k<m)=true:=decide_eq_true hkm
   have x7:IntKind.i64.wrap ((k:Int)+1)=k+1:=IntWalk.i64_in _ om
   have i4:(0:Int)<=k:=by omega
   have i5:(k:Int)<m:=by omega
   have hbA:Below wo.heap.size wo (wo.alloc (.cells (eLk x).toArray 61)):=qr.alloc (Nat.le_refl _) _
   have hbx:=bxLk wo (wo.alloc (.cells (eLk x).toArray 61)) 61 x _ rfl _ rfl qr
   obtain ⟨W2,hW2⟩:∃ W2,W2=wo.alloc (.cells (eLk x).toArray 61):=⟨_,rfl⟩
   have HW2:=qh hW2
   rw [<-hW2] at hbA hbx
   obtain ⟨⟨k0,k1,k2⟩,⟨k3,k4,k5,k6⟩,k7,k8,k9,k10⟩:=hbx
   rw [ea] at q1
   have HKM:=qh hkm
   have EA:=qh ea
   have hbB:=hbW.trans (hbA.mono hbW.size)
   clear hx hW2 hkn hkm
   go_upto_region 4 with (fail)
   rw [<-HW2.out]
   clear HW2 c0 c1 c2 c3 c4 c5 c6 c7 c8 c9 c10 q0
   by_cases h4:x.Kind=1
   rotate_left
   ·have j4:(x.Kind != 1)=true:=by simpa using h4
    have j6:(x.Kind==1)=false:=by simpa using h4
    have j5:decide (x.Kind=1)=false:=decide_eq_false h4
    clear h4
    go_wp2_with fail
    clear ea q1
    have hlt:=HKM.out
    refine ⟨⟨k+1,hlt,by go_num,hbB⟩,?_⟩
    simp [RowKit.intOf];omega
   ·have j4:(x.Kind != 1)=false:=by rw [h4];rfl
    have j6:(x.Kind==1)=true:=by rw [h4];rfl
    have j5:decide (x.Kind=1)=true:=decide_eq_true h4
    have hfi:=catfind_any ss _ x.Sec W2 (HV.out.mono hbB)
    obtain ⟨fe,hfe⟩:∃ fe,fe=findE ss x.Sec:=⟨_,rfl⟩
    rw [<-hfe] at hfi
    clear h4 hfe
    go_wp2_with fail
    refine Calls.to hfi ?_
    rintro e w5 ⟨i,rfl⟩ hb5
    have hbC:=hbB.trans (hb5.mono hbB.size)
    have hbr5:=hbw.trans (hbC.mono hbw.size)
    by_cases he:fe=0
    ·have z1:(fe != 0)=false:=by simpa using he
     have z2:(fe==0)=true:=by simpa using he
     have z3:decide (fe=0)=true:=decide_eq_true he
     clear hfi hb5 he k0 k1 k2 k3 k4 k5 k6 k7 k8 k9 k10 ea q1
     go_wp2_with fail
     have hlt:=HKM.out
     refine ⟨⟨k+1,hlt,by go_num,hbC⟩,?_⟩
     simp [RowKit.intOf];omega
    ·have z1:(fe != 0)=true:=by simpa using he
     have z2:(fe==0)=false:=by simpa using he
     have z3:decide (fe=0)=false:=decide_eq_false he
     clear hfi hb5 he k0 k1 k2 k3 k4 k5 k6 k7 k8 k9 k10
     go_wp2_with fail
     go_ret
     exact ⟨⟨_,rfl⟩,hbr5⟩
  ·have i1:decide (k<m)=false:=decide_eq_false hkm
   clear q0 q1
   go_wp2_with fail
   go_ret
   exact ⟨⟨_,rfl⟩,hbr⟩
theorem netB_one (x:Nd) (a b:Option Addr) (c d:Nat):netB ⟨⟨a,c,[x]⟩,⟨b,d,[]⟩⟩=ndB x:=by
 have h1:allFrom (okNd [x]) 0 1=ndB x:=by
  rw [allFrom_step _ om,allFrom_end _ om,Bool.and_true]
  simp [okNd,findNd,idxFrom,strB_self]
 have h2:allFrom (okLk [x] []) 0 0=true:=allFrom_end _ om
 simp only [netB,List.length_singleton,List.length_nil,h1,h2]
 simp
theorem sright_any (x:Nd) (w:World) (hg:gNd w x):Calls Tryz.prog 98 #[vNd x] w fun e w'=>e=.returned (.bool (ndB x))/\Below w.heap.size w w':=by
 have HB:=qh (fun a c=>netB_one x a none c 0)
 have hb0:Below w.heap.size w ((w.alloc (.cells (eNd x).toArray 48)).alloc (.cells (eNd x).toArray 48)):=(qr.alloc (Nat.le_refl _) _).alloc (by simp) _
 have hC:IsC eNd 9 ((w.alloc (.cells (eNd x).toArray 48)).alloc (.cells (eNd x).toArray 48)) (some ⟨w.heap.size+1,0,none⟩) [x]:=by
  have:=boxC eNd_len (w.alloc (.cells (eNd x).toArray 48)) 48 x _ rfl
  simpa using this
 have hG:gNet ((w.alloc (.cells (eNd x).toArray 48)).alloc (.cells (eNd x).toArray 48)) ⟨⟨some ⟨w.heap.size+1,0,none⟩,1,[x]⟩,⟨none,0,[]⟩⟩:=
  ⟨⟨by simp,by simp,hC,by intro y hy;simp at hy;subst hy;exact rdNd.mono hg hb0⟩,⟨by simp,by simp,fun i hi=>absurd hi (Nat.not_lt_zero _),by simp⟩⟩
 go_enter Tryz.func98,Tryz.ntmps98
 go_wp2_with fail
 refine Calls.to (nvalid_any ⟨⟨some ⟨w.heap.size+1,0,none⟩,1,[x]⟩,⟨none,0,[]⟩⟩ _ hG) ?_
 rintro e w1 rfl hb1
 rw [HB.out]
 have hbb:=hb0.trans (hb1.mono hb0.size)
 clear hb0 hb1 hC hG
 go_wp2_with fail
 go_ret
 exact ⟨rfl,hbb⟩
def capXB (x:Nd):Int×Int:=if ndB x then (capB x,0) else (0,1)
theorem scapX_any (x:Nd) (w:World) (hg:gNd w x):Calls Tryz.prog 32 #[vNd x] w fun e w'=>e=.returned (.tuple #[.int .i64 (capXB x).1,.int .i64 (capXB x).2])/\Below w.heap.size w w':=by
 have hb0:Below w.heap.size w (w.alloc (.cells (eNd x).toArray 48)):=qr.alloc (Nat.le_refl _) _
 cases hx:ndB x
 ·have HC:Hid (capXB x=(0,1)):=by show _=_;simp [capXB,hx]
  have HX:=qh hx
  clear hx
  rw [HC.out]
  go_enter Tryz.func32,Tryz.ntmps32
  go_wp2_with fail
  refine Calls.to (sright_any x _ (rdNd.mono hg hb0)) ?_
  rintro e w1 rfl hb1
  rw [HX.out]
  have hbb:=hb0.trans (hb1.mono hb0.size)
  clear hb0 hb1
  go_wp2_with fail
  go_ret2
  exact ⟨rfl,hbb⟩
 ·have HC:Hid (capXB x=(capB x,0)):=by show _=_;simp [capXB,hx]
  have hk:=ndB_knot hx
  have HX:=qh hx
  clear hx
  rw [HC.out]
  go_enter Tryz.func32,Tryz.ntmps32
  go_wp2_with fail
  refine Calls.to (sright_any x _ (rdNd.mono hg hb0)) ?_
  rintro e w1 rfl hb1
  rw [HX.out]
  have hbb:=hb0.trans (hb1.mono hb0.size)
  obtain ⟨d0,d1,d2,d3,d4,d5,d6,d7,d8⟩:=boxNd w w1 48 x _ rfl _ rfl (by simpa using hb1)
  have hg1:=rdNd.mono hg hbb
  clear hb0 hb1
  go_wp2_with fail
  refine Calls.to (scap_any x _ hg1 hk) ?_
  rintro e w2 rfl hb2
  have hbb2:=hbb.trans (hb2.mono hbb.size)
  clear hb2 hbb hg1
  go_wp2_with fail
  go_ret2
  exact ⟨rfl,hbb2⟩
theorem rpart_any (a b c:Nat) (w:World) (ha:a<9223372036854775808) (hb:b<9223372036854775808) (hc:c<9223372036854775808) (h:a*b / 18446744073709551616<c) (hr:a*b / c<9223372036854775808) :
  Calls Tryz.prog 232 #[.int .i64 (a:Int),.int .i64 (b:Int),.int .i64 (c:Int)] w fun e w'=>e=.returned (.int .i64 ((a*b / c:Nat):Int))/\Below w.heap.size w w':=by
 have hm:=mul64_any a b w om om
 have hd:=div64_any (a*b / 18446744073709551616) (a*b % 18446744073709551616) c w h (Nat.mod_lt _ (by decide)) om
 rw [show a*b / 18446744073709551616*18446744073709551616+a*b % 18446744073709551616=a*b from by rw [Nat.mul_comm (a*b / 18446744073709551616)];exact Nat.div_add_mod _ _] at hd
 obtain ⟨q,hq⟩:∃ q,q=a*b / c:=⟨_,rfl⟩
 obtain ⟨r,hr2⟩:∃ r,r=a*b % c:=⟨_,rfl⟩
 obtain ⟨hi,hhi⟩:∃ hi,hi=a*b / 18446744073709551616:=⟨_,rfl⟩
 obtain ⟨lo,hlo⟩:∃ lo,lo=a*b % 18446744073709551616:=⟨_,rfl⟩
 rw [<-hq] at hr hd ⊢
 rw [<-hhi,<-hlo] at hm hd
 rw [<-hr2] at hd
 clear hq hr2 hhi hlo h
 have x1:IntKind.u64.wrap (a:Int)=a:=by rw [IntKind.wrap_u64];omega
 have x2:IntKind.u64.wrap (b:Int)=b:=by rw [IntKind.wrap_u64];omega
 have x3:IntKind.u64.wrap (c:Int)=c:=by rw [IntKind.wrap_u64];omega
 have x4:IntKind.i64.wrap (q:Int)=q:=IntWalk.i64_in _ om
 go_enter Tryz.func232,Tryz.ntmps232
 go_wp2_with fail
 refine hm.mono ?_
 rintro e w1 ⟨rfl,rfl⟩
 go_wp2_with fail
 refine Calls.to hd ?_
 rintro e w2 rfl hb2
 go_wp2_with fail
 go_ret
 exact ⟨rfl,hb2⟩
end Go.Proofs.YtoiakijmbghhlaaGreat
