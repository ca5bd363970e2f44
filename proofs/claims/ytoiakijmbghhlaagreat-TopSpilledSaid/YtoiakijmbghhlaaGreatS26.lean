/- routing, plain: sums over numbers, the links out of a node, what is dealt out to links, and the account of a set of nodes. Conditions: none. | routing, plain: what a step does, from what its parts do. Conditions: the network and the state are right. -/
import Derived.Test.YtoiakijmbghhlaaGreatS00
import Derived.Test.YtoiakijmbghhlaaGreatS17
set_option linter.unusedVariables false
set_option linter.unusedSimpArgs false
set_option maxRecDepth 100000
set_option maxHeartbeats 32000000
namespace Go.Proofs.YtoiakijmbghhlaaGreat
open Go.RowKit
def sg (f:Nat->Int):Nat->Int
 | 0=>0
 | n+1=>sg f n+f n
theorem sg_succ (f:Nat->Int) (n:Nat):sg f (n+1)=sg f n+f n:=rfl
theorem sg_congr {f g:Nat->Int}:∀ {n:Nat},(∀ i,i<n->f i=g i)->sg f n=sg g n
 | 0,_=>rfl
 | n+1,h=>by
  rw [sg_succ,sg_succ,sg_congr (fun i hi=>h i om),h n om]
theorem sg_add (f g:Nat->Int):∀ n,sg (fun i=>f i+g i) n=sg f n+sg g n
 | 0=>rfl
 | n+1=>by rw [sg_succ,sg_succ,sg_succ,sg_add f g n];omega
theorem sg_sub (f g:Nat->Int):∀ n,sg (fun i=>f i-g i) n=sg f n-sg g n
 | 0=>rfl
 | n+1=>by rw [sg_succ,sg_succ,sg_succ,sg_sub f g n];omega
theorem sg_zero:∀ n,sg (fun _=>0) n=0
 | 0=>rfl
 | n+1=>by rw [sg_succ,sg_zero n];rfl
theorem sg_all0 {f:Nat->Int} {n:Nat} (h:∀ i,i<n->f i=0):sg f n=0:=(sg_congr h).trans (sg_zero n)
theorem sg_swap (F:Nat->Nat->Int) (m:Nat):∀ n,sg (fun i=>sg (F i) m) n=sg (fun k=>sg (fun i=>F i k) n) m
 | 0=>(sg_zero m).symm
 | n+1=>by
  rw [sg_succ,sg_swap F m n,<-sg_add]
  exact sg_congr (fun k _=>(sg_succ (fun i=>F i k) n).symm)
theorem sg_nonneg {f:Nat->Int}:∀ {n:Nat},(∀ i,i<n->0<=f i)->0<=sg f n
 | 0,_=>Int.le_refl 0
 | n+1,h=>by
  have h1:=sg_nonneg (n:=n) (fun i hi=>h i om)
  have h2:=h n om
  rw [sg_succ];omega
theorem sg_bd {f:Nat->Int} {b:Int}:∀ {n:Nat},(∀ i,i<n->0<=f i/\f i<=b)->0<=sg f n/\sg f n<=n*b
 | 0,_=>⟨Int.le_refl 0,by simp [sg]⟩
 | n+1,h=>by
  have h1:=sg_bd (n:=n) (fun i hi=>h i om)
  have h2:=h n om
  rw [sg_succ]
  rw [show ((n+1:Nat):Int)*b=n*b+b by rw [Int.natCast_add,Int.add_mul];simp]
  omega
theorem sg_pick {n j:Nat} (hj:j<n) (x:Int):sg (fun i=>if i=j then x else 0) n=x:=by
 induction n with
 | zero=>omega
 | succ n ih=>
  rw [sg_succ]
  by_cases h:j=n
  ·subst h
   rw [if_pos rfl,sg_all0 (fun i hi=>if_neg om)];omega
  ·rw [ih om,if_neg om];omega
theorem account {n m:Nat} {frm dst:Nat->Nat} (hf:∀ k,k<m->frm k<n) (ht:∀ k,k<m->dst k<n) (out ins:Nat->Bool) (d q p:Nat->Int)
  (h1:∀ i,i<n->out i=false->d i=sg (fun k=>if frm k=i then p k else 0) m-sg (fun k=>if dst k=i then p k else 0) m)
  (h2:∀ i,i<n->out i=true->d i=q i/\sg (fun k=>if frm k=i then p k else 0) m=0) :
  sg (fun i=>if ins i then d i else 0) n+sg (fun k=>if ins (dst k) then p k else 0) m-sg (fun k=>if ins (frm k) then p k else 0) m
   = sg (fun i=>if ins i&&out i then q i else 0) n+sg (fun k=>if ins (dst k)&&out (dst k) then p k else 0) m:=by
 have a1:∀ (g:Nat->Nat),(∀ k,k<m->g k<n)->∀ c:Nat->Bool,sg (fun i=>if c i then sg (fun k=>if g k=i then p k else 0) m else 0) n=sg (fun k=>if c (g k) then p k else 0) m:=by
  intro g hg c
  rw [show sg (fun i=>if c i then sg (fun k=>if g k=i then p k else 0) m else 0) n=sg (fun i=>sg (fun k=>if c i then (if g k=i then p k else 0) else 0) m) n from sg_congr (fun i _=>by
   cases c i
   ·simp only [Bool.false_eq_true,if_false];exact (sg_zero m).symm
   ·simp)]
  rw [sg_swap]
  refine sg_congr (fun k hk=>?_)
  rw [<-sg_pick (hg k hk) (if c (g k) then p k else 0)]
  refine sg_congr (fun i _=>?_)
  by_cases e:g k=i
  ·subst e;simp
  ·rw [if_neg e,if_neg (show ¬ i=g k from fun h=>e h.symm)];simp
 have a2:=a1 frm hf ins
 have a3:=a1 dst ht ins
 have a4:=a1 dst ht (fun i=>ins i&&out i)
 rw [<-a2,<-a3,<-a4,<-sg_add,<-sg_sub,<-sg_add]
 refine sg_congr (fun i hi=>?_)
 cases hi1:ins i
 ·simp
 ·cases ho:out i
  ·have:=h1 i hi ho
   simp;omega
  ·have:=h2 i hi ho
   simp;omega
def rowN (frm:Nat->Nat):Nat->Nat->List Nat
 | 0,_=>[]
 | k+1,i=>if frm k=i then rowN frm k i ++ [k] else rowN frm k i
theorem rowN_mem {frm:Nat->Nat} {i x:Nat}:∀ {m:Nat},x∈rowN frm m i↔x<m/\frm x=i
 | 0=>by simp [rowN]
 | m+1=>by
  unfold rowN
  by_cases h:frm m=i
  ·rw [if_pos h,List.mem_append,rowN_mem (m:=m),List.mem_singleton]
   constructor
   ·rintro (⟨h1,h2⟩|rfl)
    ·exact ⟨by omega,h2⟩
    ·exact ⟨by omega,h⟩
   ·rintro ⟨h1,h2⟩
    by_cases e:x=m
    ·exact .inr e
    ·exact .inl ⟨by omega,h2⟩
  ·rw [if_neg h,rowN_mem (m:=m)]
   constructor
   ·rintro ⟨h1,h2⟩;exact ⟨by omega,h2⟩
   ·rintro ⟨h1,h2⟩
    refine ⟨?_,h2⟩
    by_cases e:x=m
    ·subst e;exact absurd h2 h
    ·omega
theorem rowN_nodup {frm:Nat->Nat} {i:Nat}:∀ m,(rowN frm m i).Nodup
 | 0=>by simp [rowN]
 | m+1=>by
  unfold rowN
  split
  ·rw [List.nodup_append]
   refine ⟨rowN_nodup m,by simp,fun a ha b hb=>?_⟩
   rw [List.mem_singleton] at hb
   have:=(rowN_mem.1 ha).1
   omega
  ·exact rowN_nodup m
theorem rowN_sum (frm:Nat->Nat) (i:Nat) (f:Nat->Int):∀ m,((rowN frm m i).map f).sum=sg (fun k=>if frm k=i then f k else 0) m
 | 0=>rfl
 | m+1=>by
  rw [sg_succ,<-rowN_sum frm i f m]
  show ((if frm m=i then rowN frm m i ++ [m] else rowN frm m i).map f).sum=_
  split
  ·simp
  ·simp
theorem rowN_len (frm:Nat->Nat) (i:Nat):∀ m,(rowN frm m i).length<=m
 | 0=>by simp [rowN]
 | m+1=>by
  have:=rowN_len frm i m
  unfold rowN
  split
  ·simp;omega
  ·omega
structure LimI (frm:Nat->Nat) (w held:Nat->Int) (m i:Nat) (xs:List Int):Prop where
 len:xs.length=m
 bd:∀ k,k<m->0<=xs.getD k 0/\xs.getD k 0<=4503599627370496
 sum:∀ j,j<i->sg (fun k=>if frm k=j then xs.getD k 0 else 0) m<=held j
 rest:∀ k,k<m->i<=frm k->xs.getD k 0=w k
structure LimJ (frm:Nat->Nat) (w held:Nat->Int) (m i j:Nat) (xs:List Int) (h b d s:Nat):Prop where
 len:xs.length=m
 bd:∀ k,k<m->0<=xs.getD k 0/\xs.getD k 0<=4503599627370496
 sum:∀ j,j<i->sg (fun k=>if frm k=j then xs.getD k 0 else 0) m<=held j
 rest:∀ k,k<m->i<frm k->xs.getD k 0=w k
 held:held i=h
 before:(b:Int)=(((rowN frm m i).take j).map w).sum
 all:(s:Int)=((rowN frm m i).map w).sum
 dn:(((rowN frm m i).take j).map fun k=>xs.getD k 0).sum=d
 dq:d=h*b / s
theorem LimI.start {frm:Nat->Nat} {w held:Nat->Int} {m:Nat} {xs:List Int} (hl:xs.length=m) (hw:∀ k,k<m->xs.getD k 0=w k) (hb:∀ k,k<m->0<=w k/\w k<=4503599627370496):LimI frm w held m 0 xs:=
 ⟨hl,fun k hk=>by rw [hw k hk];exact hb k hk,fun j hj=>absurd hj (Nat.not_lt_zero j),fun k hk _=>hw k hk⟩
theorem LimI.easy {frm:Nat->Nat} {w held:Nat->Int} {m i:Nat} {xs:List Int} (h:LimI frm w held m i xs) (hs:((rowN frm m i).map w).sum<=held i):LimI frm w held m (i+1) xs:=by
 refine ⟨h.len,h.bd,fun j hj=>?_,fun k hk hf=>h.rest k hk om⟩
 by_cases e:j=i
 ·subst e
  rw [rowN_sum] at hs
  refine Int.le_trans (Int.le_of_eq (sg_congr fun k hk=>?_)) hs
  by_cases e:frm k=j
  ·rw [if_pos e,if_pos e];exact h.rest k hk om
  ·rw [if_neg e,if_neg e]
 ·exact h.sum j om
theorem LimI.deal {frm:Nat->Nat} {w held:Nat->Int} {m i:Nat} {xs:List Int} (h:LimI frm w held m i xs) {hh s:Nat} (h1:held i=hh) (h2:(s:Int)=((rowN frm m i).map w).sum):LimJ frm w held m i 0 xs hh 0 0 s:=
 ⟨h.len,h.bd,h.sum,fun k hk hf=>h.rest k hk om,h1,by simp,h2,by simp,by simp⟩
theorem getD_set (xs:List Int) (k i:Nat) (y:Int) (hk:k<xs.length):(xs.set k y).getD i 0=if i=k then y else xs.getD i 0:=by
 by_cases e:i=k
 ·subst e;simp [List.getD,hk]
 ·rw [if_neg e];simp [List.getD,Ne.symm e]
theorem LimJ.next {frm:Nat->Nat} {w held:Nat->Int} {m i j:Nat} {xs:List Int} {h b d s:Nat} (H:LimJ frm w held m i j xs h b d s) (hs:h<s) (hb:h<=4503599627370496) (hw:∀ k,k<m->0<=w k)
  (hj:j<(rowN frm m i).length) {b':Nat} (hb':(b':Int)=b+w ((rowN frm m i)[j])):LimJ frm w held m i (j+1) (xs.set ((rowN frm m i)[j]) (((h*b' / s:Nat):Int)-(d:Int))) h b' (h*b' / s) s:=by
 have hm:=rowN_mem.1 (List.getElem_mem hj)
 have hnd:=rowN_nodup (frm:=frm) (i:=i) m
 obtain ⟨k,hk⟩:∃ k,k=(rowN frm m i)[j]:=⟨_,rfl⟩
 rw [<-hk] at hm hb' ⊢
 have hl:=H.len
 have hwk:=hw k hm.1
 have hkl:k<xs.length:=by omega
 have hle:d<=h*b' / s:=by rw [H.dq];exact Nat.div_le_div_right (Nat.mul_le_mul (Nat.le_refl h) om)
 have hts:(rowN frm m i).take (j+1)=(rowN frm m i).take j ++ [k]:=by rw [List.take_succ_eq_append_getElem hj,<-hk]
 have hbs:b'<=s:=by
  have e1:(b':Int)=(((rowN frm m i).take (j+1)).map w).sum:=by
   rw [hts,List.map_append,List.sum_append,hb',H.before];simp
  have e2:((rowN frm m i).map w).sum=(((rowN frm m i).take (j+1)).map w).sum+(((rowN frm m i).drop (j+1)).map w).sum:=by
   rw [<-List.sum_append,<-List.map_append,List.take_append_drop]
  have e3:∀ l:List Nat,(∀ x∈l,x<m)->0<=(l.map w).sum:=by
   intro l
   induction l with
   | nil=>intro _;simp
   | cons a r ih=>
    intro hr
    have:=ih (fun x hx=>hr x (List.mem_cons_of_mem _ hx))
    have:=hw a (hr a List.mem_cons_self)
    simp;omega
  have:=e3 ((rowN frm m i).drop (j+1)) (fun x hx=>(rowN_mem.1 (List.mem_of_mem_drop hx)).1)
  have:=H.all
  omega
 have hqb:h*b' / s<=h:=by
  rw [Nat.div_le_iff_le_mul_add_pred om,Nat.mul_comm s h]
  have:=Nat.mul_le_mul (Nat.le_refl h) hbs
  omega
 have hnot:∀ x∈(rowN frm m i).take j,x≠k:=by
  intro x hx e
  subst e
  obtain ⟨a,ha,hxa⟩:=List.mem_iff_getElem.1 hx
  rw [List.getElem_take] at hxa
  have ha':a<j:=by rw [List.length_take] at ha;omega
  have:=(List.pairwise_iff_getElem.1 hnd) a j om hj ha'
  exact this (hxa.trans hk)
 refine ⟨by rw [List.length_set];exact hl,fun a ha=>?_,fun a ha=>?_,fun a ha hf=>?_,H.held,?_,H.all,?_,rfl⟩
 ·rw [getD_set _ _ _ _ hkl]
  split
  ·omega
  ·exact H.bd a ha
 ·refine Int.le_trans (Int.le_of_eq (sg_congr fun c hc=>?_)) (H.sum a ha)
  by_cases e:frm c=a
  ·rw [if_pos e,if_pos e,getD_set _ _ _ _ hkl,if_neg (by rintro rfl;omega)]
  ·rw [if_neg e,if_neg e]
 ·rw [getD_set _ _ _ _ hkl,if_neg (by rintro rfl;omega)]
  exact H.rest a ha hf
 ·rw [hts,List.map_append,List.sum_append,hb',H.before];simp
 ·rw [hts,List.map_append,List.sum_append]
  have:((rowN frm m i).take j).map (fun c=>(xs.set k (((h*b' / s:Nat):Int)-(d:Int))).getD c 0)=((rowN frm m i).take j).map fun c=>xs.getD c 0:=by
   refine List.map_congr_left (fun c hc=>?_)
   rw [getD_set _ _ _ _ hkl,if_neg (hnot c hc)]
  rw [this,H.dn]
  simp only [List.map_cons,List.map_nil,List.sum_cons,List.sum_nil,getD_set _ _ _ _ hkl,if_true]
  omega
theorem LimJ.done {frm:Nat->Nat} {w held:Nat->Int} {m i j:Nat} {xs:List Int} {h b d s:Nat} (H:LimJ frm w held m i j xs h b d s) (hs:h<s) (hj:(rowN frm m i).length<=j):LimI frm w held m (i+1) xs:=by
 refine ⟨H.len,H.bd,fun a ha=>?_,fun k hk hf=>H.rest k hk om⟩
 by_cases e:a=i
 ·subst e
  have h1:=H.dn
  have h2:=H.before
  rw [List.take_of_length_le hj] at h1 h2
  rw [rowN_sum] at h1
  have h3:=H.all
  have h4:=H.held
  have hbs:b=s:=by omega
  have hd:=H.dq
  rw [hbs,Nat.mul_div_cancel _ om] at hd
  rw [h1,hd,h4]
  exact Int.le_refl _
 ·exact H.sum a om
def ndK (n:Net) (i:Nat):Nd:=n.Ns.xs.getD i default
def isOut (n:Net) (i:Nat):Bool:=decide ((ndK n i).Kind=3)
def frmN (n:Net) (k:Nat):Nat:=(findNd n.Ns.xs (n.Ls.xs.getD k default).From).toNat
def toN (n:Net) (k:Nat):Nat:=(findNd n.Ns.xs (n.Ls.xs.getD k default).To).toNat
theorem ndK_at {n:Net} {i:Nat} (h:i<n.Ns.xs.length):ndK n i=n.Ns.xs[i]:=by simp [ndK,List.getD,h]
theorem netB_size {n:Net} (h:netB n=true):n.Ns.xs.length<=300/\n.Ls.xs.length<=400:=by
 simp [netB] at h;omega
theorem ends_lt {n:Net} (h:netB n=true) {k:Nat} (hk:k<n.Ls.xs.length):frmN n k<n.Ns.xs.length/\toN n k<n.Ns.xs.length:=by
 have h1:=netB_lk h k hk
 have h2:=findNd_bd n.Ns.xs n.Ls.xs[k].From
 have h3:=findNd_bd n.Ns.xs n.Ls.xs[k].To
 have e:n.Ls.xs.getD k default=n.Ls.xs[k]:=by simp [List.getD,hk]
 unfold frmN toN
 rw [e];omega
theorem ends_edge {n:Net} (h:netB n=true) {k:Nat} (hk:k<n.Ls.xs.length) (hk2:k<(edgesM n.Ns.xs n.Ls.xs).length):(edgesM n.Ns.xs n.Ls.xs)[k]=((frmN n k:Int),(toN n k:Int)):=by
 have h1:=netB_lk h k hk
 have e:n.Ls.xs.getD k default=n.Ls.xs[k]:=by simp [List.getD,hk]
 have h4:(edgesM n.Ns.xs n.Ls.xs)[k]=(findNd n.Ns.xs n.Ls.xs[k].From,findNd n.Ns.xs n.Ls.xs[k].To):=by simp [edgesM]
 unfold frmN toN
 rw [h4,e]
 exact Prod.ext (by simp;omega) (by simp;omega)
def mixL (F G:Nat->Int) (n k:Nat) (xs:List Int):Prop:=xs.length=n/\∀ i,i<n->xs.getD i 0=if i<k then F i else G i
theorem mixL.set {F G:Nat->Int} {n k:Nat} {xs:List Int} (h:mixL F G n k xs) (hk:k<n) {y:Int} (hy:y=F k):mixL F G n (k+1) (xs.set k y):=by
 refine ⟨by rw [List.length_set];exact h.1,fun i hi=>?_⟩
 have hl:=h.1
 rw [getD_set _ _ _ _ om]
 by_cases e:i=k
 ·subst e;rw [if_pos rfl,if_pos om,hy]
 ·rw [if_neg e,h.2 i hi]
  by_cases h2:i<k
  ·rw [if_pos h2,if_pos om]
  ·rw [if_neg h2,if_neg om]
theorem mixL.all {F G:Nat->Int} {n k:Nat} {xs:List Int} (h:mixL F G n k xs) (hk:n<=k):xs.length=n/\∀ i,i<n->xs.getD i 0=F i:=
 ⟨h.1,fun i hi=>by rw [h.2 i hi,if_pos om]⟩
theorem mixL.none {F:Nat->Int} {n:Nat} {xs:List Int} (h:xs.length=n):mixL F (fun i=>xs.getD i 0) n 0 xs:=⟨h,fun i _=>by simp⟩
theorem mixL.here {F G:Nat->Int} {n k:Nat} {xs:List Int} (h:mixL F G n k xs) (hk:k<n) (hk2:k<xs.length):xs[k]=G k:=by
 have:=h.2 k hk
 rw [if_neg (Nat.lt_irrefl k)] at this
 simpa [List.getD,hk2] using this
structure SetR (n:Net) (hs vs ps gs:List Int) (b:Bool):Prop where
 lv:vs.length=n.Ns.xs.length
 lp:ps.length=n.Ns.xs.length
 lh:gs.length=n.Ns.xs.length
 h:∀ i,i<n.Ns.xs.length->gs.getD i 0=if isOut n i then 0 else hs.getD i 0
 v:∀ i,i<n.Ns.xs.length->vs.getD i 0=min (gs.getD i 0) (capB (ndK n i))
 p:∀ i,i<n.Ns.xs.length->ps.getD i 0=gs.getD i 0-vs.getD i 0
 b:b=true->∀ i,i<n.Ns.xs.length->ps.getD i 0<=1125899906842624
def outS (n:Net) (ps:List Int) (i:Nat):Int:=sg (fun k=>if frmN n k=i then ps.getD k 0 else 0) n.Ls.xs.length
def inS (n:Net) (ps:List Int) (i:Nat):Int:=sg (fun k=>if toN n k=i then ps.getD k 0 else 0) n.Ls.xs.length
structure StepR (n:Net) (s:St) (q:List Int) (s':St) (gi go:Int) (ps:List Int):Prop where
 net:netB n=true
 st:stB n s=true
 st':stB n s'=true
 ql:q.length=n.Ns.xs.length
 qb:∀ i,i<n.Ns.xs.length->0<=q.getD i 0/\q.getD i 0<=1125899906842624
 pl:ps.length=n.Ls.xs.length
 pb:∀ k,k<n.Ls.xs.length->0<=ps.getD k 0/\ps.getD k 0<=4503599627370496
 held:∀ i,i<n.Ns.xs.length->isOut n i=false->s'.V.xs.getD i 0+s'.P.xs.getD i 0=s.V.xs.getD i 0+s.P.xs.getD i 0+q.getD i 0-outS n ps i+inS n ps i
 fall:∀ i,i<n.Ns.xs.length->isOut n i=true->outS n ps i=0
 full:∀ i,i<n.Ns.xs.length->s'.P.xs.getD i 0≠0->s'.V.xs.getD i 0=capB (ndK n i)
 gi:gi=sg (fun i=>q.getD i 0) n.Ns.xs.length
 go:go=sg (fun i=>if isOut n i then q.getD i 0 else 0) n.Ns.xs.length+sg (fun k=>if isOut n (toN n k) then ps.getD k 0 else 0) n.Ls.xs.length
 ss:s'.S.xs=s.S.xs
theorem stB_parts {n:Net} {s:St} (h:stB n s=true):s.V.xs.length=n.Ns.xs.length/\s.P.xs.length=n.Ns.xs.length/\s.S.xs.length=n.Ls.xs.length/\s.O.xs.length=n.Ls.xs.length /\
  (∀ i,i<n.Ns.xs.length->0<=s.V.xs.getD i 0/\s.V.xs.getD i 0<=capB (ndK n i)/\0<=s.P.xs.getD i 0/\s.P.xs.getD i 0<=1125899906842624/\(isOut n i=true->s.P.xs.getD i 0=0)) /\
  (∀ k,k<n.Ls.xs.length->0<=s.S.xs.getD k 0/\s.S.xs.getD k 0<=1000/\(s.O.xs.getD k false=true->(n.Ls.xs.getD k default).Kind=4)):=by
 have hl:stLen n s=true:=by cases q:stLen n s;rw [stB_len q] at h;cases h;rfl
 rw [stB_is hl,Bool.and_eq_true,allFrom_iff,allFrom_iff] at h
 simp only [stLen,Bool.and_eq_true,decide_eq_true_eq] at hl
 obtain ⟨⟨⟨h1,h2⟩,h3⟩,h4⟩:=hl
 refine ⟨h1,h2,h3,h4,fun i hi=>?_,fun k hk=>?_⟩
 ·have:=h.1 i hi
  simp [okV,btwB,volB] at this
  refine ⟨this.1.1.1,this.1.1.2,this.1.2.1,this.1.2.2,fun e=>?_⟩
  have e:(ndK n i).Kind=3:=of_decide_eq_true e
  rcases this.2 with q|q
  ·exact absurd (by simpa [ndK,List.getD] using e) q
  ·simpa [List.getD] using q
 ·have:=h.2 k hk
  simp [okS,btwB] at this
  refine ⟨this.1.1,this.1.2,fun e=>?_⟩
  rcases this.2 with q|q
  ·rw [show s.O.xs.getD k false=false from by simpa [List.getD] using q] at e;cases e
  ·simpa [List.getD] using q
theorem stB_of {n:Net} {s:St} (h1:s.V.xs.length=n.Ns.xs.length) (h2:s.P.xs.length=n.Ns.xs.length) (h3:s.S.xs.length=n.Ls.xs.length) (h4:s.O.xs.length=n.Ls.xs.length)
  (hv:∀ i,i<n.Ns.xs.length->0<=s.V.xs.getD i 0/\s.V.xs.getD i 0<=capB (ndK n i)/\0<=s.P.xs.getD i 0/\s.P.xs.getD i 0<=1125899906842624/\(isOut n i=true->s.P.xs.getD i 0=0))
  (hs:∀ k,k<n.Ls.xs.length->0<=s.S.xs.getD k 0/\s.S.xs.getD k 0<=1000/\(s.O.xs.getD k false=true->(n.Ls.xs.getD k default).Kind=4)):stB n s=true:=by
 have hl:stLen n s=true:=by simp [stLen,h1,h2,h3,h4]
 rw [stB_is hl,Bool.and_eq_true,allFrom_iff,allFrom_iff]
 refine ⟨fun i hi=>?_,fun k hk=>?_⟩
 ·obtain ⟨a,b,c,d,e⟩:=hv i hi
  simp [okV,btwB,volB]
  refine ⟨⟨⟨a,b⟩,c,d⟩,?_⟩
  by_cases q:(n.Ns.xs[i]?.getD default).Kind=3
  ·exact .inr (by have:=e (decide_eq_true (show (ndK n i).Kind=3 from by simpa [ndK,List.getD] using q));simpa [List.getD] using this)
  ·exact .inl q
 ·obtain ⟨a,b,c⟩:=hs k hk
  simp [okS,btwB]
  refine ⟨⟨a,b⟩,?_⟩
  cases q:s.O.xs[k]?.getD false
  ·exact .inl rfl
  ·exact .inr (by have:=c (by simpa [List.getD] using q);simpa [List.getD] using this)
theorem cap_out {n:Net} {i:Nat} (h:isOut n i=true):capB (ndK n i)=0:=by
 simp only [isOut,decide_eq_true_eq] at h
 unfold capB
 rw [if_pos h]
theorem capB_le {n:Net} (h:netB n=true) (i:Nat) (hi:i<n.Ns.xs.length) : -1125899906842624<=capB (ndK n i)/\capB (ndK n i)<=1125899906842624:=by
 have hb:=(netB_nd h i hi).1
 rw [ndK_at hi]
 revert hb
 generalize n.Ns.xs[i]=x
 intro h
 unfold capB
 split
 ·decide
 ·rename_i k3
  have hk:1<=x.Sh.xs.length:=by
   rcases ndB_knot h with q|q
   ·exact absurd q k3
   ·exact q
  have k:x.Kind=1\/x.Kind=2:=by
   by_cases k:x.Kind=1\/x.Kind=2
   ·exact k
   ·simp only [ndB,Bool.and_eq_true,kindNdB,if_neg k,if_neg k3] at h
    simp at h
  simp only [ndB,Bool.and_eq_true,kindNdB,if_pos k,shapeB] at h
  have ht:=h.2.1.1.2.1.1.1
  rw [lastK_eq hk]
  exact (tabB_at ht _ om).2.2
theorem stepR_of {n:Net} {s s':St} {q h1 h2 h3 h4 v1 p1 ps:List Int} {w:Nat->Int} {gi go:Int} (hn:netB n=true) (hs:stB n s=true) (ql:q.length=n.Ns.xs.length)
  (qb:∀ i,i<n.Ns.xs.length->0<=q.getD i 0/\q.getD i 0<=1125899906842624)
  (e1:∀ i,i<n.Ns.xs.length->h1.getD i 0=s.V.xs.getD i 0+s.P.xs.getD i 0+if isOut n i then 0 else q.getD i 0)
  (r1:SetR n h1 v1 p1 h2 true) (lm:LimI (frmN n) w (fun i=>h2.getD i 0) n.Ls.xs.length n.Ns.xs.length ps)
  (e3:∀ i,i<n.Ns.xs.length->h3.getD i 0=h2.getD i 0-outS n ps i+if isOut n i then 0 else inS n ps i)
  (r2:SetR n h3 s'.V.xs s'.P.xs h4 true) (hgi:gi=sg (fun i=>q.getD i 0) n.Ns.xs.length)
  (hgo:go=sg (fun i=>if isOut n i then q.getD i 0 else 0) n.Ns.xs.length+sg (fun k=>if isOut n (toN n k) then ps.getD k 0 else 0) n.Ls.xs.length)
  (hss:s'.S.xs=s.S.xs) (hol:s'.O.xs.length=n.Ls.xs.length) (ho:∀ k,s'.O.xs.getD k false=true->(n.Ls.xs.getD k default).Kind=4):StepR n s q s' gi go ps:=by
 obtain ⟨lV,lP,lS,lO,hv,hset⟩:=stB_parts hs
 have hpn:∀ i,0<=outS n ps i/\0<=inS n ps i:=fun i=>⟨sg_nonneg fun k hk=>by
  split
  ·exact (lm.bd k hk).1
  ·exact Int.le_refl _,sg_nonneg fun k hk=>by
  split
  ·exact (lm.bd k hk).1
  ·exact Int.le_refl _⟩
 have hle:∀ i,i<n.Ns.xs.length->outS n ps i<=h2.getD i 0:=fun i hi=>lm.sum i hi
 have hfall:∀ i,i<n.Ns.xs.length->isOut n i=true->outS n ps i=0:=fun i hi ho=>by
  have a:=hle i hi
  have b:=r1.h i hi
  rw [if_pos ho] at b
  have:=(hpn i).1
  omega
 have hh4:∀ i,i<n.Ns.xs.length->0<=h4.getD i 0/\(isOut n i=false->h4.getD i 0=s.V.xs.getD i 0+s.P.xs.getD i 0+q.getD i 0-outS n ps i+inS n ps i):=fun i hi=>by
  have a:=r2.h i hi
  have b:=e3 i hi
  have c:=r1.h i hi
  have d:=e1 i hi
  have f:=hle i hi
  have g:=hpn i
  cases ho:isOut n i
  ·simp only [ho,Bool.false_eq_true,if_false] at a b c d
   exact ⟨by omega,fun _=>by omega⟩
  ·simp only [ho,if_true] at a
   exact ⟨by omega,fun h=>by cases h⟩
 refine ⟨hn,hs,stB_of r2.lv r2.lp (by rw [hss];exact lS) hol (fun i hi=>?_) (fun k hk=>?_),ql,qb,lm.len,lm.bd,fun i hi ho=>?_,hfall,fun i hi hp=>?_,hgi,hgo,hss⟩
 ·have a:=r2.v i hi
  have b:=r2.p i hi
  have c:=r2.b rfl i hi
  have d:=(hh4 i hi).1
  have e:=hv i hi
  refine ⟨by omega,by omega,by omega,c,fun ho=>?_⟩
  have f:=r2.h i hi
  rw [if_pos ho] at f
  have:=cap_out ho
  omega
 ·rw [hss]
  exact ⟨(hset k hk).1,(hset k hk).2.1,ho k⟩
 ·have b:=r2.p i hi
  have:=(hh4 i hi).2 ho
  omega
 ·have a:=r2.v i hi
  have b:=r2.p i hi
  omega
end Go.Proofs.YtoiakijmbghhlaaGreat
