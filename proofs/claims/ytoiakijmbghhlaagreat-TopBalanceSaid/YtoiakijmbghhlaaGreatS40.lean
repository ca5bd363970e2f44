/- TopBalance, plain: the sets of names, the sums by hand, the inflows of a step, the totals of a run. No function of the program is named. Conditions: the network | balance.listed at right ledgers; the ground of balance.Sum. Conditions: the network is right, the ledgers are right. -/
import Derived.Test.YtoiakijmbghhlaaGreatS39
import Derived.Test.YtoiakijmbghhlaaGreatS38
import Derived.Test.YtoiakijmbghhlaaGreatS34
import Derived.Test.YtoiakijmbghhlaaGreatS31
import Derived.Test.YtoiakijmbghhlaaGreatS16
import Derived.Test.YtoiakijmbghhlaaGreatS04
set_option linter.unusedVariables false
set_option linter.unusedSimpArgs false
set_option maxRecDepth 100000
set_option maxHeartbeats 32000000
namespace Go.Proofs.YtoiakijmbghhlaaGreat
open Go.RowKit Go.Maps
def pkL (n:Net) (c:Nat->Bool):Nat->List ByteArray
 | 0=>[]
 | k+1=>if c k then pkL n c k ++ [(ndK n k).Name] else pkL n c k
theorem pkL_len (n:Net) (c:Nat->Bool):∀ k,(pkL n c k).length<=k
 | 0=>by simp [pkL]
 | k+1=>by
  have:=pkL_len n c k
  unfold pkL
  split
  ·simp;omega
  ·omega
theorem pkL_mem {n:Net} {c:Nat->Bool} {z:ByteArray}:∀ {k:Nat},z∈pkL n c k->∃ j,j<k/\c j=true/\z=(ndK n j).Name
 | 0,h=>by simp [pkL] at h
 | k+1,h=>by
  unfold pkL at h
  split at h
  ·rename_i hc
   rcases List.mem_append.1 h with h|h
   ·obtain ⟨j,h1,h2,h3⟩:=pkL_mem h
    exact ⟨j,by omega,h2,h3⟩
   ·exact ⟨k,by omega,hc,List.mem_singleton.1 h⟩
  ·obtain ⟨j,h1,h2,h3⟩:=pkL_mem h
   exact ⟨j,by omega,h2,h3⟩
theorem pkL_in {n:Net} {c:Nat->Bool} {j:Nat} (hc:c j=true):∀ {k:Nat},j<k->(ndK n j).Name∈pkL n c k
 | 0,h=>absurd h (Nat.not_lt_zero _)
 | k+1,h=>by
  unfold pkL
  by_cases e:j=k
  ·subst e
   rw [if_pos hc]
   exact List.mem_append.2 (.inr (List.mem_singleton.2 rfl))
  ·have:=pkL_in (n:=n) hc (k:=k) om
   split
   ·exact List.mem_append.2 (.inl this)
   ·exact this
theorem nd_inj {n:Net} (hn:netB n=true) {i j:Nat} (hi:i<n.Ns.xs.length) (hj:j<n.Ns.xs.length) (h:(ndK n i).Name=(ndK n j).Name):i=j:=by
 have a:=(netB_nd hn i hi).2
 have b:=(netB_nd hn j hj).2
 rw [ndK_at hi,ndK_at hj] at h
 rw [h,b] at a
 omega
theorem pkL_has {n:Net} (hn:netB n=true) (c:Nat->Bool) {j:Nat} (hj:j<n.Ns.xs.length):hasT (pkL n c n.Ns.xs.length) (ndK n j).Name=c j:=by
 rw [Bool.eq_iff_iff,hasT_iff]
 constructor
 ·intro h
  obtain ⟨i,h1,h2,h3⟩:=pkL_mem h
  rw [nd_inj hn hj h1 h3];exact h2
 ·exact fun h=>pkL_in h hj
theorem pkL_known {n:Net} (hn:netB n=true) {c:Nat->Bool} {k:Nat} (hk:k<=n.Ns.xs.length) {z:ByteArray} (h:z∈pkL n c k):∃ j,j<n.Ns.xs.length/\findNd n.Ns.xs z=(j:Int):=by
 obtain ⟨j,h1,h2,rfl⟩:=pkL_mem h
 have hj:j<n.Ns.xs.length:=by omega
 refine ⟨j,hj,?_⟩
 rw [ndK_at hj];exact (netB_nd hn j hj).2
theorem pkL_nodup {n:Net} (hn:netB n=true) (c:Nat->Bool):∀ k,k<=n.Ns.xs.length->(pkL n c k).Nodup
 | 0,_=>List.nodup_nil
 | k+1,hk=>by
  have ih:=pkL_nodup hn c k om
  unfold pkL
  split
  ·rw [List.nodup_append]
   refine ⟨ih,by simp,fun a ha b hb=>?_⟩
   rw [List.mem_singleton] at hb
   subst hb
   obtain ⟨j,h1,h2,rfl⟩:=pkL_mem ha
   exact fun e=>by
    have:=nd_inj hn om om e
    omega
  ·exact ih
theorem nodup_take {L:List ByteArray} (h:L.Nodup) {k:Nat} (hk:k<L.length):hasT (L.take k) L[k]=false:=by
 cases e:hasT (L.take k) L[k] with
 | false=>rfl
 | true=>
  rw [hasT_iff] at e
  obtain ⟨j,hj,he⟩:=List.mem_iff_getElem.1 e
  have hjk:j<k:=by simp at hj;omega
  have hp:=(List.pairwise_iff_getElem.1 h) j k om hk hjk
  rw [List.getElem_take] at he
  exact absurd he hp
theorem hasT_succ (L:List ByteArray) {k:Nat} (hk:k<L.length) (z:ByteArray):hasT (L.take (k+1)) z=(hasT (L.take k) z||strB z L[k]):=by
 unfold hasT
 rw [List.take_succ_eq_append_getElem hk,List.any_append]
 simp
abbrev lkK (n:Net) (k:Nat):Lk:=n.Ls.xs.getD k default
theorem lkK_at {n:Net} {k:Nat} (h:k<n.Ls.xs.length):lkK n k=n.Ls.xs[k]:=by simp [lkK,List.getD,h]
theorem lk_from {n:Net} (hn:netB n=true) {k:Nat} (hk:k<n.Ls.xs.length):(lkK n k).From=(ndK n (frmN n k)).Name/\(lkK n k).To=(ndK n (toN n k)).Name:=by
 have h1:=netB_lk hn k hk
 have he:=ends_lt hn hk
 rw [<-lkK_at hk] at h1
 constructor
 ·obtain ⟨h,e⟩:=name_of (n:=n) (key:=(lkK n k).From) (i:=frmN n k) (by show _=(((findNd n.Ns.xs (lkK n k).From).toNat:Nat):Int);omega)
  rw [ndK_at h,e]
 ·obtain ⟨h,e⟩:=name_of (n:=n) (key:=(lkK n k).To) (i:=toN n k) (by show _=(((findNd n.Ns.xs (lkK n k).To).toNat:Nat):Int);omega)
  rw [ndK_at h,e]
theorem lk_inj {n:Net} (hn:netB n=true) {i j:Nat} (hi:i<n.Ls.xs.length) (hj:j<n.Ls.xs.length) (h:(lkK n i).Name=(lkK n j).Name):i=j:=by
 have f:∀ k,k<n.Ls.xs.length->findLk n.Ls.xs (lkK n k).Name=k:=by
  intro k hk
  have:=(netB_parts hn).2 k hk
  simp only [okLk,Bool.and_eq_true,decide_eq_true_eq] at this
  exact this.1.1.1.2
 have a:=f i hi
 have b:=f j hj
 rw [h,b] at a
 omega
def ckL (n:Net) (c d:Nat->Bool):Nat->List ByteArray
 | 0=>[]
 | k+1=>if c (frmN n k)&&d (toN n k) then ckL n c d k ++ [(lkK n k).Name] else ckL n c d k
theorem ckL_len (n:Net) (c d:Nat->Bool):∀ k,(ckL n c d k).length<=k
 | 0=>by simp [ckL]
 | k+1=>by
  have:=ckL_len n c d k
  unfold ckL
  split
  ·simp;omega
  ·omega
theorem ckL_mem {n:Net} {c d:Nat->Bool} {z:ByteArray}:∀ {k:Nat},z∈ckL n c d k->∃ j,j<k/\(c (frmN n j)&&d (toN n j))=true/\z=(lkK n j).Name
 | 0,h=>by simp [ckL] at h
 | k+1,h=>by
  unfold ckL at h
  split at h
  ·rename_i hc
   rcases List.mem_append.1 h with h|h
   ·obtain ⟨j,h1,h2,h3⟩:=ckL_mem h
    exact ⟨j,by omega,h2,h3⟩
   ·exact ⟨k,by omega,hc,List.mem_singleton.1 h⟩
  ·obtain ⟨j,h1,h2,h3⟩:=ckL_mem h
   exact ⟨j,by omega,h2,h3⟩
theorem ckL_in {n:Net} {c d:Nat->Bool} {j:Nat} (hc:(c (frmN n j)&&d (toN n j))=true):∀ {k:Nat},j<k->(lkK n j).Name∈ckL n c d k
 | 0,h=>absurd h (Nat.not_lt_zero _)
 | k+1,h=>by
  unfold ckL
  by_cases e:j=k
  ·subst e
   rw [if_pos hc]
   exact List.mem_append.2 (.inr (List.mem_singleton.2 rfl))
  ·have:=ckL_in (n:=n) hc (k:=k) om
   split
   ·exact List.mem_append.2 (.inl this)
   ·exact this
theorem ckL_has {n:Net} (hn:netB n=true) (c d:Nat->Bool) {j:Nat} (hj:j<n.Ls.xs.length):hasT (ckL n c d n.Ls.xs.length) (lkK n j).Name=(c (frmN n j)&&d (toN n j)):=by
 rw [Bool.eq_iff_iff,hasT_iff]
 constructor
 ·intro h
  obtain ⟨i,h1,h2,h3⟩:=ckL_mem h
  rw [lk_inj hn hj h1 h3];exact h2
 ·exact fun h=>ckL_in h hj
theorem at_zero {n:Net} {ins:List InD} (hg:GoodI n ins ins.length) (hn:netB n=true) (k:Nat) {a:Nat} (ha:a<ins.length) {i:Nat} (hf:findNd n.Ns.xs ins[a].N=(i:Int)):∀ a',a'<=a->atQ n (ins.take a') k i=0
 | 0,_=>by simp [atQ]
 | a'+1,h=>by
  rw [atQ_succ n ins k i a' om,at_zero hg hn k ha hf a' om]
  unfold stepQ
  rw [if_neg]
  rintro ⟨h1,-⟩
  have:=hg.apart a' a om ha ha om
  obtain ⟨x1,e1⟩:=name_of hf
  obtain ⟨x2,e2⟩:=name_of h1
  exact this (e2.symm.trans e1)
theorem nd_is {n:Net} (hn:netB n=true) {i:Nat} (hi:i<n.Ns.xs.length) (z:ByteArray):strB z (ndK n i).Name=decide (findNd n.Ns.xs z=(i:Int)):=by
 rw [Bool.eq_iff_iff,strB_eq,decide_eq_true_eq]
 constructor
 ·rintro rfl
  rw [ndK_at hi];exact (netB_nd hn i hi).2
 ·intro h
  obtain ⟨h1,e⟩:=name_of h
  rw [ndK_at h1,e]
theorem to_is {n:Net} (hn:netB n=true) {i:Nat} (hi:i<n.Ns.xs.length) {k:Nat} (hk:k<n.Ls.xs.length):strB (lkK n k).To (ndK n i).Name=decide (toN n k=i):=by
 rw [Bool.eq_iff_iff,strB_eq,decide_eq_true_eq,(lk_from hn hk).2]
 constructor
 ·exact fun h=>nd_inj hn (ends_lt hn hk).2 hi h
 ·rintro rfl;rfl
def ledAt (l:List Led) (j:Nat):Led:=l.getD j ⟨0,0,⟨none,0,[]⟩⟩
theorem ledAt_at {l:List Led} {j:Nat} (h:j<l.length):ledAt l j=l[j]:=by simp [ledAt,List.getD,h]
def cameL (l:List Led) (k:Nat):Int:=sg (fun j=>(ledAt l j).I) k
def leftL (l:List Led) (k:Nat):Int:=sg (fun j=>(ledAt l j).O) k
def passL (l:List Led) (i k:Nat):Int:=sg (fun j=>(ledAt l j).P.xs.getD i 0) k
def bigI (l:List Led) (k i:Nat):Bool:=(List.range i).any (fun i=>decide (9007199254740992<passL l i (k+1)))
def bigK (l:List Led) (m k:Nat):Bool:=(List.range k).any (fun k=>bigI l k m)
theorem bigI_succ (l:List Led) (k i:Nat):bigI l k (i+1)=(bigI l k i||decide (9007199254740992<passL l i (k+1))):=by
 unfold bigI
 rw [List.range_succ,List.any_append]
 simp
theorem bigK_succ (l:List Led) (m k:Nat):bigK l m (k+1)=(bigK l m k||bigI l k m):=by
 unfold bigK
 rw [List.range_succ,List.any_append]
 simp
def heldL (n:Net) (s:St):Int:=sg (fun i=>s.V.xs.getD i 0+s.P.xs.getD i 0) n.Ns.xs.length
theorem CStep.held {n:Net} {s s':St} {q:List Int} {g:Led} (h:CStep n s q s' g):heldL n s'+g.O=heldL n s+g.I:=by
 have a:=h.dif (fun _=>true)
 have b:=h.gi
 have c:=h.go
 have d:sg (linkF n (fun _=>true) g.P.xs) n.Ls.xs.length=0:=sg_all0 (fun i _=>by simp [linkF])
 have e:sg (fun i=>if (fun _:Nat=>true) i then difF s s' q i else 0) n.Ns.xs.length=heldL n s+g.I-heldL n s':=by
  rw [b]
  unfold heldL
  rw [<-sg_add,<-sg_sub]
  refine sg_congr (fun i _=>?_)
  simp only [if_true,difF]
  omega
 rw [d,e] at a
 omega
theorem RunCh.held {n:Net} {x:St} {ins:List InD} {sts:List St} {leds:List Led} (h:RunCh n x ins sts leds) (hl:leds.length=sts.length):∀ k,k<=sts.length->heldL n ((x :: sts).getD k x)+leftL leds k=heldL n x+cameL leds k
 | 0,_=>by simp [leftL,cameL,sg,List.getD]
 | k+1,hk=>by
  have ih:=h.held hl k om
  obtain ⟨q,-,-,hc⟩:=h k om om
  have e:=hc.held
  unfold leftL cameL at *
  rw [sg_succ,sg_succ,ledAt_at (by omega:k<leds.length)]
  have e2:(x :: sts).getD (k+1) x=sts[k]'om:=by simp [List.getD,show k<sts.length from by omega]
  rw [e2]
  omega
structure LedS (n:Net) (l:List Led):Prop where
 i:∀ g∈l,0<=g.I/\g.I<=13510798882111488
 o:∀ g∈l,0<=g.O/\g.O<=67553994410557440
 pl:∀ g∈l,g.P.xs.length=n.Ls.xs.length
 p:∀ g:Led,g∈l->∀ k,k<n.Ls.xs.length->0<=g.P.xs.getD k 0/\g.P.xs.getD k 0<=4503599627370496
theorem RunCh.leds {n:Net} {x:St} {ins:List InD} {sts:List St} {leds:List Led} (h:RunCh n x ins sts leds) (hl:leds.length=sts.length) (hN:n.Ns.xs.length<=12) (hL:n.Ls.xs.length<=12):LedS n leds:=by
 have key:∀ g∈leds,∃ s q s',CStep n s q s' g:=by
  intro g hg
  obtain ⟨j,hj,rfl⟩:=List.mem_iff_getElem.1 hg
  obtain ⟨q,-,-,hc⟩:=h j om hj
  exact ⟨_,_,_,hc⟩
 have a1:((n.Ns.xs.length:Nat):Int)<=12:=by omega
 have a2:((n.Ls.xs.length:Nat):Int)<=12:=by omega
 refine ⟨fun g hg=>?_,fun g hg=>?_,fun g hg=>?_,fun g hg=>?_⟩
 ·obtain ⟨s,q,s',hc⟩:=key g hg
  have a:=sg_bd (n:=n.Ns.xs.length) hc.qb
  have e1:=hc.gi
  omega
 ·obtain ⟨s,q,s',hc⟩:=key g hg
  have b:=sg_bd (n:=n.Ns.xs.length) (f:=lostQ n (fun _=>true) q) (b:=1125899906842624) (fun i hi=>by
   have:=hc.qb i hi
   unfold lostQ
   split <;> omega)
  have c:=sg_bd (n:=n.Ls.xs.length) (f:=lostP n (fun _=>true) g.P.xs) (b:=4503599627370496) (fun i hi=>by
   have:=hc.pb i hi
   unfold lostP
   split <;> omega)
  have e1:=hc.go
  omega
 ·obtain ⟨s,q,s',hc⟩:=key g hg
  exact hc.pl
 ·obtain ⟨s,q,s',hc⟩:=key g hg
  exact hc.pb
section
variable {n : Net} {l : List Led}
theorem LedS.came (h:LedS n l) (hl:l.length<=12) {k:Nat} (hk:k<=l.length):0<=cameL l k/\cameL l k<=162129586585337856:=by
 have a:=sg_bd (n:=k) (f:=fun j=>(ledAt l j).I) (b:=13510798882111488) (fun i hi=>by
  have e:=ledAt_at (l:=l) (j:=i) om
  show 0<=(ledAt l i).I/\(ledAt l i).I<=_
  rw [e]
  exact h.i _ (List.getElem_mem _))
 have a1:((k:Nat):Int)<=12:=by omega
 unfold cameL
 omega
theorem LedS.left (h:LedS n l) (hl:l.length<=12) {k:Nat} (hk:k<=l.length):0<=leftL l k/\leftL l k<=810647932926689280:=by
 have a:=sg_bd (n:=k) (f:=fun j=>(ledAt l j).O) (b:=67553994410557440) (fun i hi=>by
  have e:=ledAt_at (l:=l) (j:=i) om
  show 0<=(ledAt l i).O/\(ledAt l i).O<=_
  rw [e]
  exact h.o _ (List.getElem_mem _))
 have a1:((k:Nat):Int)<=12:=by omega
 unfold leftL
 omega
theorem LedS.pass (h:LedS n l) (hl:l.length<=12) {k:Nat} (hk:k<=l.length) {i:Nat} (hi:i<n.Ls.xs.length):0<=passL l i k/\passL l i k<=54043195528445952:=by
 have a:=sg_bd (n:=k) (f:=fun j=>(ledAt l j).P.xs.getD i 0) (b:=4503599627370496) (fun j hj=>by
  have e:=ledAt_at (l:=l) (j:=j) om
  show 0<=(ledAt l j).P.xs.getD i 0/\(ledAt l j).P.xs.getD i 0<=_
  rw [e]
  exact h.p _ (List.getElem_mem _) i hi)
 have a1:((k:Nat):Int)<=12:=by omega
 unfold passL
 omega
end
theorem passL_succ (l:List Led) (i k:Nat):passL l i (k+1)=passL l i k+(ledAt l k).P.xs.getD i 0:=rfl
theorem cameL_succ (l:List Led) (k:Nat):cameL l (k+1)=cameL l k+(ledAt l k).I:=rfl
theorem leftL_succ (l:List Led) (k:Nat):leftL l (k+1)=leftL l k+(ledAt l k).O:=rfl
theorem heldL_bd {n:Net} {s:St} (hn:netB n=true) (hs:stB n s=true) (hN:n.Ns.xs.length<=12) {k:Nat} (hk:k<=n.Ns.xs.length):0<=sg (fun i=>s.V.xs.getD i 0+s.P.xs.getD i 0) k/\sg (fun i=>s.V.xs.getD i 0+s.P.xs.getD i 0) k<=27021597764222976:=by
 have a:=sg_bd (n:=k) (f:=fun i=>s.V.xs.getD i 0+s.P.xs.getD i 0) (b:=2251799813685248) (fun i hi=>by
  have a:=(stB_parts hs).2.2.2.2.1 i om
  have c:=capB_le hn i om
  show 0<=s.V.xs.getD i 0+s.P.xs.getD i 0/\s.V.xs.getD i 0+s.P.xs.getD i 0<=_
  omega)
 have a1:((k:Nat):Int)<=12:=by omega
 omega
theorem linkF_is (n:Net) (ins:Nat->Bool) (p:List Int) (k:Nat):linkF n ins p k=(if !ins (frmN n k)&&ins (toN n k) then p.getD k 0 else 0)-(if ins (frmN n k) && !ins (toN n k) then p.getD k 0 else 0):=by
 unfold linkF
 cases ins (frmN n k) <;> cases ins (toN n k) <;> simp
theorem CStep.byHand {n:Net} {s s':St} {q:List Int} {g:Led} (h:CStep n s q s' g) (ins:Nat->Bool):accR n ins s s' q n.Ns.xs.length+sg (linkF n ins g.P.xs) n.Ls.xs.length=sg (goneF n ins q g.P.xs) n.Ns.xs.length:=by
 rw [gone_eq h.net]
 exact h.dif ins
abbrev IsLeds (w:World) (v:Value) (xs:List Led):Prop:=IsL eLed 3 w v xs
theorem IsC.led {w:World} {a:Option Addr} {xs:List Led} (h:IsC eLed 3 w a xs) (i:Nat) (hi:i<xs.length) :
  ∃ b off,a=some ⟨b,off,none⟩/\w.cell? ⟨b,off+i*3,none⟩=some (.int .i64 xs[i].I)/\w.cell? ⟨b,off+i*3+1,none⟩=some (.int .i64 xs[i].O)/\w.cell? ⟨b,off+i*3+2,none⟩=some (.slice xs[i].P.a xs[i].P.xs.length xs[i].P.cap):=by
 obtain ⟨b,off,e,hc⟩:=h i hi
 refine ⟨b,off,e,?_,?_,?_⟩
 ·exact hc 0 om
 ·exact hc 1 om
 ·exact hc 2 om
theorem indexLeds (g:Nat) (lb:Array Value) (eg:∀ args w,(callFunc g args).run Tryz.prog w=.ok (.enter g args) w) (p:Led->Bool) (xs:List Led) (v:Value) (w:World)
  (hv:IsLeds w v xs) (hp:PredOn Tryz.prog g lb vLed p xs w) :
  Calls Tryz.prog 204 #[v,.func (.func g) #[] lb] w fun e w'=>e=.returned (.int .i64 (idxFrom p xs 0))/\Below w.heap.size w w':=by
 obtain ⟨a,cap,rfl,hcap,hbig,hs⟩:=hv
 go_enter Tryz.func204,Tryz.ntmps204
 go_wp2
 go_loopw [5,8] (fun _ s8 wr=>∃ k:Nat,k<=xs.length/\s8=.int .i64 k/\Below w.heap.size w wr/\Hid (idxFrom p xs 0=idxFrom p (xs.drop k) k)) (fun _ i _=>xs.length-(RowKit.intOf i).toNat)
 case atStart=>exact ⟨0,Nat.zero_le _,rfl,qr,rfl⟩
 case round=>
  obtain ⟨k,hk,rfl,hb,hm⟩:=hrel
  by_cases hlt:k<xs.length
  ·obtain ⟨b,off,rfl,c0,c1,c2⟩:=(hs.mono hb).led k hlt
   have hx:=hp wr hb xs[k] (List.getElem_mem hlt)
   have hstep:Hid (idxFrom p (xs.drop k) k=if p xs[k] then (k:Int) else idxFrom p (xs.drop (k+1)) (k+1)):=by
    rw [List.drop_eq_getElem_cons hlt];rfl
   clear hs hp
   generalize xs[k]=y at *
   cases hpy:p y
   all_goals
    rw [hpy] at hx hstep
    clear hpy
    go_wp2_with fail
    refine (Calls.to hx ?_)
    rintro e w1 rfl hb1
    have hbb:=hb.trans (hb1.mono hb.size)
    go_wp2_with fail
   ·go_roundw
    case rel=>exact ⟨k+1,by omega,by go_num,bl,hm.out.trans (hstep.out.trans (by simp))⟩
    case measure=>simp [RowKit.intOf];omega
   ·go_ret
    exact ⟨ret_int (hm.out.trans (hstep.out.trans (by simp))).symm,bl⟩
  ·go_wp2
   go_ret
   refine ⟨ret_int ?_,bl⟩
   rw [hm.out,List.drop_eq_nil_of_le om];rfl
theorem containsLeds (g:Nat) (lb:Array Value) (eg:∀ args w,(callFunc g args).run Tryz.prog w=.ok (.enter g args) w) (p:Led->Bool) (xs:List Led) (v:Value) (w:World)
  (hv:IsLeds w v xs) (hp:PredOn Tryz.prog g lb vLed p xs w) :
  Calls Tryz.prog 134 #[v,.func (.func g) #[] lb] w fun e w'=>e=.returned (.bool (xs.any p))/\Below w.heap.size w w':=by
 go_enter Tryz.func134,Tryz.ntmps134
 go_wp2_with fail
 refine Calls.to (indexLeds g lb eg p xs v w hv hp) ?_
 rintro e w1 rfl hb
 go_wp2_with fail
 go_ret
 exact ⟨ret_bool (idxFrom_any p xs 0),hb⟩
theorem listed1_any (n:Net) (g:Led) (B:Nat) (w:World) (hp:IsInts w (vSl g.P) g.P.xs) (h0:w.cell? ⟨B,0,none⟩=some (vSl n.Ns)) (h1:w.cell? ⟨B,1,none⟩=some (vSl n.Ls)) :
  Calls Tryz.prog 135 #[vLed g,.pointer (some ⟨B,0,none⟩)] w fun e w'=>e=.returned (.bool (!(ledB n g)))/\Below w.heap.size w w':=by
 obtain ⟨W,hW⟩:∃ W,W=w.alloc (.cells (eLed g).toArray 56):=⟨_,rfl⟩
 have hbw:Below w.heap.size w W:=by rw [hW];exact alloc_below _ _
 obtain ⟨c0,c1,c2⟩:=boxLed w W 56 g _ rfl _ rfl (by rw [hW];exact qr)
 have HW:=qh hW
 replace h0:=cel_lt h0 hbw
 replace h1:=cel_lt h1 hbw
 have hv:=bavalid_any n g W (IsL.mono hp hbw)
 generalize ledB n g=r at hv
 clear hW hp
 simp only [vNet,vLed,vSl] at h0 h1 hv ⊢
 go_enter Tryz.func135,Tryz.ntmps135
 go_upto_region 1 with (fail)
 first|rw [<-HW.out]|fail "W"
 clear HW
 go_wp2_with fail
 refine Calls.to hv ?_
 rintro e w1 rfl hb1
 have hb:=hbw.trans (hb1.mono hbw.size)
 clear hv hb1 hbw c0 c1 c2 h0 h1
 go_wp2_with fail
 go_ret
 exact ⟨rfl,hb⟩
theorem balisted_ok (n:Net) (l:List Led) (vU:Value) (w:World) (hg:gNet w n) (hn:netB n=true) (hU:IsLeds w vU l) (hp:∀ g∈l,gInts w g.P) (hl:∀ g∈l,ledB n g=true) (hle:l.length<=10000) :
  Calls Tryz.prog 66 #[vNet n,vU] w fun e w'=>e=.returned (.int .i64 0)/\Below w.heap.size w w':=by
 obtain ⟨W,hW⟩:∃ W,W=allocs w [((eNet n).toArray,25)]:=⟨_,rfl⟩
 have hbw:Below w.heap.size w W:=by rw [hW];exact allocs_below _ _
 have t0:W.heap[w.heap.size]? = some (.cells (eNet n).toArray 25 (0,0)):=by rw [hW];exact allocs_at _ w 0 (by simp)
 have HW:Hid (W=w.alloc (.cells (eNet n).toArray 25)):=qh hW
 have q0:W.cell? ⟨w.heap.size,0,none⟩=some (vSl n.Ns):=(tank_blk t0 0).trans rfl
 have q1:W.cell? ⟨w.heap.size,1,none⟩=some (vSl n.Ls):=(tank_blk t0 1).trans rfl
 have hva:=nvalid_any n W (rdNet.mono hg hbw)
 rw [hn] at hva
 have hco:=fun V (hV:Below W.heap.size W V)=>containsLeds 135 #[.pointer (some ⟨w.heap.size,0,none⟩)] ent135 (fun g=>!(ledB n g)) l vU V (IsL.mono hU (hbw.trans (hV.mono hbw.size)))
  (fun V' hV' g hgm=>listed1_any n g w.heap.size V' (rdInts.mono (hp g hgm) ((hbw.trans (hV.mono hbw.size)).trans (hV'.mono (hbw.trans (hV.mono hbw.size)).size))).isL (cel_lt (cel_lt q0 hV) hV') (cel_lt (cel_lt q1 hV) hV'))
 rw [show l.any (fun g=>!(ledB n g))=false from List.any_eq_false.2 (fun g hgm=>by rw [hl g hgm];simp)] at hco
 have HCO:=qh hco
 obtain ⟨aU,cU,rfl,hU1,hU2,-⟩:=hU
 have i1:decide (10000<l.length)=false:=decide_eq_false om
 have i2:decide ((10000:Int)<l.length)=false:=decide_eq_false om
 simp only [vNet,vSl] at hva q0 q1 ⊢
 clear hco hW t0 hp hl hg hU1 hU2 hle
 go_enter Tryz.func66,Tryz.ntmps66
 go_upto_region 1 with (fail)
 first|rw [<-HW.out]|fail "W"
 clear HW
 go_wp2_with fail
 refine Calls.to hva ?_
 rintro e w1 rfl hb1
 have hc:=HCO.out w1 hb1
 have hb:=hbw.trans (hb1.mono hbw.size)
 clear hva hb1 hbw q0 q1 HCO
 go_wp2_with fail
 refine Calls.to hc ?_
 rintro e w2 rfl hb2
 replace hb:=hb.trans (hb2.mono hb.size)
 clear hc hb2
 go_wp2_with fail
 go_ret
 exact ⟨rfl,hb⟩
structure SmI (w wr:World) (b2 b4 b7 r:Nat) (n:Net) (M:Nat) (I O:Int) (ps:List Int):Prop where
 bel:Below w.heap.size w wr
 k2:wr.heap[b2]? = some (.cells (eNet n).toArray 25 (0,0))
 k4:wr.heap[b4]? = some (.cells #[.int .i64 0,.int .i64 0,.slice none 0 0] 56 (0,0))
 k7:wr.heap[b7]? = some (.cells #[.int .i64 I,.int .i64 O,.slice (some ⟨r,0,none⟩) M M] 56 (0,0))
 own:Own w.heap.size 3 eInt 1 wr (.slice (some ⟨r,0,none⟩) M M) ps
section
variable {w wr wr' : World} {b2 b4 b7 r : Nat} {n : Net} {M : Nat} {I O : Int} {ps : List Int}
theorem SmI.grow (h:SmI w wr b2 b4 b7 r n M I O ps) (hb:Below wr.heap.size wr wr'):SmI w wr' b2 b4 b7 r n M I O ps:=
 ⟨h.bel.trans (hb.mono h.bel.size),blk_mono h.k2 hb,blk_mono h.k4 hb,blk_mono h.k7 hb,h.own.below hb⟩
theorem SmI.setI (h:SmI w wr b2 b4 b7 r n M I O ps) (hw:w.heap.size<=b7) (h2:b2≠b7) (h4:b4≠b7) (hr:r≠b7) (z:Int):SmI w (wr.setCell ⟨b7,0,none⟩ (.int .i64 z)) b2 b4 b7 r n M z O ps:=
 ⟨h.bel.setCell (p:=⟨b7,0,none⟩) hw _,blk_far h.k2 _ _ h2,blk_far h.k4 _ _ h4,blk_set h.k7 0 _,h.own.set' _ _ (fun e=>hr (Option.some.inj e))⟩
theorem SmI.setO (h:SmI w wr b2 b4 b7 r n M I O ps) (hw:w.heap.size<=b7) (h2:b2≠b7) (h4:b4≠b7) (hr:r≠b7) (z:Int):SmI w (wr.setCell ⟨b7,1,none⟩ (.int .i64 z)) b2 b4 b7 r n M I z ps:=
 ⟨h.bel.setCell (p:=⟨b7,1,none⟩) hw _,blk_far h.k2 _ _ h2,blk_far h.k4 _ _ h4,blk_set h.k7 1 _,h.own.set' _ _ (fun e=>hr (Option.some.inj e))⟩
theorem SmI.setP (h:SmI w wr b2 b4 b7 r n M I O ps) (hw:w.heap.size<=r) (h2:b2≠r) (h4:b4≠r) (hr:b7≠r) {k:Nat} (hk:k<ps.length) (z:Int):SmI w (wr.setCell ⟨r,k,none⟩ (.int .i64 z)) b2 b4 b7 r n M I O (ps.set k z):=
 ⟨h.bel.setCell (p:=⟨r,k,none⟩) hw _,blk_far h.k2 _ _ h2,blk_far h.k4 _ _ h4,blk_far h.k7 _ _ hr,h.own.put1 hk z⟩
end
def psI (l:List Led) (M k i:Nat) (ps:List Int):Prop:=ps.length=M/\∀ j,j<M->ps.getD j 0=if j<i then passL l j (k+1) else passL l j k
theorem psI.zero (l:List Led) (M:Nat):psI l M 0 0 (List.replicate M 0):=⟨by simp,fun j hj=>by simp [List.getD,hj,passL,sg]⟩
theorem psI.put {l:List Led} {M k i:Nat} {ps:List Int} (h:psI l M k i ps) (hi:i<M) {z:Int} (hz:z=passL l i (k+1)):psI l M k (i+1) (ps.set i z):=by
 refine ⟨by rw [List.length_set];exact h.1,fun j hj=>?_⟩
 rw [getD_set _ _ _ _ (by rw [h.1];exact hi)]
 by_cases e:j=i
 ·subst e;rw [if_pos rfl,if_pos om,hz]
 ·rw [if_neg e,h.2 j hj]
  by_cases e2:j<i
  ·rw [if_pos e2,if_pos om]
  ·rw [if_neg e2,if_neg om]
theorem psI.here {l:List Led} {M k i:Nat} {ps:List Int} (h:psI l M k i ps) (hi:i<M):ps.getD i 0=passL l i k:=by
 rw [h.2 i hi,if_neg (Nat.lt_irrefl _)]
theorem psI.over {l:List Led} {M k:Nat} {ps:List Int} (h:psI l M k M ps):psI l M (k+1) 0 ps:=⟨h.1,fun j hj=>by rw [h.2 j hj,if_pos hj,if_neg (Nat.not_lt_zero _)]⟩
theorem bigI_iff {l:List Led} {k m:Nat}:bigI l k m=true↔∃ i,i<m/\9007199254740992<passL l i (k+1):=by
 unfold bigI
 rw [List.any_eq_true]
 constructor
 ·rintro ⟨i,h1,h2⟩;exact ⟨i,List.mem_range.1 h1,of_decide_eq_true h2⟩
 ·rintro ⟨i,h1,h2⟩;exact ⟨i,List.mem_range.2 h1,decide_eq_true h2⟩
theorem bigK_iff {l:List Led} {m k:Nat}:bigK l m k=true↔∃ j,j<k/\bigI l j m=true:=by
 unfold bigK
 rw [List.any_eq_true]
 constructor
 ·rintro ⟨i,h1,h2⟩;exact ⟨i,List.mem_range.1 h1,h2⟩
 ·rintro ⟨i,h1,h2⟩;exact ⟨i,List.mem_range.2 h1,h2⟩
theorem led_big {n:Net} {l:List Led} (hs:LedS n l) (hl:l.length<=12) {k:Nat} (hk:k<l.length) {ps:List Int} (h:psI l n.Ls.xs.length k n.Ls.xs.length ps) (a:Option Addr) (c:Nat) :
  ledB n ⟨cameL l (k+1),leftL l (k+1),⟨a,c,ps⟩⟩ = !(bigI l k n.Ls.xs.length):=by
 have b1:=hs.came hl (k:=k+1) om
 have b2:=hs.left hl (k:=k+1) om
 have h1:wiB [cameL l (k+1),leftL l (k+1)] 1152921504606846976=true:=wiB_of (fun x hx=>by
  simp only [List.mem_cons,List.not_mem_nil,or_false] at hx
  rcases hx with rfl|rfl <;> omega)
 unfold ledB
 rw [h1,decide_eq_true h.1,Bool.true_and,Bool.true_and]
 cases e:bigI l k n.Ls.xs.length
 ·rw [wiB_of (fun x hx=>?_)]
  ·rfl
  ·obtain ⟨i,hi,rfl⟩:=List.mem_iff_getElem.1 hx
   have hi2:i<n.Ls.xs.length:=by rw [<-h.1];exact hi
   have hv:=h.2 i hi2
   rw [if_pos hi2] at hv
   simp only [List.getD,List.getElem?_eq_getElem hi,Option.getD_some] at hv
   have hb:=hs.pass hl (k:=k+1) om hi2
   have hn:¬ 9007199254740992<passL l i (k+1):=fun hh=>by
    rw [bigI_iff.2 ⟨i,hi2,hh⟩] at e;cases e
   rw [hv];omega
 ·obtain ⟨i,hi2,hh⟩:=bigI_iff.1 e
  have hi:i<ps.length:=by rw [h.1];exact hi2
  cases ew:wiB ps 9007199254740992 with
  | false=>rfl
  | true=>
   have hw:=wiB_at ew ps[i] (List.getElem_mem hi)
   have hv:=h.2 i hi2
   rw [if_pos hi2] at hv
   simp only [List.getD,List.getElem?_eq_getElem hi,Option.getD_some] at hv
   omega
end Go.Proofs.YtoiakijmbghhlaaGreat
