/- Plain facts: when a state is right; the cause of a spill as a plain function; edges by index and by name agree in a right network. No function is named. Conditi -/
import Derived.Test.YtoiakijmbghhlaaGreatS05
import Derived.Test.YtoiakijmbghhlaaGreatS16
set_option linter.unusedVariables false
set_option linter.unusedSimpArgs false
set_option maxRecDepth 100000
set_option maxHeartbeats 32000000
namespace Go.Proofs.YtoiakijmbghhlaaGreat
open Go.RowKit
def okV (ns:List Nd) (V P:List Int) (i:Nat):Bool:=
 btwB (V.getD i 0) 0 (capB (ns.getD i default))&&volB (P.getD i 0) && !(decide ((ns.getD i default).Kind=3) && !decide (P.getD i 0=0))
def okS (ls:List Lk) (S:List Int) (O:List Bool) (i:Nat):Bool:=
 btwB (S.getD i 0) 0 1000 && !(O.getD i false && !decide ((ls.getD i default).Kind=4))
def stLen (n:Net) (s:St):Bool:=decide (s.V.xs.length=n.Ns.xs.length)&&decide (s.P.xs.length=n.Ns.xs.length)&&decide (s.S.xs.length=n.Ls.xs.length)&&decide (s.O.xs.length=n.Ls.xs.length)
def stB (n:Net) (s:St):Bool:=stLen n s&&(allFrom (okV n.Ns.xs s.V.xs s.P.xs) 0 n.Ns.xs.length&&allFrom (okS n.Ls.xs s.S.xs s.O.xs) 0 n.Ls.xs.length)
theorem strB_iff {a b:ByteArray}:strB a b=true↔a.toList=b.toList:=by simp [strB]
theorem strB_comm (a b:ByteArray):strB a b=strB b a:=by
 rw [Bool.eq_iff_iff,strB_iff,strB_iff];exact eq_comm
theorem findNd_str {ns:List Nd} {a b:ByteArray} (h:strB a b=true):findNd ns a=findNd ns b:=by
 rw [strB_iff] at h
 unfold findNd strB
 rw [h]
theorem netB_parts {n:Net} (h:netB n=true):(∀ i,i<n.Ns.xs.length->okNd n.Ns.xs i=true)/\(∀ i,i<n.Ls.xs.length->okLk n.Ns.xs n.Ls.xs i=true):=by
 simp only [netB,Bool.and_eq_true,allFrom_iff] at h
 exact ⟨h.1.2,h.2⟩
theorem netB_nd {n:Net} (h:netB n=true) (i:Nat) (hi:i<n.Ns.xs.length):ndB n.Ns.xs[i]=true/\findNd n.Ns.xs n.Ns.xs[i].Name=i:=by
 have:=(netB_parts h).1 i hi
 simpa [okNd,List.getD,List.getElem?_eq_getElem hi] using this
theorem netB_lk {n:Net} (h:netB n=true) (i:Nat) (hi:i<n.Ls.xs.length):0<=findNd n.Ns.xs n.Ls.xs[i].From/\0<=findNd n.Ns.xs n.Ls.xs[i].To:=by
 have:=(netB_parts h).2 i hi
 simp [okLk,List.getD,List.getElem?_eq_getElem hi] at this
 omega
theorem ndB_knot {x:Nd} (h:ndB x=true):x.Kind=3\/1<=x.Sh.xs.length:=by
 by_cases k:x.Kind=1\/x.Kind=2
 ·right
  simp only [ndB,Bool.and_eq_true,kindNdB,if_pos k,shapeB] at h
  exact (tabB_len h.2.1.1.2.1.1.1).1
 ·left
  simp only [ndB,Bool.and_eq_true,kindNdB,if_neg k] at h
  by_cases k3:x.Kind=3
  ·exact k3
  ·rw [if_neg k3] at h;simp at h
theorem edge_at {n:Net} (h:netB n=true) (i:Nat) (hi:i<n.Ns.xs.length) (j:Nat) (hj:j<n.Ls.xs.length) :
  decide (findNd n.Ns.xs n.Ls.xs[j].From=(i:Int))=strB n.Ls.xs[j].From n.Ns.xs[i].Name:=by
 rw [Bool.eq_iff_iff,decide_eq_true_eq]
 constructor
 ·intro he
  obtain ⟨h1,h2⟩:=idxFrom_at (fun x:Nd=>strB x.Name n.Ls.xs[j].From) n.Ns.xs 0 i (by rw [Nat.zero_add];exact he)
  rw [strB_comm];exact h2
 ·intro hs
  rw [findNd_str hs]
  exact (netB_nd h i hi).2
def nextM (ns:List Nd) (nm:ByteArray):List Lk->Int
 | []=>-1
 | l :: r=>if strB l.From nm then findNd ns l.To else nextM ns nm r
def fullM (ns:List Nd) (V:List Int) (i:Nat):Bool:=!decide ((ns.getD i default).Kind=3)&&decide (V.getD i 0=capB (ns.getD i default))
def nmAt (ns:List Nd) (i:Nat):ByteArray:=(ns.getD i default).Name
def lastI (w:List Int):Int:=w.getD (w.length-1) 0
def causeM (ns:List Nd) (ls:List Lk) (V:List Int):Nat->List Int->Int
 | 0,w=>lastI w
 | f+1,w=>
  let k:=nextM ns (nmAt ns (lastI w).toNat) ls
  if k<0 then lastI w else if w.contains k then lastI w else if fullM ns V k.toNat then causeM ns ls V f (w ++ [k]) else lastI w
def edgesM (ns:List Nd) (ls:List Lk):List (Int×Int):=ls.map fun l=>(findNd ns l.From,findNd ns l.To)
theorem nextM_bd (ns:List Nd) (nm:ByteArray):∀ ls:List Lk,-1<=nextM ns nm ls/\nextM ns nm ls<(ns.length:Int)\/nextM ns nm ls = -1
 | []=>.inr rfl
 | l :: r=>by
  simp only [nextM]
  split
  ·exact .inl (findNd_bd ns l.To)
  ·exact nextM_bd ns nm r
theorem next_edge {n:Net} (h:netB n=true) (i:Nat) (hi:i<n.Ns.xs.length):∀ (d j:Nat),j+d=n.Ls.xs.length ->
  (idxFrom (fun x:Int×Int=>decide (x.1=(i:Int))) ((edgesM n.Ns.xs n.Ls.xs).drop j) j = -1/\nextM n.Ns.xs n.Ns.xs[i].Name (n.Ls.xs.drop j) = -1) \/
  ∃ m:Nat,idxFrom (fun x:Int×Int=>decide (x.1=(i:Int))) ((edgesM n.Ns.xs n.Ls.xs).drop j) j=(m:Int)/\m<n.Ls.xs.length/\nextM n.Ns.xs n.Ns.xs[i].Name (n.Ls.xs.drop j)=findNd n.Ns.xs (n.Ls.xs.getD m default).To
 | 0,j,hj=>by
  left
  have hl:(edgesM n.Ns.xs n.Ls.xs).length=n.Ls.xs.length:=by simp [edgesM]
  rw [List.drop_eq_nil_of_le om,List.drop_eq_nil_of_le om]
  exact ⟨rfl,rfl⟩
 | d+1,j,hj=>by
  have hl:(edgesM n.Ns.xs n.Ls.xs).length=n.Ls.xs.length:=by simp [edgesM]
  have hjl:j<n.Ls.xs.length:=by omega
  rw [List.drop_eq_getElem_cons (l:=n.Ls.xs) hjl,List.drop_eq_getElem_cons (l:=edgesM n.Ns.xs n.Ls.xs) om]
  have he:(edgesM n.Ns.xs n.Ls.xs)[j]'om=(findNd n.Ns.xs n.Ls.xs[j].From,findNd n.Ns.xs n.Ls.xs[j].To):=by simp [edgesM]
  have hq:=edge_at h i hi j hjl
  simp only [idxFrom,nextM,he,hq]
  cases hs:strB n.Ls.xs[j].From n.Ns.xs[i].Name with
  | true=>
   right
   refine ⟨j,by simp,hjl,?_⟩
   simp [List.getD,List.getElem?_eq_getElem hjl]
  | false=>
   have:=next_edge h i hi d (j+1) om
   simpa using this
theorem cap_lit {x:Nd} {c:Int} (h:capB x=c) (w:World) (hg:gNd w x) (hok:x.Kind=3\/1<=x.Sh.xs.length):Calls Tryz.prog 96 #[vNd x] w fun e w'=>e=.returned (.int .i64 c)/\Below w.heap.size w w':=by
 rw [<-h];exact scap_any x w hg hok
theorem within_lit {n lo hi:Int} {b:Bool} (h:btwB n lo hi=b) (w:World):Calls Tryz.prog 95 #[.int .i64 n,.int .i64 lo,.int .i64 hi] w fun e w'=>e=.returned (.bool b)/\w'=w:=by
 rw [<-h];exact swithin_any n lo hi w
theorem holds_lit {n:Int} {b:Bool} (h:volB n=b) (w:World):Calls Tryz.prog 97 #[.int .i64 n] w fun e w'=>e=.returned (.bool b)/\w'=w:=by
 rw [<-h];exact sholds_any n w
theorem boxSt (w W:World) (T:TypeId) (s:St) (cs:Array Value) (hcs:cs=(eSt s).toArray) (B:Nat) (hB:B=w.heap.size+1) (hb:Below B (w.alloc (.cells cs T)) W) :
  W.cell? ⟨w.heap.size,0,none⟩=some (vSl s.V)/\W.cell? ⟨w.heap.size,1,none⟩=some (vSl s.P)/\W.cell? ⟨w.heap.size,2,none⟩=some (vSl s.S)/\W.cell? ⟨w.heap.size,3,none⟩=some (vSl s.O):=by
 subst hB;subst hcs
 exact ⟨(hb.cell (p:=⟨w.heap.size,0,none⟩) (by simp)).trans (by simp [go_sem]),(hb.cell (p:=⟨w.heap.size,1,none⟩) (by simp)).trans (by simp [go_sem]),(hb.cell (p:=⟨w.heap.size,2,none⟩) (by simp)).trans (by simp [go_sem]),(hb.cell (p:=⟨w.heap.size,3,none⟩) (by simp)).trans (by simp [go_sem])⟩
theorem IsC.boolAt {w:World} {a:Option Addr} {xs:List Bool} (h:IsC eBool 1 w a xs) (i:Nat) (hi:i<xs.length):∃ b off,a=some ⟨b,off,none⟩/\w.cell? ⟨b,off+i,none⟩=some (.bool xs[i]):=by
 obtain ⟨b,off,e,hc⟩:=h i hi
 exact ⟨b,off,e,by simpa using hc 0 om⟩
theorem okV_at {ns:List Nd} {V P:List Int} {i:Nat} (h1:i<ns.length) (h2:i<V.length) (h3:i<P.length):okV ns V P i=(btwB V[i] 0 (capB ns[i])&&volB P[i] && !(decide (ns[i].Kind=3) && !decide (P[i]=0))):=by
 simp only [okV,List.getD,List.getElem?_eq_getElem h1,List.getElem?_eq_getElem h2,List.getElem?_eq_getElem h3,Option.getD_some]
theorem okS_at {ls:List Lk} {S:List Int} {O:List Bool} {i:Nat} (h1:i<ls.length) (h2:i<S.length) (h3:i<O.length):okS ls S O i=(btwB S[i] 0 1000 && !(O[i] && !decide (ls[i].Kind=4))):=by
 simp only [okS,List.getD,List.getElem?_eq_getElem h1,List.getElem?_eq_getElem h2,List.getElem?_eq_getElem h3,Option.getD_some]
theorem stB_len {n:Net} {s:St} (h:stLen n s=false):stB n s=false:=by simp [stB,h]
theorem stB_is {n:Net} {s:St} (h:stLen n s=true):stB n s=(allFrom (okV n.Ns.xs s.V.xs s.P.xs) 0 n.Ns.xs.length&&allFrom (okS n.Ls.xs s.S.xs s.O.xs) 0 n.Ls.xs.length):=by simp [stB,h]
theorem svalid_any (n:Net) (s:St) (w:World) (hg:gNet w n) (hgs:gSt w s):Calls Tryz.prog 31 #[vNet n,vSt s] w fun e w'=>e=.returned (.bool (netB n&&stB n s))/\Below w.heap.size w w':=by
 obtain ⟨⟨na,nc,nxs⟩,⟨la,lc,lxs⟩⟩:=n
 obtain ⟨⟨va,vc,vs⟩,⟨pa,pc,ps⟩,⟨ea,ec,ss⟩,⟨oa,oc,os⟩⟩:=s
 obtain ⟨hV,hP,hE,hO⟩:=hgs
 simp only at hV hP hE hO
 have hgn:=hg
 obtain ⟨hN,hL⟩:=hg
 simp only at hN hL
 have hb0:Below w.heap.size w ((w.alloc (.cells #[.slice na nxs.length nc,.slice la lxs.length lc] 25)).alloc (.cells #[.slice va vs.length vc,.slice pa ps.length pc,.slice ea ss.length ec,.slice oa os.length oc] 31)):=(qr.alloc (Nat.le_refl _) _).alloc (by simp) _
 obtain ⟨res,hres⟩:∃ res,(netB ⟨⟨na,nc,nxs⟩,⟨la,lc,lxs⟩⟩&&stB ⟨⟨na,nc,nxs⟩,⟨la,lc,lxs⟩⟩ ⟨⟨va,vc,vs⟩,⟨pa,pc,ps⟩,⟨ea,ec,ss⟩,⟨oa,oc,os⟩⟩)=res:=⟨_,rfl⟩
 rw [hres]
 have HR:=qh hres
 clear hres
 simp only [vNet,vSt,vSl]
 go_enter Tryz.func31,Tryz.ntmps31
 go_wp2_with fail
 refine Calls.to (nvalid_any ⟨⟨na,nc,nxs⟩,⟨la,lc,lxs⟩⟩ _ (rdNet.mono hgn hb0)) ?_
 rintro e w1 rfl hb1
 have hb:Below (w.heap.size+2) ((w.alloc (.cells #[.slice na nxs.length nc,.slice la lxs.length lc] 25)).alloc (.cells #[.slice va vs.length vc,.slice pa ps.length pc,.slice ea ss.length ec,.slice oa os.length oc] 31)) w1:=by simpa using hb1
 have hbw:=hb0.trans (hb1.mono hb0.size)
 obtain ⟨f0,f1,f2,f3⟩:=boxSt (w.alloc (.cells #[.slice na nxs.length nc,.slice la lxs.length lc] 25)) w1 31 ⟨⟨va,vc,vs⟩,⟨pa,pc,ps⟩,⟨ea,ec,ss⟩,⟨oa,oc,os⟩⟩ _ rfl (w.heap.size+2) (by simp) hb
 obtain ⟨e0,e1⟩:=boxNet w w1 25 ⟨⟨na,nc,nxs⟩,⟨la,lc,lxs⟩⟩ _ rfl _ rfl ((qr.alloc (by simp) _).trans (hb.mono om))
 rw [show (w.alloc (.cells #[.slice na nxs.length nc,.slice la lxs.length lc] 25)).heap.size=w.heap.size+1 from by simp] at f0 f1 f2 f3
 simp only [vSl] at e0 e1 f0 f1 f2 f3
 clear hb1 hgn
 cases hnet:netB ⟨⟨na,nc,nxs⟩,⟨la,lc,lxs⟩⟩
 ·have HX:=qh hnet
  go_wp2_with fail
  go_ret
  exact ⟨ret_bool (HR.out.symm.trans (by rw [HX.out];rfl)).symm,hbw⟩
 have HX:=qh hnet
 have HS0:=qh (HR.out.symm.trans (by rw [HX.out,Bool.true_and]:_=stB ⟨⟨na,nc,nxs⟩,⟨la,lc,lxs⟩⟩ ⟨⟨va,vc,vs⟩,⟨pa,pc,ps⟩,⟨ea,ec,ss⟩,⟨oa,oc,os⟩⟩))
 clear HR
 by_cases l1:vs.length=nxs.length
 rotate_left
 ·have q:=bneT (a:=(vs.length:Int)) (b:=(nxs.length:Int)) om
  have q':(vs.length != nxs.length)=true:=by simpa using l1
  have HS:Hid (res=false):=qh (HS0.out.trans (stB_len (by simp [stLen,l1])))
  go_wp2_with fail
  go_ret
  exact ⟨ret_bool HS.out.symm,hbw⟩
 have q1:=bneF (a:=(vs.length:Int)) (b:=(nxs.length:Int)) om
 have q1':(vs.length != nxs.length)=false:=by simpa using l1
 by_cases l2:ps.length=nxs.length
 rotate_left
 ·have q:=bneT (a:=(ps.length:Int)) (b:=(nxs.length:Int)) om
  have q':(ps.length != nxs.length)=true:=by simpa using l2
  have HS:Hid (res=false):=qh (HS0.out.trans (stB_len (by simp [stLen,l2])))
  go_wp2_with fail
  go_ret
  exact ⟨ret_bool HS.out.symm,hbw⟩
 have q2:=bneF (a:=(ps.length:Int)) (b:=(nxs.length:Int)) om
 have q2':(ps.length != nxs.length)=false:=by simpa using l2
 by_cases l3:ss.length=lxs.length
 rotate_left
 ·have q:=bneT (a:=(ss.length:Int)) (b:=(lxs.length:Int)) om
  have q':(ss.length != lxs.length)=true:=by simpa using l3
  have HS:Hid (res=false):=qh (HS0.out.trans (stB_len (by simp [stLen,l3])))
  go_wp2_with fail
  go_ret
  exact ⟨ret_bool HS.out.symm,hbw⟩
 have q3:=bneF (a:=(ss.length:Int)) (b:=(lxs.length:Int)) om
 have q3':(ss.length != lxs.length)=false:=by simpa using l3
 by_cases l4:os.length=lxs.length
 rotate_left
 ·have q:=bneT (a:=(os.length:Int)) (b:=(lxs.length:Int)) om
  have q':(os.length != lxs.length)=true:=by simpa using l4
  have HS:Hid (res=false):=qh (HS0.out.trans (stB_len (by simp [stLen,l4])))
  go_wp2_with fail
  go_ret
  exact ⟨ret_bool HS.out.symm,hbw⟩
 have q4:=bneF (a:=(os.length:Int)) (b:=(lxs.length:Int)) om
 have q4':(os.length != lxs.length)=false:=by simpa using l4
 have HS:=qh (HS0.out.trans (stB_is (n:=⟨⟨na,nc,nxs⟩,⟨la,lc,lxs⟩⟩) (s:=⟨⟨va,vc,vs⟩,⟨pa,pc,ps⟩,⟨ea,ec,ss⟩,⟨oa,oc,os⟩⟩) (by simp [stLen,l1,l2,l3,l4])))
 clear HS0
 simp only at HS
 have L1:=qh l1
 have L2:=qh l2
 have L3:=qh l3
 have L4:=qh l4
 have hnd:=netB_nd hnet
 simp only at hnd
 clear l1 l2 l3 l4 hnet
 have hlx:lxs.length<=9223372036854775807:=by
  have h1:lxs.length<=lc:=hL.1
  have h2:lc<=9223372036854775807:=hL.2.1
  omega
 have hnx:nxs.length<=9223372036854775807:=by
  have h1:nxs.length<=nc:=hN.1
  have h2:nc<=9223372036854775807:=hN.2.1
  omega
 go_wp2_with fail
 go_loopw [51] (fun s51 wr=>∃ k:Nat,k<=nxs.length/\s51=.int .i64 k/\Below (w.heap.size+2) ((w.alloc (.cells #[.slice na nxs.length nc,.slice la lxs.length lc] 25)).alloc (.cells #[.slice va vs.length vc,.slice pa ps.length pc,.slice ea ss.length ec,.slice oa os.length oc] 31)) wr/\Hid (allFrom (okV nxs vs ps) 0 nxs.length=allFrom (okV nxs vs ps) k nxs.length)) (fun i _=>nxs.length-(intOf i).toNat)
 case atStart=>exact ⟨0,Nat.zero_le _,rfl,hb,rfl⟩
 clear hb hbw e0 e1 f0 f1 f2 f3
 case round=>
  as_aux_lemma=>
  obtain ⟨k,hk,rfl,hb,hm⟩:=hrel
  have hbw:Below w.heap.size w wr:=hb0.trans (hb.mono om)
  obtain ⟨f0,f1,f2,f3⟩:=boxSt (w.alloc (.cells #[.slice na nxs.length nc,.slice la lxs.length lc] 25)) wr 31 ⟨⟨va,vc,vs⟩,⟨pa,pc,ps⟩,⟨ea,ec,ss⟩,⟨oa,oc,os⟩⟩ _ rfl (w.heap.size+2) (by simp) hb
  obtain ⟨e0,e1⟩:=boxNet w wr 25 ⟨⟨na,nc,nxs⟩,⟨la,lc,lxs⟩⟩ _ rfl _ rfl ((qr.alloc (by simp) _).trans (hb.mono om))
  rw [show (w.alloc (.cells #[.slice na nxs.length nc,.slice la lxs.length lc] 25)).heap.size=w.heap.size+1 from by simp] at f0 f1 f2 f3
  simp only [vSl] at e0 e1 f0 f1 f2 f3
  by_cases hlt:k<nxs.length
  ·have kv:k<vs.length:=by have:=L1.out;omega
   have kp:k<ps.length:=by have:=L2.out;omega
   obtain ⟨b,off,rfl,c0,c1,c2,c3,c4,c5,c6,c7,c8⟩:=(hN.2.2.1.mono hbw).nd k hlt
   obtain ⟨vb,vo,rfl,cv⟩:=(hV.2.2.1.mono hbw).int k kv
   obtain ⟨pb,po,rfl,cp⟩:=(hP.2.2.1.mono hbw).int k kp
   have gx:=rdNd.mono (hN.2.2.2 _ (List.getElem_mem hlt)) hbw
   have hok:=ndB_knot (hnd k hlt).1
   have HO:=qh (okV_at hlt kv kp)
   have HA:=qh (allFrom_step (okV nxs vs ps) hlt)
   have i1:(0:Int)<=k:=by omega
   have i2:(k:Int)<vs.length:=by omega
   have i3:(k:Int)<ps.length:=by omega
   clear hN hL hV hP hE hO hnd
   simp only at cv cp
   generalize nxs[k]=x at *
   generalize vs[k]=v at *
   generalize ps[k]=p at *
   obtain ⟨c,hc⟩:∃ c,capB x=c:=⟨_,rfl⟩
   rw [hc] at HO
   have HC:=qh hc
   clear hc
   cases t1:btwB v 0 c
   ·have HW:=qh t1
    obtain ⟨vp,hvp⟩:∃ b,volB p=b:=⟨_,rfl⟩
    have HH:=qh hvp
    clear t1 hvp
    go_wp2_with fail
    refine wp_region_more_lit (by kernel_rfl) (by kernel_rfl) ?_
    repeat (go_big_quiet_step (((first|(go_at_call 96;exact Calls.more_of (cap_lit HC.out _ (rdNd.mono gx ((qr.alloc (Nat.le_refl _) _).trans ((below_more _ _).mono (by simp)))) hok))|(go_at_call 95;exact Calls.more_same (within_lit HW.out _))|(go_at_call 97;exact Calls.more_same (holds_lit HH.out _))))))
    refine wpQuiet_nil ?_
    intro _ hwq
    obtain ⟨xq,hwq⟩:=hwq
    subst hwq
    have hbx:Below wr.heap.size wr (more (wr.alloc (.cells #[.string x.Name,.int .i64 x.Kind,.int .i64 x.AX,.int .i64 x.AY,.int .i64 x.Inv,.int .i64 x.Gr,.slice x.Sh.a x.Sh.xs.length x.Sh.cap,.bool x.Pro,.int .i64 x.Res] 48)) xq):=Below.more (qr.alloc (Nat.le_refl _) _) (by simp) xq
    have hbW1:=hb.trans (hbx.mono (by simpa using hb.size))
    have hbb1:=hbw.trans (hbx.mono hbw.size)
    clear hbx
    go_wp2_with fail
    go_ret
    exact ⟨ret_bool (HS.out.trans (by rw [hm.out,HA.out,HO.out,HW.out];simp)).symm,hbb1⟩
   have HW:=qh t1
   clear t1
   cases t2:volB p
   ·have HH:=qh t2
    clear t2
    go_wp2_with fail
    refine wp_region_more_lit (by kernel_rfl) (by kernel_rfl) ?_
    repeat (go_big_quiet_step (((first|(go_at_call 96;exact Calls.more_of (cap_lit HC.out _ (rdNd.mono gx ((qr.alloc (Nat.le_refl _) _).trans ((below_more _ _).mono (by simp)))) hok))|(go_at_call 95;exact Calls.more_same (within_lit HW.out _))|(go_at_call 97;exact Calls.more_same (holds_lit HH.out _))))))
    refine wpQuiet_nil ?_
    intro _ hwq
    obtain ⟨xq,hwq⟩:=hwq
    subst hwq
    have hbx:Below wr.heap.size wr (more (wr.alloc (.cells #[.string x.Name,.int .i64 x.Kind,.int .i64 x.AX,.int .i64 x.AY,.int .i64 x.Inv,.int .i64 x.Gr,.slice x.Sh.a x.Sh.xs.length x.Sh.cap,.bool x.Pro,.int .i64 x.Res] 48)) xq):=Below.more (qr.alloc (Nat.le_refl _) _) (by simp) xq
    have hbW1:=hb.trans (hbx.mono (by simpa using hb.size))
    have hbb1:=hbw.trans (hbx.mono hbw.size)
    clear hbx
    go_wp2_with fail
    go_ret
    exact ⟨ret_bool (HS.out.trans (by rw [hm.out,HA.out,HO.out,HW.out,HH.out];simp [Bool.false_and])).symm,hbb1⟩
   have HH:=qh t2
   clear t2
   by_cases k3:x.Kind=3
   ·have u3:=beqT k3
    have K3:=qh k3
    clear k3
    by_cases p0:p=0
    ·have v0:=bneF p0
     have P0:=qh p0
     clear p0
     go_wp2_with fail
     refine wp_region_more_lit (by kernel_rfl) (by kernel_rfl) ?_
     repeat (go_big_quiet_step (((first|(go_at_call 96;exact Calls.more_of (cap_lit HC.out _ (rdNd.mono gx ((qr.alloc (Nat.le_refl _) _).trans ((below_more _ _).mono (by simp)))) hok))|(go_at_call 95;exact Calls.more_same (within_lit HW.out _))|(go_at_call 97;exact Calls.more_same (holds_lit HH.out _))))))
     refine wpQuiet_nil ?_
     intro _ hwq
     obtain ⟨xq,hwq⟩:=hwq
     subst hwq
     have hbx:Below wr.heap.size wr (more (wr.alloc (.cells #[.string x.Name,.int .i64 x.Kind,.int .i64 x.AX,.int .i64 x.AY,.int .i64 x.Inv,.int .i64 x.Gr,.slice x.Sh.a x.Sh.xs.length x.Sh.cap,.bool x.Pro,.int .i64 x.Res] 48)) xq):=Below.more (qr.alloc (Nat.le_refl _) _) (by simp) xq
     have hbW1:=hb.trans (hbx.mono (by simpa using hb.size))
     have hbb1:=hbw.trans (hbx.mono hbw.size)
     clear hbx
     go_wp2_with fail
     go_roundw
     case rel=>exact ⟨k+1,by omega,by go_num,hbW1,hm.out.trans (by rw [HA.out,HO.out,HW.out,HH.out];simp [K3.out,P0.out])⟩
     case measure=>simp [intOf];omega
    ·have v0:=bneT p0
     have P0:=qh p0
     clear p0
     go_wp2_with fail
     refine wp_region_more_lit (by kernel_rfl) (by kernel_rfl) ?_
     repeat (go_big_quiet_step (((first|(go_at_call 96;exact Calls.more_of (cap_lit HC.out _ (rdNd.mono gx ((qr.alloc (Nat.le_refl _) _).trans ((below_more _ _).mono (by simp)))) hok))|(go_at_call 95;exact Calls.more_same (within_lit HW.out _))|(go_at_call 97;exact Calls.more_same (holds_lit HH.out _))))))
     refine wpQuiet_nil ?_
     intro _ hwq
     obtain ⟨xq,hwq⟩:=hwq
     subst hwq
     have hbx:Below wr.heap.size wr (more (wr.alloc (.cells #[.string x.Name,.int .i64 x.Kind,.int .i64 x.AX,.int .i64 x.AY,.int .i64 x.Inv,.int .i64 x.Gr,.slice x.Sh.a x.Sh.xs.length x.Sh.cap,.bool x.Pro,.int .i64 x.Res] 48)) xq):=Below.more (qr.alloc (Nat.le_refl _) _) (by simp) xq
     have hbW1:=hb.trans (hbx.mono (by simpa using hb.size))
     have hbb1:=hbw.trans (hbx.mono hbw.size)
     clear hbx
     go_wp2_with fail
     go_ret
     exact ⟨ret_bool (HS.out.trans (by rw [hm.out,HA.out,HO.out,HW.out,HH.out];simp [K3.out,P0.out])).symm,hbb1⟩
   ·have u3:=beqF k3
    have K3:=qh k3
    clear k3
    go_wp2_with fail
    refine wp_region_more_lit (by kernel_rfl) (by kernel_rfl) ?_
    repeat (go_big_quiet_step (((first|(go_at_call 96;exact Calls.more_of (cap_lit HC.out _ (rdNd.mono gx ((qr.alloc (Nat.le_refl _) _).trans ((below_more _ _).mono (by simp)))) hok))|(go_at_call 95;exact Calls.more_same (within_lit HW.out _))|(go_at_call 97;exact Calls.more_same (holds_lit HH.out _))))))
    refine wpQuiet_nil ?_
    intro _ hwq
    obtain ⟨xq,hwq⟩:=hwq
    subst hwq
    have hbx:Below wr.heap.size wr (more (wr.alloc (.cells #[.string x.Name,.int .i64 x.Kind,.int .i64 x.AX,.int .i64 x.AY,.int .i64 x.Inv,.int .i64 x.Gr,.slice x.Sh.a x.Sh.xs.length x.Sh.cap,.bool x.Pro,.int .i64 x.Res] 48)) xq):=Below.more (qr.alloc (Nat.le_refl _) _) (by simp) xq
    have hbW1:=hb.trans (hbx.mono (by simpa using hb.size))
    have hbb1:=hbw.trans (hbx.mono hbw.size)
    clear hbx
    go_wp2_with fail
    go_roundw
    case rel=>exact ⟨k+1,by omega,by go_num,hbW1,hm.out.trans (by rw [HA.out,HO.out,HW.out,HH.out];simp [K3.out])⟩
    case measure=>simp [intOf];omega
  ·have HN:Hid (res=allFrom (okS lxs ss os) 0 lxs.length):=by
    show _=_
    rw [HS.out,hm.out,allFrom_end _ om];rfl
   clear hm HS
   go_wp2_with fail
   go_loopw [91] (fun s91 wr2=>∃ k:Nat,k<=lxs.length/\s91=.int .i64 k/\Below (w.heap.size+2) ((w.alloc (.cells #[.slice na nxs.length nc,.slice la lxs.length lc] 25)).alloc (.cells #[.slice va vs.length vc,.slice pa ps.length pc,.slice ea ss.length ec,.slice oa os.length oc] 31)) wr2/\Hid (allFrom (okS lxs ss os) 0 lxs.length=allFrom (okS lxs ss os) k lxs.length)) (fun i _=>lxs.length-(intOf i).toNat)
   case atStart=>exact ⟨0,Nat.zero_le _,rfl,hb,rfl⟩
   clear hb hbw e0 e1 f0 f1 f2 f3
   case round=>
    as_aux_lemma=>
    obtain ⟨k,hk,rfl,hb,hm⟩:=hrel
    have hbw:Below w.heap.size w wr:=hb0.trans (hb.mono om)
    obtain ⟨f0,f1,f2,f3⟩:=boxSt (w.alloc (.cells #[.slice na nxs.length nc,.slice la lxs.length lc] 25)) wr 31 ⟨⟨va,vc,vs⟩,⟨pa,pc,ps⟩,⟨ea,ec,ss⟩,⟨oa,oc,os⟩⟩ _ rfl (w.heap.size+2) (by simp) hb
    rw [show (w.alloc (.cells #[.slice na nxs.length nc,.slice la lxs.length lc] 25)).heap.size=w.heap.size+1 from by simp] at f0 f1 f2 f3
    simp only [vSl] at f0 f1 f2 f3
    by_cases hlt:k<lxs.length
    ·have ks:k<ss.length:=by have:=L3.out;omega
     have ko:k<os.length:=by have:=L4.out;omega
     obtain ⟨b,off,rfl,c0,c1,c2,c3,c4,c5,c6,c7,c8,c9,c10⟩:=(hL.2.2.1.mono hbw).lk k hlt
     obtain ⟨eb,eo,rfl,ce⟩:=(hE.2.2.1.mono hbw).int k ks
     obtain ⟨ob,oo,rfl,co⟩:=(hO.2.2.1.mono hbw).boolAt k ko
     have HO:=qh (okS_at hlt ks ko)
     have HA:=qh (allFrom_step (okS lxs ss os) hlt)
     have i1:(0:Int)<=k:=by omega
     have i2:(k:Int)<ss.length:=by omega
     have i3:(k:Int)<os.length:=by omega
     clear hN hL hV hP hE hO hnd
     simp only at ce co
     generalize lxs[k]=x at *
     generalize ss[k]=v at *
     generalize os[k]=o at *
     cases t1:btwB v 0 1000
     ·have HW:=qh t1
      go_wp2_with (go_at_call 95;refine (swithin_any _ _ _ _).mono ?_;rintro e w' ⟨rfl,rfl⟩)
      go_ret
      exact ⟨ret_bool (HN.out.trans (by rw [hm.out,HA.out,HO.out];simp [HW.out])).symm,bl⟩
     have HW:=qh t1
     cases o
     ·go_wp2_with (go_at_call 95;refine (swithin_any _ _ _ _).mono ?_;rintro e w' ⟨rfl,rfl⟩)
      go_roundw
      case rel=>exact ⟨k+1,by omega,by go_num,hb.alloc (by simpa using hb.size) _,hm.out.trans (by rw [HA.out,HO.out];simp [HW.out])⟩
      case measure=>simp [intOf];omega
     by_cases k4:x.Kind=4
     ·have u4:=bneF k4
      have K4:=qh k4
      clear k4
      go_wp2_with (go_at_call 95;refine (swithin_any _ _ _ _).mono ?_;rintro e w' ⟨rfl,rfl⟩)
      go_roundw
      case rel=>exact ⟨k+1,by omega,by go_num,hb.alloc (by simpa using hb.size) _,hm.out.trans (by rw [HA.out,HO.out];simp [HW.out,K4.out])⟩
      case measure=>simp [intOf];omega
     ·have u4:=bneT k4
      have K4:=qh k4
      clear k4
      go_wp2_with (go_at_call 95;refine (swithin_any _ _ _ _).mono ?_;rintro e w' ⟨rfl,rfl⟩)
      go_ret
      exact ⟨ret_bool (HN.out.trans (by rw [hm.out,HA.out,HO.out];simp [HW.out,K4.out])).symm,bl⟩
    ·go_wp2_with fail
     go_ret
     refine ⟨ret_bool ?_,hbw⟩
     rw [HN.out,hm.out,allFrom_end _ om]
end Go.Proofs.YtoiakijmbghhlaaGreat
