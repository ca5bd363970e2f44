/- planner's step. Conditions: a right plan; the volume lies between reserve and capacity. | Maps whose keys are numbers, as functions of the key; sets of numbers. -/
import Derived.Deep.QuietTactic
import Derived.BigQuiet
import Derived.Maps.OwnSet
import Derived.Maps.RangeWalk
import Derived.Lib.SlKeysI
import Derived.Shelf.SlIterI.Nil
import Derived.Shelf.SortM.Plain
import Derived.Shelf.SortM.SortNone
import Derived.Ground.GgzProg
import Derived.Ground.SlgmProg
import Derived.Test.YtoiakijmbghhlaaGreatS09
import Derived.Test.YtoiakijmbghhlaaGreatS03
set_option linter.unusedVariables false
set_option linter.unusedSimpArgs false
set_option maxRecDepth 100000
set_option maxHeartbeats 32000000
namespace Go.Proofs.YtoiakijmbghhlaaGreat
open Go.RowKit
def plOf (p:PlD):Pn.Pl:=⟨p.Cp,p.Rs,p.L.xs,prices p,p.W⟩
structure PlOk (p:PlD):Prop where
 cp:1<=p.Cp/\p.Cp<=1099511627776
 rs:0<=p.Rs/\p.Rs<=p.Cp
 st:p.Rs<=p.St/\p.St<=p.Cp
 il:p.I.xs.length<=200
 ll:1<=p.L.xs.length/\p.L.xs.length<=20
 w:0<=p.W/\p.W<=1000
 tab:tabB p.T.xs=true
 inf:∀ x∈p.I.xs,0<=x/\x<=1099511627776
 rel:∀ x∈p.L.xs,0<=x/\x<=1099511627776
 asc:∀ i (h:i+1<p.L.xs.length),p.L.xs[i]<p.L.xs[i+1]
 pr:∀ x∈prices p,0<=x/\x<=1099511627776
theorem btw_iff {n lo hi:Int}:btwB n lo hi=true↔lo<=n/\n<=hi:=by simp [btwB]
theorem planB_ok {p:PlD} (h:planB p=true):PlOk p:=by
 simp only [planB,Bool.and_eq_true,btw_iff,Bool.not_eq_true',decide_eq_false_iff_not,allFrom_iff,endsB,decide_eq_true_eq] at h
 obtain ⟨h1,h2,h3,h4,h5,h6,h7,h8,h9,h10,h11⟩:=h
 have ht:=tabB_len h7
 refine ⟨h1,h2,h3,by omega,by omega,h6,h7,?_,?_,?_,?_⟩
 ·intro x hx
  obtain ⟨i,hi,rfl⟩:=List.mem_iff_getElem.1 hx
  have:=h8 i hi
  rw [infB_at hi,btw_iff] at this
  exact this
 ·intro x hx
  obtain ⟨i,hi,rfl⟩:=List.mem_iff_getElem.1 hx
  have:=h9 i hi
  by_cases h0:i=0
  ·subst h0
   rw [relB_0 hi,btw_iff] at this
   exact this
  ·rw [relB_pos hi om,Bool.and_eq_true,btw_iff] at this
   exact this.1
 ·intro i hi
  have:=h9 (i+1) hi
  rw [relB_pos hi om] at this
  simp only [Nat.add_sub_cancel,Bool.and_eq_true,Bool.not_eq_true',decide_eq_false_iff_not] at this
  omega
 ·intro x hx
  obtain ⟨r,_,rfl⟩:=List.mem_map.1 hx
  obtain ⟨b1,b2⟩:=tabV_bd h7 r
  rw [lastK_eq ht.1] at h11
  have e0:p.T.xs.getD 0 default=p.T.xs[0]'om:=by simp [List.getD,List.getElem?_eq_getElem (show 0<p.T.xs.length by omega)]
  rw [e0] at h10
  omega
theorem PlOk.pn {p:PlD} (h:PlOk p):Pn.Ok (plOf p):=⟨h.rs.2,prices_len p,h.w.1,h.w.2,h.pr,h.rel⟩
def stV:Option (Int×Int)->Value
 | none=>.tuple #[.int .i64 0,.int .i64 0,.bool false]
 | some x=>.tuple #[.int .i64 x.1,.int .i64 x.2,.bool true]
theorem pstep_any (p:PlD) (g:Nat) (v:Int) (i k:Nat) (w:World) (ht:IsTank w g p) (hp:PlOk p) (hv:p.Rs<=v/\v<=p.Cp) (hi:i<p.I.xs.length) (hk:k<p.L.xs.length) :
  Calls Tryz.prog 73 #[.pointer (some ⟨g,0,none⟩),.int .i64 v,.int .i64 i,.int .i64 k] w fun e w'=>e=.returned (stV (Pn.stepP (plOf p) v p.I.xs[i] k))/\Below w.heap.size w w':=by
 obtain ⟨b1,o1,ea,d1⟩:=ht.li.int i hi
 obtain ⟨b2,o2,eb,d2⟩:=ht.ll.int k hk
 obtain ⟨pa,pc,c7,hpr,-⟩:=ht.pr
 obtain ⟨b3,o3,ec,d3⟩:=hpr.int k (by rw [prices_len];exact hk)
 subst ec
 obtain ⟨iv,hiv⟩:∃ x,x=p.I.xs[i]:=⟨_,rfl⟩
 obtain ⟨r,hr⟩:∃ x,x=p.L.xs[k]:=⟨_,rfl⟩
 obtain ⟨q,hq⟩:∃ x,x=(prices p)[k]'(by rw [prices_len];exact hk):=⟨_,rfl⟩
 have hib:=hp.inf _ (List.getElem_mem hi)
 have hrb:=hp.rel _ (List.getElem_mem hk)
 have hqb:=hp.pr _ (List.getElem_mem (l:=prices p) (n:=k) (by rw [prices_len];exact hk))
 have hst:Pn.stepP (plOf p) v p.I.xs[i] k=if v+iv-r<p.Rs then none else some (min (v+iv-r) p.Cp,q+p.W*max 0 (v+iv-r-p.Cp)):=by
  unfold Pn.stepP Pn.lft plOf
  simp only [List.getD,List.getElem?_eq_getElem hk,List.getElem?_eq_getElem (show k<(prices p).length by rw [prices_len];exact hk),Option.getD_some,<-hr,<-hq,<-hiv]
 have HST:=qh hst
 rw [<-hiv] at d1 hib
 rw [<-hr] at d2 hrb
 rw [<-hq] at d3 hqb
 clear hst hiv hr hq hpr
 have c1:=ht.c1
 have c2:=ht.c2
 have c3:=ht.c3
 have c4:=ht.c4
 have c6:=ht.c6
 rw [ea] at c3
 rw [eb] at c4
 have i1:(0:Int)<=i:=by omega
 have i2:(i:Int)<p.I.xs.length:=by omega
 have i3:(0:Int)<=k:=by omega
 have i4:(k:Int)<p.L.xs.length:=by omega
 obtain ⟨lf,hlf⟩:∃ x,x=v+iv-r:=⟨_,rfl⟩
 have hcp:=hp.cp
 have hrs:=hp.rs
 have hw:=hp.w
 have x1:IntKind.i64.wrap (v+iv)=v+iv:=IntWalk.i64_in _ om
 have x2:IntKind.i64.wrap (v+iv-r)=lf:=by rw [IntWalk.i64_in _ om];exact hlf.symm
 have hlb : -1099511627776<=lf/\lf<=2199023255552:=by omega
 rw [<-hlf] at HST
 clear hlf ea eb ht
 obtain ⟨Rs,hRs⟩:∃ x,x=p.Rs:=⟨_,rfl⟩
 obtain ⟨Cp,hCp⟩:∃ x,x=p.Cp:=⟨_,rfl⟩
 obtain ⟨Wt,hWt⟩:∃ x,x=p.W:=⟨_,rfl⟩
 rw [<-hRs] at c2 HST hrs
 rw [<-hCp] at c1 HST hcp hrs
 rw [<-hWt] at c6 HST hw
 clear hRs hCp hWt
 cases hlt:decide (lf<Rs)
 ·have x3:IntKind.i64.wrap (lf-Cp)=lf-Cp:=IntWalk.i64_in _ om
  go_enter Tryz.func73,Tryz.ntmps73
  go_wp2_with fail
  go_quiet (fail)
  clear x1 x2
  go_wp2_with fail
  clear x3
  obtain ⟨sp,hsp⟩:∃ sp,max 0 (lf-Cp)=sp:=⟨_,rfl⟩
  obtain ⟨mn,hmn⟩:∃ mn,min lf Cp=mn:=⟨_,rfl⟩
  rw [hsp]
  rw [hsp,hmn] at HST
  have hs0:0<=sp/\sp<=2199023255552:=by omega
  have y1:IntKind.i64.wrap (lf-sp)=mn:=by rw [IntWalk.i64_in _ om];omega
  have hm0:=Int.mul_nonneg hw.1 hs0.1
  have hm1:Wt*sp<=1000*2199023255552:=Int.mul_le_mul hw.2 hs0.2 hs0.1 (by decide)
  obtain ⟨ws,hws⟩:∃ ws,Wt*sp=ws:=⟨_,rfl⟩
  rw [hws] at HST hm0 hm1
  have y2:IntKind.i64.wrap (Wt*sp)=ws:=by rw [hws];exact IntWalk.i64_in _ om
  have y3:IntKind.i64.wrap (q+ws)=q+ws:=IntWalk.i64_in _ om
  have hres:=HST.out.trans (if_neg (by simpa using hlt))
  have HRES:=qh hres
  clear hsp hmn hm0 hm1 hws hs0 HST hres hlb hcp hrs hw hib hrb hqb hv c1 c2 c3 c4 d1 d2 hlt
  have e3:(w.drewN nq).cell? ⟨b3,o3+k,none⟩=some (.int .i64 q):=d3
  have e6:(w.drewN nq).cell? ⟨g,6,none⟩=some (.int .i64 Wt):=c6
  have e7:(w.drewN nq).cell? ⟨g,7,none⟩=some (.slice (some ⟨b3,o3,none⟩) p.L.xs.length pc):=c7
  obtain ⟨W2,hW2⟩:∃ W2,W2=w.drewN nq:=⟨_,rfl⟩
  have HB:Hid (Below w.heap.size w W2):=by rw [hW2];exact qh (below_drewN qr nq)
  rw [<-hW2] at e3 e6 e7 ⊢
  clear hW2 c6 c7 d3
  go_quiet (fail)
  clear y1 y2 y3
  go_wp2_with fail
  go_ret3
  exact ⟨by rw [HRES.out];rfl,below_drewN HB.out _⟩
 ·go_enter Tryz.func73,Tryz.ntmps73
  go_wp2_with fail
  go_quiet (fail)
  clear x1 x2
  go_wp2_with fail
  go_ret3
  exact ⟨by rw [HST.out,if_pos (by simpa using hlt)];rfl,bl⟩
end Go.Proofs.YtoiakijmbghhlaaGreat
namespace Go.Proofs.YtoiakijmbghhlaaGreat
open Go.RowKit Go.Maps
theorem keyLit (k:Int):WideAt.IsKeyLit (.int .i64 k):=trivial
theorem undI:Tryz.prog.underlying 3=some (.int .i64):=by kernel_rfl
theorem undB:Tryz.prog.underlying 4=some .bool:=by kernel_rfl
theorem kInt:Keyed Tryz.prog 3:=int_keyed undI
theorem keyI {k:Int} (h:(Lit.int .i64 k).wf=true):keyOf Tryz.prog 3 (.int .i64 k)=some (.int .i64 k):=keyOf_int_mk undI h
theorem wfI {k:Int} (h : -9223372036854775808<=k/\k<=9223372036854775807):(Lit.int .i64 k).wf=true:=by
 simp [Lit.wf];exact h
noncomputable abbrev elI:Value->Option (DataW Unit×List MemPlace):=plainElem Tryz.prog 3
noncomputable abbrev elB:Value->Option (DataW Unit×List MemPlace):=plainElem Tryz.prog 4
theorem zeroI (w:World):(zeroValue 3).run Tryz.prog w=.ok (.int .i64 0) w:=by kernel_rfl
theorem undMII:Tryz.prog.underlying 65=some (.map 3 3):=by kernel_rfl
theorem undMIB:Tryz.prog.underlying 223=some (.map 3 4):=by kernel_rfl
theorem grown_none {w w':World} (hb:Below w.heap.size w w') (row:Option Nat):w.grownBy w' row:=⟨hb.os,hb.tape,hb.output,hb.size,fun j hj _=>hb.block j hj⟩
def MapI (w:World) (b n:Nat) (f:Int->Option Int):Prop:=
 ∃ D:DataW Unit,w.ownsMap Tryz.prog 3 elI b n D/\∀ k,Maps.has D (.int .i64 k)=(f k).isSome/\∀ y,f k=some y->D.atKey (.int .i64 k) (.lit (.int .i64 0))=.lit (.int .i64 y)
theorem MapI.below {w w':World} {b n:Nat} {f:Int->Option Int} (h:MapI w b n f) (hb:Below w.heap.size w w'):MapI w' b n f:=by
 obtain ⟨D,h1,h2⟩:=h
 exact ⟨D,h1.kept (grown_none hb none) (by simp),h2⟩
theorem MapI.kept {w w':World} {b n:Nat} {f:Int->Option Int} {row:Option Nat} (h:MapI w b n f) (hg:w.grownBy w' row) (hne:some b≠row):MapI w' b n f:=by
 obtain ⟨D,h1,h2⟩:=h
 exact ⟨D,h1.kept hg hne,h2⟩
theorem MapI.lt {w:World} {b n:Nat} {f:Int->Option Int} (h:MapI w b n f):b<w.heap.size:=by
 obtain ⟨D,h1,_⟩:=h
 exact h1.lt
theorem MapI.made (w:World):MapI (w.alloc (.map #[] 0)) w.heap.size 0 (fun _=>none):=
 ⟨.map [],World.ownsMap_made _ _ _ _,fun k=>⟨rfl,fun y h=>by cases h⟩⟩
def setF (f:Int->Option Int) (k y:Int):Int->Option Int:=fun j=>if j=k then some y else f j
theorem MapI.put {w':World} {b n:Nat} {f:Int->Option Int} {D:DataW Unit} {k y:Int} (hm:IsMap D) (h2:∀ k,Maps.has D (.int .i64 k)=(f k).isSome/\∀ y,f k=some y->D.atKey (.int .i64 k) (.lit (.int .i64 0))=.lit (.int .i64 y))
  (h1:w'.ownsMap Tryz.prog 3 elI b (n+1) (D.put (.int .i64 k) (.lit (.int .i64 y)))):MapI w' b (n+1) (setF f k y):=by
 refine ⟨_,h1,fun j=>?_⟩
 unfold setF
 by_cases hj:j=k
 ·subst hj
  rw [if_pos rfl]
  refine ⟨has_put_same hm (keyLit j) _,fun z hz=>?_⟩
  rw [atKey_put_same hm (keyLit j)]
  cases hz;rfl
 ·rw [if_neg hj]
  have hne:(Lit.int .i64 j)≠.int .i64 k:=fun e=>hj (by injection e)
  refine ⟨(has_put_other hne _).trans (h2 j).1,fun z hz=>?_⟩
  rw [atKey_put_other hne]
  exact (h2 j).2 z hz
theorem lit_inj {a b:Int} (h:(DataW.lit (.int .i64 a):DataW Unit)=.lit (.int .i64 b)):a=b:=by simpa using h
theorem MapI.look {w:World} {b n:Nat} {f:Int->Option Int} (h:MapI w b n f) {k:Int} (hk:(Lit.int .i64 k).wf=true) :
  (Instr.lookup 65 (.map (some b)) (.int .i64 k) true).run Tryz.prog w=.ok (.tuple #[.int .i64 ((f k).getD 0),.bool (f k).isSome]) w:=by
 obtain ⟨D,hD,hf⟩:=h
 obtain ⟨v,ps,hrun,hv⟩:=hD.look_ok kInt undMII (zeroI w) (zd:=.lit (.int .i64 0)) (zp:=[]) (plainElem_int undI (by decide)) (keyI hk)
 obtain ⟨c,rfl,hc,_⟩:=plainElem_int_inv undI hv
 have hc:=congrArg Prod.fst hc
 simp only at hc
 suffices hcc:c=(f k).getD 0 by rw [hrun,(hf k).1,hcc]
 clear hrun
 cases hn:f k with
 | none=>
  have hh:Maps.has D (.int .i64 k)=false:=by rw [(hf k).1,hn];rfl
  rw [atKey_of_not_has hh] at hc
  exact (lit_inj hc).symm
 | some y=>
  rw [(hf k).2 y hn] at hc
  exact (lit_inj hc).symm
def SetI (w:World) (b n:Nat) (s:Int->Prop):Prop:=
 ∃ D:DataW Unit,w.ownsMap Tryz.prog 3 elB b n D/\∀ k,Maps.has D (.int .i64 k)=true↔s k
theorem SetI.kept {w w':World} {b n:Nat} {s:Int->Prop} {row:Option Nat} (h:SetI w b n s) (hg:w.grownBy w' row) (hne:some b≠row):SetI w' b n s:=by
 obtain ⟨D,h1,h2⟩:=h
 exact ⟨D,h1.kept hg hne,h2⟩
theorem SetI.below {w w':World} {b n:Nat} {s:Int->Prop} (h:SetI w b n s) (hb:Below w.heap.size w w'):SetI w' b n s:=h.kept (grown_none hb none) (by simp)
theorem SetI.made (w:World):SetI (w.alloc (.map #[] 0)) w.heap.size 0 (fun _=>False):=
 ⟨.map [],World.ownsMap_made _ _ _ _,fun k=>by simp [Maps.has]⟩
theorem SetI.iff {w:World} {b n:Nat} {s s':Int->Prop} (h:SetI w b n s) (he:∀ k,s k↔s' k):SetI w b n s':=by
 obtain ⟨D,h1,h2⟩:=h
 exact ⟨D,h1,fun k=>(h2 k).trans (he k)⟩
theorem SetI.put {w':World} {b n:Nat} {s:Int->Prop} {D:DataW Unit} {k:Int} {d:DataW Unit} (hm:IsMap D) (h2:∀ k,Maps.has D (.int .i64 k)=true↔s k)
  (h1:w'.ownsMap Tryz.prog 3 elB b (n+1) (D.put (.int .i64 k) d)):SetI w' b (n+1) (fun j=>s j\/j=k):=by
 refine ⟨_,h1,fun j=>?_⟩
 by_cases hj:j=k
 ·subst hj
  simp [has_put_same hm (keyLit j)]
 ·have hne:(Lit.int .i64 j)≠.int .i64 k:=fun e=>hj (by injection e)
  rw [has_put_other hne,h2 j]
  simp [hj]
theorem own_keys {R:Value->Option (DataW Unit×List MemPlace)} {w:World} {b n:Nat} {D:DataW Unit} (h:w.ownsMap Tryz.prog 3 R b n D) :
  (intKeys D).Nodup/\(∀ x,x∈intKeys D↔Maps.has D (.int .i64 x)=true)/\(intKeys D).length=Maps.size D:=by
 obtain ⟨es,hD,hp,_⟩:=h.entries kInt
 obtain ⟨es',hD',hko⟩:=h.keysOf
 obtain rfl:es=es':=by rw [hD] at hD';simpa using hD'
 subst hD
 have hk:∀ p∈es,∃ x,p.1=.int .i64 x:=fun p hp=>by
  obtain ⟨v,hv⟩:=hko p hp
  obtain ⟨x,_,hx,_⟩:=Maps.keyOf_i64 undI hv
  exact ⟨x,hx⟩
 refine ⟨?_,fun x=>?_,by simp [intKeys,size_eq]⟩
 ·show (es.map fun p=>_).Nodup
  refine List.pairwise_map.2 (hp.imp_of_mem fun {p q} hp' hq' hne e=>hne ?_)
  obtain ⟨a,ha⟩:=hk p hp'
  obtain ⟨c,hc⟩:=hk q hq'
  rw [ha,hc] at e ⊢
  exact congrArg _ e
 ·rw [has_eq,List.any_eq_true]
  show x∈es.map (fun p=>_)↔_
  rw [List.mem_map]
  constructor
  ·rintro ⟨p,hp',rfl⟩
   obtain ⟨a,ha⟩:=hk p hp'
   exact ⟨p,hp',by rw [ha];simp [Lit.sameKey,Go.intOf]⟩
  ·rintro ⟨p,hp',hs⟩
   obtain ⟨a,ha⟩:=hk p hp'
   rw [ha] at hs
   exact ⟨p,hp',by rw [ha];simpa [Lit.sameKey,Go.intOf] using hs⟩
end Go.Proofs.YtoiakijmbghhlaaGreat
namespace Go.Proofs.YtoiakijmbghhlaaGreat
open Go.RowKit
def bsV:Option (Nat×Int)->Value
 | none=>.tuple #[.int .i64 0,.int .i64 0,.bool false]
 | some x=>.tuple #[.int .i64 (x.1:Int),.int .i64 x.2,.bool true]
def AccIs (F:Bool) (r:Nat) (l:Int) (a:Option (Nat×Int)):Prop:=(F=false/\a=none/\r=0/\l=0)\/(F=true/\a=some (r,l))
def SmallF (f:Int->Option Int):Prop:=∀ u y,f u=some y->0<=y/\y<=1152921504606846976
theorem pbest_any (p:PlD) (g b n:Nat) (nx:Int->Option Int) (i:Nat) (v:Int) (w:World) (ht:IsTank w g p) (hp:PlOk p) (hv:p.Rs<=v/\v<=p.Cp) (hi:i<p.I.xs.length) (hm:MapI w b n nx) (hbd:SmallF nx) :
  Calls Tryz.prog 72 #[.pointer (some ⟨g,0,none⟩),.int .i64 i,.int .i64 v,.map (some b)] w fun e w'=>e=.returned (bsV (Pn.best (plOf p) nx v p.I.xs[i]))/\Below w.heap.size w w':=by
 obtain ⟨iv,hiv⟩:∃ x,x=p.I.xs[i]:=⟨_,rfl⟩
 have hib:=hp.inf _ (List.getElem_mem hi)
 rw [<-hiv] at hib ⊢
 have HIV:=qh hiv
 obtain ⟨ls,hls⟩:∃ x,x=p.L.xs.length:=⟨_,rfl⟩
 have HLS:=qh hls
 have HM:=qh hm
 have HBD:=qh hbd
 have HT:=qh ht
 have c4:=ht.c4
 have hl20:ls<=20:=by rw [hls];exact hp.ll.2
 rw [<-hls] at c4
 clear hiv hls hm hbd ht
 have hgl:=World.block_lt_of_cell? _ _ c4
 go_enter Tryz.func72,Tryz.ntmps72
 go_wp2_with fail
 go_loopw [11,12,13,25] (fun s11 s12 s13 s25 wr=>∃ (k r:Nat) (l:Int) (F:Bool),k<=ls/\s25=.int .i64 k/\Below w.heap.size w wr/\s11=.int .i64 r/\s12=.int .i64 l/\s13=.bool F/\Hid (AccIs F r l (Pn.bestK (plOf p) nx v iv k))) (fun _ _ _ s25 _=>ls-(Go.RowKit.intOf s25).toNat)
 case atStart=>exact ⟨0,0,0,false,Nat.zero_le _,rfl,qr,rfl,rfl,rfl,qh (show AccIs _ _ _ _ from .inl ⟨rfl,rfl,rfl,rfl⟩)⟩
 case round=>
  obtain ⟨k,r,l,F,hk,rfl,hb,rfl,rfl,rfl,hacc⟩:=hrel
  by_cases hkl:k<ls
  ·have hstep:=pstep_any p g v i k wr (HT.out.mono hb) hp hv hi (by rw [<-HLS.out];exact hkl)
   rw [<-HIV.out] at hstep
   have hst:Pn.bestK (plOf p) nx v iv (k+1)=Pn.bst (plOf p) nx v iv (Pn.bestK (plOf p) nx v iv k) k:=rfl
   rw [Pn.bst] at hst
   have i1:decide (k<ls)=true:=decide_eq_true hkl
   have x8:IntKind.i64.wrap ((k:Int)+1)=k+1:=IntWalk.i64_in _ om
   cases hs:Pn.stepP (plOf p) v iv k with
   | none=>
    rw [hs] at hst hstep
    have HST:=qh hst
    clear hst hs
    simp only [stV] at hstep
    go_wp2_with fail
    refine Calls.to hstep ?_
    rintro e w1 rfl hb1
    have hb2:=hb.trans (hb1.mono hb.size)
    go_wp2_with fail
    go_roundw
    case measure=>simp [Go.RowKit.intOf,x8];omega
    case rel=>exact ⟨k+1,r,l,F,by omega,by go_num,hb2,rfl,rfl,rfl,qh (by rw [HST.out];exact hacc.out)⟩
   | some x=>
    obtain ⟨w0,c0⟩:=x
    have hw0:=Pn.step_bd hp.pn.rc hs
    have hc0:=Pn.step_cost hp.pn hv.2 hib (show k<p.L.xs.length by rw [<-HLS.out];exact hkl) hs
    have hc1:0<=c0/\c0<=1100611139403776:=by unfold Pn.K at hc0;omega
    have hwb:0<=w0/\w0<=1099511627776:=by
     have h1:p.Rs<=w0:=hw0.1
     have h2:w0<=p.Cp:=hw0.2
     have h3:=hp.cp
     have h4:=hp.rs
     omega
    have hkey:=keyI (k:=w0) (wfI om)
    rw [hs] at hst hstep
    simp only at hst
    have HST:=qh hst
    clear hst hs hc0 hw0
    simp only [stV] at hstep
    go_wp2_with fail
    refine Calls.to hstep ?_
    rintro e w1 rfl hb1
    have hb2:=hb.trans (hb1.mono hb.size)
    obtain ⟨D,hD,hf⟩:=HM.out.below hb2
    have hf0:=hf w0
    clear hstep hb1 hf
    cases hn:nx w0 with
    | none=>
     rw [hn] at hf0
     have hh:Maps.has D (.int .i64 w0)=false:=hf0.1
     have hst2:=HST.out
     rw [hn] at hst2
     have HST2:=qh hst2
     clear hf0 hst2 hn HST
     go_wp2_with (at_lookup;refine wpList_lookup_own_ok_int _ rfl _ _ 65 rfl 3 3 .i64 kInt undMII undI (zeroI _) b n D rfl hD _ _ rfl hkey ?_;intro c hat hwc)
     clear hat hwc hD hh hkey
     go_wp2_with fail
     go_roundw
     case measure=>simp [Go.RowKit.intOf,x8];omega
     case rel=>exact ⟨k+1,r,l,F,by omega,by go_num,hb2,rfl,rfl,rfl,qh (by rw [HST2.out];exact hacc.out)⟩
    | some y=>
     rw [hn] at hf0
     have hh:Maps.has D (.int .i64 w0)=true:=hf0.1
     have hat0:=hf0.2 y rfl
     have hst2:=HST.out
     rw [hn] at hst2
     simp only at hst2
     have HST2:=qh hst2
     have hy:=HBD.out w0 y hn
     have HAT:=qh hat0
     clear hf0 hst2 hn HST hat0
     go_upto_region 8 with (at_lookup;refine wpList_lookup_own_ok_int _ rfl _ _ 65 rfl 3 3 .i64 kInt undMII undI (zeroI _) b n D rfl hD _ _ rfl hkey ?_;intro c hat hwc)
     have hcy:c=y:=by
      have:=hat.symm.trans HAT.out
      injection this with this
      injection this with _ this
     subst hcy
     have x9:IntKind.i64.wrap (c0+c)=c0+c:=IntWalk.i64_in _ om
     clear hat hwc hD hkey HAT
     rcases hacc.out with ⟨rfl,ha,rfl,rfl⟩|⟨rfl,ha⟩
     ·have hst3:=HST2.out
      rw [ha] at hst3
      simp only at hst3
      have HST3:=qh hst3
      clear hst3 ha HST2 hacc
      go_wp2_with fail
      go_roundw
      case measure=>simp [Go.RowKit.intOf,x8];omega
      case rel=>exact ⟨k+1,k,c0+c,true,by omega,by go_num,hb2,rfl,rfl,rfl,qh (show AccIs _ _ _ _ from .inr ⟨rfl,HST3.out⟩)⟩
     ·have hst3:=HST2.out
      rw [ha] at hst3
      simp only at hst3
      have HST3:=qh hst3
      clear hst3 ha HST2 hacc
      cases hlt:decide (c0+c<l)
      ·have hl2:¬ (c0+c<l):=by simpa using hlt
       have HL2:=qh hl2
       clear hl2
       go_wp2_with fail
       go_roundw
       case measure=>simp [Go.RowKit.intOf,x8];omega
       case rel=>exact ⟨k+1,r,l,true,by omega,by go_num,hb2,rfl,rfl,rfl,qh (show AccIs _ _ _ _ from .inr ⟨rfl,by rw [HST3.out,if_neg HL2.out]⟩)⟩
      ·have hl2:c0+c<l:=by simpa using hlt
       have HL2:=qh hl2
       clear hl2
       go_wp2_with fail
       go_roundw
       case measure=>simp [Go.RowKit.intOf,x8];omega
       case rel=>exact ⟨k+1,k,c0+c,true,by omega,by go_num,hb2,rfl,rfl,rfl,qh (show AccIs _ _ _ _ from .inr ⟨rfl,by rw [HST3.out,if_pos HL2.out]⟩)⟩
  ·have i1:decide (k<ls)=false:=decide_eq_false hkl
   have hkk:k=ls:=by omega
   have hbest:Pn.best (plOf p) nx v iv=Pn.bestK (plOf p) nx v iv k:=by rw [hkk,HLS.out];rfl
   have HB:=qh hbest
   clear hbest hkk
   go_wp2_with fail
   go_ret3
   refine ⟨?_,hb⟩
   rw [HB.out]
   rcases hacc.out with ⟨rfl,ha,rfl,rfl⟩|⟨rfl,ha⟩
   ·rw [ha];rfl
   ·rw [ha];rfl
end Go.Proofs.YtoiakijmbghhlaaGreat
namespace Go.Proofs
open Go.RowKit Go.Maps Go.Sort Go.Shelf
def Tryz.keysA_ren:Go.Shelf.Ren:=⟨fun|7=>139|10=>209|n=>n,fun|23=>223|26=>3|3=>4|28=>226|0=>0|27=>225|33=>81|4=>4|n=>n,fun|n=>n⟩
theorem Tryz.keysA:Go.Proofs.SlLaysZI.n7 Tryz.prog Tryz.keysA_ren:={
 mixed:=by kernel_rfl
 f7:=⟨Tryz.f139.name,by decide,Tryz.func139.trans (congrArg some (by kernel_rfl))⟩
 f10:=⟨Tryz.f209.name,by decide,Tryz.func209.trans (congrArg some (by kernel_rfl))⟩
 t0:=Tryz.underlying0
 a0:=Tryz.isAgg0
 z0:=Tryz.sizeOf0
 v0:=Tryz.zeroValue0
 t4:=Tryz.underlying4
 a4:=Tryz.isAgg4
 z4:=Tryz.sizeOf4
 v4:=Tryz.zeroValue4
 t23:=Tryz.underlying223
 a23:=Tryz.isAgg223
 z23:=Tryz.sizeOf223
 v23:=Tryz.zeroValue223
 t26:=Tryz.underlying3
 a26:=Tryz.isAgg3
 z26:=Tryz.sizeOf3
 v26:=Tryz.zeroValue3
 t27:=Tryz.underlying225
 a27:=Tryz.isAgg225
 z27:=Tryz.sizeOf225
 v27:=Tryz.zeroValue225
 t28:=Tryz.underlying226
 a28:=Tryz.isAgg226
 z28:=Tryz.sizeOf226
 v28:=Tryz.zeroValue226
 t33:=Tryz.underlying81
 a33:=Tryz.isAgg81
 z33:=Tryz.sizeOf81
 v33:=Tryz.zeroValue81 }
def Tryz.sortedA_ren:Go.Shelf.Ren:=⟨fun|6=>138|8=>207|9=>208|11=>249|13=>251|12=>250|23=>300|24=>301|14=>291|15=>292|16=>293|17=>294|18=>295|19=>296|20=>297|21=>298|22=>299|25=>325|26=>326|27=>327|28=>328|29=>329|30=>330|31=>341|n=>n,fun|26=>3|28=>226|24=>28|0=>0|3=>3|37=>49|48=>282|50=>285|4=>4|40=>366|39=>365|45=>147|5=>5|9=>9|51=>390|55=>394|57=>400|58=>196|33=>81|n=>n,fun|n=>n⟩
theorem Tryz.sortedA:Go.Proofs.SlLaysZI.n6 Tryz.prog Tryz.sortedA_ren:={
 mixed:=by kernel_rfl
 f6:=⟨Tryz.f138.name,by decide,Tryz.func138.trans (congrArg some (by kernel_rfl))⟩
 f8:=⟨Tryz.f207.name,by decide,Tryz.func207.trans (congrArg some (by kernel_rfl))⟩
 f11:=⟨Tryz.f249.name,by decide,Tryz.func249.trans (congrArg some (by kernel_rfl))⟩
 t0:=Tryz.underlying0
 a0:=Tryz.isAgg0
 z0:=Tryz.sizeOf0
 v0:=Tryz.zeroValue0
 t24:=Tryz.underlying28
 a24:=Tryz.isAgg28
 z24:=Tryz.sizeOf28
 v24:=Tryz.zeroValue28
 t26:=Tryz.underlying3
 a26:=Tryz.isAgg3
 z26:=Tryz.sizeOf3
 v26:=Tryz.zeroValue3
 t28:=Tryz.underlying226
 a28:=Tryz.isAgg226
 z28:=Tryz.sizeOf226
 v28:=Tryz.zeroValue226
 i26:=by kernel_rfl }
def Tryz.sortA_ren:Go.Shelf.Ren:=⟨fun|5=>208|8=>251|7=>250|19=>300|20=>301|10=>291|11=>292|12=>293|13=>294|14=>295|15=>296|16=>297|17=>298|18=>299|30=>325|31=>326|32=>327|33=>328|34=>329|35=>330|40=>341|n=>n,fun|23=>28|25=>3|3=>3|32=>49|22=>28|0=>0|44=>282|46=>285|4=>4|36=>366|35=>365|41=>147|5=>5|9=>9|53=>390|57=>394|63=>400|64=>196|n=>n,fun|n=>n⟩
theorem Tryz.sortA:Go.Proofs.SlLaysM.n5 Tryz.prog Tryz.sortA_ren:={
 mixed:=by kernel_rfl
 f5:=⟨Tryz.f208.name,by decide,Tryz.func208.trans (congrArg some (by kernel_rfl))⟩
 f7:=⟨Tryz.f250.name,by decide,Tryz.func250.trans (congrArg some (by kernel_rfl))⟩
 f8:=Tryz.func251.trans (congrArg some (by kernel_rfl))
 f10:=⟨Tryz.f291.name,by decide,Tryz.func291.trans (congrArg some (by kernel_rfl))⟩
 f11:=⟨Tryz.f292.name,by decide,Tryz.func292.trans (congrArg some (by kernel_rfl))⟩
 f12:=⟨Tryz.f293.name,by decide,Tryz.func293.trans (congrArg some (by kernel_rfl))⟩
 f13:=⟨Tryz.f294.name,by decide,Tryz.func294.trans (congrArg some (by kernel_rfl))⟩
 f14:=⟨Tryz.f295.name,by decide,Tryz.func295.trans (congrArg some (by kernel_rfl))⟩
 f15:=⟨Tryz.f296.name,by decide,Tryz.func296.trans (congrArg some (by kernel_rfl))⟩
 f16:=⟨Tryz.f297.name,by decide,Tryz.func297.trans (congrArg some (by kernel_rfl))⟩
 f17:=⟨Tryz.f298.name,by decide,Tryz.func298.trans (congrArg some (by kernel_rfl))⟩
 f18:=⟨Tryz.f299.name,by decide,Tryz.func299.trans (congrArg some (by kernel_rfl))⟩
 f19:=Tryz.func300.trans (congrArg some (by kernel_rfl))
 f20:=Tryz.func301.trans (congrArg some (by kernel_rfl))
 f30:=⟨Tryz.f325.name,by decide,Tryz.func325.trans (congrArg some (by kernel_rfl))⟩
 f31:=Tryz.func326.trans (congrArg some (by kernel_rfl))
 f32:=Tryz.func327.trans (congrArg some (by kernel_rfl))
 f33:=⟨Tryz.f328.name,by decide,Tryz.func328.trans (congrArg some (by kernel_rfl))⟩
 f34:=⟨Tryz.f329.name,by decide,Tryz.func329.trans (congrArg some (by kernel_rfl))⟩
 f35:=⟨Tryz.f330.name,by decide,Tryz.func330.trans (congrArg some (by kernel_rfl))⟩
 f40:=⟨Tryz.f341.name,by decide,Tryz.func341.trans (congrArg some (by kernel_rfl))⟩
 t0:=Tryz.underlying0
 a0:=Tryz.isAgg0
 z0:=Tryz.sizeOf0
 v0:=Tryz.zeroValue0
 t3:=Tryz.underlying3
 a3:=Tryz.isAgg3
 z3:=Tryz.sizeOf3
 v3:=Tryz.zeroValue3
 t4:=Tryz.underlying4
 a4:=Tryz.isAgg4
 z4:=Tryz.sizeOf4
 v4:=Tryz.zeroValue4
 t5:=Tryz.underlying5
 a5:=Tryz.isAgg5
 z5:=Tryz.sizeOf5
 v5:=Tryz.zeroValue5
 t9:=Tryz.underlying9
 a9:=Tryz.isAgg9
 z9:=Tryz.sizeOf9
 v9:=Tryz.zeroValue9
 t22:=Tryz.underlying28
 a22:=Tryz.isAgg28
 z22:=Tryz.sizeOf28
 v22:=Tryz.zeroValue28
 t23:=Tryz.underlying28
 a23:=Tryz.isAgg28
 z23:=Tryz.sizeOf28
 v23:=Tryz.zeroValue28
 t25:=Tryz.underlying3
 a25:=Tryz.isAgg3
 z25:=Tryz.sizeOf3
 v25:=Tryz.zeroValue3
 t32:=Tryz.underlying49
 a32:=Tryz.isAgg49
 z32:=Tryz.sizeOf49
 v32:=Tryz.zeroValue49
 t35:=Tryz.underlying365
 a35:=Tryz.isAgg365
 z35:=Tryz.sizeOf365
 v35:=Tryz.zeroValue365
 t36:=Tryz.underlying366
 a36:=Tryz.isAgg366
 z36:=Tryz.sizeOf366
 v36:=Tryz.zeroValue366
 t41:=Tryz.underlying147
 a41:=Tryz.isAgg147
 z41:=Tryz.sizeOf147
 v41:=Tryz.zeroValue147
 t44:=Tryz.underlying282
 a44:=Tryz.isAgg282
 z44:=Tryz.sizeOf282
 v44:=Tryz.zeroValue282
 t46:=Tryz.underlying285
 a46:=Tryz.isAgg285
 z46:=Tryz.sizeOf285
 v46:=Tryz.zeroValue285
 t53:=Tryz.underlying390
 a53:=Tryz.isAgg390
 z53:=Tryz.sizeOf390
 v53:=Tryz.zeroValue390
 t57:=Tryz.underlying394
 a57:=Tryz.isAgg394
 z57:=Tryz.sizeOf394
 v57:=Tryz.zeroValue394
 t63:=Tryz.underlying400
 a63:=Tryz.isAgg400
 z63:=Tryz.sizeOf400
 v63:=Tryz.zeroValue400
 t64:=Tryz.underlying196
 a64:=Tryz.isAgg196
 z64:=Tryz.sizeOf196
 v64:=Tryz.zeroValue196 }
theorem Tryz.sortsA (m:Nat):AnyZI.SortsIn Tryz.prog Tryz.sortedA_ren Fence.wide m:=
  ⟨fun blk off cap ss W hH hblk hsz => callsIn_wide.2 (AnyM.slices_Sort_int Tryz.sortA blk off cap ss W hH hblk hsz),
   fun p cap W=>callsIn_wide.2 (AnyM.slices_Sort_int_none Tryz.sortA p cap W)⟩
end Go.Proofs
namespace Go.Proofs.YtoiakijmbghhlaaGreat
open Go.RowKit Go.Maps Go.Sort Go.Shelf
theorem keysM (mb:Option Nat) (w:World):Calls Tryz.prog 139 #[.map mb] w fun e w'=>e=.returned (.func (.func 209) #[] #[.pointer (some ⟨w.heap.size,0,none⟩)])/\w'=w.alloc (.cells #[.map mb] 223):=
 (callsIn_wide (n:=5)).1 (AnyZI.keys_in Tryz.keysA Fence.wide 5 trivial rfl mb w)
theorem sortedM (Bm b nn:Nat) (D0:DataW Unit) (w:World) (hm:w.cell? ⟨Bm,0,none⟩=some (.map (some b))) (hown:w.ownsMap Tryz.prog 3 elB b nn D0) (hmax:Maps.size D0<=maxLen) (hbytes:Maps.size D0*8<=140737488355328) :
  Calls Tryz.prog 138 #[.func (.func 209) #[] #[.pointer (some ⟨Bm,0,none⟩)]] w fun e w'=>∃ (v:Value) (ss:List Int),e=.returned v/\ss.Perm (intKeys D0) /\
   w'.ownsRow w.heap.size 3 1 v ss.length ((ss.mergeSort (fun x y=>decide (x<=y))).map encZ)/\(v=.slice none 0 0↔ss = [])/\Below w.heap.size w w':=by
 refine (callsIn_wide (n:=5)).1 ?_
 have hseq:SeqGives Fence.wide 2 Tryz.prog 209 #[.pointer (some ⟨Bm,0,none⟩)] encZ (fun ss=>ss.Perm (intKeys D0)) (Maps.size D0) w:=
  AnyZI.keys_gives (ρ:=Tryz.keysA_ren) { Tryz.keysA with } Fence.wide _ trivial rfl om Bm b nn D0 _ (World.block_lt_of_cell? _ _ hm) hm hown
 exact AnyZI.sorted_in Tryz.sortedA Fence.wide 5 trivial trivial trivial trivial rfl om (Tryz.sortsA _) (enters_of Tryz.func208 (by kernel_rfl) rfl) 209 #[.pointer (some ⟨Bm,0,none⟩)] trivial (enters_of Tryz.func209 (by kernel_rfl) rfl) _ _ hmax hbytes _ hseq
theorem flat_ints:∀ l:List Int,l.flatMap eInt=l.map (Value.int .i64)
 | []=>rfl
 | x :: r=>by rw [List.flatMap_cons,flat_ints r];rfl
theorem asc_of {xs:List Int} (hn:xs.Nodup) (hs:xs.Pairwise (fun a b=>decide (a<=b)=true)):xs.Pairwise (· < ·):=by
 refine (hs.and hn).imp fun {a b} h=>?_
 have h1:a<=b:=by simpa using h.1
 have h2:a≠b:=h.2
 omega
theorem sorted_own (Bm b n:Nat) (D:DataW Unit) (w:World) (hm:w.cell? ⟨Bm,0,none⟩=some (.map (some b))) (hD:w.ownsMap Tryz.prog 3 elB b n D) (hn:n<=1000000) :
  Calls Tryz.prog 138 #[.func (.func 209) #[] #[.pointer (some ⟨Bm,0,none⟩)]] w fun e w'=>(∃ (v:Value) (xs:List Int),e=.returned v/\Own w.heap.size 3 eInt 1 w' v xs/\xs.Pairwise (· < ·)/\(∀ x,x∈xs↔Maps.has D (.int .i64 x)=true)/\xs.length=Maps.size D)/\Below w.heap.size w w':=by
 have hsz:=hD.size_le
 obtain ⟨k1,k2,k3⟩:=own_keys hD
 refine (sortedM Bm b n D w hm hD (by simp only [maxLen];omega) om).mono ?_
 rintro e w' ⟨v,ss,rfl,hp,ho,_,hb⟩
 have hpm:=List.mergeSort_perm ss (fun x y=>decide (x<=y))
 have hpa:=hpm.trans hp
 refine ⟨⟨v,ss.mergeSort (fun x y=>decide (x<=y)),rfl,?_,asc_of (hpa.nodup_iff.2 k1) ?_,fun x=>?_,?_⟩,hb⟩
 ·unfold Own
  rw [hpm.length_eq]
  rw [flat_ints];exact ho
 ·exact List.pairwise_mergeSort (fun a b c h1 h2=>by simp only [decide_eq_true_eq] at *;omega) (fun a b=>by simp only [Bool.or_eq_true,decide_eq_true_eq];omega) ss
 ·rw [hpa.mem_iff,k2]
 ·rw [hpa.length_eq,k3]
end Go.Proofs.YtoiakijmbghhlaaGreat
