/- Maps whose keys are strings and whose values are numbers, as functions of the key. No function of the program is named. Conditions: none. | planner.Solve at a small plan. Conditions: the plan lies in memory. | Rows that are made one behind the other; lists that lie in a block. No function is named.  | rules: within, valid, Valid. Conditions: the rules read as data. -/
import Derived.Test.YtoiakijmbghhlaaGreatS13
import Derived.Test.YtoiakijmbghhlaaGreatS16
import Derived.Test.YtoiakijmbghhlaaGreatS09
import Derived.Test.YtoiakijmbghhlaaGreatS14
set_option linter.unusedVariables false
set_option linter.unusedSimpArgs false
set_option maxRecDepth 100000
set_option maxHeartbeats 32000000
namespace Go.Proofs.YtoiakijmbghhlaaGreat
open Go.RowKit Go.Maps
theorem undMSI:Tryz.prog.underlying 216=some (.map 9 3):=by kernel_rfl
theorem strB_eq {a b:ByteArray}:strB a b=true↔a=b:=by
 rw [strB_iff]
 constructor
 ·intro h
  rw [Lib.toList_data,Lib.toList_data] at h
  cases a;cases b
  simp only at h
  congr 1
  exact Array.ext' h
 ·rintro rfl;rfl
def MapS (w:World) (b n:Nat) (f:ByteArray->Option Int):Prop:=
 ∃ D:DataW Unit,w.ownsMap Tryz.prog 9 elI b n D/\∀ k,Maps.has D (kS k)=(f k).isSome/\∀ y,f k=some y->D.atKey (kS k) (.lit (.int .i64 0))=.lit (.int .i64 y)
theorem MapS.below {w w':World} {b n:Nat} {f:ByteArray->Option Int} (h:MapS w b n f) (hb:Below w.heap.size w w'):MapS w' b n f:=by
 obtain ⟨D,h1,h2⟩:=h
 exact ⟨D,h1.kept (grown_none hb none) (by simp),h2⟩
theorem MapS.kept {w w':World} {b n:Nat} {f:ByteArray->Option Int} {row:Option Nat} (h:MapS w b n f) (hg:w.grownBy w' row) (hne:some b≠row):MapS w' b n f:=by
 obtain ⟨D,h1,h2⟩:=h
 exact ⟨D,h1.kept hg hne,h2⟩
theorem MapS.lt {w:World} {b n:Nat} {f:ByteArray->Option Int} (h:MapS w b n f):b<w.heap.size:=by
 obtain ⟨D,h1,_⟩:=h
 exact h1.lt
theorem MapS.made (w:World):MapS (w.alloc (.map #[] 0)) w.heap.size 0 (fun _=>none):=
 ⟨.map [],World.ownsMap_made _ _ _ _,fun k=>⟨rfl,fun y h=>by cases h⟩⟩
def setFS (f:ByteArray->Option Int) (k:ByteArray) (y:Int):ByteArray->Option Int:=fun j=>if j=k then some y else f j
theorem MapS.put {w':World} {b n:Nat} {f:ByteArray->Option Int} {D:DataW Unit} {k:ByteArray} {y:Int} (hm:IsMap D) (h2:∀ k,Maps.has D (kS k)=(f k).isSome/\∀ y,f k=some y->D.atKey (kS k) (.lit (.int .i64 0))=.lit (.int .i64 y))
  (h1:w'.ownsMap Tryz.prog 9 elI b (n+1) (D.put (kS k) (.lit (.int .i64 y)))):MapS w' b (n+1) (setFS f k y):=by
 refine ⟨_,h1,fun j=>?_⟩
 unfold setFS
 by_cases hj:j=k
 ·subst hj
  rw [if_pos rfl]
  refine ⟨has_put_same hm (keyLitS j) _,fun z hz=>?_⟩
  rw [atKey_put_same hm (keyLitS j)]
  cases hz;rfl
 ·rw [if_neg hj]
  have hne:kS j≠kS k:=fun e=>hj (kS_inj e)
  refine ⟨(has_put_other hne _).trans (h2 j).1,fun z hz=>?_⟩
  rw [atKey_put_other hne]
  exact (h2 j).2 z hz
theorem MapS.upd {w:World} {b n:Nat} {f:ByteArray->Option Int} (h:MapS w b n f) (hn:n<maxLen) {k:ByteArray} {y:Int} (hk:k.size<=maxLen) (hy:(Lit.int .i64 y).wf=true) :
  ∃ w',(Instr.mapUpdate 216 (.map (some b)) (.string k) (.int .i64 y)).run Tryz.prog w=.ok () w'/\MapS w' b (n+1) (setFS f k y)/\w.grownBy w' (some b):=by
 obtain ⟨D,hD,hf⟩:=h
 obtain ⟨w',h1,h2,h3⟩:=hD.update kStr undMSI hn (keyS hk) (plainElem_int undI hy)
 exact ⟨w',h1,MapS.put hD.isMap hf h2,h3⟩
theorem MapS.look2 {w:World} {b n:Nat} {f:ByteArray->Option Int} (h:MapS w b n f) {k:ByteArray} (hk:k.size<=maxLen) :
  (Instr.lookup 216 (.map (some b)) (.string k) true).run Tryz.prog w=.ok (.tuple #[.int .i64 ((f k).getD 0),.bool (f k).isSome]) w:=by
 obtain ⟨D,hD,hf⟩:=h
 obtain ⟨v,ps,hrun,hv⟩:=hD.look_ok kStr undMSI (zeroI w) (zd:=.lit (.int .i64 0)) (zp:=[]) (plainElem_int undI (by decide)) (keyS hk)
 obtain ⟨c,rfl,hc,_⟩:=plainElem_int_inv undI hv
 have hc:=congrArg Prod.fst hc
 simp only at hc
 suffices hcc:c=(f k).getD 0 by rw [hrun,(hf k).1,hcc]
 clear hrun
 cases hn:f k with
 | none=>
  have hh:Maps.has D (kS k)=false:=by rw [(hf k).1,hn];rfl
  rw [atKey_of_not_has hh] at hc
  exact (lit_inj hc).symm
 | some y=>
  rw [(hf k).2 y hn] at hc
  exact (lit_inj hc).symm
theorem MapS.look {w:World} {b n:Nat} {f:ByteArray->Option Int} (h:MapS w b n f) {k:ByteArray} (hk:k.size<=maxLen) :
  (Instr.lookup 216 (.map (some b)) (.string k) false).run Tryz.prog w=.ok (.int .i64 ((f k).getD 0)) w:=by
 obtain ⟨D,hD,hf⟩:=h
 obtain ⟨v,ps,hrun,hv⟩:=hD.lookup kStr undMSI (zeroI w) (zd:=.lit (.int .i64 0)) (zp:=[]) (plainElem_int undI (by decide)) (keyS hk)
 obtain ⟨c,rfl,hc,_⟩:=plainElem_int_inv undI hv
 have hc:=congrArg Prod.fst hc
 simp only at hc
 suffices hcc:c=(f k).getD 0 by rw [hrun,hcc]
 clear hrun
 cases hn:f k with
 | none=>
  have hh:Maps.has D (kS k)=false:=by rw [(hf k).1,hn];rfl
  rw [atKey_of_not_has hh] at hc
  exact (lit_inj hc).symm
 | some y=>
  rw [(hf k).2 y hn] at hc
  exact (lit_inj hc).symm
def MapIB (w:World) (b n:Nat):Prop:=∃ D:DataW Unit,w.ownsMap Tryz.prog 3 elB b n D
theorem MapIB.made (w:World):MapIB (w.alloc (.map #[] 0)) w.heap.size 0:=⟨.map [],World.ownsMap_made _ _ _ _⟩
theorem MapIB.kept {w w':World} {b n:Nat} {row:Option Nat} (h:MapIB w b n) (hg:w.grownBy w' row) (hne:some b≠row):MapIB w' b n:=by
 obtain ⟨D,h1⟩:=h
 exact ⟨D,h1.kept hg hne⟩
theorem MapIB.below {w w':World} {b n:Nat} (h:MapIB w b n) (hb:Below w.heap.size w w'):MapIB w' b n:=h.kept (grown_none hb none) (by simp)
theorem MapIB.look {w:World} {b n:Nat} (h:MapIB w b n) {k:Int} (hk:(Lit.int .i64 k).wf=true) :
  ∃ c:Bool,(Instr.lookup 223 (.map (some b)) (.int .i64 k) false).run Tryz.prog w=.ok (.bool c) w:=by
 obtain ⟨D,hD⟩:=h
 obtain ⟨v,ps,hrun,hv⟩:=hD.lookup kInt undMIB (zeroB w) (zd:=.lit (.bool false)) (zp:=[]) (plainElem_bool undB false) (keyI hk)
 obtain ⟨c,rfl,-⟩:=plainElem_bool_inv hv
 exact ⟨c,hrun⟩
theorem MapIB.upd {w:World} {b n:Nat} (h:MapIB w b n) (hn:n<maxLen) {k:Int} (hk:(Lit.int .i64 k).wf=true) (y:Bool) :
  ∃ w',(Instr.mapUpdate 223 (.map (some b)) (.int .i64 k) (.bool y)).run Tryz.prog w=.ok () w'/\MapIB w' b (n+1)/\w.grownBy w' (some b):=by
 obtain ⟨D,hD⟩:=h
 obtain ⟨w',h1,h2,h3⟩:=hD.update kInt undMIB hn (keyI hk) (plainElem_bool undB y)
 exact ⟨w',h1,⟨_,h2⟩,h3⟩
end Go.Proofs.YtoiakijmbghhlaaGreat
namespace Go.Proofs.YtoiakijmbghhlaaGreat
open Go.RowKit
abbrev exP (ai al at':Option Addr):PlD:=⟨5,10,0,⟨ai,1,[3]⟩,⟨al,2,[0,4]⟩,⟨at',1,[⟨0,2⟩]⟩,1⟩
theorem ex_ok (ai al at':Option Addr):planB (exP ai al at')=true:=rfl
theorem ex_V (ai al at':Option Addr):Pn.V (plOf (exP ai al at')) [3] 5=some 2:=rfl
theorem ex_rels (ai al at':Option Addr):rels (exP ai al at') = [0]:=rfl
theorem ex_fits (ai al at':Option Addr):Fits (exP ai al at'):=by
 have s0:Pn.stepP (plOf (exP ai al at')) 5 3 0=some (8,2):=rfl
 have s1:Pn.stepP (plOf (exP ai al at')) 5 3 1=some (4,2):=rfl
 refine ⟨[[5],[4,8]],⟨by decide,rfl,fun j hj=>?_,fun r hr=>?_,fun r hr v hv=>?_⟩,rfl⟩
 ·have hj0:j=0:=by simp at hj;omega
  subst hj0
  refine ⟨by simp,fun x=>?_⟩
  show x∈[4,8]↔RchS (exP ai al at') 3 [5] x
  constructor
  ·intro h
   rcases List.mem_cons.1 h with rfl|h
   ·exact ⟨5,by simp,1,(show (1:Nat)<2 by decide),2,s1⟩
   ·rw [List.mem_singleton] at h
    subst h
    exact ⟨5,by simp,0,(show (0:Nat)<2 by decide),2,s0⟩
  ·rintro ⟨v,hv,k,hk,c,hc⟩
   rw [List.mem_singleton] at hv
   subst hv
   have hk2:k<2:=hk
   have:k=0\/k=1:=by omega
   rcases this with rfl|rfl
   ·rw [s0] at hc;cases hc;simp
   ·rw [s1] at hc;cases hc;simp
 ·simp at hr
  rcases hr with rfl|rfl <;> simp
 ·simp at hr
  rcases hr with rfl|rfl <;> simp at hv
  ·subst hv;exact (show (0:Int)<=5/\(5:Int)<=10 by decide)
  ·rcases hv with rfl|rfl
   ·exact (show (0:Int)<=4/\(4:Int)<=10 by decide)
   ·exact (show (0:Int)<=8/\(8:Int)<=10 by decide)
theorem psolve_ex (ai al at':Option Addr) (w:World) (hg:gPl w (exP ai al at')):Calls Tryz.prog 19 #[vPl (exP ai al at')] w fun e w'=>(∃ a c,e=.returned (.tuple #[.int .i64 2,.slice a 1 c,.int .i64 0])/\IsInts w' (.slice a 1 c) [0])/\Below w.heap.size w w':=
 (psolve_any _ w hg).mono fun e w' h=>by
  obtain ⟨⟨v,rfl,hv⟩,hb⟩:=h
  cases hv with
  | bad h=>rw [ex_ok] at h;cases h
  | limit _ h=>exact absurd (ex_fits ai al at') h
  | none _ _ h=>rw [ex_V] at h;cases h
  | ok m u _ _ h hu=>
   rw [ex_V] at h
   cases h
   rw [ex_rels] at hu
   have hu':=hu
   obtain ⟨a,c,rfl,_⟩:=hu
   exact ⟨⟨a,c,rfl,hu'⟩,hb⟩
def allocs:World->List (Array Value×TypeId)->World
 | w,[]=>w
 | w,x :: l=>allocs (w.alloc (.cells x.1 x.2)) l
theorem allocs_below:∀ (l:List (Array Value×TypeId)) (w:World),Below w.heap.size w (allocs w l)
 | [],w=>qr
 | x :: l,w=>by
  have h:=allocs_below l (w.alloc (.cells x.1 x.2))
  exact (qr.alloc (Nat.le_refl _) _).trans (h.mono (by simp))
theorem allocs_at:∀ (l:List (Array Value×TypeId)) (w:World) (i:Nat) (h:i<l.length),(allocs w l).heap[w.heap.size+i]? = some (.cells l[i].1 l[i].2 (0,0))
 | x :: l,w,0,_=>by
  have h:=allocs_below l (w.alloc (.cells x.1 x.2))
  exact (h.block w.heap.size (by simp)).trans (heap_alloc_new w _)
 | x :: l,w,i+1,hi=>by
  have h:=allocs_at l (w.alloc (.cells x.1 x.2)) i (by simpa using hi)
  rw [show (w.alloc (.cells x.1 x.2)).heap.size+i=w.heap.size+(i+1) from by simp;omega] at h
  exact h
theorem isC_blk {α:Type} {enc:α->List Value} {k:Nat} {W:World} {b:Nat} {xs:List α} {cs:Array Value} {T:TypeId} (hk:∀ x,(enc x).length=k) (hcs:cs=(xs.flatMap enc).toArray) (h:W.heap[b]? = some (.cells cs T (0,0))):IsC enc k W (some ⟨b,0,none⟩) xs:=by
 intro i hi
 refine ⟨b,0,rfl,fun j hj=>?_⟩
 rw [tank_blk h,hcs,Nat.zero_add,List.getElem?_toArray]
 exact flat_get enc k hk xs i j hi hj
theorem isL_blk {α:Type} {enc:α->List Value} {k:Nat} {W:World} {b:Nat} {xs:List α} {cs:Array Value} {T:TypeId} (hk:∀ x,(enc x).length=k) (hcs:cs=(xs.flatMap enc).toArray) (h:W.heap[b]? = some (.cells cs T (0,0))) (hl:xs.length<=9223372036854775807):IsL enc k W (.slice (some ⟨b,0,none⟩) xs.length xs.length) xs:=
 ⟨_,_,rfl,Nat.le_refl _,hl,isC_blk hk hcs h⟩
theorem gSl_blk {α:Type} {enc:α->List Value} {k:Nat} {W:World} {b:Nat} {xs:List α} {cs:Array Value} {T:TypeId} {good:World->α->Prop} (hk:∀ x,(enc x).length=k) (hcs:cs=(xs.flatMap enc).toArray) (h:W.heap[b]? = some (.cells cs T (0,0))) (hl:xs.length<=9223372036854775807) (hg:∀ x∈xs,good W x):gSl enc k good W ⟨some ⟨b,0,none⟩,xs.length,xs⟩:=
 ⟨Nat.le_refl _,hl,isC_blk hk hcs h,hg⟩
theorem ruwithin_any (n lo hi:Int) (w:World):Calls Tryz.prog 185 #[.int .i64 n,.int .i64 lo,.int .i64 hi] w fun e w'=>e=.returned (.bool (btwB n lo hi))/\w'=w:=by
 by_cases h1:lo<=n <;> by_cases h2:n<=hi
 all_goals
  go_enter Tryz.func185,Tryz.ntmps185
  go_wp2_with fail
  go_ret
  exact ⟨ret_bool (by simp [btwB,h1,h2]),rfl⟩
theorem ruwithin_lit {n lo hi:Int} {b:Bool} (h:btwB n lo hi=b) (w:World):Calls Tryz.prog 185 #[.int .i64 n,.int .i64 lo,.int .i64 hi] w fun e w'=>e=.returned (.bool b)/\w'=w:=by
 rw [<-h];exact ruwithin_any n lo hi w
theorem isNm_lit {s:ByteArray} {b:Bool} (h:nameB s=b) (w:World) (hs:s.size<=maxLen):Calls Tryz.prog 183 #[.string s] w fun e w'=>e=.returned (.bool b)/\w'=w:=by
 rw [<-h];exact isName_any s w hs
theorem ruvalid0_any (r:RuD) (w:World) (hg:gRu w r):Calls Tryz.prog 121 #[vRu r] w fun e w'=>(∃ b:Bool,e=.returned (.bool b))/\Below w.heap.size w w':=by
 obtain ⟨W,hW⟩:∃ W,W=allocs w [((eRu r).toArray,117)]:=⟨_,rfl⟩
 have hbw:Below w.heap.size w W:=by rw [hW];exact allocs_below _ _
 have t0:W.heap[w.heap.size]? = some (.cells (eRu r).toArray 117 (0,0)):=by rw [hW];exact allocs_at [((eRu r).toArray,117)] w 0 (by simp)
 have HW:Hid (W=w.alloc (.cells (eRu r).toArray 117)):=qh hW
 have q0:W.cell? ⟨w.heap.size,0,none⟩=some (.string r.N):=(tank_blk t0 0).trans rfl
 have q1:W.cell? ⟨w.heap.size,1,none⟩=some (.slice r.W.a r.W.xs.length r.W.cap):=(tank_blk t0 1).trans rfl
 have q2:W.cell? ⟨w.heap.size,2,none⟩=some (.string r.L):=(tank_blk t0 2).trans rfl
 have q3:W.cell? ⟨w.heap.size,3,none⟩=some (.int .i64 r.S):=(tank_blk t0 3).trans rfl
 have HG:=qh (rdRu.mono hg hbw)
 obtain ⟨b1,h1⟩:∃ b,nameB r.N=b:=⟨_,rfl⟩
 obtain ⟨b2,h2⟩:∃ b,nameB r.L=b:=⟨_,rfl⟩
 obtain ⟨b4,h4⟩:∃ b,btwB r.S 0 1000=b:=⟨_,rfl⟩
 have c1:=fun W=>isNm_lit h1 W hg.n
 have c2:=fun W=>isNm_lit h2 W hg.l
 have c4:=fun W=>ruwithin_lit h4 W
 obtain ⟨m,hm⟩:∃ m,m=r.W.xs.length:=⟨_,rfl⟩
 have HM:=qh hm
 have HMB:Hid (m<9223372036854775808):=qh (by have h1:=hg.w.1;have h2:=hg.w.2.1;omega)
 rw [<-hm] at q1
 clear hW t0 hg hm h1 h2 h4
 simp only [vRu,vSl]
 go_enter Tryz.func121,Tryz.ntmps121
 go_upto_region 1 with (fail)
 first|rw [HM.out,<-HW.out]|rw [<-HW.out]
 clear HW
 cases b1
 ·go_wp2_with fail
  refine (c1 _).mono ?_
  rintro _ wz ⟨rfl,hwz⟩
  have hwz:=hwz.symm
  subst hwz
  go_wp2_with fail
  go_ret
  exact ⟨⟨_,rfl⟩,hbw⟩
 cases b2
 ·go_wp2_with fail
  refine (c1 _).mono ?_
  rintro _ wz ⟨rfl,hwz⟩
  have hwz:=hwz.symm
  subst hwz
  go_wp2_with fail
  refine (c2 _).mono ?_
  rintro _ wz ⟨rfl,hwz⟩
  have hwz:=hwz.symm
  subst hwz
  go_wp2_with fail
  go_ret
  exact ⟨⟨_,rfl⟩,hbw⟩
 by_cases h20:20<m
 ·have i1:decide (20<m)=true:=decide_eq_true h20
  have i2:decide ((20:Int)<m)=true:=decide_eq_true om
  go_wp2_with fail
  refine (c1 _).mono ?_
  rintro _ wz ⟨rfl,hwz⟩
  have hwz:=hwz.symm
  subst hwz
  go_wp2_with fail
  refine (c2 _).mono ?_
  rintro _ wz ⟨rfl,hwz⟩
  have hwz:=hwz.symm
  subst hwz
  go_wp2_with fail
  go_ret
  exact ⟨⟨_,rfl⟩,hbw⟩
 have i1:decide (20<m)=false:=decide_eq_false h20
 have i2:decide ((20:Int)<m)=false:=decide_eq_false om
 cases b4
 ·go_wp2_with fail
  refine (c1 _).mono ?_
  rintro _ wz ⟨rfl,hwz⟩
  have hwz:=hwz.symm
  subst hwz
  go_wp2_with fail
  refine (c2 _).mono ?_
  rintro _ wz ⟨rfl,hwz⟩
  have hwz:=hwz.symm
  subst hwz
  go_wp2_with fail
  refine (c4 _).mono ?_
  rintro _ wz ⟨rfl,hwz⟩
  have hwz:=hwz.symm
  subst hwz
  go_wp2_with fail
  go_ret
  exact ⟨⟨_,rfl⟩,hbw⟩
 go_wp2_with fail
 refine (c1 _).mono ?_
 rintro _ wz ⟨rfl,hwz⟩
 have hwz:=hwz.symm
 subst hwz
 go_wp2_with fail
 refine (c2 _).mono ?_
 rintro _ wz ⟨rfl,hwz⟩
 have hwz:=hwz.symm
 subst hwz
 go_wp2_with fail
 refine (c4 _).mono ?_
 rintro _ wz ⟨rfl,hwz⟩
 have hwz:=hwz.symm
 subst hwz
 go_wp2_with fail
 clear i1 i2 c1 c2 c4
 go_loopw [30] (fun s30 wr=>∃ k:Nat,k<=m/\s30=.int .i64 k/\Below W.heap.size W wr) (fun s30 _=>m-(RowKit.intOf s30).toNat)
 case atStart=>exact ⟨0,Nat.zero_le _,rfl,qr⟩
 case round=>
  obtain ⟨k,hk,rfl,hb⟩:=hrel
  have hbr:=hbw.trans (hb.mono hbw.size)
  by_cases hkm:k<m
  ·have hkn:k<r.W.xs.length:=by rw [<-HM.out];exact hkm
   have gW:=rdRu.mono HG.out hb
   obtain ⟨bn,off,ea,d0,d1,d2⟩:=(gW.w.2.2.1).co k hkn
   have gc:=gW.w.2.2.2 _ (List.getElem_mem hkn)
   obtain ⟨c,hc⟩:∃ c,c=r.W.xs[k]'hkn:=⟨_,rfl⟩
   rw [<-hc] at d0 d1 d2 gc
   have i1:decide (k<m)=true:=decide_eq_true hkm
   have x7:IntKind.i64.wrap ((k:Int)+1)=k+1:=IntWalk.i64_in _ (by have:=HMB.out;omega)
   have i4:(0:Int)<=k:=by omega
   have i5:(k:Int)<m:=by omega
   obtain ⟨b1,h1⟩:∃ b,nameB c.N=b:=⟨_,rfl⟩
   obtain ⟨b4,h4⟩:∃ b,btwB c.L (-4194304) 4194304=b:=⟨_,rfl⟩
   have c1:=fun W=>isNm_lit h1 W gc.n
   have c4:=fun W=>ruwithin_lit h4 W
   have q1:=cel_lt q1 hb
   rw [ea] at q1
   obtain ⟨W2,hW2⟩:∃ W2,W2=wr.alloc (.cells (eCo c).toArray 270):=⟨_,rfl⟩
   have hbA:Below wr.heap.size wr W2:=by rw [hW2];exact alloc_below _ _
   obtain ⟨k0,k1,k2⟩:=bxCo wr W2 270 c _ rfl _ rfl (by rw [hW2];exact qr)
   have HW2:=qh hW2
   have hbr2:=hbr.trans (hbA.mono hbr.size)
   have hb2:=hb.trans (hbA.mono hb.size)
   have EA:=qh ea
   have HKM:=qh hkm
   clear hc hW2 hkn h1 h4 gc gW hkm
   obtain ⟨wo,hwo⟩:∃ wo,wo=wr:=⟨_,rfl⟩
   subst hwo
   go_upto_region 6 with (fail)
   rw [<-HW2.out]
   clear HW2 d0 d1 d2 q1 hb hbr
   cases b1
   ·go_wp2_with fail
    refine (c1 _).mono ?_
    rintro _ wz ⟨rfl,hwz⟩
    have hwz:=hwz.symm
    subst hwz
    go_wp2_with fail
    go_ret
    exact ⟨⟨_,rfl⟩,hbr2⟩
   cases b4
   ·go_wp2_with fail
    refine (c1 _).mono ?_
    rintro _ wz ⟨rfl,hwz⟩
    have hwz:=hwz.symm
    subst hwz
    go_wp2_with fail
    refine (c4 _).mono ?_
    rintro _ wz ⟨rfl,hwz⟩
    have hwz:=hwz.symm
    subst hwz
    go_wp2_with fail
    go_ret
    exact ⟨⟨_,rfl⟩,hbr2⟩
   go_wp2_with fail
   refine (c1 _).mono ?_
   rintro _ wz ⟨rfl,hwz⟩
   have hwz:=hwz.symm
   subst hwz
   go_wp2_with fail
   refine (c4 _).mono ?_
   rintro _ wz ⟨rfl,hwz⟩
   have hwz:=hwz.symm
   subst hwz
   go_wp2_with fail
   clear ea
   first|rw [<-EA.out]|skip
   go_roundw
   case measure=>have:=HKM.out;simp [RowKit.intOf,x7];omega
   case rel=>exact ⟨k+1,HKM.out,by go_num,hb2⟩
  ·have i1:decide (k<m)=false:=decide_eq_false hkm
   go_wp2_with fail
   go_ret
   exact ⟨⟨_,rfl⟩,hbr⟩
theorem ruvalid_any (rs:Sl RuD) (w:World) (hg:gRus w rs):Calls Tryz.prog 54 #[vSl rs] w fun e w'=>(∃ b:Bool,e=.returned (.bool b))/\Below w.heap.size w w':=by
 have hmm:=@run_makeMap Tryz.prog
 have HG:=qh hg
 obtain ⟨n,hn⟩:∃ n,n=rs.xs.length:=⟨_,rfl⟩
 have HN:=qh hn
 simp only [vSl]
 rw [<-hn]
 clear hn hg
 by_cases h60:60<n
 ·have i1:decide (60<n)=true:=decide_eq_true h60
  have i2:decide ((60:Int)<n)=true:=decide_eq_true om
  go_enter Tryz.func54,Tryz.ntmps54
  go_wp2_with fail
  go_ret
  exact ⟨⟨_,rfl⟩,(bl)⟩
 have i1:decide (60<n)=false:=decide_eq_false h60
 have i2:decide ((60:Int)<n)=false:=decide_eq_false om
 have hb0:Below w.heap.size w (w.alloc (.map #[] 0)):=qr.alloc (Nat.le_refl _) _
 have HS0:Hid (∃ s,SetS (w.alloc (.map #[] 0)) w.heap.size 0 s):=qh ⟨_,SetS.made w⟩
 go_enter Tryz.func54,Tryz.ntmps54
 go_wp2_with fail
 clear i1 i2
 go_loopw [12] (fun s12 wr=>∃ k:Nat,k<=n/\s12=.int .i64 k/\Below w.heap.size w wr/\Hid (∃ s,SetS wr w.heap.size k s)) (fun s12 _=>n-(RowKit.intOf s12).toNat)
 case atStart=>exact ⟨0,Nat.zero_le _,rfl,hb0,HS0⟩
 case round=>
  obtain ⟨k,hk,rfl,hb,hS⟩:=hrel
  by_cases hkn:k<n
  ·have hks:k<rs.xs.length:=by rw [<-HN.out];exact hkn
   have gW:=rdRus.mono HG.out hb
   obtain ⟨bn,off,ea,d0,d1,d2,d3⟩:=(gW.2.2.1).ru k hks
   have gr:=gW.2.2.2 _ (List.getElem_mem hks)
   obtain ⟨r,hr⟩:∃ r,r=rs.xs[k]'hks:=⟨_,rfl⟩
   rw [<-hr] at d0 d1 d2 d3 gr
   have i1:decide (k<n)=true:=decide_eq_true hkn
   have x7:IntKind.i64.wrap ((k:Int)+1)=k+1:=IntWalk.i64_in _ om
   have i4:(0:Int)<=k:=by omega
   have i5:(k:Int)<n:=by omega
   obtain ⟨W,hW⟩:∃ W,W=wr.alloc (.cells (eRu r).toArray 117):=⟨_,rfl⟩
   have hbA:Below wr.heap.size wr W:=by rw [hW];exact alloc_below _ _
   obtain ⟨c0,c1,c2,c3⟩:=bxRu wr W 117 r _ rfl _ rfl (by rw [hW];exact qr)
   have HW:=qh hW
   have hb3:=hb.trans (hbA.mono hb.size)
   have gr2:=rdRu.mono gr hbA
   have hsv:=ruvalid0_any r W gr2
   have HNS:=qh gr.n
   obtain ⟨s,hS1⟩:=hS.out
   have hS2:=hS1.below hbA
   have hsz:=hb.size
   have HKN:=qh hkn
   have EA:=qh ea
   clear hr hbA gr gr2 gW hW hS hS1 hks hb hkn
   obtain ⟨wo,hwo⟩:∃ wo,wo=wr:=⟨_,rfl⟩
   subst hwo
   simp only [vRu,vSl] at hsv
   go_upto_region 7 with (fail)
   first|rw [ea,<-HW.out]|rw [<-HW.out]
   clear HW d0 d1 d2 d3
   go_wp2_with fail
   refine Calls.to hsv ?_
   rintro e w4 ⟨b,rfl⟩ hb4
   have hb5:=hb3.trans (hb4.mono hb3.size)
   have hS4:=hS2.below hb4
   have c0:=cel_lt c0 hb4
   clear c1 c2 c3 hsv hb4 hb3 hS2
   cases b
   ·go_wp2_with fail
    go_ret
    exact ⟨⟨_,rfl⟩,hb5⟩
   by_cases hin:s r.N
   ·have hlk:=hS4.look HNS.out true (by simp [hin])
    go_wp2_with fail
    go_ret
    exact ⟨⟨_,rfl⟩,hb5⟩
   ·have hlk:=hS4.look HNS.out false (by simp [hin])
    obtain ⟨D,hD,hDs⟩:=hS4
    have hkey:=keyS HNS.out
    have hnm:k<maxLen:=by have:=HKN.out;simp only [maxLen];omega
    clear hin
    go_wp2_with (at_mapUpdate;refine wpList_mapUpdate_own _ rfl _ _ _ 206 rfl 9 4 kStr undMSB elB w.heap.size k D rfl hD hnm _ _ _ rfl rfl hkey (.lit (.bool true)) [] (plainElem_bool undB true) ?_;intro w5 hown5 hgrow5)
    have hb6:=hb5.grown hgrow5 hb5.size (fun q hq=>by cases hq;exact Nat.le_refl _)
    have hS5:=SetS.put hD.isMap hDs hown5
    clear hown5 hgrow5 hD hDs hkey ea
    first|rw [<-EA.out]|skip
    go_wp2_with fail
    go_roundw
    case measure=>have:=HKN.out;simp [RowKit.intOf,x7];omega
    case rel=>exact ⟨k+1,HKN.out,by go_num,hb6,qh ⟨_,hS5⟩⟩
  ·have i1:decide (k<n)=false:=decide_eq_false hkn
   clear hS
   go_wp2_with fail
   go_ret
   exact ⟨⟨_,rfl⟩,hb⟩
end Go.Proofs.YtoiakijmbghhlaaGreat
