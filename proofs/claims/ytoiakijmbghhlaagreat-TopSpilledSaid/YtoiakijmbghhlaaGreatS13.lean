/- catalogue: a section is right. Conditions: the section reads as data. | Sets of strings (maps to bools). No function of the program is named. Conditions: none. | catalogue.Valid. Conditions: the sections read as data. | Conditions, rules, inflows, sections as plain data: how an argument of these types reads. Conditions: none. -/
import Derived.Test.YtoiakijmbghhlaaGreatS12
import Derived.StringKeys
import Derived.Test.YtoiakijmbghhlaaGreatS01
set_option linter.unusedVariables false
set_option linter.unusedSimpArgs false
set_option maxRecDepth 100000
set_option maxHeartbeats 32000000
namespace Go.Proofs.YtoiakijmbghhlaaGreat
open Go.RowKit
structure SecD where
 N:ByteArray
 Ht:Int
 Pr:Int
 A:Sl Kn
 B:Sl Kn
abbrev eSec (s:SecD):List Value:=[.string s.N,.int .i64 s.Ht,.int .i64 s.Pr,vSl s.A,vSl s.B]
abbrev vSec (s:SecD):Value:=.agg #[.string s.N,.int .i64 s.Ht,.int .i64 s.Pr,vSl s.A,vSl s.B]
structure IsSec (w:World) (s:SecD):Prop where
 n:s.N.size<=maxLen
 a:IsKns w (vSl s.A) s.A.xs
 b:IsKns w (vSl s.B) s.B.xs
theorem IsSec.mono {w w':World} {s:SecD} (h:IsSec w s) (hb:Below w.heap.size w w'):IsSec w' s:=⟨h.n,h.a.mono hb,h.b.mono hb⟩
def curvB (xs:List Kn) (H lim:Int):Bool:=
 tabB xs&&(((xs.getD 0 default).X==0&&(xs.getD 0 default).Y==0)&&((xs.getD (xs.length-1) default).X==H&&decide ((xs.getD (xs.length-1) default).Y<=lim)))
theorem curve_any (xs:List Kn) (v:Value) (H lim:Int) (w:World) (hv:IsKns w v xs) :
  Calls Tryz.prog 184 #[v,.int .i64 H,.int .i64 lim] w fun e w'=>e=.returned (.bool (curvB xs H lim))/\Below w.heap.size w w':=by
 have ht:=tvalid_any xs v w hv
 have HV:=qh hv
 obtain ⟨a,cap,rfl,-,-,hC⟩:=hv
 obtain ⟨res,hres⟩:∃ res,res=curvB xs H lim:=⟨_,rfl⟩
 rw [<-hres]
 have HR:=qh hres
 clear hres
 cases hT:tabB xs
 ·have HF:Hid (res=false):=qh (by rw [HR.out,curvB,hT];rfl)
  rw [hT] at ht
  go_enter Tryz.func184,Tryz.ntmps184
  go_wp2_with fail
  refine Calls.to ht ?_
  rintro e w1 rfl hb1
  go_wp2_with fail
  go_ret
  exact ⟨ret_bool HF.out.symm,hb1⟩
 rw [hT] at ht
 have hl:=tabB_len hT
 have HC:=qh hC
 obtain ⟨n,hn⟩:∃ n,n=xs.length:=⟨_,rfl⟩
 have HN:=qh hn
 have HT:=qh hT
 rw [<-hn] at ht hl ⊢
 clear hn hC hT
 go_enter Tryz.func184,Tryz.ntmps184
 go_wp2_with fail
 refine Calls.to ht ?_
 rintro e w1 rfl hb1
 have hC:=HC.out.mono hb1
 have h0:0<xs.length:=by rw [<-HN.out];omega
 obtain ⟨l,hl1⟩:∃ l,l=n-1:=⟨_,rfl⟩
 have hll:l<xs.length:=by rw [<-HN.out];omega
 obtain ⟨b,off,rfl,d0,d1⟩:=hC.kn 0 h0
 obtain ⟨_,_,he,d2,d3⟩:=hC.kn l hll
 simp only [Option.some.injEq,Addr.mk.injEq] at he
 obtain ⟨rfl,rfl,-⟩:=he
 have g0:xs.getD 0 default=xs[0]:=by simp [List.getD,List.getElem?_eq_getElem h0]
 have g1:xs.getD (xs.length-1) default=xs[l]:=by rw [<-HN.out,<-hl1];simp [List.getD,List.getElem?_eq_getElem hll]
 obtain ⟨f,hf⟩:∃ f,f=xs[0]:=⟨_,rfl⟩
 obtain ⟨z,hz⟩:∃ z,z=xs[l]:=⟨_,rfl⟩
 rw [<-hf] at d0 d1 g0
 rw [<-hz] at d2 d3 g1
 have hres:=HR.out
 unfold curvB at hres
 rw [HT.out,g0,g1,Bool.true_and] at hres
 have x1:IntKind.i64.wrap ((n:Int)-1)=l:=by rw [IntWalk.i64_in _ om];omega
 have i1:(0:Int)<=l:=by omega
 have i2:(l:Int)<n:=by omega
 have i3:(0:Int)<n:=by omega
 rw [Nat.zero_mul,Nat.add_zero] at d0 d1
 obtain ⟨fX,fY⟩:=f
 obtain ⟨zX,zY⟩:=z
 simp only at d0 d1 d2 d3 hres
 obtain ⟨b1,e1⟩:∃ b,(fX==0)=b:=⟨_,rfl⟩
 obtain ⟨b2,e2⟩:∃ b,(fY==0)=b:=⟨_,rfl⟩
 obtain ⟨b3,e3⟩:∃ b,(zX==H)=b:=⟨_,rfl⟩
 obtain ⟨b4,e4⟩:∃ b,decide (zY<=lim)=b:=⟨_,rfl⟩
 rw [e1,e2,e3,e4] at hres
 have HRES:=qh hres
 clear hres hf hz g0 g1 hl1 hll h0 hC HR HC HV
 cases b1 <;> cases b2 <;> cases b3
 all_goals go_wp2_with fail
 all_goals go_ret
 all_goals exact ⟨ret_bool (by rw [HRES.out];rfl),hb1.alloc hb1.size _⟩
def secB (s:SecD):Bool:=
 nameB s.N&&(decide (1<=s.Ht)&&(decide (s.Ht<=32768)&&(decide ((0:Int)<=s.Pr)&&(decide (s.Pr<=1073741824)&&(curvB s.A.xs s.Ht 1073741824&&curvB s.B.xs s.Ht 1099511627776)))))
theorem boxSec (w W:World) (T:TypeId) (s:SecD) (cs:Array Value) (hcs:cs=(eSec s).toArray) (B:Nat) (hB:B=w.heap.size+1) (hb:Below B (w.alloc (.cells cs T)) W) :
  W.cell? ⟨w.heap.size,0,none⟩=some (.string s.N)/\W.cell? ⟨w.heap.size,1,none⟩=some (.int .i64 s.Ht)/\W.cell? ⟨w.heap.size,2,none⟩=some (.int .i64 s.Pr) /\
  W.cell? ⟨w.heap.size,3,none⟩=some (.slice s.A.a s.A.xs.length s.A.cap)/\W.cell? ⟨w.heap.size,4,none⟩=some (.slice s.B.a s.B.xs.length s.B.cap):=by
 subst hB;subst hcs
 exact ⟨(hb.cell (p:=⟨w.heap.size,0,none⟩) (by simp)).trans (by simp [go_sem]),(hb.cell (p:=⟨w.heap.size,1,none⟩) (by simp)).trans (by simp [go_sem]),(hb.cell (p:=⟨w.heap.size,2,none⟩) (by simp)).trans (by simp [go_sem]),
  (hb.cell (p:=⟨w.heap.size,3,none⟩) (by simp)).trans (by simp [go_sem]),(hb.cell (p:=⟨w.heap.size,4,none⟩) (by simp)).trans (by simp [go_sem])⟩
theorem secvalid_any (s:SecD) (w:World) (hs:IsSec w s):Calls Tryz.prog 120 #[vSec s] w fun e w'=>e=.returned (.bool (secB s))/\Below w.heap.size w w':=by
 have hb0:Below w.heap.size w (w.alloc (.cells (eSec s).toArray 102)):=qr.alloc (Nat.le_refl _) _
 obtain ⟨W,hW⟩:∃ W,W=w.alloc (.cells (eSec s).toArray 102):=⟨_,rfl⟩
 obtain ⟨c0,c1,c2,c3,c4⟩:=boxSec w (w.alloc (.cells (eSec s).toArray 102)) 102 s _ rfl _ rfl qr
 obtain ⟨res,hres⟩:∃ res,res=secB s:=⟨_,rfl⟩
 rw [<-hres]
 unfold secB at hres
 have hn:=isName_any s.N W hs.n
 have HW:=qh hW
 rw [<-hW] at hb0 c0 c1 c2 c3 c4
 have HS:=qh (hs.mono hb0)
 obtain ⟨N,Ht,Pr,⟨aa,ac,al⟩,⟨ba,bc,bl⟩⟩:=s
 simp only at c0 c1 c2 c3 c4 hn hres
 obtain ⟨b0,e0⟩:∃ b,nameB N=b:=⟨_,rfl⟩
 obtain ⟨b1,e1⟩:∃ b,decide (1<=Ht)=b:=⟨_,rfl⟩
 obtain ⟨b2,e2⟩:∃ b,decide (Ht<=32768)=b:=⟨_,rfl⟩
 obtain ⟨b3,e3⟩:∃ b,decide ((0:Int)<=Pr)=b:=⟨_,rfl⟩
 obtain ⟨b4,e4⟩:∃ b,decide (Pr<=1073741824)=b:=⟨_,rfl⟩
 obtain ⟨b5,e5⟩:∃ b,curvB al Ht 1073741824=b:=⟨_,rfl⟩
 obtain ⟨b6,e6⟩:∃ b,curvB bl Ht 1099511627776=b:=⟨_,rfl⟩
 rw [e0,e1,e2,e3,e4,e5,e6] at hres
 rw [e0] at hn
 have HRES:=qh hres
 have h5:=fun W' (hb:Below W.heap.size W W')=>curve_any al (.slice aa al.length ac) Ht 1073741824 W' (HS.out.mono hb).a
 have h6:=fun W' (hb:Below W.heap.size W W')=>curve_any bl (.slice ba bl.length bc) Ht 1099511627776 W' (HS.out.mono hb).b
 simp only [e5] at h5
 simp only [e6] at h6
 have H5:=qh h5
 have H6:=qh h6
 clear hres hs hW h5 h6 e5 e6 e0
 go_enter Tryz.func120,Tryz.ntmps120
 go_upto_region 1 with (fail)
 simp only [vSl]
 rw [<-HW.out]
 clear HW
 go_wp2_with fail
 refine hn.mono ?_
 rintro e w' ⟨rfl,rfl⟩
 clear hn
 cases b0
 ·go_wp2_with fail
  go_ret
  exact ⟨ret_bool (by rw [HRES.out];rfl),hb0⟩
 cases b1
 ·go_wp2_with fail
  go_ret
  exact ⟨ret_bool (by rw [HRES.out];rfl),hb0⟩
 cases b2
 ·go_wp2_with fail
  go_ret
  exact ⟨ret_bool (by rw [HRES.out];rfl),hb0⟩
 cases b3
 ·go_wp2_with fail
  go_ret
  exact ⟨ret_bool (by rw [HRES.out];rfl),hb0⟩
 cases b4
 ·go_wp2_with fail
  go_ret
  exact ⟨ret_bool (by rw [HRES.out];rfl),hb0⟩
 go_wp2_with fail
 refine Calls.to (H5.out w' qr) ?_
 rintro e w2 rfl hb2
 have hb3:=hb0.trans (hb2.mono hb0.size)
 have c0:=cel_lt c0 hb2
 have c1:=cel_lt c1 hb2
 have c2:=cel_lt c2 hb2
 have c3:=cel_lt c3 hb2
 have c4:=cel_lt c4 hb2
 cases b5
 ·go_wp2_with fail
  go_ret
  exact ⟨ret_bool (by rw [HRES.out];rfl),hb3⟩
 go_wp2_with fail
 refine Calls.to (H6.out w2 hb2) ?_
 rintro e w3 rfl hb4
 have hb5:=hb3.trans (hb4.mono hb3.size)
 go_wp2_with fail
 go_ret
 exact ⟨ret_bool (by rw [HRES.out];rfl),hb5⟩
end Go.Proofs.YtoiakijmbghhlaaGreat
namespace Go.Proofs.YtoiakijmbghhlaaGreat
open Go.RowKit Go.Maps
abbrev kS (s:ByteArray):Lit:=.string s.data.toList
theorem kS_inj {s t:ByteArray} (h:kS s=kS t):s=t:=by
 have h1:s.data.toList=t.data.toList:=by injection h
 cases s;cases t
 simp only at h1
 congr 1
 exact Array.ext' h1
theorem keyLitS (s:ByteArray):WideAt.IsKeyLit (kS s):=trivial
theorem undS:Tryz.prog.underlying 9=some .string:=by kernel_rfl
theorem kStr:Keyed Tryz.prog 9:=string_keyed undS
theorem keyS {s:ByteArray} (h:s.size<=maxLen):keyOf Tryz.prog 9 (.string s)=some (kS s):=WideMaps.keyOf_string_mk undS h
theorem undMSB:Tryz.prog.underlying 206=some (.map 9 4):=by kernel_rfl
theorem zeroB (w:World):(zeroValue 4).run Tryz.prog w=.ok (.bool false) w:=by kernel_rfl
theorem plainElem_bool_inv {H:Type} {v:Value} {z:DataW H×List MemPlace} (h:plainElem Tryz.prog 4 v=some z):∃ c,v=.bool c/\z=(.lit (.bool c),[]):=by
 unfold plainElem at h
 rw [undB] at h
 cases v <;> simp at h
 exact ⟨_,rfl,h.symm⟩
def SetS (w:World) (b n:Nat) (s:ByteArray->Prop):Prop:=
 ∃ D:DataW Unit,w.ownsMap Tryz.prog 9 elB b n D/\(∀ k,Maps.has D (kS k)=true↔s k)/\∀ kl,Maps.has D kl=true->D.atKey kl (.lit (.bool false))=.lit (.bool true)
theorem SetS.below {w w':World} {b n:Nat} {s:ByteArray->Prop} (h:SetS w b n s) (hb:Below w.heap.size w w'):SetS w' b n s:=by
 obtain ⟨D,h1,h2⟩:=h
 exact ⟨D,h1.kept (grown_none hb none) (by simp),h2⟩
theorem SetS.made (w:World):SetS (w.alloc (.map #[] 0)) w.heap.size 0 (fun _=>False):=
 ⟨.map [],World.ownsMap_made _ _ _ _,fun k=>by simp [Maps.has],fun kl h=>by simp [Maps.has] at h⟩
theorem SetS.iff {w:World} {b n:Nat} {s s':ByteArray->Prop} (h:SetS w b n s) (he:∀ k,s k↔s' k):SetS w b n s':=by
 obtain ⟨D,h1,h2,h3⟩:=h
 exact ⟨D,h1,fun k=>(h2 k).trans (he k),h3⟩
theorem SetS.put {w':World} {b n:Nat} {s:ByteArray->Prop} {D:DataW Unit} {k:ByteArray} (hm:IsMap D) (h2:(∀ k,Maps.has D (kS k)=true↔s k)/\∀ kl,Maps.has D kl=true->D.atKey kl (.lit (.bool false))=.lit (.bool true))
  (h1:w'.ownsMap Tryz.prog 9 elB b (n+1) (D.put (kS k) (.lit (.bool true)))):SetS w' b (n+1) (fun j=>s j\/j=k):=by
 refine ⟨_,h1,fun j=>?_,fun kl h=>?_⟩
 ·by_cases hj:j=k
  ·subst hj
   simp [has_put_same hm (keyLitS j)]
  ·have hne:kS j≠kS k:=fun e=>hj (kS_inj e)
   rw [has_put_other hne,h2.1 j]
   simp [hj]
 ·by_cases hkl:kl=kS k
  ·subst hkl
   rw [atKey_put_same hm (keyLitS k)]
  ·rw [has_put_other hkl] at h
   rw [atKey_put_other hkl]
   exact h2.2 kl h
theorem SetS.look {w:World} {b n:Nat} {s:ByteArray->Prop} (h:SetS w b n s) {k:ByteArray} (hk:k.size<=maxLen) (c:Bool) (hc:c=true↔s k) :
  (Instr.lookup 206 (.map (some b)) (.string k) false).run Tryz.prog w=.ok (.bool c) w:=by
 obtain ⟨D,hD,hf,ht⟩:=h
 obtain ⟨v,ps,hrun,hv⟩:=hD.lookup kStr undMSB (zeroB w) (zd:=.lit (.bool false)) (zp:=[]) (plainElem_bool undB false) (keyS hk)
 obtain ⟨c',rfl,hc'⟩:=plainElem_bool_inv hv
 rw [hrun]
 have hc':=congrArg Prod.fst hc'
 simp only at hc'
 suffices c'=c by rw [this]
 cases hh:Maps.has D (kS k)
 ·rw [atKey_of_not_has hh] at hc'
  have h1:¬ s k:=fun h=>by rw [(hf k).2 h] at hh;cases hh
  have h2:c=false:=by
   cases c
   ·rfl
   ·exact absurd (hc.1 rfl) h1
  rw [h2]
  simpa using hc'.symm
 ·rw [ht _ hh] at hc'
  have h2:c=true:=hc.2 ((hf k).1 hh)
  rw [h2]
  simpa using hc'.symm
end Go.Proofs.YtoiakijmbghhlaaGreat
namespace Go.Proofs.YtoiakijmbghhlaaGreat
open Go.RowKit
def IsSecs (w:World) (v:Value) (ss:List SecD):Prop:=IsL eSec 5 w v ss/\∀ s∈ss,IsSec w s
theorem IsSecs.mono {w w':World} {v:Value} {ss:List SecD} (h:IsSecs w v ss) (hb:Below w.heap.size w w'):IsSecs w' v ss:=⟨h.1.mono hb,fun s hs=>(h.2 s hs).mono hb⟩
theorem IsC.sec {w:World} {a:Option Addr} {xs:List SecD} (h:IsC eSec 5 w a xs) (i:Nat) (hi:i<xs.length) :
  ∃ b off,a=some ⟨b,off,none⟩/\w.cell? ⟨b,off+i*5,none⟩=some (.string xs[i].N)/\w.cell? ⟨b,off+i*5+1,none⟩=some (.int .i64 xs[i].Ht)/\w.cell? ⟨b,off+i*5+2,none⟩=some (.int .i64 xs[i].Pr) /\
   w.cell? ⟨b,off+i*5+3,none⟩=some (.slice xs[i].A.a xs[i].A.xs.length xs[i].A.cap)/\w.cell? ⟨b,off+i*5+4,none⟩=some (.slice xs[i].B.a xs[i].B.xs.length xs[i].B.cap):=by
 obtain ⟨b,off,e,hc⟩:=h i hi
 refine ⟨b,off,e,?_,?_,?_,?_,?_⟩
 ·exact hc 0 om
 ·exact hc 1 om
 ·exact hc 2 om
 ·exact hc 3 om
 ·exact hc 4 om
def nameIn (ss:List SecD) (x:ByteArray):Prop:=∃ s∈ss,s.N=x
instance (ss:List SecD) (x:ByteArray):Decidable (nameIn ss x):=inferInstanceAs (Decidable (∃ s∈ss,s.N=x))
def catE (ss:List SecD) (k:Nat):Bool:=
 match ss[k]? with
 | none=>false
 | some s=>secB s && !decide (nameIn (ss.take k) s.N)
def catB (ss:List SecD):Bool:=decide (ss.length<=40)&&allFrom (catE ss) 0 ss.length
theorem catvalid_any (ss:List SecD) (v:Value) (w:World) (hv:IsSecs w v ss) :
  Calls Tryz.prog 53 #[v] w fun e w'=>e=.returned (.bool (catB ss))/\Below w.heap.size w w':=by
 have hmm:=@run_makeMap Tryz.prog
 have HV:=qh hv.2
 obtain ⟨⟨a,cap,rfl,-,-,hC⟩,-⟩:=hv
 have HC:=qh hC
 obtain ⟨res,hres⟩:∃ res,res=catB ss:=⟨_,rfl⟩
 rw [<-hres]
 unfold catB at hres
 obtain ⟨n,hn⟩:∃ n,n=ss.length:=⟨_,rfl⟩
 have HN:=qh hn
 rw [<-hn] at hres ⊢
 clear hn hC
 by_cases h40:n<=40
 rotate_left
 ·have HF:Hid (res=false):=qh (by rw [hres,decide_eq_false h40];rfl)
  have i1:decide ((40:Int)<n)=true:=decide_eq_true om
  have i2:decide (40<n)=true:=decide_eq_true om
  clear hres h40
  go_enter Tryz.func53,Tryz.ntmps53
  go_wp2_with fail
  go_ret
  exact ⟨ret_bool HF.out.symm,bl⟩
 have HR:Hid (res=allFrom (catE ss) 0 n):=qh (by rw [hres,decide_eq_true h40];rfl)
 have i1:decide ((40:Int)<n)=false:=decide_eq_false om
 have i2:decide (40<n)=false:=decide_eq_false om
 have hb0:Below w.heap.size w (w.alloc (.map #[] 0)):=qr.alloc (Nat.le_refl _) _
 have HS0:Hid (SetS (w.alloc (.map #[] 0)) w.heap.size 0 (nameIn (ss.take 0))):=qh ((SetS.made w).iff (fun x=>⟨fun h=>h.elim,fun h=>by obtain ⟨s,hs,_⟩:=h;simp at hs⟩))
 clear hres
 go_enter Tryz.func53,Tryz.ntmps53
 go_wp2_with fail
 clear i1 i2
 go_loopw [12] (fun s12 wr=>∃ k:Nat,k<=n/\s12=.int .i64 k/\Below w.heap.size w wr/\Hid (SetS wr w.heap.size k (nameIn (ss.take k)))/\Hid (res=allFrom (catE ss) k n)) (fun s12 _=>n-(RowKit.intOf s12).toNat)
 case atStart=>exact ⟨0,Nat.zero_le _,rfl,hb0,HS0,HR⟩
 case round=>
  obtain ⟨k,hk,rfl,hb,hS,hr⟩:=hrel
  by_cases hkn:k<n
  ·have hks:k<ss.length:=by rw [<-HN.out];exact hkn
   obtain ⟨b,off,rfl,d0,d1,d2,d3,d4⟩:=(HC.out.mono hb).sec k hks
   have hsec:=(HV.out _ (List.getElem_mem hks)).mono hb
   have hstep:=allFrom_step (catE ss) hkn
   have hce:catE ss k=(secB ss[k] && !decide (nameIn (ss.take k) ss[k].N)):=by unfold catE;rw [List.getElem?_eq_getElem hks]
   have htk:ss.take (k+1)=ss.take k ++ [ss[k]]:=List.take_succ_eq_append_getElem hks
   obtain ⟨s,hs⟩:∃ s,s=ss[k]:=⟨_,rfl⟩
   rw [<-hs] at d0 d1 d2 d3 d4 hsec hce htk
   rw [hstep,hce] at hr
   have HRR:=qh hr
   have HTK:=qh htk
   have hbA:Below wr.heap.size wr (wr.alloc (.cells (eSec s).toArray 102)):=qr.alloc (Nat.le_refl _) _
   have hb3:=hb.trans (hbA.mono hb.size)
   have HSA:=qh (hS.out.below hbA)
   obtain ⟨c0,c1,c2,c3,c4⟩:=boxSec wr (wr.alloc (.cells (eSec s).toArray 102)) 102 s _ rfl _ rfl qr
   have hsv:=secvalid_any s _ (hsec.mono hbA)
   have HNS:=qh hsec.n
   have hsz:=hb.size
   obtain ⟨W,hW⟩:∃ W,W=wr.alloc (.cells (eSec s).toArray 102):=⟨_,rfl⟩
   have HW:=qh hW
   rw [<-hW] at hb3 HSA c0 c1 c2 c3 c4 hsv
   have i1:decide (k<n)=true:=decide_eq_true hkn
   have x7:IntKind.i64.wrap ((k:Int)+1)=k+1:=IntWalk.i64_in _ om
   have i4:(0:Int)<=k:=by omega
   have i5:(k:Int)<n:=by omega
   have HKN:=qh hkn
   clear hs hstep hce htk hr hbA hsec hW hS hb
   obtain ⟨wo,hwo⟩:∃ wo,wo=wr:=⟨_,rfl⟩
   subst hwo
   simp only [vSec,vSl] at hsv
   go_upto_region 7 with (fail)
   rw [<-HW.out]
   clear HW d0 d1 d2 d3 d4
   go_wp2_with fail
   refine Calls.to hsv ?_
   rintro e w4 rfl hb4
   have hb5:=hb3.trans (hb4.mono hb3.size)
   have HS4:=qh (HSA.out.below hb4)
   have c0:=cel_lt c0 hb4
   clear c1 c2 c3 c4 hsv hb4 hb3
   cases hsb:secB s
   ·have HF:Hid (res=false):=qh (by rw [HRR.out,hsb];rfl)
    clear hsb
    go_wp2_with fail
    go_ret
    exact ⟨ret_bool HF.out.symm,hb5⟩
   by_cases hin:nameIn (ss.take k) s.N
   ·have HF:Hid (res=false):=qh (by rw [HRR.out,hsb,decide_eq_true hin];rfl)
    have hlk:=HS4.out.look HNS.out true (by simp [hin])
    clear hsb hin
    go_wp2_with fail
    go_ret
    exact ⟨ret_bool HF.out.symm,hb5⟩
   ·have hlk:=HS4.out.look HNS.out false (by simp [hin])
    have hm2:Hid (res=allFrom (catE ss) (k+1) n):=qh (by rw [HRR.out,hsb,decide_eq_false hin];rfl)
    obtain ⟨D,hD,hDs⟩:=HS4.out
    have hkey:=keyS HNS.out
    have hnm:k<maxLen:=by simp only [maxLen];omega
    clear hsb hin
    go_wp2_with (at_mapUpdate;refine wpList_mapUpdate_own _ rfl _ _ _ 206 rfl 9 4 kStr undMSB elB w.heap.size k D rfl hD hnm _ _ _ rfl rfl hkey (.lit (.bool true)) [] (plainElem_bool undB true) ?_;intro w5 hown5 hgrow5)
    have hb6:=hb5.grown hgrow5 hb5.size (fun q hq=>by cases hq;exact Nat.le_refl _)
    have hS5:=SetS.put hD.isMap hDs hown5
    clear hown5 hgrow5 hD hDs hkey
    go_wp2_with fail
    go_roundw
    case measure=>simp [RowKit.intOf,x7];omega
    case rel=>exact ⟨k+1,by omega,by go_num,hb6,qh (hS5.iff (fun x=>by
     rw [HTK.out]
     unfold nameIn
     simp only [List.mem_append,List.mem_singleton]
     constructor
     ·rintro (⟨t,ht,he⟩|rfl)
      ·exact ⟨t,.inl ht,he⟩
      ·exact ⟨s,.inr rfl,rfl⟩
     ·rintro ⟨t,ht|rfl,he⟩
      ·exact .inl ⟨t,ht,he⟩
      ·exact .inr he.symm)),hm2⟩
  ·have i1:decide (k<n)=false:=decide_eq_false hkn
   have HF:Hid (res=true):=qh (by rw [hr.out,allFrom_end _ om])
   clear hr hS
   go_wp2_with fail
   go_ret
   exact ⟨ret_bool HF.out.symm,hb⟩
structure CoD where
 N:ByteArray
 B:Bool
 L:Int
structure RuD where
 N:ByteArray
 W:Sl CoD
 L:ByteArray
 S:Int
abbrev eRu (x:RuD):List Value:=[.string x.N,vSl x.W,.string x.L,.int .i64 x.S]
abbrev vRu (x:RuD):Value:=.agg #[.string x.N,vSl x.W,.string x.L,.int .i64 x.S]
structure InD where
 N:ByteArray
 V:Sl Int
abbrev eIn (x:InD):List Value:=[.string x.N,vSl x.V]
abbrev vIn (x:InD):Value:=.agg #[.string x.N,vSl x.V]
structure gIn (W:World) (x:InD):Prop where
 n:x.N.size<=maxLen
 v:gInts W x.V
theorem rdIn:Rdr Tryz.prog 121 eIn 2 gIn:=by
 refine ⟨by kernel_rfl,fun _=>rfl,?_,?_⟩
 ·intro H e W fuel cs x h
  obtain ⟨hl,hf⟩:=rd_fields (by kernel_rfl) h
  rw [show Tryz.prog.cellsOf 121=2 from by kernel_rfl] at hl
  obtain ⟨a0,e0,g0⟩:=hf 0 9 0 (by kernel_rfl) rdStr
  obtain ⟨a1,e1,g1⟩:=hf 1 28 1 (by kernel_rfl) rdInts
  have hj:=cutAt_join cs [1,1] 0 (by rw [hl];rfl)
  simp only [cutAt,Nat.zero_add,Nat.reduceAdd] at hj
  rw [e0,e1] at hj
  exact ⟨⟨a0,a1⟩,by simpa using hj.symm,⟨g0,g1⟩⟩
 ·intro W W' a h hb
  exact ⟨h.n,rdInts.mono h.v hb⟩
structure gSec (W:World) (x:SecD):Prop where
 n:x.N.size<=maxLen
 ht:(Lit.int .i64 x.Ht).wf=true
 pr:(Lit.int .i64 x.Pr).wf=true
 a:gTab W x.A
 b:gTab W x.B
theorem rdSec:Rdr Tryz.prog 102 eSec 5 gSec:=by
 refine ⟨by kernel_rfl,fun _=>rfl,?_,?_⟩
 ·intro H e W fuel cs x h
  obtain ⟨hl,hf⟩:=rd_fields (by kernel_rfl) h
  rw [show Tryz.prog.cellsOf 102=5 from by kernel_rfl] at hl
  obtain ⟨a0,e0,g0⟩:=hf 0 9 0 (by kernel_rfl) rdStr
  obtain ⟨a1,e1,g1⟩:=hf 1 3 1 (by kernel_rfl) rdI
  obtain ⟨a2,e2,g2⟩:=hf 2 3 2 (by kernel_rfl) rdI
  obtain ⟨a3,e3,g3⟩:=hf 3 46 3 (by kernel_rfl) rdTab
  obtain ⟨a4,e4,g4⟩:=hf 4 46 4 (by kernel_rfl) rdTab
  have hj:=cutAt_join cs [1,1,1,1,1] 0 (by rw [hl];rfl)
  simp only [cutAt,Nat.zero_add,Nat.reduceAdd] at hj
  rw [e0,e1,e2,e3,e4] at hj
  exact ⟨⟨a0,a1,a2,a3,a4⟩,by simpa using hj.symm,⟨g0,g1,g2,g3,g4⟩⟩
 ·intro W W' a h hb
  exact ⟨h.n,h.ht,h.pr,rdTab.mono h.a hb,rdTab.mono h.b hb⟩
theorem gSec.is {W:World} {x:SecD} (h:gSec W x):IsSec W x:=⟨h.n,h.a.isL,h.b.isL⟩
abbrev gIns:World->Sl InD->Prop:=gSl eIn 2 gIn
theorem openIns {H:Type} {en:TypeId×Value->H} {W:World} {v:Value} {d:DataW H} {ps:List MemPlace} {r:Reach} {b0:Nat} (hv:Value.okWide Tryz.prog W r b0 32 v) (h:DataW.Trod en Tryz.prog W 0 (fun _=>true) true 32 v d ps) :
  ∃ s:Sl InD,v=vSl s/\gIns W s:=arg_slice rdIn (by decide) (by kernel_rfl) (by kernel_rfl) hv h
abbrev gSecs:World->Sl SecD->Prop:=gSl eSec 5 gSec
theorem rdSecs:Rdr Tryz.prog 26 (fun s:Sl SecD=>[vSl s]) 1 gSecs:=rdSlice rdSec (by decide) (by kernel_rfl) (by kernel_rfl)
theorem openSecs {H:Type} {en:TypeId×Value->H} {W:World} {v:Value} {d:DataW H} {ps:List MemPlace} {r:Reach} {b0:Nat} (hv:Value.okWide Tryz.prog W r b0 26 v) (h:DataW.Trod en Tryz.prog W 0 (fun _=>true) true 26 v d ps) :
  ∃ s:Sl SecD,v=vSl s/\gSecs W s:=arg_slice rdSec (by decide) (by kernel_rfl) (by kernel_rfl) hv h
theorem gSecs.is {W:World} {s:Sl SecD} (h:gSecs W s):IsSecs W (vSl s) s.xs:=⟨h.isL,fun x hx=>(h.2.2.2 x hx).is⟩
theorem IsC.ru {w:World} {a:Option Addr} {xs:List RuD} (h:IsC eRu 4 w a xs) (i:Nat) (hi:i<xs.length) :
  ∃ b off,a=some ⟨b,off,none⟩/\w.cell? ⟨b,off+i*4,none⟩=some (.string xs[i].N)/\w.cell? ⟨b,off+i*4+1,none⟩=some (.slice xs[i].W.a xs[i].W.xs.length xs[i].W.cap)/\w.cell? ⟨b,off+i*4+2,none⟩=some (.string xs[i].L)/\w.cell? ⟨b,off+i*4+3,none⟩=some (.int .i64 xs[i].S):=by
 obtain ⟨b,off,e,hc⟩:=h i hi
 refine ⟨b,off,e,?_,?_,?_,?_⟩
 ·exact hc 0 om
 ·exact hc 1 om
 ·exact hc 2 om
 ·exact hc 3 om
theorem IsC.inf {w:World} {a:Option Addr} {xs:List InD} (h:IsC eIn 2 w a xs) (i:Nat) (hi:i<xs.length) :
  ∃ b off,a=some ⟨b,off,none⟩/\w.cell? ⟨b,off+i*2,none⟩=some (.string xs[i].N)/\w.cell? ⟨b,off+i*2+1,none⟩=some (.slice xs[i].V.a xs[i].V.xs.length xs[i].V.cap):=by
 obtain ⟨b,off,e,hc⟩:=h i hi
 refine ⟨b,off,e,?_,?_⟩
 ·exact hc 0 om
 ·exact hc 1 om
theorem bxIn (w W:World) (T:TypeId) (x:InD) (cs:Array Value) (hcs:cs=(eIn x).toArray) (B:Nat) (hB:B=w.heap.size) (hb:Below (B+1) (w.alloc (.cells cs T)) W) :
  W.cell? ⟨B,0,none⟩=some (.string x.N)/\W.cell? ⟨B,1,none⟩=some (vSl x.V):=by
 subst hB;subst hcs
 exact ⟨(hb.cell (p:=⟨w.heap.size,0,none⟩) (by simp)).trans (by simp [go_sem]),(hb.cell (p:=⟨w.heap.size,1,none⟩) (by simp)).trans (by simp [go_sem])⟩
end Go.Proofs.YtoiakijmbghhlaaGreat
