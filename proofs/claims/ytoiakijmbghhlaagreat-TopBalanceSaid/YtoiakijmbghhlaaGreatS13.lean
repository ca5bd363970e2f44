/- planner's Solve. Conditions: the plan reads as data. | planner's Values and certificate.Make. Conditions: the plan reads as data. | certificate.find: a value sought in a row of pairs. Conditions: the row's volumes ascend. | catalogue: a section is right. Conditions: the section reads as data. | Sets of strings (maps to bools). No function of the program is named. Conditions: none. | catalogue.Valid. Conditions: the sections read as data. -/
import Derived.Test.YtoiakijmbghhlaaGreatS12
import Derived.StringKeys
import Derived.Test.YtoiakijmbghhlaaGreatS10
set_option linter.unusedVariables false
set_option linter.unusedSimpArgs false
set_option maxRecDepth 100000
set_option maxHeartbeats 32000000
namespace Go.Proofs.YtoiakijmbghhlaaGreat
open Go.RowKit
theorem best_eq {p:PlD} {R:List (List Int)} (hc:ChainI p R) {i:Nat} (hi:i<p.I.xs.length) (hr:i+1<R.length) {v:Int} (hv:v∈R.getD i []) :
  Pn.best (plOf p) (valF p (i+1) (R.getD (i+1) [])) v p.I.xs[i]=Pn.best (plOf p) (Pn.V (plOf p) (p.I.xs.drop (i+1))) v p.I.xs[i]:=by
 rw [Pn.best,Pn.best]
 refine bestK_congr _ fun k hk w c hs=>?_
 unfold valF
 rw [if_pos]
 refine ((hc.next i hr).2 w).2 ⟨v,hv,k,hk,c,?_⟩
 rw [show p.I.xs.getD i 0=p.I.xs[i] from by simp [List.getD,List.getElem?_eq_getElem hi]]
 exact hs
theorem chain_next {p:PlD} {R:List (List Int)} (hc:ChainI p R) {i:Nat} (hi:i<p.I.xs.length) (hr:i+1<R.length) {v w c:Int} {k:Nat} (hv:v∈R.getD i []) (hk:k<p.L.xs.length) (hs:Pn.stepP (plOf p) v p.I.xs[i] k=some (w,c)):w∈R.getD (i+1) []:=by
 refine ((hc.next i hr).2 w).2 ⟨v,hv,k,hk,c,?_⟩
 rw [show p.I.xs.getD i 0=p.I.xs[i] from by simp [List.getD,List.getElem?_eq_getElem hi]]
 exact hs
noncomputable def rels (p:PlD):List Int:=(Pn.plan (plOf p) p.I.xs p.St).map fun k=>p.L.xs.getD k 0
inductive SolveR (p:PlD) (w:World):Value->Prop
 | bad:planB p=false->SolveR p w (.tuple #[.int .i64 0,.slice none 0 0,.int .i64 1])
 | limit:planB p=true->¬ Fits p->SolveR p w (.tuple #[.int .i64 0,.slice none 0 0,.int .i64 6])
 | none:planB p=true->Fits p->Pn.V (plOf p) p.I.xs p.St=Option.none->SolveR p w (.tuple #[.int .i64 0,.slice none 0 0,.int .i64 12])
 | ok (m:Int) (u:Value):planB p=true->Fits p->Pn.V (plOf p) p.I.xs p.St=some m->IsInts w u (rels p)->SolveR p w (.tuple #[.int .i64 m,u,.int .i64 0])
theorem psolve_any (p:PlD) (w:World) (hg:gPl w p):Calls Tryz.prog 19 #[vPl p] w fun e w'=>(∃ v,e=.returned v/\SolveR p w' v)/\Below w.heap.size w w':=by
 have hb0:Below w.heap.size w (w.alloc (.cells (ePl p).toArray 68)):=qr.alloc (Nat.le_refl _) _
 cases hP:planB p
 ·have ht:=tankOf_bad p _ (rdPl.mono hg hb0) hP
  have HP:=qh hP
  clear hP
  go_enter Tryz.func19,Tryz.ntmps19
  go_wp2_with fail
  refine Calls.to ht ?_
  rintro e w1 rfl hb1
  have hbw:=hb0.trans (hb1.mono hb0.size)
  go_wp2_with fail
  go_ret3
  exact ⟨⟨_,rfl,.bad HP.out⟩,hbw⟩
 have hp:=planB_ok hP
 have ht:=tankOf_ok p _ (rdPl.mono hg hb0) hP hp.tab hp.ll.2
 have HP:=qh hP
 have HG:=qh hg
 clear hP hg
 go_enter Tryz.func19,Tryz.ntmps19
 go_wp2_with fail
 refine Calls.to ht ?_
 rintro e w1 ⟨g,rfl,hT⟩ hb1
 have hbw:=hb0.trans (hb1.mono hb0.size)
 obtain ⟨c0,_,_,c3,c4,_,_⟩:=boxPl w w1 68 p _ rfl _ rfl (hb1.mono (by simp))
 clear hb1 hb0 ht
 go_wp2_with fail
 refine Calls.to (preach_any p g w1 hT hp) ?_
 rintro e w2 h hb2
 have hbw2:=hbw.trans (hb2.mono hbw.size)
 have c0:=cel_lt c0 hb2
 have c3:=cel_lt c3 hb2
 have c4:=cel_lt c4 hb2
 have hT2:=hT.mono hb2
 clear hb2 hT
 rcases h with ⟨u,us,R,rfl,hR,hC,hRl⟩|⟨rfl,hnf⟩
 rotate_left
 ·go_wp2_with fail
  go_ret3
  exact ⟨⟨_,rfl,.limit HP.out hnf⟩,hbw2⟩
 go_wp2_with fail
 refine Calls.to (pvalues_any p g _ u us R w2 hT2 hp hR hC hRl) ?_
 rintro e w3 ⟨bs,rfl,hVR⟩ hb3
 have hbw3:=hbw2.trans (hb3.mono hbw2.size)
 have c0:=cel_lt c0 hb3
 have c3:=cel_lt c3 hb3
 have c4:=cel_lt c4 hb3
 have hT3:=hT2.mono hb3
 have hfit:Fits p:=⟨R,hC,hRl⟩
 have hbl:bs.length=R.length:=by have:=hVR.len;omega
 have hb0':0<bs.length:=by omega
 have cV:=maps_cell hVR.out (q:=0) hb0'
 have hm0:=hVR.maps 0 hb0'
 rw [Nat.add_zero] at hm0 cV
 have hF:valF p 0 (R.getD 0 []) p.St=Pn.V (plOf p) p.I.xs p.St:=by
  rw [hC.first];simp [valF]
 have hsw:=wfI (k:=p.St) (by have:=hp.st;have:=hp.cp;have:=hp.rs;omega)
 have hlk:∀ nq,(Instr.lookup 65 (.map (some (bs[0]'hb0'))) (.int .i64 p.St) true).run Tryz.prog (w3.drewN nq)=.ok (.tuple #[.int .i64 ((Pn.V (plOf p) p.I.xs p.St).getD 0),.bool (Pn.V (plOf p) p.I.xs p.St).isSome]) (w3.drewN nq):=fun nq=>by
  rw [<-hF];exact (hm0.below (below_drewN qr nq)).look hsw
 obtain ⟨m,hm⟩:∃ m,m=R.length:=⟨_,rfl⟩
 rw [<-hm]
 obtain ⟨b0,hbe⟩:∃ b0,b0=bs[0]'hb0':=⟨_,rfl⟩
 rw [<-hbe] at cV hlk
 have i1:(0:Int)<m:=by omega
 have HVR:=qh hVR
 have HC:=qh hC
 have HFI:=qh hfit
 have HT:=qh hT3
 have HRL:=qh hRl
 have HM:=qh hm
 have HBL:=qh hbl
 clear hVR hm0 hF hbe hm hR hC hRl hfit hT2 hT3 hb3 hbl
 cases hV:Pn.V (plOf p) p.I.xs p.St with
 | none=>
  rw [hV] at hlk
  simp only [Option.getD_none,Option.isSome_none] at hlk
  have HV:=qh hV
  clear hV
  go_wp2_with fail
  go_quiet (fail)
  go_wp2_with fail
  go_ret3
  exact ⟨⟨_,rfl,.none HP.out HFI.out HV.out⟩,below_drewN hbw3 _⟩
 | some mm=>
  rw [hV] at hlk
  simp only [Option.getD_some,Option.isSome_some] at hlk
  have HV:=qh hV
  clear hV
  go_wp2_with fail
  go_quiet (fail)
  have hbW:Below w3.heap.size w3 (w3.drewN nq):=below_drewN qr nq
  have hbw4:=hbw3.trans (hbW.mono hbw3.size)
  have c0:=cel_lt c0 hbW
  have c3:=cel_lt c3 hbW
  have c4:=cel_lt c4 hbW
  have HVW:=qh (HVR.out.kept (grown_none hbW none) (by simp) (fun _ _=>by simp))
  have HTW:=qh (HT.out.mono hbW)
  clear hlk cV hbW
  generalize w3.drewN nq=W at *
  go_wp2_with fail
  clear c0
  go_loopw [3,9,49] (fun s3 s9 s49 wr=>∃ (i:Nat) (vol:Int) (ks:List Nat),i<=p.I.xs.length/\s49=.int .i64 i/\s9=.int .i64 vol/\Below W.heap.size W wr/\Own W.heap.size 3 eInt 1 wr s3 (ks.map fun k=>p.L.xs.getD k 0) /\
   Hid (Pn.plan (plOf p) p.I.xs p.St=ks ++ Pn.plan (plOf p) (p.I.xs.drop i) vol)/\Hid (vol∈R.getD i [])/\Hid (∃ y,Pn.V (plOf p) (p.I.xs.drop i) vol=some y)/\Hid (ks.length=i)) (fun _ _ s49 _=>p.I.xs.length-(RowKit.intOf s49).toNat)
  case atStart=>exact ⟨0,p.St,[],Nat.zero_le _,rfl,rfl,qr,World.ownsRow_nil _ _ _ _,qh rfl,qh (by rw [HC.out.first];simp),qh ⟨mm,HV.out⟩,qh rfl⟩
  case round=>
   obtain ⟨i,vol,ks,hi,rfl,rfl,hb,hown,hpl,hvol,hval,hkl⟩:=hrel
   have hbr:=hbw4.trans (hb.mono hbw4.size)
   by_cases hin:i<p.I.xs.length
   ·have hir:i+1<R.length:=by have:=HRL.out;omega
    have hib:i+1<bs.length:=by have:=HBL.out;omega
    have hvb:=HC.out.bd _ (getD_mem (R:=R) (i:=i) om) vol hvol.out
    have hmN:=(HVW.out.maps (i+1) hib).below hb
    have cN:=cel_lt (maps_cell HVW.out.out hib) hb
    rw [Nat.zero_add] at hmN cN
    have hbest:=pbest_any p g _ 4000 _ i vol wr (HTW.out.mono hb) hp hvb hin hmN (valF_small hp (HC.out.bd _ (getD_mem hir)))
    rw [best_eq HC.out hin hir hvol.out] at hbest
    obtain ⟨y,hy⟩:=hval.out
    have hdr:=List.drop_eq_getElem_cons hin
    rw [hdr,Pn.V] at hy
    cases hbb:Pn.best (plOf p) (Pn.V (plOf p) (p.I.xs.drop (i+1))) vol p.I.xs[i] with
    | none=>rw [hbb] at hy;cases hy
    | some z=>
     obtain ⟨k,c⟩:=z
     obtain ⟨⟨hkL,w0,c0,y0,hs,hv0,hc⟩,_⟩:=Pn.bestK_some _ k c hbb
     have hkL2:k<p.L.xs.length:=hkL
     have hpl2:Pn.plan (plOf p) p.I.xs p.St=(ks ++ [k]) ++ Pn.plan (plOf p) (p.I.xs.drop (i+1)) w0:=by
      rw [hpl.out,hdr,Pn.plan,hbb]
      simp [hs]
     have hstep:=fun W' (h:Below wr.heap.size wr W')=>pstep_any p g vol i k W' ((HTW.out.mono hb).mono h) hp hvb hin hkL2
     simp only [hs,stV] at hstep
     have hw0:=chain_next HC.out hin hir hvol.out hkL2 hs
     rw [hbb] at hbest
     simp only [bsV] at hbest
     obtain ⟨lb,lo,ea,dL⟩:=(HG.out.l.2.2.1.mono hbr).int k hkL2
     obtain ⟨lk,hlk⟩:∃ lk,lk=p.L.xs[k]:=⟨_,rfl⟩
     have hys1:(ks ++ [k]).map (fun k=>p.L.xs.getD k 0)=(ks.map fun k=>p.L.xs.getD k 0) ++ [lk]:=by
      rw [List.map_append,hlk];simp [List.getD,List.getElem?_eq_getElem hkL2]
     rw [<-hlk] at dL
     obtain ⟨oa,oc,hoe⟩:=hown.isSlice
     have hyl:(ks.map fun k=>p.L.xs.getD k 0).length<2147483648:=by rw [List.length_map,hkl.out];have:=hp.il;omega
     obtain ⟨ys,hys⟩:∃ ys,ys=ks.map fun k=>p.L.xs.getD k 0:=⟨_,rfl⟩
     rw [<-hys] at hown hoe hyl hys1
     subst hoe
     have HPL2:=qh hpl2
     have HW0:=qh hw0
     have HV0:=qh hv0
     have HYS:=qh hys1
     have HSS:=qh hs
     obtain ⟨nb,hnb⟩:∃ nb,nb=bs[i+1]'hib:=⟨_,rfl⟩
     rw [<-hnb] at hbest cN
     have c4r:=cel_lt c4 hb
     have i1:decide (i<p.I.xs.length)=true:=decide_eq_true hin
     have x7:IntKind.i64.wrap ((i:Int)+1)=i+1:=IntWalk.i64_in _ (by have:=hp.il;omega)
     have i2:(0:Int)<=(i:Int)+1:=by omega
     have i3:(i:Int)+1<m:=by have:=HM.out;omega
     have i4:(0:Int)<=k:=by omega
     have i5:(k:Int)<p.L.xs.length:=by omega
     clear hmN hbb hpl2 hw0 hv0 hys1 hstep hlk hys hnb hy hdr hs hc
     go_wp2_with fail
     refine Calls.to hbest ?_
     rintro e w4 rfl hb4
     have hb4':=hb.trans (hb4.mono hb.size)
     have hown4:=hown.below hb4
     have c4q:=cel_lt c4r hb4
     rw [ea] at c4q
     have dL4:=cel_lt dL hb4
     have h1c:∀ u∈eInt lk,u.oneCell'=true:=by simp [Value.oneCell']
     have hs4:W.heap.size<=w4.heap.size:=hb4'.size
     clear hbest cN hown c4r dL ea
     go_wp2_with (at_builtin;go_must (refine wpList_pushR rfl _ _ 28 rfl 3 _ 1 8 undInts infInt rfl (by decide) lk (fun _=>rfl) h1c _ ys rfl hown4 w4.heap.size rfl rfl hyl (by decide) hs4 _ rfl ?_);intro g5 k5 w5 hR5)
     have hb5W:=hb4'.trans (hR5.below hown4 hs4)
     have hown5:=hR5.own
     have hstp5:=pstep_any p g vol i k w5 (HTW.out.mono hb5W) hp hvb hin hkL2
     rw [HSS.out] at hstp5
     simp only [stV] at hstp5
     refine Calls.to hstp5 ?_
     rintro e w6 rfl hb6
     have hb6W:=hb5W.trans (hb6.mono hb5W.size)
     have hown6:=hown5.below hb6
     clear hstp5 hb6 hown5 hR5 hown4
     go_wp2_with fail
     go_roundw
     case measure=>simp [RowKit.intOf,x7];omega
     case rel=>exact ⟨i+1,w0,ks ++ [k],by omega,by go_num,rfl,hb6W,by rw [HYS.out];exact hown6,HPL2,HW0,qh ⟨y0,HV0.out⟩,qh (by rw [List.length_append,hkl.out];rfl)⟩
   ·have i1:decide (i<p.I.xs.length)=false:=decide_eq_false hin
    have hdn:p.I.xs.drop i = []:=List.drop_eq_nil_of_le om
    have hrel:rels p=ks.map fun k=>p.L.xs.getD k 0:=by
     unfold rels;rw [hpl.out,hdn];simp [Pn.plan]
    have HREL:=qh hrel
    have hI:=hown.isL (fun _=>rfl)
    clear hrel hdn hown
    go_wp2_with fail
    go_ret3
    exact ⟨⟨_,rfl,.ok mm _ HP.out HFI.out HV.out (by rw [HREL.out];exact hI)⟩,hbr⟩
section
variable {P : Program} {o : Oper} {a : Act} {Q : Exit → Act → World → Prop}
end
structure SecD where
 N:ByteArray
 Ht:Int
 Pr:Int
 A:Sl Kn
 B:Sl Kn
abbrev eSec (s:SecD):List Value:=[.string s.N,.int .i64 s.Ht,.int .i64 s.Pr,vSl s.A,vSl s.B]
abbrev vSec (s:SecD):Value:=.agg #[.string s.N,.int .i64 s.Ht,.int .i64 s.Pr,vSl s.A,vSl s.B]
structure IsSec (w:World) (s:SecD):Prop where
 n:s.N.size<=maxLen
 a:IsKns w (vSl s.A) s.A.xs
 b:IsKns w (vSl s.B) s.B.xs
theorem IsSec.mono {w w':World} {s:SecD} (h:IsSec w s) (hb:Below w.heap.size w w'):IsSec w' s:=⟨h.n,h.a.mono hb,h.b.mono hb⟩
def curvB (xs:List Kn) (H lim:Int):Bool:=
 tabB xs&&(((xs.getD 0 default).X==0&&(xs.getD 0 default).Y==0)&&((xs.getD (xs.length-1) default).X==H&&decide ((xs.getD (xs.length-1) default).Y<=lim)))
theorem curve_any (xs:List Kn) (v:Value) (H lim:Int) (w:World) (hv:IsKns w v xs) :
  Calls Tryz.prog 184 #[v,.int .i64 H,.int .i64 lim] w fun e w'=>e=.returned (.bool (curvB xs H lim))/\Below w.heap.size w w':=by
 have ht:=tvalid_any xs v w hv
 have HV:=qh hv
 obtain ⟨a,cap,rfl,-,-,hC⟩:=hv
 obtain ⟨res,hres⟩:∃ res,res=curvB xs H lim:=⟨_,rfl⟩
 rw [<-hres]
 have HR:=qh hres
 clear hres
 cases hT:tabB xs
 ·have HF:Hid (res=false):=qh (by rw [HR.out,curvB,hT];rfl)
  rw [hT] at ht
  go_enter Tryz.func184,Tryz.ntmps184
  go_wp2_with fail
  refine Calls.to ht ?_
  rintro e w1 rfl hb1
  go_wp2_with fail
  go_ret
  exact ⟨ret_bool HF.out.symm,hb1⟩
 rw [hT] at ht
 have hl:=tabB_len hT
 have HC:=qh hC
 obtain ⟨n,hn⟩:∃ n,n=xs.length:=⟨_,rfl⟩
 have HN:=qh hn
 have HT:=qh hT
 rw [<-hn] at ht hl ⊢
 clear hn hC hT
 go_enter Tryz.func184,Tryz.ntmps184
 go_wp2_with fail
 refine Calls.to ht ?_
 rintro e w1 rfl hb1
 have hC:=HC.out.mono hb1
 have h0:0<xs.length:=by rw [<-HN.out];omega
 obtain ⟨l,hl1⟩:∃ l,l=n-1:=⟨_,rfl⟩
 have hll:l<xs.length:=by rw [<-HN.out];omega
 obtain ⟨b,off,rfl,d0,d1⟩:=hC.kn 0 h0
 obtain ⟨_,_,he,d2,d3⟩:=hC.kn l hll
 simp only [Option.some.injEq,Addr.mk.injEq] at he
 obtain ⟨rfl,rfl,-⟩:=he
 have g0:xs.getD 0 default=xs[0]:=by simp [List.getD,List.getElem?_eq_getElem h0]
 have g1:xs.getD (xs.length-1) default=xs[l]:=by rw [<-HN.out,<-hl1];simp [List.getD,List.getElem?_eq_getElem hll]
 obtain ⟨f,hf⟩:∃ f,f=xs[0]:=⟨_,rfl⟩
 obtain ⟨z,hz⟩:∃ z,z=xs[l]:=⟨_,rfl⟩
 rw [<-hf] at d0 d1 g0
 rw [<-hz] at d2 d3 g1
 have hres:=HR.out
 unfold curvB at hres
 rw [HT.out,g0,g1,Bool.true_and] at hres
 have x1:IntKind.i64.wrap ((n:Int)-1)=l:=by rw [IntWalk.i64_in _ om];omega
 have i1:(0:Int)<=l:=by omega
 have i2:(l:Int)<n:=by omega
 have i3:(0:Int)<n:=by omega
 rw [Nat.zero_mul,Nat.add_zero] at d0 d1
 obtain ⟨fX,fY⟩:=f
 obtain ⟨zX,zY⟩:=z
 simp only at d0 d1 d2 d3 hres
 obtain ⟨b1,e1⟩:∃ b,(fX==0)=b:=⟨_,rfl⟩
 obtain ⟨b2,e2⟩:∃ b,(fY==0)=b:=⟨_,rfl⟩
 obtain ⟨b3,e3⟩:∃ b,(zX==H)=b:=⟨_,rfl⟩
 obtain ⟨b4,e4⟩:∃ b,decide (zY<=lim)=b:=⟨_,rfl⟩
 rw [e1,e2,e3,e4] at hres
 have HRES:=qh hres
 clear hres hf hz g0 g1 hl1 hll h0 hC HR HC HV
 cases b1 <;> cases b2 <;> cases b3
 all_goals go_wp2_with fail
 all_goals go_ret
 all_goals exact ⟨ret_bool (by rw [HRES.out];rfl),hb1.alloc hb1.size _⟩
def secB (s:SecD):Bool:=
 nameB s.N&&(decide (1<=s.Ht)&&(decide (s.Ht<=32768)&&(decide ((0:Int)<=s.Pr)&&(decide (s.Pr<=1073741824)&&(curvB s.A.xs s.Ht 1073741824&&curvB s.B.xs s.Ht 1099511627776)))))
theorem boxSec (w W:World) (T:TypeId) (s:SecD) (cs:Array Value) (hcs:cs=(eSec s).toArray) (B:Nat) (hB:B=w.heap.size+1) (hb:Below B (w.alloc (.cells cs T)) W) :
  W.cell? ⟨w.heap.size,0,none⟩=some (.string s.N)/\W.cell? ⟨w.heap.size,1,none⟩=some (.int .i64 s.Ht)/\W.cell? ⟨w.heap.size,2,none⟩=some (.int .i64 s.Pr) /\
  W.cell? ⟨w.heap.size,3,none⟩=some (.slice s.A.a s.A.xs.length s.A.cap)/\W.cell? ⟨w.heap.size,4,none⟩=some (.slice s.B.a s.B.xs.length s.B.cap):=by
 subst hB;subst hcs
 exact ⟨(hb.cell (p:=⟨w.heap.size,0,none⟩) (by simp)).trans (by simp [go_sem]),(hb.cell (p:=⟨w.heap.size,1,none⟩) (by simp)).trans (by simp [go_sem]),(hb.cell (p:=⟨w.heap.size,2,none⟩) (by simp)).trans (by simp [go_sem]),
  (hb.cell (p:=⟨w.heap.size,3,none⟩) (by simp)).trans (by simp [go_sem]),(hb.cell (p:=⟨w.heap.size,4,none⟩) (by simp)).trans (by simp [go_sem])⟩
theorem secvalid_any (s:SecD) (w:World) (hs:IsSec w s):Calls Tryz.prog 120 #[vSec s] w fun e w'=>e=.returned (.bool (secB s))/\Below w.heap.size w w':=by
 have hb0:Below w.heap.size w (w.alloc (.cells (eSec s).toArray 102)):=qr.alloc (Nat.le_refl _) _
 obtain ⟨W,hW⟩:∃ W,W=w.alloc (.cells (eSec s).toArray 102):=⟨_,rfl⟩
 obtain ⟨c0,c1,c2,c3,c4⟩:=boxSec w (w.alloc (.cells (eSec s).toArray 102)) 102 s _ rfl _ rfl qr
 obtain ⟨res,hres⟩:∃ res,res=secB s:=⟨_,rfl⟩
 rw [<-hres]
 unfold secB at hres
 have hn:=isName_any s.N W hs.n
 have HW:=qh hW
 rw [<-hW] at hb0 c0 c1 c2 c3 c4
 have HS:=qh (hs.mono hb0)
 obtain ⟨N,Ht,Pr,⟨aa,ac,al⟩,⟨ba,bc,bl⟩⟩:=s
 simp only at c0 c1 c2 c3 c4 hn hres
 obtain ⟨b0,e0⟩:∃ b,nameB N=b:=⟨_,rfl⟩
 obtain ⟨b1,e1⟩:∃ b,decide (1<=Ht)=b:=⟨_,rfl⟩
 obtain ⟨b2,e2⟩:∃ b,decide (Ht<=32768)=b:=⟨_,rfl⟩
 obtain ⟨b3,e3⟩:∃ b,decide ((0:Int)<=Pr)=b:=⟨_,rfl⟩
 obtain ⟨b4,e4⟩:∃ b,decide (Pr<=1073741824)=b:=⟨_,rfl⟩
 obtain ⟨b5,e5⟩:∃ b,curvB al Ht 1073741824=b:=⟨_,rfl⟩
 obtain ⟨b6,e6⟩:∃ b,curvB bl Ht 1099511627776=b:=⟨_,rfl⟩
 rw [e0,e1,e2,e3,e4,e5,e6] at hres
 rw [e0] at hn
 have HRES:=qh hres
 have h5:=fun W' (hb:Below W.heap.size W W')=>curve_any al (.slice aa al.length ac) Ht 1073741824 W' (HS.out.mono hb).a
 have h6:=fun W' (hb:Below W.heap.size W W')=>curve_any bl (.slice ba bl.length bc) Ht 1099511627776 W' (HS.out.mono hb).b
 simp only [e5] at h5
 simp only [e6] at h6
 have H5:=qh h5
 have H6:=qh h6
 clear hres hs hW h5 h6 e5 e6 e0
 go_enter Tryz.func120,Tryz.ntmps120
 go_upto_region 1 with (fail)
 simp only [vSl]
 rw [<-HW.out]
 clear HW
 go_wp2_with fail
 refine hn.mono ?_
 rintro e w' ⟨rfl,rfl⟩
 clear hn
 cases b0
 ·go_wp2_with fail
  go_ret
  exact ⟨ret_bool (by rw [HRES.out];rfl),hb0⟩
 cases b1
 ·go_wp2_with fail
  go_ret
  exact ⟨ret_bool (by rw [HRES.out];rfl),hb0⟩
 cases b2
 ·go_wp2_with fail
  go_ret
  exact ⟨ret_bool (by rw [HRES.out];rfl),hb0⟩
 cases b3
 ·go_wp2_with fail
  go_ret
  exact ⟨ret_bool (by rw [HRES.out];rfl),hb0⟩
 cases b4
 ·go_wp2_with fail
  go_ret
  exact ⟨ret_bool (by rw [HRES.out];rfl),hb0⟩
 go_wp2_with fail
 refine Calls.to (H5.out w' qr) ?_
 rintro e w2 rfl hb2
 have hb3:=hb0.trans (hb2.mono hb0.size)
 have c0:=cel_lt c0 hb2
 have c1:=cel_lt c1 hb2
 have c2:=cel_lt c2 hb2
 have c3:=cel_lt c3 hb2
 have c4:=cel_lt c4 hb2
 cases b5
 ·go_wp2_with fail
  go_ret
  exact ⟨ret_bool (by rw [HRES.out];rfl),hb3⟩
 go_wp2_with fail
 refine Calls.to (H6.out w2 hb2) ?_
 rintro e w3 rfl hb4
 have hb5:=hb3.trans (hb4.mono hb3.size)
 go_wp2_with fail
 go_ret
 exact ⟨ret_bool (by rw [HRES.out];rfl),hb5⟩
end Go.Proofs.YtoiakijmbghhlaaGreat
namespace Go.Proofs.YtoiakijmbghhlaaGreat
open Go.RowKit Go.Maps
abbrev kS (s:ByteArray):Lit:=.string s.data.toList
theorem kS_inj {s t:ByteArray} (h:kS s=kS t):s=t:=by
 have h1:s.data.toList=t.data.toList:=by injection h
 cases s;cases t
 simp only at h1
 congr 1
 exact Array.ext' h1
theorem keyLitS (s:ByteArray):WideAt.IsKeyLit (kS s):=trivial
theorem undS:Tryz.prog.underlying 9=some .string:=by kernel_rfl
theorem kStr:Keyed Tryz.prog 9:=string_keyed undS
theorem keyS {s:ByteArray} (h:s.size<=maxLen):keyOf Tryz.prog 9 (.string s)=some (kS s):=WideMaps.keyOf_string_mk undS h
theorem undMSB:Tryz.prog.underlying 206=some (.map 9 4):=by kernel_rfl
theorem zeroB (w:World):(zeroValue 4).run Tryz.prog w=.ok (.bool false) w:=by kernel_rfl
theorem plainElem_bool_inv {H:Type} {v:Value} {z:DataW H×List MemPlace} (h:plainElem Tryz.prog 4 v=some z):∃ c,v=.bool c/\z=(.lit (.bool c),[]):=by
 unfold plainElem at h
 rw [undB] at h
 cases v <;> simp at h
 exact ⟨_,rfl,h.symm⟩
def SetS (w:World) (b n:Nat) (s:ByteArray->Prop):Prop:=
 ∃ D:DataW Unit,w.ownsMap Tryz.prog 9 elB b n D/\(∀ k,Maps.has D (kS k)=true↔s k)/\∀ kl,Maps.has D kl=true->D.atKey kl (.lit (.bool false))=.lit (.bool true)
theorem SetS.below {w w':World} {b n:Nat} {s:ByteArray->Prop} (h:SetS w b n s) (hb:Below w.heap.size w w'):SetS w' b n s:=by
 obtain ⟨D,h1,h2⟩:=h
 exact ⟨D,h1.kept (grown_none hb none) (by simp),h2⟩
theorem SetS.made (w:World):SetS (w.alloc (.map #[] 0)) w.heap.size 0 (fun _=>False):=
 ⟨.map [],World.ownsMap_made _ _ _ _,fun k=>by simp [Maps.has],fun kl h=>by simp [Maps.has] at h⟩
theorem SetS.iff {w:World} {b n:Nat} {s s':ByteArray->Prop} (h:SetS w b n s) (he:∀ k,s k↔s' k):SetS w b n s':=by
 obtain ⟨D,h1,h2,h3⟩:=h
 exact ⟨D,h1,fun k=>(h2 k).trans (he k),h3⟩
theorem SetS.put {w':World} {b n:Nat} {s:ByteArray->Prop} {D:DataW Unit} {k:ByteArray} (hm:IsMap D) (h2:(∀ k,Maps.has D (kS k)=true↔s k)/\∀ kl,Maps.has D kl=true->D.atKey kl (.lit (.bool false))=.lit (.bool true))
  (h1:w'.ownsMap Tryz.prog 9 elB b (n+1) (D.put (kS k) (.lit (.bool true)))):SetS w' b (n+1) (fun j=>s j\/j=k):=by
 refine ⟨_,h1,fun j=>?_,fun kl h=>?_⟩
 ·by_cases hj:j=k
  ·subst hj
   simp [has_put_same hm (keyLitS j)]
  ·have hne:kS j≠kS k:=fun e=>hj (kS_inj e)
   rw [has_put_other hne,h2.1 j]
   simp [hj]
 ·by_cases hkl:kl=kS k
  ·subst hkl
   rw [atKey_put_same hm (keyLitS k)]
  ·rw [has_put_other hkl] at h
   rw [atKey_put_other hkl]
   exact h2.2 kl h
theorem SetS.look {w:World} {b n:Nat} {s:ByteArray->Prop} (h:SetS w b n s) {k:ByteArray} (hk:k.size<=maxLen) (c:Bool) (hc:c=true↔s k) :
  (Instr.lookup 206 (.map (some b)) (.string k) false).run Tryz.prog w=.ok (.bool c) w:=by
 obtain ⟨D,hD,hf,ht⟩:=h
 obtain ⟨v,ps,hrun,hv⟩:=hD.lookup kStr undMSB (zeroB w) (zd:=.lit (.bool false)) (zp:=[]) (plainElem_bool undB false) (keyS hk)
 obtain ⟨c',rfl,hc'⟩:=plainElem_bool_inv hv
 rw [hrun]
 have hc':=congrArg Prod.fst hc'
 simp only at hc'
 suffices c'=c by rw [this]
 cases hh:Maps.has D (kS k)
 ·rw [atKey_of_not_has hh] at hc'
  have h1:¬ s k:=fun h=>by rw [(hf k).2 h] at hh;cases hh
  have h2:c=false:=by
   cases c
   ·rfl
   ·exact absurd (hc.1 rfl) h1
  rw [h2]
  simpa using hc'.symm
 ·rw [ht _ hh] at hc'
  have h2:c=true:=hc.2 ((hf k).1 hh)
  rw [h2]
  simpa using hc'.symm
end Go.Proofs.YtoiakijmbghhlaaGreat
namespace Go.Proofs.YtoiakijmbghhlaaGreat
open Go.RowKit
def IsSecs (w:World) (v:Value) (ss:List SecD):Prop:=IsL eSec 5 w v ss/\∀ s∈ss,IsSec w s
theorem IsSecs.mono {w w':World} {v:Value} {ss:List SecD} (h:IsSecs w v ss) (hb:Below w.heap.size w w'):IsSecs w' v ss:=⟨h.1.mono hb,fun s hs=>(h.2 s hs).mono hb⟩
theorem IsC.sec {w:World} {a:Option Addr} {xs:List SecD} (h:IsC eSec 5 w a xs) (i:Nat) (hi:i<xs.length) :
  ∃ b off,a=some ⟨b,off,none⟩/\w.cell? ⟨b,off+i*5,none⟩=some (.string xs[i].N)/\w.cell? ⟨b,off+i*5+1,none⟩=some (.int .i64 xs[i].Ht)/\w.cell? ⟨b,off+i*5+2,none⟩=some (.int .i64 xs[i].Pr) /\
   w.cell? ⟨b,off+i*5+3,none⟩=some (.slice xs[i].A.a xs[i].A.xs.length xs[i].A.cap)/\w.cell? ⟨b,off+i*5+4,none⟩=some (.slice xs[i].B.a xs[i].B.xs.length xs[i].B.cap):=by
 obtain ⟨b,off,e,hc⟩:=h i hi
 refine ⟨b,off,e,?_,?_,?_,?_,?_⟩
 ·exact hc 0 om
 ·exact hc 1 om
 ·exact hc 2 om
 ·exact hc 3 om
 ·exact hc 4 om
def nameIn (ss:List SecD) (x:ByteArray):Prop:=∃ s∈ss,s.N=x
instance (ss:List SecD) (x:ByteArray):Decidable (nameIn ss x):=inferInstanceAs (Decidable (∃ s∈ss,s.N=x))
def catE (ss:List SecD) (k:Nat):Bool:=
 match ss[k]? with
 | none=>false
 | some s=>secB s && !decide (nameIn (ss.take k) s.N)
def catB (ss:List SecD):Bool:=decide (ss.length<=40)&&allFrom (catE ss) 0 ss.length
theorem catvalid_any (ss:List SecD) (v:Value) (w:World) (hv:IsSecs w v ss) :
  Calls Tryz.prog 53 #[v] w fun e w'=>e=.returned (.bool (catB ss))/\Below w.heap.size w w':=by
 have hmm:=@run_makeMap Tryz.prog
 have HV:=qh hv.2
 obtain ⟨⟨a,cap,rfl,-,-,hC⟩,-⟩:=hv
 have HC:=qh hC
 obtain ⟨res,hres⟩:∃ res,res=catB ss:=⟨_,rfl⟩
 rw [<-hres]
 unfold catB at hres
 obtain ⟨n,hn⟩:∃ n,n=ss.length:=⟨_,rfl⟩
 have HN:=qh hn
 rw [<-hn] at hres ⊢
 clear hn hC
 by_cases h40:n<=40
 rotate_left
 ·have HF:Hid (res=false):=qh (by rw [hres,decide_eq_false h40];rfl)
  have i1:decide ((40:Int)<n)=true:=decide_eq_true om
  have i2:decide (40<n)=true:=decide_eq_true om
  clear hres h40
  go_enter Tryz.func53,Tryz.ntmps53
  go_wp2_with fail
  go_ret
  exact ⟨ret_bool HF.out.symm,bl⟩
 have HR:Hid (res=allFrom (catE ss) 0 n):=qh (by rw [hres,decide_eq_true h40];rfl)
 have i1:decide ((40:Int)<n)=false:=decide_eq_false om
 have i2:decide (40<n)=false:=decide_eq_false om
 have hb0:Below w.heap.size w (w.alloc (.map #[] 0)):=qr.alloc (Nat.le_refl _) _
 have HS0:Hid (SetS (w.alloc (.map #[] 0)) w.heap.size 0 (nameIn (ss.take 0))):=qh ((SetS.made w).iff (fun x=>⟨fun h=>h.elim,fun h=>by obtain ⟨s,hs,_⟩:=h;simp at hs⟩))
 clear hres
 go_enter Tryz.func53,Tryz.ntmps53
 go_wp2_with fail
 clear i1 i2
 go_loopw [12] (fun s12 wr=>∃ k:Nat,k<=n/\s12=.int .i64 k/\Below w.heap.size w wr/\Hid (SetS wr w.heap.size k (nameIn (ss.take k)))/\Hid (res=allFrom (catE ss) k n)) (fun s12 _=>n-(RowKit.intOf s12).toNat)
 case atStart=>exact ⟨0,Nat.zero_le _,rfl,hb0,HS0,HR⟩
 case round=>
  obtain ⟨k,hk,rfl,hb,hS,hr⟩:=hrel
  by_cases hkn:k<n
  ·have hks:k<ss.length:=by rw [<-HN.out];exact hkn
   obtain ⟨b,off,rfl,d0,d1,d2,d3,d4⟩:=(HC.out.mono hb).sec k hks
   have hsec:=(HV.out _ (List.getElem_mem hks)).mono hb
   have hstep:=allFrom_step (catE ss) hkn
   have hce:catE ss k=(secB ss[k] && !decide (nameIn (ss.take k) ss[k].N)):=by unfold catE;rw [List.getElem?_eq_getElem hks]
   have htk:ss.take (k+1)=ss.take k ++ [ss[k]]:=List.take_succ_eq_append_getElem hks
   obtain ⟨s,hs⟩:∃ s,s=ss[k]:=⟨_,rfl⟩
   rw [<-hs] at d0 d1 d2 d3 d4 hsec hce htk
   rw [hstep,hce] at hr
   have HRR:=qh hr
   have HTK:=qh htk
   have hbA:Below wr.heap.size wr (wr.alloc (.cells (eSec s).toArray 102)):=qr.alloc (Nat.le_refl _) _
   have hb3:=hb.trans (hbA.mono hb.size)
   have HSA:=qh (hS.out.below hbA)
   obtain ⟨c0,c1,c2,c3,c4⟩:=boxSec wr (wr.alloc (.cells (eSec s).toArray 102)) 102 s _ rfl _ rfl qr
   have hsv:=secvalid_any s _ (hsec.mono hbA)
   have HNS:=qh hsec.n
   have hsz:=hb.size
   obtain ⟨W,hW⟩:∃ W,W=wr.alloc (.cells (eSec s).toArray 102):=⟨_,rfl⟩
   have HW:=qh hW
   rw [<-hW] at hb3 HSA c0 c1 c2 c3 c4 hsv
   have i1:decide (k<n)=true:=decide_eq_true hkn
   have x7:IntKind.i64.wrap ((k:Int)+1)=k+1:=IntWalk.i64_in _ om
   have i4:(0:Int)<=k:=by omega
   have i5:(k:Int)<n:=by omega
   have HKN:=qh hkn
   clear hs hstep hce htk hr hbA hsec hW hS hb
   obtain ⟨wo,hwo⟩:∃ wo,wo=wr:=⟨_,rfl⟩
   subst hwo
   simp only [vSec,vSl] at hsv
   go_upto_region 7 with (fail)
   rw [<-HW.out]
   clear HW d0 d1 d2 d3 d4
   go_wp2_with fail
   refine Calls.to hsv ?_
   rintro e w4 rfl hb4
   have hb5:=hb3.trans (hb4.mono hb3.size)
   have HS4:=qh (HSA.out.below hb4)
   have c0:=cel_lt c0 hb4
   clear c1 c2 c3 c4 hsv hb4 hb3
   cases hsb:secB s
   ·have HF:Hid (res=false):=qh (by rw [HRR.out,hsb];rfl)
    clear hsb
    go_wp2_with fail
    go_ret
    exact ⟨ret_bool HF.out.symm,hb5⟩
   by_cases hin:nameIn (ss.take k) s.N
   ·have HF:Hid (res=false):=qh (by rw [HRR.out,hsb,decide_eq_true hin];rfl)
    have hlk:=HS4.out.look HNS.out true (by simp [hin])
    clear hsb hin
    go_wp2_with fail
    go_ret
    exact ⟨ret_bool HF.out.symm,hb5⟩
   ·have hlk:=HS4.out.look HNS.out false (by simp [hin])
    have hm2:Hid (res=allFrom (catE ss) (k+1) n):=qh (by rw [HRR.out,hsb,decide_eq_false hin];rfl)
    obtain ⟨D,hD,hDs⟩:=HS4.out
    have hkey:=keyS HNS.out
    have hnm:k<maxLen:=by simp only [maxLen];omega
    clear hsb hin
    go_wp2_with (at_mapUpdate;refine wpList_mapUpdate_own _ rfl _ _ _ 206 rfl 9 4 kStr undMSB elB w.heap.size k D rfl hD hnm _ _ _ rfl rfl hkey (.lit (.bool true)) [] (plainElem_bool undB true) ?_;intro w5 hown5 hgrow5)
    have hb6:=hb5.grown hgrow5 hb5.size (fun q hq=>by cases hq;exact Nat.le_refl _)
    have hS5:=SetS.put hD.isMap hDs hown5
    clear hown5 hgrow5 hD hDs hkey
    go_wp2_with fail
    go_roundw
    case measure=>simp [RowKit.intOf,x7];omega
    case rel=>exact ⟨k+1,by omega,by go_num,hb6,qh (hS5.iff (fun x=>by
     rw [HTK.out]
     unfold nameIn
     simp only [List.mem_append,List.mem_singleton]
     constructor
     ·rintro (⟨t,ht,he⟩|rfl)
      ·exact ⟨t,.inl ht,he⟩
      ·exact ⟨s,.inr rfl,rfl⟩
     ·rintro ⟨t,ht|rfl,he⟩
      ·exact .inl ⟨t,ht,he⟩
      ·exact .inr he.symm)),hm2⟩
  ·have i1:decide (k<n)=false:=decide_eq_false hkn
   have HF:Hid (res=true):=qh (by rw [hr.out,allFrom_end _ om])
   clear hr hS
   go_wp2_with fail
   go_ret
   exact ⟨ret_bool HF.out.symm,hb⟩
end Go.Proofs.YtoiakijmbghhlaaGreat
