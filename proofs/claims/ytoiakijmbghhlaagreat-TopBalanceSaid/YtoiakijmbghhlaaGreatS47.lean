/- What a network holds in a state: storage.Held. Conditions: the arguments read as data. | sizing at one pipe: Valid. Conditions: the pipe lies in memory. | sizing at one pipe: least, cost, values, bound, where the tree of the job lies in memory. Cond -/
import Derived.Test.YtoiakijmbghhlaaGreatS16
import Derived.Test.YtoiakijmbghhlaaGreatS08
import Derived.Test.YtoiakijmbghhlaaGreatS18
import Derived.Test.YtoiakijmbghhlaaGreatS13
import Derived.Test.YtoiakijmbghhlaaGreatS04
import Derived.Test.YtoiakijmbghhlaaGreatS11
set_option linter.unusedVariables false
set_option linter.unusedSimpArgs false
set_option maxRecDepth 100000
set_option maxHeartbeats 32000000
namespace Go.Proofs.YtoiakijmbghhlaaGreat
open Go.RowKit
def heldGo:List Int->List Int->Int->Int
 | v :: vs,p :: ps,k=>heldGo vs ps (wrap64 (k+wrap64 (v+p)))
 | _,_,k=>k
def heldV (s:St):Int:=heldGo s.V.xs s.P.xs 0
def heldXM (n:Net) (s:St):Int×Int:=if (netB n&&stB n s)=true then (heldV s,0) else (0,1)
theorem stB_lens {n:Net} {s:St} (h:stB n s=true):s.V.xs.length=n.Ns.xs.length/\s.P.xs.length=n.Ns.xs.length/\s.S.xs.length=n.Ls.xs.length/\s.O.xs.length=n.Ls.xs.length:=by
 cases hl:stLen n s
 ·rw [stB_len hl] at h;cases h
 ·simpa [stLen,and_assoc] using hl
structure StBx (w:World) (B:Nat) (s:St):Prop where
 c0:w.cell? ⟨B,0,none⟩=some (vSl s.V)
 c1:w.cell? ⟨B,1,none⟩=some (vSl s.P)
 c2:w.cell? ⟨B,2,none⟩=some (vSl s.S)
 c3:w.cell? ⟨B,3,none⟩=some (vSl s.O)
theorem stbx_lt {w w':World} {B j:Nat} {v:Value} (h:w.cell? ⟨B,j,none⟩=some v) (hb:Below w.heap.size w w'):w'.cell? ⟨B,j,none⟩=some v:=
 (hb.cell (p:=⟨B,j,none⟩) (lt_of_isSome (a:=⟨B,j,none⟩) (by rw [h];rfl))).trans h
theorem StBx.mono {w w':World} {B:Nat} {s:St} (h:StBx w B s) (hb:Below w.heap.size w w'):StBx w' B s:=
 ⟨stbx_lt h.c0 hb,stbx_lt h.c1 hb,stbx_lt h.c2 hb,stbx_lt h.c3 hb⟩
theorem StBx.new (w:World) (s:St) (T:TypeId):StBx (w.alloc (.cells (eSt s).toArray T)) w.heap.size s:=by
 refine ⟨?_,?_,?_,?_⟩ <;> simp [go_sem]
theorem held_any (n:Net) (s:St) (w:World) (hg:gNet w n) (hgs:gSt w s):Calls Tryz.prog 16 #[vNet n,vSt s] w fun e w'=>e=.returned (.tuple #[.int .i64 (heldXM n s).1,.int .i64 (heldXM n s).2])/\Below w.heap.size w w':=by
 obtain ⟨⟨na,nc,nxs⟩,⟨la,lc,lxs⟩⟩:=n
 obtain ⟨⟨va,vc,vs⟩,⟨pa,pc,ps⟩,⟨ea,ec,ss⟩,⟨oa,oc,os⟩⟩:=s
 have hb0:Below w.heap.size w ((w.alloc (.cells #[.slice na nxs.length nc,.slice la lxs.length lc] 25)).alloc (.cells #[.slice va vs.length vc,.slice pa ps.length pc,.slice ea ss.length ec,.slice oa os.length oc] 31)):=(qr.alloc (Nat.le_refl _) _).alloc (by simp) _
 have HBX:Hid (StBx ((w.alloc (.cells #[.slice na nxs.length nc,.slice la lxs.length lc] 25)).alloc (.cells #[.slice va vs.length vc,.slice pa ps.length pc,.slice ea ss.length ec,.slice oa os.length oc] 31)) (w.heap.size+1) ⟨⟨va,vc,vs⟩,⟨pa,pc,ps⟩,⟨ea,ec,ss⟩,⟨oa,oc,os⟩⟩):=by
  have h:=StBx.new (w.alloc (.cells #[.slice na nxs.length nc,.slice la lxs.length lc] 25)) ⟨⟨va,vc,vs⟩,⟨pa,pc,ps⟩,⟨ea,ec,ss⟩,⟨oa,oc,os⟩⟩ 31
  rw [show (w.alloc (.cells #[.slice na nxs.length nc,.slice la lxs.length lc] 25)).heap.size=w.heap.size+1 from by simp] at h
  exact qh h
 have hva:=svalid_any ⟨⟨na,nc,nxs⟩,⟨la,lc,lxs⟩⟩ ⟨⟨va,vc,vs⟩,⟨pa,pc,ps⟩,⟨ea,ec,ss⟩,⟨oa,oc,os⟩⟩ _ (rdNet.mono hg hb0) (rdSt.mono hgs hb0)
 obtain ⟨n,hn⟩:∃ n:Net,n=⟨⟨na,nc,nxs⟩,⟨la,lc,lxs⟩⟩:=⟨_,rfl⟩
 obtain ⟨s,hs⟩:∃ s:St,s=⟨⟨va,vc,vs⟩,⟨pa,pc,ps⟩,⟨ea,ec,ss⟩,⟨oa,oc,os⟩⟩:=⟨_,rfl⟩
 obtain ⟨⟨R,E⟩,hres⟩:∃ r,heldXM ⟨⟨na,nc,nxs⟩,⟨la,lc,lxs⟩⟩ ⟨⟨va,vc,vs⟩,⟨pa,pc,ps⟩,⟨ea,ec,ss⟩,⟨oa,oc,os⟩⟩=r:=⟨_,rfl⟩
 rw [hres]
 rw [<-hn,<-hs] at hres
 obtain ⟨vb,hvb⟩:∃ vb,(netB n&&stB n s)=vb:=⟨_,rfl⟩
 rw [show (netB ⟨⟨na,nc,nxs⟩,⟨la,lc,lxs⟩⟩&&stB ⟨⟨na,nc,nxs⟩,⟨la,lc,lxs⟩⟩ ⟨⟨va,vc,vs⟩,⟨pa,pc,ps⟩,⟨ea,ec,ss⟩,⟨oa,oc,os⟩⟩)=vb from by rw [<-hn,<-hs];exact hvb] at hva
 have HRES:Hid (((R,E)=if vb=true then (heldV s,0) else (0,1))/\(vb=true->vs.length=ps.length)):=by
  refine qh ⟨hres.symm.trans (by unfold heldXM;rw [hvb]),fun h=>?_⟩
  rw [h,Bool.and_eq_true] at hvb
  have:=stB_lens hvb.2
  rw [hs] at this
  simp only at this
  omega
 have HR0:Hid (heldV s=heldGo vs ps 0):=qh (by rw [hs];rfl)
 have HV:Hid (IsL eInt 1 w (.slice va vs.length vc) vs):=qh hgs.1.isL
 have HP:Hid (IsL eInt 1 w (.slice pa ps.length pc) ps):=qh hgs.2.1.isL
 have hbg:vs.length<=9223372036854775807:=Nat.le_trans hgs.1.1 hgs.1.2.1
 clear hres hvb hg hgs hn hs
 simp only [vNet,vSt,vSl] at hva ⊢
 cases vb
 ·have h2:=HRES.out.1
  rw [if_neg (by simp)] at h2
  simp only [Prod.mk.injEq] at h2
  obtain ⟨rfl,rfl⟩:=h2
  clear HRES HBX HR0 HV HP
  go_enter Tryz.func16,Tryz.ntmps16
  go_wp2_with fail
  refine Calls.go hb0 hva ?_
  rintro e w1 rfl _ hb1
  go_wp2_with fail
  go_ret2
  exact ⟨rfl,hb1⟩
 ·have h2:=HRES.out.1
  rw [if_pos rfl] at h2
  simp only [Prod.mk.injEq] at h2
  obtain ⟨h2,rfl⟩:=h2
  have HR:Hid (R=heldGo vs ps 0):=qh (h2.trans HR0.out)
  have HLP:=qh (HRES.out.2 rfl)
  clear h2 HR0 HRES
  go_enter Tryz.func16,Tryz.ntmps16
  go_wp2_with fail
  refine Calls.go hb0 hva ?_
  rintro e w1 rfl hb1' hb1
  have HBX:=qh (HBX.out.mono hb1')
  obtain ⟨f0,f1,f2,f3⟩:=HBX.out
  simp only [vSl] at f0 f1 f2 f3
  clear hb1' hva
  go_wp2_with fail
  go_loopw [6,16] (fun s6 s16 wr=>∃ (i:Nat) (k:Int),i<=vs.length/\s16=.int .i64 i/\s6=.int .i64 k/\Below w.heap.size w wr/\Hid (StBx wr (w.heap.size+1) ⟨⟨va,vc,vs⟩,⟨pa,pc,ps⟩,⟨ea,ec,ss⟩,⟨oa,oc,os⟩⟩)/\Hid (heldGo vs ps 0=heldGo (vs.drop i) (ps.drop i) k)) (fun _ i _=>vs.length-(intOf i).toNat)
  case atStart=>exact ⟨0,0,Nat.zero_le _,rfl,rfl,hb1,HBX,rfl⟩
  clear f0 f1 f2 f3 HBX
  case round=>
   as_aux_lemma=>
   obtain ⟨i,k,hi,rfl,rfl,hb,HX,hm⟩:=hrel
   by_cases hlt:i<vs.length
   ·have kp:i<ps.length:=by have:=HLP.out;omega
    obtain ⟨va',vc',e1,_,_,hVC⟩:=HV.out
    cases e1
    obtain ⟨pa',pc',e2,_,_,hPC⟩:=HP.out
    cases e2
    obtain ⟨vb,vo,rfl,cv⟩:=(hVC.mono hb).int i hlt
    obtain ⟨pb,po,rfl,cp⟩:=(hPC.mono hb).int i kp
    obtain ⟨f0,f1,f2,f3⟩:=HX.out
    simp only [vSl] at f0 f1 f2 f3
    have hstep:Hid (heldGo (vs.drop i) (ps.drop i) k=heldGo (vs.drop (i+1)) (ps.drop (i+1)) (wrap64 (k+wrap64 (vs[i]+ps[i])))):=by
     rw [List.drop_eq_getElem_cons hlt,List.drop_eq_getElem_cons kp];rfl
    have HM:=qh (hm.out.trans hstep.out)
    have i3:(i:Int)<ps.length:=by omega
    have x1:IntKind.i64.wrap ((i:Int)+1)=i+1:=IntWalk.i64_in _ om
    clear hVC hPC hstep hm
    generalize vs[i]=x at *
    generalize ps[i]=y at *
    go_wp2_with fail
    go_roundw
    case measure=>simp [intOf];omega
    case rel=>exact ⟨i+1,_,by omega,by go_num,rfl,bl,HX.out.mono (bl),HM.out⟩
   ·obtain rfl:i=vs.length:=by omega
    have hm2:=hm.out
    rw [List.drop_eq_nil_of_le (Nat.le_refl _)] at hm2
    have e3:R=k:=HR.out.trans hm2
    subst e3
    clear hm2 hm
    go_wp2_with fail
    go_ret2
    exact ⟨rfl,hb⟩
structure Pip (w:World) (a0 a1 a2 a3 a4 a5:Nat) (s:SecD):Prop where
 c0:w.cell? ⟨a0,0,none⟩=some (.int .i64 (-1))
 c1:w.cell? ⟨a1,0,none⟩=some (.int .i64 7)
 c2:w.cell? ⟨a2,0,none⟩=some (.int .i64 0)
 c3:w.cell? ⟨a3,0,none⟩=some (.int .i64 0)
 c4:w.cell? ⟨a4,0,none⟩=some (.int .i64 100)
 d0:w.cell? ⟨a5,0,none⟩=some (.string s.N)
 d1:w.cell? ⟨a5,1,none⟩=some (.int .i64 s.Ht)
 d2:w.cell? ⟨a5,2,none⟩=some (.int .i64 s.Pr)
 d3:w.cell? ⟨a5,3,none⟩=some (.slice s.A.a s.A.xs.length s.A.cap)
 d4:w.cell? ⟨a5,4,none⟩=some (.slice s.B.a s.B.xs.length s.B.cap)
 sec:IsSec w s
theorem Pip.mono {w w':World} {a0 a1 a2 a3 a4 a5:Nat} {s:SecD} (h:Pip w a0 a1 a2 a3 a4 a5 s) (hb:Below w.heap.size w w'):Pip w' a0 a1 a2 a3 a4 a5 s:=
 ⟨cel_lt h.c0 hb,cel_lt h.c1 hb,cel_lt h.c2 hb,cel_lt h.c3 hb,cel_lt h.c4 hb,cel_lt h.d0 hb,cel_lt h.d1 hb,cel_lt h.d2 hb,cel_lt h.d3 hb,cel_lt h.d4 hb,h.sec.mono hb⟩
abbrev one (a:Nat):Value:=.slice (some ⟨a,0,none⟩) 1 1
abbrev vPip (a0 a1 a2 a3 a4 a5:Nat):Value:=.agg #[one a0,one a1,one a2,one a3,one a4,one a5]
theorem Pip.secs {w:World} {a0 a1 a2 a3 a4 a5:Nat} {s:SecD} (h:Pip w a0 a1 a2 a3 a4 a5 s):IsSecs w (one a5) [s]:=by
 refine ⟨⟨some ⟨a5,0,none⟩,1,rfl,by simp,by decide,fun i hi=>?_⟩,fun t ht=>by rw [List.mem_singleton] at ht;subst ht;exact h.sec⟩
 have hi0:i=0:=by simpa using hi
 subst hi0
 refine ⟨a5,0,rfl,fun j hj=>?_⟩
 obtain ⟨_,_,_,_,_,d0,d1,d2,d3,d4,_⟩:=h
 match j,hj with
 | 0,_=>simpa using d0
 | 1,_=>simpa using d1
 | 2,_=>simpa using d2
 | 3,_=>simpa using d3
 | 4,_=>simpa using d4
theorem szwithin_any (a b c:Int) (w:World) (h:b<=a/\a<=c):Calls Tryz.prog 178 #[.int .i64 a,.int .i64 b,.int .i64 c] w fun e w'=>e=.returned (.bool true)/\w'=w:=by
 have i1:decide (b<=a)=true:=decide_eq_true h.1
 have i2:decide (a<=c)=true:=decide_eq_true h.2
 clear h
 go_enter Tryz.func178,Tryz.ntmps178
 go_wp2_with fail
 go_ret
 exact ⟨rfl,rfl⟩
theorem boxPip (w W:World) (T:TypeId) (a0 a1 a2 a3 a4 a5:Nat) (B:Nat) (hB:B=w.heap.size+1) (hb:Below B (w.alloc (.cells #[one a0,one a1,one a2,one a3,one a4,one a5] T)) W) :
  W.cell? ⟨w.heap.size,0,none⟩=some (one a0)/\W.cell? ⟨w.heap.size,1,none⟩=some (one a1)/\W.cell? ⟨w.heap.size,2,none⟩=some (one a2) /\
  W.cell? ⟨w.heap.size,3,none⟩=some (one a3)/\W.cell? ⟨w.heap.size,4,none⟩=some (one a4)/\W.cell? ⟨w.heap.size,5,none⟩=some (one a5):=by
 subst hB
 exact ⟨(hb.cell (p:=⟨w.heap.size,0,none⟩) (by simp)).trans (by simp [go_sem]),(hb.cell (p:=⟨w.heap.size,1,none⟩) (by simp)).trans (by simp [go_sem]),(hb.cell (p:=⟨w.heap.size,2,none⟩) (by simp)).trans (by simp [go_sem]),
  (hb.cell (p:=⟨w.heap.size,3,none⟩) (by simp)).trans (by simp [go_sem]),(hb.cell (p:=⟨w.heap.size,4,none⟩) (by simp)).trans (by simp [go_sem]),(hb.cell (p:=⟨w.heap.size,5,none⟩) (by simp)).trans (by simp [go_sem])⟩
theorem szvalid_one {a0 a1 a2 a3 a4 a5:Nat} {s:SecD} (w:World) (h:Pip w a0 a1 a2 a3 a4 a5 s) (hs:catB [s]=true) :
  Calls Tryz.prog 107 #[vPip a0 a1 a2 a3 a4 a5] w fun e w'=>e=.returned (.bool true)/\Below w.heap.size w w':=by
 have hb0:Below w.heap.size w (w.alloc (.cells #[one a0,one a1,one a2,one a3,one a4,one a5] 105)):=qr.alloc (Nat.le_refl _) _
 obtain ⟨b0,b1,b2,b3,b4,b5⟩:=boxPip w (w.alloc (.cells #[one a0,one a1,one a2,one a3,one a4,one a5] 105)) 105 a0 a1 a2 a3 a4 a5 _ rfl qr
 obtain ⟨W,hW⟩:∃ W,W=w.alloc (.cells #[one a0,one a1,one a2,one a3,one a4,one a5] 105):=⟨_,rfl⟩
 have HW:=qh hW
 rw [<-hW] at hb0 b0 b1 b2 b3 b4 b5
 have HP:=qh (h.mono hb0)
 have hcv:=catvalid_any [s] _ W HP.out.secs
 rw [hs] at hcv
 clear hW h hs
 go_enter Tryz.func107,Tryz.ntmps107
 go_upto_region 1 with (fail)
 rw [<-HW.out]
 clear HW
 go_wp2_with fail
 refine Calls.to hcv ?_
 rintro e w1 rfl hb1
 have hbw:=hb0.trans (hb1.mono hb0.size)
 have b0:=cel_lt b0 hb1
 have b1:=cel_lt b1 hb1
 have b2:=cel_lt b2 hb1
 have b3:=cel_lt b3 hb1
 have b4:=cel_lt b4 hb1
 have b5:=cel_lt b5 hb1
 obtain ⟨c0,c1,c2,c3,c4,-,-,-,-,-,-⟩:=HP.out.mono hb1
 clear hb1 hb0 hcv
 go_wp2_with fail
 refine wp_loop_rounds 2 ?_
 rw [rounds_succ]
 go_wp2_with fail
 iterate 4
  refine (szwithin_any _ _ _ _ om).mono ?_
  rintro e w' ⟨rfl,rfl⟩
  go_wp2_with fail
 rw [rounds_succ]
 go_wp2_with fail
 go_ret
 exact ⟨rfl,hbw⟩
structure OneT (w:World) (g a0 a1 a2 a3 a4 a5:Nat) (s:SecD):Prop where
 j0:w.cell? ⟨g,0,none⟩=some (one a0)
 j1:w.cell? ⟨g,1,none⟩=some (one a1)
 j2:w.cell? ⟨g,2,none⟩=some (one a2)
 j3:w.cell? ⟨g,3,none⟩=some (one a3)
 j4:w.cell? ⟨g,4,none⟩=some (one a4)
 j5:w.cell? ⟨g,5,none⟩=some (one a5)
 p6:∃ p r c,w.cell? ⟨g,6,none⟩=some (one p)/\w.cell? ⟨p,0,none⟩=some (.slice (some ⟨r,0,none⟩) 1 c)/\w.cell? ⟨r,0,none⟩=some (.bool true)
 p7:∃ q,w.cell? ⟨g,7,none⟩=some (one q)/\w.cell? ⟨q,0,none⟩=some (.slice none 0 0)
 pip:Pip w a0 a1 a2 a3 a4 a5 s
theorem OneT.mono {w w':World} {g a0 a1 a2 a3 a4 a5:Nat} {s:SecD} (h:OneT w g a0 a1 a2 a3 a4 a5 s) (hb:Below w.heap.size w w'):OneT w' g a0 a1 a2 a3 a4 a5 s:=by
 obtain ⟨p,r,c,h1,h2,h3⟩:=h.p6
 obtain ⟨q,h4,h5⟩:=h.p7
 exact ⟨cel_lt h.j0 hb,cel_lt h.j1 hb,cel_lt h.j2 hb,cel_lt h.j3 hb,cel_lt h.j4 hb,cel_lt h.j5 hb,⟨p,r,c,cel_lt h1 hb,cel_lt h2 hb,cel_lt h3 hb⟩,⟨q,cel_lt h4 hb,cel_lt h5 hb⟩,h.pip.mono hb⟩
theorem szleast_one {g a0 a1 a2 a3 a4 a5:Nat} {s:SecD} (b c:Nat) (H:Int) (w:World) (h:OneT w g a0 a1 a2 a3 a4 a5 s) (hv:w.cell? ⟨b,0,none⟩=some (.int .i64 21)) (hH:s.Ht<=H) :
  Calls Tryz.prog 111 #[.pointer (some ⟨g,0,none⟩),.slice (some ⟨b,0,none⟩) 1 c,.int .i64 0,.int .i64 H] w fun e w'=>e=.returned (.tuple #[.int .i64 21,.int .i64 0])/\w'=w:=by
 obtain ⟨j0,j1,j2,j3,j4,j5,⟨p,r,c',h1,h2,h3⟩,⟨q,h4,h5⟩,hp⟩:=h
 obtain ⟨c0,c1,c2,c3,c4,d0,d1,d2,d3,d4,-⟩:=hp
 have i1:decide (s.Ht<=H)=true:=decide_eq_true hH
 clear hH
 go_enter Tryz.func111,Tryz.ntmps111
 go_wp2_with fail
 refine wp_loop_rounds 2 ?_
 rw [rounds_succ]
 go_wp2_with fail
 rw [rounds_succ]
 go_wp2_with fail
 go_ret2
 exact ⟨rfl,rfl⟩
theorem szcost_one {g a0 a1 a2 a3 a4 a5:Nat} {s:SecD} (u:Value) (w:World) (h:OneT w g a0 a1 a2 a3 a4 a5 s) (hP:s.Pr=3) :
  Calls Tryz.prog 180 #[.pointer (some ⟨g,0,none⟩),u,.int .i64 0,.int .i64 0] w fun e w'=>e=.returned (.int .i64 21)/\Below w.heap.size w w':=by
 obtain ⟨j0,j1,j2,j3,j4,j5,⟨p,r,c',h1,h2,h3⟩,⟨q,h4,h5⟩,hp⟩:=h
 obtain ⟨c0,c1,c2,c3,c4,d0,d1,d2,d3,d4,-⟩:=hp
 rw [hP] at d2
 clear hP
 go_enter Tryz.func180,Tryz.ntmps180
 go_wp2_with fail
 go_quiet (fail)
 have hbW:Below w.heap.size w (w.drewN nq):=below_drewN qr nq
 have h4:=cel_lt h4 hbW
 have h5:=cel_lt h5 hbW
 clear j0 j1 j2 j3 j4 j5 h1 h2 h3 c0 c1 c2 c3 c4 d0 d1 d2 d3 d4
 go_wp2_with fail
 refine wp_loop_rounds 1 ?_
 rw [rounds_succ]
 go_wp2_with fail
 go_ret
 exact ⟨rfl,hbW⟩
theorem szbound_one {g a0 a1 a2 a3 a4 a5:Nat} {s:SecD} (o b c:Nat) (w:World) (h:OneT w g a0 a1 a2 a3 a4 a5 s) (ho:w.cell? ⟨o,0,none⟩=some (.slice (some ⟨b,0,none⟩) 1 c)) (hv:w.cell? ⟨b,0,none⟩=some (.int .i64 21)) (hH:s.Ht<=4194304) :
  Calls Tryz.prog 110 #[.pointer (some ⟨g,0,none⟩),one o] w fun e w'=>e=.returned (.int .i64 21)/\w'=w:=by
 have hl:=szleast_one b c 4194304 w h hv hH
 obtain ⟨j0,j1,j2,j3,j4,j5,⟨p,r,c',h1,h2,h3⟩,⟨q,h4,h5⟩,hp⟩:=h
 obtain ⟨c0,c1,c2,c3,c4,d0,d1,d2,d3,d4,-⟩:=hp
 clear hH
 go_enter Tryz.func110,Tryz.ntmps110
 go_wp2_with fail
 refine wp_loop_rounds 2 ?_
 rw [rounds_succ]
 go_wp2_with fail
 refine hl.mono ?_
 rintro e w' ⟨rfl,rfl⟩
 go_wp2_with fail
 rw [rounds_succ]
 go_wp2_with fail
 go_ret
 exact ⟨rfl,rfl⟩
theorem szvalues_one {g a0 a1 a2 a3 a4 a5:Nat} {s:SecD} (w:World) (h:OneT w g a0 a1 a2 a3 a4 a5 s) (hP:s.Pr=3) :
  Calls Tryz.prog 109 #[.pointer (some ⟨g,0,none⟩)] w fun e w'=>(∃ o b c,e=.returned (one o)/\w'.cell? ⟨o,0,none⟩=some (.slice (some ⟨b,0,none⟩) 1 c)/\w'.cell? ⟨b,0,none⟩=some (.int .i64 21))/\Below w.heap.size w w':=by
 have HT:=qh h
 have j0:=h.j0
 clear h
 go_enter Tryz.func109,Tryz.ntmps109
 go_wp2_with (refine wpList_mk _ rfl _ _ 70 rfl w.heap.size 28 _ 24 undRws infRw eV (.slice none 0 0) rfl rfl _ _ 1 rfl rfl rfl rfl (by decide) om (Nat.le_refl _) ?_;intro w1 hown1 hb1 hlt1)
 have HO:=qh hown1
 have HT1:=HT.out.mono hb1
 have hco:=szcost_one (one w.heap.size) w1 HT1 hP
 obtain ⟨j0,j1,j2,j3,j4,j5,⟨p,r,c',h1,h2,h3⟩,-,hp⟩:=HT1
 have d1:=hp.d1
 have HB1:=qh hb1
 have HL1:=qh hlt1
 clear hown1 hb1 hlt1 hp j0 j1 j2 j3 j4 d1 hP
 go_wp2_with fail
 refine wp_loop_rounds 2 ?_
 rw [rounds_succ]
 go_wp2_with fail
 refine wp_loop_rounds 2 ?_
 rw [rounds_succ]
 go_wp2_with fail
 refine Calls.to hco ?_
 rintro e w2 rfl hb2
 have ho2:=HO.out.below hb2
 have hl2:w.heap.size<w2.heap.size:=Nat.lt_of_lt_of_le HL1.out hb2.size
 have hc2:w2.cell? ⟨w.heap.size,0,none⟩=some (.slice none 0 0):=by
  have:=Own.cellAt' (enc:=eV) (fun _=>rfl) ho2 0 0 (by simp) (by simp)
  simpa using this
 have hbw2:=HB1.out.trans (hb2.mono HB1.out.size)
 have hown3:Own w2.heap.size 3 eInt 1 w2 (.slice none 0 0) ([]:List Int):=World.ownsRow_nil _ _ _ _
 have h1c:∀ u∈eInt 21,u.oneCell'=true:=by simp [Value.oneCell']
 have hyl:([]:List Int).length<2147483648:=by decide
 clear h1 h2 h3 hb2 hco j5
 go_wp2_with (at_builtin;go_must (refine wpList_pushR rfl _ _ 28 rfl 3 _ 1 8 undInts infInt rfl (by decide) 21 (fun _=>rfl) h1c _ [] rfl hown3 w2.heap.size rfl rfl hyl (by decide) (Nat.le_refl _) _ rfl ?_);intro g3 k3 w3 hR3;have hb3:=hR3.below hown3 (Nat.le_refl _);have hc3:=cel_lt hc2 hb3;have hf3:=(ho2.below hb3).free 0)
 have hv3:w3.cell? ⟨g3,0,none⟩=some (.int .i64 21):=by
  have:=Own.cellAt' (enc:=eInt) (fun _=>rfl) hR3.own 0 0 (by simp) (by simp)
  simpa using this
 have hg3:g3≠w.heap.size:=fun e=>by have:=(hR3.own.lt g3 rfl).1;omega
 have hbe:=(hbw2.trans (hb3.mono hbw2.size)).setCell (p:=⟨w.heap.size,0,none⟩) (Nat.le_refl _) (.slice (some ⟨g3,0,none⟩) (([]:List Int).length+1) k3)
 have hcE:(w3.setCell ⟨w.heap.size,0,none⟩ (.slice (some ⟨g3,0,none⟩) (([]:List Int).length+1) k3)).cell? ⟨w.heap.size,0,none⟩=some (.slice (some ⟨g3,0,none⟩) 1 k3):=by
  exact (World.cell?_setCell_same _ _ _ hc3).trans rfl
 have hvE:(w3.setCell ⟨w.heap.size,0,none⟩ (.slice (some ⟨g3,0,none⟩) (([]:List Int).length+1) k3)).cell? ⟨g3,0,none⟩=some (.int .i64 21):=by
  rw [<-hv3];exact World.cell?_of_block (Below.heap_setCell _ _ _ _ (fun e=>hg3 e))
 clear hR3 hb3 hc3 hf3 hv3 hown3
 rw [rounds_succ]
 go_wp2_with fail
 rw [rounds_succ]
 go_wp2_with fail
 go_ret
 exact ⟨⟨w.heap.size,g3,k3,rfl,hcE,hvE⟩,hbe⟩
end Go.Proofs.YtoiakijmbghhlaaGreat
