/- overflow.Cause, as in chapter 38. Conditions: the arguments read as data. -/
import Derived.Test.YtoiakijmbghhlaaGreatS46
import Derived.Test.YtoiakijmbghhlaaGreatS27
import Derived.Test.YtoiakijmbghhlaaGreatS31
import Derived.Test.YtoiakijmbghhlaaGreatS17
set_option linter.unusedVariables false
set_option linter.unusedSimpArgs false
set_option maxRecDepth 100000
set_option maxHeartbeats 32000000
namespace Go.Proofs.YtoiakijmbghhlaaGreat
open Go.RowKit
theorem indexPr (g:Nat) (lb:Array Value) (eg:∀ args w,(callFunc g args).run Tryz.prog w=.ok (.enter g args) w) (p:(Int×Int)->Bool) (xs:List (Int×Int)) (v:Value) (w:World)
  (hv:IsPrs w v xs) (hp:PredOn Tryz.prog g lb vPr p xs w) :
  Calls Tryz.prog 101 #[v,.func (.func g) #[] lb] w fun e w'=>e=.returned (.int .i64 (idxFrom p xs 0))/\Below w.heap.size w w':=by
 obtain ⟨a,cap,rfl,hcap,hbig,hs⟩:=hv
 go_enter Tryz.func101,Tryz.ntmps101
 go_wp2
 go_loopw [5,8] (fun _ s8 wr=>∃ k:Nat,k<=xs.length/\s8=.int .i64 k/\Below w.heap.size w wr/\Hid (idxFrom p xs 0=idxFrom p (xs.drop k) k)) (fun _ i _=>xs.length-(RowKit.intOf i).toNat)
 case atStart=>exact ⟨0,Nat.zero_le _,rfl,qr,rfl⟩
 case round=>
  obtain ⟨k,hk,rfl,hb,hm⟩:=hrel
  by_cases hlt:k<xs.length
  ·obtain ⟨b,off,rfl,c0,c1⟩:=(hs.mono hb).prs k hlt
   have hx:=hp wr hb xs[k] (List.getElem_mem hlt)
   have hstep:Hid (idxFrom p (xs.drop k) k=if p xs[k] then (k:Int) else idxFrom p (xs.drop (k+1)) (k+1)):=by
    rw [List.drop_eq_getElem_cons hlt];rfl
   clear hs hp
   generalize xs[k]=y at *
   cases hpy:p y
   all_goals
    rw [hpy] at hx hstep
    clear hpy
    go_wp2_with fail
    refine (Calls.to hx ?_)
    rintro e w1 rfl hb1
    have hbb:=hb.trans (hb1.mono hb.size)
    go_wp2_with fail
   ·go_roundw
    case rel=>exact ⟨k+1,by omega,by go_num,bl,hm.out.trans (hstep.out.trans (by simp))⟩
    case measure=>simp [RowKit.intOf];omega
   ·go_ret
    exact ⟨ret_int (hm.out.trans (hstep.out.trans (by simp))).symm,bl⟩
  ·go_wp2
   go_ret
   refine ⟨ret_int ?_,bl⟩
   rw [hm.out,List.drop_eq_nil_of_le om];rfl
theorem indexI_any (xs:List Int) (y:Int) (v:Value) (w:World) (hv:IsInts w v xs) :
  Calls Tryz.prog 80 #[v,.int .i64 y] w fun e w'=>e=.returned (.int .i64 (idxFrom (fun x=>y==x) xs 0))/\Below w.heap.size w w':=by
 obtain ⟨a,cap,rfl,hcap,hbig,hs⟩:=hv
 go_enter Tryz.func80,Tryz.ntmps80
 go_wp2
 go_loopw [5,8] (fun _ s8 wr=>∃ k:Nat,k<=xs.length/\s8=.int .i64 k/\Below w.heap.size w wr/\Hid (idxFrom (fun x=>y==x) xs 0=idxFrom (fun x=>y==x) (xs.drop k) k)) (fun _ i _=>xs.length-(intOf i).toNat)
 case atStart=>exact ⟨0,Nat.zero_le _,rfl,qr,rfl⟩
 case round=>
  obtain ⟨k,hk,rfl,hb,hm⟩:=hrel
  by_cases hlt:k<xs.length
  ·obtain ⟨b,off,rfl,c0⟩:=(hs.mono hb).int k hlt
   have hd:=qh (List.drop_eq_getElem_cons hlt)
   clear hs
   generalize xs[k]=x at *
   cases h:(y==x)
   ·have HS:=qh h
    go_wp2_with fail
    go_roundw
    case rel=>exact ⟨k+1,by omega,by go_num,bl,hm.out.trans (by rw [hd.out];simp [idxFrom,HS.out])⟩
    case measure=>simp [intOf];omega
   ·have HS:=qh h
    go_wp2_with fail
    go_ret
    exact ⟨ret_int (by rw [hm.out,hd.out];simp [idxFrom,HS.out]),bl⟩
  ·go_wp2_with fail
   go_ret
   refine ⟨ret_int ?_,bl⟩
   rw [hm.out,List.drop_eq_nil_of_le om];rfl
theorem containsI_any (xs:List Int) (y:Int) (v:Value) (w:World) (hv:IsInts w v xs) :
  Calls Tryz.prog 79 #[v,.int .i64 y] w fun e w'=>e=.returned (.bool (xs.contains y))/\Below w.heap.size w w':=by
 have HC:Hid (decide (0<=idxFrom (fun x=>y==x) xs 0)=xs.contains y):=by
  show _=_
  rw [idxFrom_any,List.contains_eq_any_beq]
 rw [<-HC.out]
 go_enter Tryz.func79,Tryz.ntmps79
 go_wp2_with fail
 refine Calls.to (indexI_any xs y v w hv) ?_
 rintro e w1 rfl hb
 go_wp2_with fail
 go_ret
 exact ⟨rfl,hb⟩
theorem fullM_at {ns:List Nd} {V:List Int} {k:Nat} (h1:k<ns.length) (h2:k<V.length):fullM ns V k=(!decide (ns[k].Kind=3)&&decide (V[k]=capB ns[k])):=by
 simp only [fullM,List.getD,List.getElem?_eq_getElem h1,List.getElem?_eq_getElem h2,Option.getD_some]
theorem ent102:∀ args w,(callFunc 102 args).run Tryz.prog w=.ok (.enter 102 args) w:=by
 intro args w
 simp [go_sem]
theorem cause2_any (x:Int×Int) (i:Nat) (B:Nat) (w:World) (hc:w.cell? ⟨B,0,none⟩=some (.int .i64 i)) :
  Calls Tryz.prog 102 #[vPr x,.pointer (some ⟨B,0,none⟩)] w fun e w'=>e=.returned (.bool (decide (x.1=(i:Int))))/\Below w.heap.size w w':=by
 obtain ⟨a,b⟩:=x
 simp only [vPr]
 by_cases h:a=(i:Int)
 ·have u:=beqT h
  have HH:Hid (decide (a=(i:Int))=true):=decide_eq_true h
  rw [HH.out]
  clear h HH
  go_enter Tryz.func102,Tryz.ntmps102
  go_wp2_with fail
  go_ret
  exact ⟨rfl,bl⟩
 ·have u:=beqF h
  have HH:Hid (decide (a=(i:Int))=false):=decide_eq_false h
  rw [HH.out]
  clear h HH
  go_enter Tryz.func102,Tryz.ntmps102
  go_wp2_with fail
  go_ret
  exact ⟨rfl,bl⟩
theorem cause1_any (ns:Sl Nd) (V:Sl Int) (k B1 B2:Nat) (w:World) (e0:w.cell? ⟨B1,0,none⟩=some (vSl ns)) (f0:w.cell? ⟨B2,0,none⟩=some (vSl V))
  (hs:IsC eNd 9 w ns.a ns.xs) (hv:IsC eInt 1 w V.a V.xs) (hk:k<ns.xs.length) (hkv:k<V.xs.length) (gx:gNd w ns.xs[k]) (hnd:ndB ns.xs[k]=true) :
  Calls Tryz.prog 100 #[.int .i64 k,.pointer (some ⟨B1,0,none⟩),.pointer (some ⟨B2,0,none⟩)] w fun e w'=>e=.returned (.bool (fullM ns.xs V.xs k))/\Below w.heap.size w w':=by
 obtain ⟨na,nc,nxs⟩:=ns
 obtain ⟨va,vc,vs⟩:=V
 simp only [vSl] at *
 have HF:=qh (fullM_at hk hkv)
 obtain ⟨res,hres⟩:∃ r,fullM nxs vs k=r:=⟨_,rfl⟩
 have HR:=qh (hres.symm.trans HF.out)
 rw [hres]
 clear hres HF
 obtain ⟨b,off,rfl,c0,c1,c2,c3,c4,c5,c6,c7,c8⟩:=hs.nd k hk
 obtain ⟨vb,vo,rfl,cv⟩:=hv.int k hkv
 have i1:(0:Int)<=k:=by omega
 have i2:(k:Int)<nxs.length:=by have h:k<nxs.length:=hk;omega
 have i3:(k:Int)<vs.length:=by have h:k<vs.length:=hkv;omega
 clear hs hv
 generalize nxs[k]=x at *
 generalize vs[k]=v at *
 have HX:Hid (capXB x=(capB x,0)):=by show _=_;simp [capXB,hnd]
 have hcap:=fun W h=>scapX_any x W h
 rw [HX.out] at hcap
 generalize capB x=c at *
 clear hnd
 by_cases k3:x.Kind=3
 ·have u:=bneF k3
  have HK:Hid (res=false):=by show _=_;rw [HR.out];simp [k3]
  clear k3 HR
  go_enter Tryz.func100,Tryz.ntmps100
  go_wp2_with fail
  refine Calls.to (hcap _ gx) ?_
  rintro e w1 rfl hb1
  have e0:=box_lt e0 hb1
  have f0:=box_lt f0 hb1
  have c1:=box_lt c1 hb1
  have cv:=box_lt cv hb1
  clear hcap
  go_wp2_with fail
  go_ret
  exact ⟨ret_bool HK.out.symm,hb1⟩
 ·have u:=bneT k3
  by_cases hvc:v=c
  ·have u2:=beqT hvc
   have HK:Hid (res=true):=by show _=_;rw [HR.out];simp [k3,hvc]
   clear k3 HR hvc
   go_enter Tryz.func100,Tryz.ntmps100
   go_wp2_with fail
   refine Calls.to (hcap _ gx) ?_
   rintro e w1 rfl hb1
   have e0:=box_lt e0 hb1
   have f0:=box_lt f0 hb1
   have c1:=box_lt c1 hb1
   have cv:=box_lt cv hb1
   clear hcap
   go_wp2_with fail
   go_ret
   exact ⟨ret_bool HK.out.symm,hb1⟩
  ·have u2:=beqF hvc
   have HK:Hid (res=false):=by show _=_;rw [HR.out];simp [k3,hvc]
   clear k3 HR hvc
   go_enter Tryz.func100,Tryz.ntmps100
   go_wp2_with fail
   refine Calls.to (hcap _ gx) ?_
   rintro e w1 rfl hb1
   have e0:=box_lt e0 hb1
   have f0:=box_lt f0 hb1
   have c1:=box_lt c1 hb1
   have cv:=box_lt cv hb1
   clear hcap
   go_wp2_with fail
   go_ret
   exact ⟨ret_bool HK.out.symm,hb1⟩
def lenV:Value->Nat
 | .slice _ n _=>n
 | _=>0
def WayIs (N:Nat) (ys:List Int):Prop:=0<ys.length/\ys.Nodup/\∀ y∈ys,0<=y/\y<(N:Int)
def causeP (n:Net) (s:St) (i:Int):ByteArray×Int:=
 if (netB n&&stB n s)=false then (⟨#[]⟩,1) else if i<0\/(n.Ns.xs.length:Int)<=i then (⟨#[]⟩,2) else if s.P.xs.getD i.toNat 0=0 then (⟨#[]⟩,12)
 else (nmAt n.Ns.xs (causeM n.Ns.xs n.Ls.xs s.V.xs n.Ns.xs.length [i]).toNat,0)
theorem cause_any (n:Net) (s:St) (i:Int) (w:World) (hg:gNet w n) (hgs:gSt w s):Calls Tryz.prog 33 #[vNet n,vSt s,.int .i64 i] w fun e w'=>e=.returned (.tuple #[.string (causeP n s i).1,.int .i64 (causeP n s i).2])/\Below w.heap.size w w':=by
 have hb0:Below w.heap.size w ((w.alloc (.cells (eNet n).toArray 25)).alloc (.cells (eSt s).toArray 31)):=(qr.alloc (Nat.le_refl _) _).alloc (by simp) _
 cases hr:(netB n&&stB n s)
 ·rw [show causeP n s i=(⟨#[]⟩,1) from by simp only [causeP,hr,if_true]]
  have HX:=qh hr
  go_enter Tryz.func33,Tryz.ntmps33
  go_wp2_with fail
  refine Calls.to (svalid_any n s _ (rdNet.mono hg hb0) (rdSt.mono hgs hb0)) ?_
  rintro e w1 rfl hb1
  have hbw:=hb0.trans (hb1.mono hb0.size)
  obtain ⟨f0,f1,f2,f3⟩:=boxSt (w.alloc (.cells (eNet n).toArray 25)) w1 31 s _ rfl (w.heap.size+2) (by simp) (by simpa using hb1)
  obtain ⟨e0,e1⟩:=boxNet w w1 25 n _ rfl _ rfl ((qr.alloc (by simp) _).trans (hb1.mono (by simp)))
  rw [show (w.alloc (.cells (eNet n).toArray 25)).heap.size=w.heap.size+1 from by simp] at f0 f1 f2 f3
  rw [HX.out]
  clear hb1
  go_wp2_with fail
  go_ret2
  exact ⟨rfl,hbw⟩
 have HX:=qh hr
 by_cases i0:i<0
 ·rw [show causeP n s i=(⟨#[]⟩,2) from by simp only [causeP,hr,i0,true_or,if_true];simp]
  have q:decide (i<0)=true:=decide_eq_true i0
  go_enter Tryz.func33,Tryz.ntmps33
  go_wp2_with fail
  refine Calls.to (svalid_any n s _ (rdNet.mono hg hb0) (rdSt.mono hgs hb0)) ?_
  rintro e w1 rfl hb1
  have hbw:=hb0.trans (hb1.mono hb0.size)
  obtain ⟨f0,f1,f2,f3⟩:=boxSt (w.alloc (.cells (eNet n).toArray 25)) w1 31 s _ rfl (w.heap.size+2) (by simp) (by simpa using hb1)
  obtain ⟨e0,e1⟩:=boxNet w w1 25 n _ rfl _ rfl ((qr.alloc (by simp) _).trans (hb1.mono (by simp)))
  rw [show (w.alloc (.cells (eNet n).toArray 25)).heap.size=w.heap.size+1 from by simp] at f0 f1 f2 f3
  rw [HX.out]
  clear hb1
  go_wp2_with fail
  go_ret2
  exact ⟨rfl,hbw⟩
 have q:decide (i<0)=false:=decide_eq_false i0
 by_cases iN:(n.Ns.xs.length:Int)<=i
 ·rw [show causeP n s i=(⟨#[]⟩,2) from by simp only [causeP,hr,iN,or_true,if_true];simp]
  have q2:decide ((n.Ns.xs.length:Int)<=i)=true:=decide_eq_true iN
  go_enter Tryz.func33,Tryz.ntmps33
  go_wp2_with fail
  refine Calls.to (svalid_any n s _ (rdNet.mono hg hb0) (rdSt.mono hgs hb0)) ?_
  rintro e w1 rfl hb1
  have hbw:=hb0.trans (hb1.mono hb0.size)
  obtain ⟨f0,f1,f2,f3⟩:=boxSt (w.alloc (.cells (eNet n).toArray 25)) w1 31 s _ rfl (w.heap.size+2) (by simp) (by simpa using hb1)
  obtain ⟨e0,e1⟩:=boxNet w w1 25 n _ rfl _ rfl ((qr.alloc (by simp) _).trans (hb1.mono (by simp)))
  rw [show (w.alloc (.cells (eNet n).toArray 25)).heap.size=w.heap.size+1 from by simp] at f0 f1 f2 f3
  rw [HX.out]
  clear hb1
  go_wp2_with fail
  go_ret2
  exact ⟨rfl,hbw⟩
 have q2:decide ((n.Ns.xs.length:Int)<=i)=false:=decide_eq_false iN
 obtain ⟨k,rfl⟩:∃ k:Nat,i=(k:Int):=⟨i.toNat,by omega⟩
 have hk:k<n.Ns.xs.length:=by omega
 have hnet:netB n=true:=by rw [Bool.and_eq_true] at hr;exact hr.1
 have hst:stB n s=true:=by rw [Bool.and_eq_true] at hr;exact hr.2
 have hlen:s.V.xs.length=n.Ns.xs.length/\s.P.xs.length=n.Ns.xs.length:=by
  simp only [stB,stLen,Bool.and_eq_true,decide_eq_true_eq] at hst
  exact ⟨hst.1.1.1.1,hst.1.1.1.2⟩
 have hkp:k<s.P.xs.length:=by omega
 have hpk:s.P.xs.getD (k:Int).toNat 0=s.P.xs[k]:=by simp [List.getD,List.getElem?_eq_getElem hkp]
 have i1:(0:Int)<=k:=by omega
 have i2:(k:Int)<s.P.xs.length:=by omega
 obtain ⟨pb,po,ep,cp⟩:=hgs.2.1.2.2.1.int k hkp
 by_cases p0:s.P.xs[k]=0
 ·rw [show causeP n s (k:Int)=(⟨#[]⟩,12) from by simp only [causeP,hr,i0,iN,hpk,p0,false_or,if_true,if_false];simp]
  have u:=beqT p0
  have HPL:=qh hlen
  clear hlen hpk p0 hr hst
  go_enter Tryz.func33,Tryz.ntmps33
  go_wp2_with fail
  refine Calls.to (svalid_any n s _ (rdNet.mono hg hb0) (rdSt.mono hgs hb0)) ?_
  rintro e w1 rfl hb1
  have hbw:=hb0.trans (hb1.mono hb0.size)
  obtain ⟨f0,f1,f2,f3⟩:=boxSt (w.alloc (.cells (eNet n).toArray 25)) w1 31 s _ rfl (w.heap.size+2) (by simp) (by simpa using hb1)
  obtain ⟨e0,e1⟩:=boxNet w w1 25 n _ rfl _ rfl ((qr.alloc (by simp) _).trans (hb1.mono (by simp)))
  rw [show (w.alloc (.cells (eNet n).toArray 25)).heap.size=w.heap.size+1 from by simp] at f0 f1 f2 f3
  rw [HX.out]
  clear hb1
  have cp:=box_lt cp hbw
  simp only [vSl,ep] at f1
  generalize s.P.xs[k]=pv at *
  go_wp2_with fail
  go_ret2
  exact ⟨rfl,hbw⟩
 rw [show causeP n s (k:Int)=(nmAt n.Ns.xs (causeM n.Ns.xs n.Ls.xs s.V.xs n.Ns.xs.length [(k:Int)]).toNat,0) from by simp only [causeP,hr,i0,iN,hpk,p0,false_or,if_false];simp]
 have u:=beqF p0
 have HPL:=qh hlen
 have hNx:n.Ns.xs.length<=9223372036854775807:=by have h1:=hg.1.1;have h2:=hg.1.2.1;omega
 have hN3:n.Ns.xs.length<=300:=by have h:=hnet;simp [netB] at h;omega
 obtain ⟨res,hres⟩:∃ r,nmAt n.Ns.xs (causeM n.Ns.xs n.Ls.xs s.V.xs n.Ns.xs.length [(k:Int)]).toNat=r:=⟨_,rfl⟩
 have HRES:=qh hres
 rw [hres]
 clear hlen hpk p0 hr hst hres
 go_enter Tryz.func33,Tryz.ntmps33
 go_wp2_with fail
 refine Calls.to (svalid_any n s _ (rdNet.mono hg hb0) (rdSt.mono hgs hb0)) ?_
 rintro e w1 rfl hb1
 have hbw:=hb0.trans (hb1.mono hb0.size)
 obtain ⟨f0,f1,f2,f3⟩:=boxSt (w.alloc (.cells (eNet n).toArray 25)) w1 31 s _ rfl (w.heap.size+2) (by simp) (by simpa using hb1)
 obtain ⟨e0,e1⟩:=boxNet w w1 25 n _ rfl _ rfl ((qr.alloc (by simp) _).trans (hb1.mono (by simp)))
 rw [show (w.alloc (.cells (eNet n).toArray 25)).heap.size=w.heap.size+1 from by simp] at f0 f1 f2 f3
 rw [HX.out]
 clear hb1
 have cp:=box_lt cp hbw
 simp only [vSl,ep] at f1
 generalize s.P.xs[k]=pv at *
 go_wp2_with fail
 refine Calls.to (edgesX_any n _ (rdNet.mono hg hbw) hnet) ?_
 rintro e w2 ⟨vE,rfl,isE⟩ hb2
 have hbw2:=hbw.trans (hb2.mono hbw.size)
 have e0:=box_lt e0 hb2
 have e1:=box_lt e1 hb2
 have f0:=box_lt f0 hb2
 have f1:=box_lt f1 hb2
 clear hb2 cp ep f2 f3
 replace isE:IsPrs w2 vE (edgesM n.Ns.xs n.Ls.xs):=isE.isL (enc:=ePr) (fun _=>rfl)
 obtain ⟨ea,ec,rfl,hE1,hE2,isC⟩:=isE
 rw [edges_len] at hE1
 have hEl:=qh (edges_len n.Ns.xs n.Ls.xs)
 have isE:IsPrs w2 (.slice ea (edgesM n.Ns.xs n.Ls.xs).length ec) (edgesM n.Ns.xs n.Ls.xs):=⟨ea,ec,rfl,by rw [edges_len];exact hE1,hE2,isC⟩
 rw [hEl.out] at isE ⊢
 have hown0:=Own.fresh (enc:=eInt) (fun _=>rfl) w2 w2.heap.size (Nat.le_refl _) 3 (k:Int) #[.int .i64 k] rfl
 go_wp2_with fail
 go_loopw [11] (fun s11 wr=>∃ ys:List Int,Own w2.heap.size 3 eInt 1 wr s11 ys/\WayIs n.Ns.xs.length ys/\Below w2.heap.size w2 wr/\Hid (causeM n.Ns.xs n.Ls.xs s.V.xs n.Ns.xs.length [(k:Int)]=causeM n.Ns.xs n.Ls.xs s.V.xs (n.Ns.xs.length+1-ys.length) ys)) (fun s11 _=>n.Ns.xs.length+1-lenV s11)
 case atStart=>exact ⟨[(k:Int)],hown0,⟨by simp,by simp,by intro y hy;simp at hy;subst hy;omega⟩,qr.alloc (Nat.le_refl _) _,by show _=_;simp⟩
 case round=>
  obtain ⟨ys,hown,⟨hl0,hnd0,hbd⟩,hb,hm⟩:=hrel
  have hbw3:Below w.heap.size w wr:=hbw2.trans (hb.mono hbw2.size)
  have e0:=box_lt e0 hb
  have e1:=box_lt e1 hb
  have f0:=box_lt f0 hb
  have f1:=box_lt f1 hb
  have isE:=isE.mono hb
  have isC:=isC.mono hb
  have hlen:=nodup_len _ ys hnd0 hbd
  obtain ⟨g,cap,rfl,hgb,hgl,hcap,hbig⟩:=hown.place hl0
  have hcell:wr.cell? ⟨g,(ys.length-1)*1+0,none⟩=some (.int .i64 (ys[ys.length-1]'om)):=Own.cellAt' (enc:=eInt) (xs:=ys) (fun _=>rfl) hown (ys.length-1) 0 om Nat.zero_lt_one
  have hlast:lastI ys=ys[ys.length-1]:=by simp [lastI,List.getD,List.getElem?_eq_getElem (show ys.length-1<ys.length by omega)]
  have hat:=hbd _ (List.getElem_mem (show ys.length-1<ys.length by omega))
  obtain ⟨j,hj⟩:∃ j:Nat,ys[ys.length-1]=(j:Int):=⟨(ys[ys.length-1]).toNat,by omega⟩
  have hjl:j<n.Ns.xs.length:=by rw [hj] at hat;omega
  rw [hj] at hcell hlast
  simp only [Nat.mul_one,Nat.add_zero] at hcell
  have hnm:nmAt n.Ns.xs (lastI ys).toNat=n.Ns.xs[j].Name:=by rw [hlast];simp [nmAt,List.getD,List.getElem?_eq_getElem hjl]
  have HNM:=qh hnm
  have HL:=qh hlast
  have HE:=qh (next_edge hnet j hjl n.Ls.xs.length 0 om)
  have HOwn:=qh hown
  have j1:(0:Int)<=j:=by omega
  have j2:(j:Int)<n.Ns.xs.length:=by omega
  obtain ⟨nb,no,en,n0,_⟩:=(hg.1.2.2.1.mono hbw3).nd j hjl
  simp only [vSl,en] at e0
  clear hlast hj hat hnm hown
  have o1:1<=ys.length:=hl0
  have w1':IntKind.i64.wrap ((ys.length:Int)-1)=(ys.length:Int)-1:=IntWalk.i64_in _ om
  have w2':((ys.length:Int)-1).toNat=ys.length-1:=by omega
  have w3':0<=(ys.length:Int)-1:=by omega
  have w4':(ys.length:Int)-1<ys.length:=by omega
  have hNL:=qh (show n.Ls.xs.length<=9223372036854775807 from by have h1:=hg.2.1;have h2:=hg.2.2.1;omega)
  go_wp2_with fail
  have hbA:Below wr.heap.size wr (wr.alloc (.cells #[.int .i64 j] 3)):=qr.alloc (Nat.le_refl _) _
  refine Calls.to (indexPr 102 #[.pointer (some ⟨wr.heap.size,0,none⟩)] ent102 (fun x=>decide (x.1=(j:Int))) (edgesM n.Ns.xs n.Ls.xs) _ _ (isE.mono hbA) (fun W hW x _=>cause2_any x j wr.heap.size W ((hW.cell (p:=⟨wr.heap.size,0,none⟩) (by simp)).trans (by simp [go_sem])))) ?_
  rintro e w3 rfl hb3
  have hA:w3.cell? ⟨wr.heap.size,0,none⟩=some (.int .i64 j):=(hb3.cell (p:=⟨wr.heap.size,0,none⟩) (by simp)).trans (by simp [go_sem])
  have hbW:Below wr.heap.size wr w3:=hbA.trans (hb3.mono hbA.size)
  clear hb3 hbA w1' w2' w3' w4'
  have e0:=box_lt e0 hbW
  have e1:=box_lt e1 hbW
  have f0:=box_lt f0 hbW
  have n0:=box_lt n0 hbW
  have isC:=isC.mono hbW
  have hown:=HOwn.out.below hbW
  have hbw:=hbw3.trans (hbW.mono hbw3.size)
  have hb2:=hb.trans (hbW.mono hb.size)
  clear hbW hcell HOwn isE
  generalize wr.heap.size=BA at *
  have hfuel:n.Ns.xs.length+1-ys.length=(n.Ns.xs.length-ys.length)+1:=by omega
  have HM:=qh (hm.out.trans (by rw [hfuel]:_=causeM n.Ns.xs n.Ls.xs s.V.xs ((n.Ns.xs.length-ys.length)+1) ys))
  clear hm hfuel
  have hE:=HE.out
  rw [List.drop_zero] at hE
  rw [List.drop_zero,<-HNM.out] at hE
  clear HE
  rcases hE with ⟨hi,hn⟩|⟨m,hi,hm2,hn⟩
  ·have HN:Hid (n.Ns.xs[j].Name=res):=by
    show _=_
    rw [<-HRES.out,HM.out,causeM_stop1 (by rw [hn];omega)]
    exact HNM.out.symm
   have u1:decide ((-1:Int)<0)=true:=rfl
   rw [hi]
   clear hi hn
   go_wp2_with fail
   go_ret2
   exact ⟨by rw [HN.out];rfl,hbw⟩
  ·obtain ⟨kk,hkk⟩:∃ x:Nat,findNd n.Ns.xs n.Ls.xs[m].To=(x:Int):=⟨(findNd n.Ns.xs n.Ls.xs[m].To).toNat,by have:=(netB_lk hnet m hm2).2;omega⟩
   have hkl:kk<n.Ns.xs.length:=by have:=findNd_bd n.Ns.xs n.Ls.xs[m].To;omega
   have hml:m<(edgesM n.Ns.xs n.Ls.xs).length:=by rw [edges_len];exact hm2
   obtain ⟨qb,qo,rfl,p1,p2⟩:=isC.prs m hml
   have hto:((edgesM n.Ns.xs n.Ls.xs)[m]'hml).2=(kk:Int):=by rw [<-hkk];simp [edgesM]
   rw [hto] at p2
   have HK:Hid (nextM n.Ns.xs (nmAt n.Ns.xs (lastI ys).toNat) n.Ls.xs=(kk:Int)):=by
    show _=_
    rw [hn,<-hkk]
    simp [List.getD,List.getElem?_eq_getElem hm2]
   have m1:(0:Int)<=m:=by omega
   have m2:(m:Int)<n.Ls.xs.length:=by omega
   have u1:decide ((m:Int)<0)=false:=decide_eq_false om
   have hkv:kk<s.V.xs.length:=by rw [HPL.out.1];exact hkl
   have gx:=rdNd.mono (hg.1.2.2.2 _ (List.getElem_mem hkl)) hbw
   have hnd:=(netB_nd hnet kk hkl).1
   have HE0:Hid (w3.cell? ⟨w.heap.size,0,none⟩=some (vSl n.Ns)):=by show _=_;rw [e0];simp only [vSl,en]
   rw [hi]
   clear hi hn hkk hto p1 hml
   go_wp2_with fail
   refine Calls.to (cause1_any n.Ns s.V kk w.heap.size (w.heap.size+1) _ HE0.out f0 (hg.1.2.2.1.mono hbw) (hgs.1.2.2.1.mono hbw) hkl hkv gx hnd) ?_
   rintro e w4 rfl hb4
   have e0:=box_lt e0 hb4
   have n0:=box_lt n0 hb4
   have hA:=box_lt hA hb4
   have p2:=box_lt p2 hb4
   have hown:=hown.below hb4
   have hbw4:=hbw.trans (hb4.mono hbw.size)
   have hb24:=hb2.trans (hb4.mono hb2.size)
   clear hb4 HE0 gx hnd isC hbw hb2
   cases hf:fullM n.Ns.xs s.V.xs kk
   ·have HN:Hid (n.Ns.xs[j].Name=res):=by
     show _=_
     rw [<-HRES.out,HM.out,causeM_stop3 (by rw [HK.out];exact hf)]
     exact HNM.out.symm
    clear hf
    go_wp2_with fail
    go_ret2
    exact ⟨by rw [HN.out];rfl,hbw4⟩
   have HF:=qh hf
   clear hf
   go_wp2_with fail
   refine Calls.to (containsI_any ys kk _ w4 (hown.isL (fun _=>rfl))) ?_
   rintro e w5 rfl hb5
   have e0:=box_lt e0 hb5
   have n0:=box_lt n0 hb5
   have hA:=box_lt hA hb5
   have p2:=box_lt p2 hb5
   have hown:=hown.below hb5
   have hbw5:=hbw4.trans (hb5.mono hbw4.size)
   have hb25:=hb24.trans (hb5.mono hb24.size)
   clear hb5 hbw4 hb24
   cases hh:ys.contains (kk:Int)
   rotate_left
   ·have HN:Hid (n.Ns.xs[j].Name=res):=by
     show _=_
     rw [<-HRES.out,HM.out,causeM_stop2 (by rw [HK.out];exact hh)]
     exact HNM.out.symm
    clear hh
    go_wp2_with fail
    go_ret2
    exact ⟨by rw [HN.out];rfl,hbw5⟩
   have HR:=qh (HM.out.trans (causeM_step (by rw [HK.out];omega) (by rw [HK.out];exact hh) (by rw [HK.out];exact HF.out)))
   rw [HK.out] at HR
   have hz5:w2.heap.size<=w5.heap.size:=hb25.size
   have hlo:ys.length<2147483648:=by omega
   have hnot:(kk:Int) ∉ ys:=by
    intro hm
    rw [List.contains_iff_mem.2 hm] at hh
    cases hh
   have hWI:WayIs n.Ns.xs.length (ys ++ [(kk:Int)]):=by
    refine ⟨by simp,List.nodup_append.2 ⟨hnd0,by simp,?_⟩,?_⟩
    ·intro a ha b hb
     simp only [List.mem_singleton] at hb
     subst hb
     rintro rfl
     exact hnot ha
    ·intro y hy
     rcases List.mem_append.1 hy with h|h
     ·exact hbd y h
     ·simp only [List.mem_singleton] at h
      subst h
      omega
   have HR2:Hid (causeM n.Ns.xs n.Ls.xs s.V.xs n.Ns.xs.length [(k:Int)]=causeM n.Ns.xs n.Ls.xs s.V.xs (n.Ns.xs.length+1-(ys ++ [(kk:Int)]).length) (ys ++ [(kk:Int)])):=by
    show _=_
    rw [HR.out]
    congr 1
    simp only [List.length_append,List.length_singleton]
    omega
   clear HR HF hnot hh HM
   go_wp2_with (at_builtin;go_must (refine wpList_pushB rfl _ _ 28 rfl 3 _ 1 8 undInts infInt rfl (by decide) (kk:Int) (fun _=>rfl) (by simp [Value.oneCell']) _ ys rfl hown _ rfl rfl hlo (by decide) hz5 _ rfl ?_);intro g3 cap3 w6 hown6 hbg6 hgl6 hb6 hc61 hc62)
   go_roundw
   case measure=>simp [lenV];omega
   case rel=>exact ⟨ys ++ [(kk:Int)],hown6,hWI,hb25.trans hb6,HR2⟩
end Go.Proofs.YtoiakijmbghhlaaGreat
