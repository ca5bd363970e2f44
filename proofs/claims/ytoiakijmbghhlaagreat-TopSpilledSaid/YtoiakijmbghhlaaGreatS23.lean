/- links: Flows. Conditions: network, catalogue, levels and state read as data. -/
import Derived.Test.YtoiakijmbghhlaaGreatS22
import Derived.Test.YtoiakijmbghhlaaGreatS17
import Derived.Test.YtoiakijmbghhlaaGreatS18
set_option linter.unusedVariables false
set_option linter.unusedSimpArgs false
set_option maxRecDepth 100000
set_option maxHeartbeats 32000000
namespace Go.Proofs.YtoiakijmbghhlaaGreat
open Go.RowKit
theorem containsLk (g:Nat) (lb:Array Value) (eg:∀ args w,(callFunc g args).run Tryz.prog w=.ok (.enter g args) w) (p:Lk->Bool) (xs:List Lk) (v:Value) (w:World)
  (hv:IsLks w v xs) (hp:PredOn Tryz.prog g lb vLk p xs w) :
  Calls Tryz.prog 45 #[v,.func (.func g) #[] lb] w fun e w'=>e=.returned (.bool (xs.any p))/\Below w.heap.size w w':=by
 go_enter Tryz.func45,Tryz.ntmps45
 go_wp2_with fail
 refine Calls.to (indexLk g lb eg p xs v w hv hp) ?_
 rintro e w1 rfl hb
 go_wp2_with fail
 go_ret
 exact ⟨ret_bool (idxFrom_any p xs 0),hb⟩
theorem ent274:∀ args w,(callFunc 274 args).run Tryz.prog w=.ok (.enter 274 args) w:=by
 intro args w
 simp [go_sem]
theorem lflows1_any (ss:List SecD) (v:Value) (x:Lk) (B:Nat) (w:World) (hv:IsSecs w v ss) (hc:w.cell? ⟨B,0,none⟩=some v) :
  Calls Tryz.prog 274 #[vLk x,.pointer (some ⟨B,0,none⟩)] w fun e w'=>e=.returned (.bool (!knownB ss x))/\Below w.heap.size w w':=by
 have hb0:Below w.heap.size w (w.alloc (.cells (eLk x).toArray 61)):=qr.alloc (Nat.le_refl _) _
 have hbx:=bxLk w (w.alloc (.cells (eLk x).toArray 61)) 61 x _ rfl _ rfl qr
 have hkn:=lknown_any ss v x _ (hv.mono hb0)
 have hc:=cel_lt hc hb0
 obtain ⟨W,hW⟩:∃ W,W=w.alloc (.cells (eLk x).toArray 61):=⟨_,rfl⟩
 have HW:=qh hW
 rw [<-hW] at hb0 hbx hkn hc
 obtain ⟨⟨k0,k1,k2⟩,⟨k3,k4,k5,k6⟩,k7,k8,k9,k10⟩:=hbx
 obtain ⟨⟨sa,sc,rfl,-,-,-⟩,-⟩:=hv
 generalize knownB ss x=y at *
 simp only [vLk,vSl] at hkn ⊢
 clear hW
 go_enter Tryz.func274,Tryz.ntmps274
 go_upto_region 1 with (fail)
 rw [<-HW.out]
 clear HW
 go_wp2_with fail
 refine Calls.to hkn ?_
 rintro e w1 rfl hb1
 have hbw:=hb0.trans (hb1.mono hb0.size)
 go_wp2_with fail
 go_ret
 exact ⟨rfl,hbw⟩
inductive FlowsR (base:Nat) (w:World) (m:Nat):Value->Prop
 | no (e:Int):e≠0->FlowsR base w m (.tuple #[.slice none 0 0,.int .i64 e])
 | ok (u:Value) (qs:List Int):qs.length=m->Own base 3 eInt 1 w u qs->FlowsR base w m (.tuple #[u,.int .i64 0])
theorem netB_lens {n:Net} (h:netB n=true):n.Ns.xs.length<=300/\n.Ls.xs.length<=400:=by
 simp only [netB,Bool.and_eq_true,decide_eq_true_eq] at h
 exact ⟨h.1.1.1,h.1.1.2⟩
theorem levelE_ok {ns:List Nd} {vs:List Int} (h:levelE ns vs=0):vs.length=ns.length:=by
 unfold levelE at h
 split at h
 ·cases h
 ·rename_i h1;simpa using h1
theorem lflows_any (n:Net) (ss:List SecD) (v:Value) (ls:List Int) (lv:Value) (s:St) (w:World) (hg:gNet w n) (hv:IsSecs w v ss) (hls:IsInts w lv ls) (hgs:gSt w s) :
  Calls Tryz.prog 230 #[vNet n,v,lv,vSt s] w fun e w'=>(∃ u,e=.returned u/\FlowsR w.heap.size w' n.Ls.xs.length u)/\Below w.heap.size w w':=by
 obtain ⟨W,hW⟩:∃ W,W=allocs w [((eNet n).toArray,25),(#[v],26),((eSt s).toArray,31)]:=⟨_,rfl⟩
 have hbw:Below w.heap.size w W:=by rw [hW];exact allocs_below _ _
 have t0:W.heap[w.heap.size]? = some (.cells (eNet n).toArray 25 (0,0)):=by rw [hW];exact allocs_at [((eNet n).toArray,25),(#[v],26),((eSt s).toArray,31)] w 0 (by simp)
 have t1:W.heap[w.heap.size+1]? = some (.cells #[v] 26 (0,0)):=by rw [hW];exact allocs_at [((eNet n).toArray,25),(#[v],26),((eSt s).toArray,31)] w 1 (by simp)
 have t2:W.heap[w.heap.size+1+1]? = some (.cells (eSt s).toArray 31 (0,0)):=by rw [hW];exact allocs_at [((eNet n).toArray,25),(#[v],26),((eSt s).toArray,31)] w 2 (by simp)
 have HW:Hid (W=((w.alloc (.cells (eNet n).toArray 25)).alloc (.cells #[v] 26)).alloc (.cells (eSt s).toArray 31)):=qh hW
 have q0:W.cell? ⟨w.heap.size,0,none⟩=some (.slice n.Ns.a n.Ns.xs.length n.Ns.cap):=(tank_blk t0 0).trans rfl
 have q1:W.cell? ⟨w.heap.size,1,none⟩=some (.slice n.Ls.a n.Ls.xs.length n.Ls.cap):=(tank_blk t0 1).trans rfl
 have v0:W.cell? ⟨w.heap.size+1,0,none⟩=some v:=(tank_blk t1 0).trans rfl
 have s0:W.cell? ⟨w.heap.size+1+1,0,none⟩=some (.slice s.V.a s.V.xs.length s.V.cap):=(tank_blk t2 0).trans rfl
 have s1:W.cell? ⟨w.heap.size+1+1,1,none⟩=some (.slice s.P.a s.P.xs.length s.P.cap):=(tank_blk t2 1).trans rfl
 have s2:W.cell? ⟨w.heap.size+1+1,2,none⟩=some (.slice s.S.a s.S.xs.length s.S.cap):=(tank_blk t2 2).trans rfl
 have s3:W.cell? ⟨w.heap.size+1+1,3,none⟩=some (.slice s.O.a s.O.xs.length s.O.cap):=(tank_blk t2 3).trans rfl
 have HG:=qh (rdNet.mono hg hbw)
 have HS:=qh (rdSt.mono hgs hbw)
 have HV:=qh (hv.mono hbw)
 have HL:=qh (hls.mono hbw)
 have hca:=catvalid_any ss v W HV.out
 obtain ⟨⟨sa,sc,hvv,-,-,-⟩,-⟩:=hv
 have HVV:=qh hvv
 obtain ⟨la,lc,rfl,-,-,-⟩:=hls
 clear hW t0 t1 t2 hg hgs
 obtain ⟨y0,h0⟩:∃ y,catB ss=y:=⟨_,rfl⟩
 rw [h0] at hca
 subst hvv
 simp only [vNet,vSt,vSl]
 clear h0
 go_enter Tryz.func230,Tryz.ntmps230
 go_upto_region 1 with (fail)
 rw [<-HW.out]
 clear HW
 go_wp2_with fail
 refine Calls.to hca ?_
 rintro e w1 rfl hb1
 have hbr:=hbw.trans (hb1.mono hbw.size)
 have hbW:=hb1
 have q0:=cel_lt q0 hb1
 have q1:=cel_lt q1 hb1
 have v0:=cel_lt v0 hb1
 have s0:=cel_lt s0 hb1
 have s1:=cel_lt s1 hb1
 have s2:=cel_lt s2 hb1
 have s3:=cel_lt s3 hb1
 clear hca hb1
 cases y0
 ·clear q0 q1 s0 s1 s2 s3
  go_wp2_with fail
  go_ret2
  exact ⟨⟨_,rfl,.no _ (by decide)⟩,hbr⟩
 have hsv:=svalid_any n s w1 (rdNet.mono HG.out hbW) (rdSt.mono HS.out hbW)
 obtain ⟨y1,h1⟩:∃ y,(netB n&&stB n s)=y:=⟨_,rfl⟩
 rw [h1] at hsv
 have HY:=qh h1
 simp only [vNet,vSt,vSl] at hsv
 clear h1
 go_wp2_with fail
 refine Calls.to hsv ?_
 rintro e w2 rfl hb1
 have hbr:=hbr.trans (hb1.mono hbr.size)
 have hbW:=hbW.trans (hb1.mono hbW.size)
 have q0:=cel_lt q0 hb1
 have q1:=cel_lt q1 hb1
 have v0:=cel_lt v0 hb1
 have s0:=cel_lt s0 hb1
 have s1:=cel_lt s1 hb1
 have s2:=cel_lt s2 hb1
 have s3:=cel_lt s3 hb1
 clear hsv hb1
 cases y1
 ·clear q0 q1 s0 s1 s2 s3
  go_wp2_with fail
  go_ret2
  exact ⟨⟨_,rfl,.no _ (by decide)⟩,hbr⟩
 have hyy:=HY.out
 rw [Bool.and_eq_true] at hyy
 have hnl:=(netB_lens hyy.1).1
 have hll:=llevelled_any n ls _ w2 ((rdNet.mono HG.out hbW).1.isL) (HL.out.mono hbW) om
 obtain ⟨le,hle⟩:∃ le,le=levelE n.Ns.xs ls:=⟨_,rfl⟩
 rw [<-hle] at hll
 have HLE:=qh hle
 simp only [vNet,vSl] at hll
 clear hle hnl hyy
 go_wp2_with fail
 refine Calls.to hll ?_
 rintro e w3 rfl hb1
 have hbr:=hbr.trans (hb1.mono hbr.size)
 have hbW:=hbW.trans (hb1.mono hbW.size)
 have q0:=cel_lt q0 hb1
 have q1:=cel_lt q1 hb1
 have v0:=cel_lt v0 hb1
 have s0:=cel_lt s0 hb1
 have s1:=cel_lt s1 hb1
 have s2:=cel_lt s2 hb1
 have s3:=cel_lt s3 hb1
 clear hll hb1
 by_cases hl0:le=0
 rotate_left
 ·have k1:(le != 0)=true:=by simpa using hl0
  have k2:decide (le=0)=false:=decide_eq_false hl0
  have HNE:=qh hl0
  clear q0 q1 s0 s1 s2 s3 hl0
  go_wp2_with fail
  go_ret2
  exact ⟨⟨_,rfl,.no _ HNE.out⟩,hbr⟩
 have k1:(le != 0)=false:=by simpa using hl0
 have HLL:Hid (ls.length=n.Ns.xs.length):=qh (levelE_ok (by rw [<-HLE.out];exact hl0))
 clear hl0 HLE
 have hcn:=containsLk 274 #[.pointer (some ⟨w.heap.size+1,0,none⟩)] ent274 (fun x=>!knownB ss x) n.Ls.xs _ w3 ((rdNet.mono HG.out hbW).2.isL) (fun V hV x _=>lflows1_any ss _ x _ V (HV.out.mono (hbW.trans (hV.mono hbW.size))) (cel_lt v0 hV))
 obtain ⟨y2,h2⟩:∃ y,n.Ls.xs.any (fun x=>!knownB ss x)=y:=⟨_,rfl⟩
 rw [h2] at hcn
 have HKN:=qh h2
 simp only [vSl] at hcn
 clear h2
 go_wp2_with fail
 refine Calls.to hcn ?_
 rintro e w4 rfl hb1
 have hbr:=hbr.trans (hb1.mono hbr.size)
 have hbW:=hbW.trans (hb1.mono hbW.size)
 have q0:=cel_lt q0 hb1
 have q1:=cel_lt q1 hb1
 have v0:=cel_lt v0 hb1
 have s0:=cel_lt s0 hb1
 have s1:=cel_lt s1 hb1
 have s2:=cel_lt s2 hb1
 have s3:=cel_lt s3 hb1
 clear hcn hb1 k1
 cases y2
 rotate_left
 ·clear q0 q1 s0 s1 s2 s3
  go_wp2_with fail
  go_ret2
  exact ⟨⟨_,rfl,.no _ (by decide)⟩,hbr⟩
 have hkn:∀ x∈n.Ls.xs,knownB ss x=true:=fun x hx=>by
  have:=List.any_eq_false.1 HKN.out x hx
  simpa using this
 have HKA:=qh hkn
 obtain ⟨m,hm⟩:∃ m,m=n.Ls.xs.length:=⟨_,rfl⟩
 have HM:=qh hm
 have hyy:=HY.out
 rw [Bool.and_eq_true] at hyy
 have hm4:m<2147483648:=by have:=(netB_lens hyy.1).2;omega
 have hSl:s.S.xs.length=m/\s.O.xs.length=m:=by
  have h:=hyy.2
  unfold stB stLen at h
  simp only [Bool.and_eq_true,decide_eq_true_eq] at h
  omega
 rw [hSl.1] at s2
 rw [hSl.2] at s3
 have HSL:=qh hSl
 have hends:∀ k (h:k<n.Ls.xs.length),(0<=findNd n.Ns.xs n.Ls.xs[k].From/\findNd n.Ns.xs n.Ls.xs[k].From<n.Ns.xs.length)/\(0<=findNd n.Ns.xs n.Ls.xs[k].To/\findNd n.Ns.xs n.Ls.xs[k].To<n.Ns.xs.length):=fun k h=>by
  have h1:=netB_lk hyy.1 k h
  exact ⟨⟨h1.1,(findNd_bd _ _).2⟩,h1.2,(findNd_bd _ _).2⟩
 have HE:=qh hends
 rw [<-hm] at q1
 clear hkn hm hyy hSl hends
 go_wp2_with fail
 have HS4:=qh hbr.size
 go_loopw [11,38] (fun s11 s38 wr=>∃ (k:Nat) (qs:List Int),k<=m/\s38=.int .i64 k/\Below w4.heap.size w4 wr/\Own w4.heap.size 3 eInt 1 wr s11 qs/\Hid (qs.length=k)) (fun _ s38 _=>m-(RowKit.intOf s38).toNat)
 case atStart=>exact ⟨0,[],Nat.zero_le _,rfl,qr,World.ownsRow_nil _ _ _ _,qh rfl⟩
 case round=>
  obtain ⟨k,qs,hk,rfl,hb,hO,hql⟩:=hrel
  obtain ⟨wo,hwo⟩:∃ wo,wo=wr:=⟨_,rfl⟩
  subst hwo
  have hbr:=hbr.trans (hb.mono hbr.size)
  have hbW:=hbW.trans (hb.mono hbW.size)
  have hyl:qs.length<2147483648:=by have:=hql.out;omega
  obtain ⟨oa,oc,rfl⟩:=hO.isSlice
  by_cases hkm:k<m
  ·have q0:=cel_lt q0 hb
   have q1:=cel_lt q1 hb
   have v0:=cel_lt v0 hb
   have s0:=cel_lt s0 hb
   have s1:=cel_lt s1 hb
   have s2:=cel_lt s2 hb
   have s3:=cel_lt s3 hb
   have hkn:k<n.Ls.xs.length:=by rw [<-HM.out];exact hkm
   obtain ⟨b,off,ea,c0,c1,c2,c3,c4,c5,c6,c7,c8,c9,c10⟩:=((rdNet.mono HG.out hbW).2.2.2.1).lk k hkn
   have gS:=rdSt.mono HS.out hbW
   obtain ⟨b1,o1,ea1,e0⟩:=gS.2.2.1.2.2.1.int k (by rw [HSL.out.1];exact hkm)
   obtain ⟨b2,o2,ea2,e1⟩:=gS.2.2.2.2.2.1.boolAt k (by rw [HSL.out.2];exact hkm)
   obtain ⟨st,hst⟩:∃ st,st=s.S.xs[k]'(by rw [HSL.out.1];exact hkm):=⟨_,rfl⟩
   obtain ⟨so,hso⟩:∃ so,so=s.O.xs[k]'(by rw [HSL.out.2];exact hkm):=⟨_,rfl⟩
   rw [<-hst] at e0
   rw [<-hso] at e1
   rw [ea1] at s2
   rw [ea2] at s3
   have gx:=((rdNet.mono HG.out hbW).2.2.2.2 _ (List.getElem_mem hkn))
   have hke:=HE.out k hkn
   have hkk:=HKA.out _ (List.getElem_mem hkn)
   obtain ⟨x,hx⟩:∃ x,x=n.Ls.xs[k]'hkn:=⟨_,rfl⟩
   rw [<-hx] at c0 c1 c2 c3 c4 c5 c6 c7 c8 c9 c10 gx hke hkk
   have i1:decide (k<m)=true:=decide_eq_true hkm
   have x7:IntKind.i64.wrap ((k:Int)+1)=k+1:=IntWalk.i64_in _ om
   have i4:(0:Int)<=k:=by omega
   have i5:(k:Int)<m:=by omega
   have hbA:Below wo.heap.size wo (wo.alloc (.cells (eLk x).toArray 61)):=qr.alloc (Nat.le_refl _) _
   have hbx:=bxLk wo (wo.alloc (.cells (eLk x).toArray 61)) 61 x _ rfl _ rfl qr
   obtain ⟨W2,hW2⟩:∃ W2,W2=wo.alloc (.cells (eLk x).toArray 61):=⟨_,rfl⟩
   have HW2:=qh hW2
   rw [<-hW2] at hbA hbx
   obtain ⟨⟨k0,k1,k2⟩,⟨k3,k4,k5,k6⟩,k7,k8,k9,k10⟩:=hbx
   have hat:=fun y=>lat_any n ss _ x ls _ st so (more W2 y) ((rdNet.mono HG.out (hbW.trans ((hbA.trans ((below_more W2 y).mono hbA.size)).mono hbW.size))).1.isL) (rdLk.mono gx (hbA.trans ((below_more W2 y).mono hbA.size))) (HV.out.mono (hbW.trans ((hbA.trans ((below_more W2 y).mono hbA.size)).mono hbW.size))) (HL.out.mono (hbW.trans ((hbA.trans ((below_more W2 y).mono hbA.size)).mono hbW.size))) HLL.out hkk hke.1 hke.2
   simp only [vNet,vLk,vSl] at hat
   simp only [<-HM.out,ea] at hat
   have HAT:=qh hat
   clear hat hx hst hso hW2 hkn hke hkk gx gS
   rw [ea] at q1
   have HKM:=qh hkm
   clear hkm
   have EA:=qh ea
   have EA1:=qh ea1
   have EA2:=qh ea2
   go_upto_region 12 with (fail)
   rw [<-HW2.out]
   clear HW2 c0 c1 c2 c3 c4 c5 c6 c7 c8 c9 c10
   have q0:=cel_lt q0 hbA
   have q1:=cel_lt q1 hbA
   have v0:=cel_lt v0 hbA
   have s0:=cel_lt s0 hbA
   have s1:=cel_lt s1 hbA
   have s2:=cel_lt s2 hbA
   have s3:=cel_lt s3 hbA
   have e0:=cel_lt e0 hbA
   have e1:=cel_lt e1 hbA
   refine wp_region_more_tail 14 (by kernel_rfl) (by kernel_rfl) ?_
   simp only [List.take_succ_cons,List.take_zero]
   repeat (go_big_quiet_step (fail))
   refine wpQuiet_nil ?_
   intro _ hwq
   obtain ⟨xq,hwq⟩:=hwq
   subst hwq
   refine wpAny_ready (rs:=[14]) (by kernel_rfl) (by simp) ?_
   refine AllReady.cons rfl (fun K hK=>?_) AllReady.nil
   go_simp
   go_at_call 276
   refine (HAT.out _).mono ?_
   rintro e w6 ⟨⟨u,rfl,hu⟩,hb6⟩
   have hb7:=hbA.trans (((below_more W2 xq).trans (hb6.mono (below_more W2 xq).size)).mono hbA.size)
   cases hu with
   | mk q er=>
   refine hK _ _ ?_
   clear hK K k0 k1 k2 k3 k4 k5 k6 k7 k8 k9 k10 e0 e1 q0 q1 v0 s0 s1 s2 s3 hb6 hbA HAT
   refine wpAny_take (i:=15) (v:=?_) rfl (by kernel_rfl) (by kernel_rfl) (by kernel_rfl) (fun _ _ _ h=>h) (Or.inl ⟨by rfl,?_⟩) ?_
   case refine_2=>(intro w;go_simp;try (with_reducible rfl))
   refine wpAny_take (i:=16) (v:=?_) rfl (by kernel_rfl) (by kernel_rfl) (by kernel_rfl) (fun _ _ _ h=>h) (Or.inl ⟨by rfl,?_⟩) ?_
   case refine_2=>(intro w;go_simp;try (with_reducible rfl))
   refine wpAny_take (i:=17) (v:=?_) rfl (by kernel_rfl) (by kernel_rfl) (by kernel_rfl) (fun _ _ _ h=>h) (Or.inl ⟨by rfl,?_⟩) ?_
   case refine_2=>(intro w;go_simp;try (with_reducible rfl))
   refine wpAny_ready (rs:=[18]) (by kernel_rfl) (by simp) ?_
   refine AllReady.cons rfl (fun K hK=>?_) AllReady.nil
   go_simp
   refine hK _ _ ?_
   clear hK K
   refine wpAny_ready (rs:=[19]) (by kernel_rfl) (by simp) ?_
   refine AllReady.cons rfl (fun K hK=>?_) AllReady.nil
   go_simp
   refine hK _ _ ?_
   clear hK K
   refine wpAny_done (by kernel_rfl) ?_ _
   have hbr7:=hbr.trans (hb7.mono hbr.size)
   by_cases he0:er=0
   rotate_left
   ·have z1:(er != 0)=true:=by simpa using he0
    have HNE:=qh he0
    clear he0
    go_wp2_with fail
    go_ret2
    exact ⟨⟨_,rfl,.no _ HNE.out⟩,hbr7⟩
   subst he0
   have hb8:=hb.trans (hb7.mono hb.size)
   have hO7:=hO.below hb7
   have hs7:w4.heap.size<=w6.heap.size:=hb8.size
   have h1c:∀ u∈eInt q,u.oneCell'=true:=by simp [Value.oneCell']
   clear hO hb hb7 hbr
   go_wp2_with (at_builtin;go_must (refine wpList_pushR rfl _ _ 28 rfl 3 _ 1 8 undInts infInt rfl (by decide) q (fun _=>rfl) h1c _ qs rfl hO7 w6.heap.size rfl rfl hyl (by decide) hs7 _ rfl ?_);intro g8 k8 w8 hR8)
   have hb9:=hb8.trans (hR8.below hO7 hs7)
   have hO8:=hR8.own
   clear hR8 hO7 h1c ea ea1 ea2
   first|rw [<-EA1.out]|skip
   first|rw [<-EA2.out]|skip
   first|rw [<-EA.out]|skip
   go_roundw
   case measure=>
    have:=HKM.out
    simp [RowKit.intOf,x7];omega
   case rel=>exact ⟨k+1,qs ++ [q],HKM.out,by go_num,hb9,hO8,qh (by rw [List.length_append,hql.out];rfl)⟩
  ·have i1:decide (k<m)=false:=decide_eq_false hkm
   have hqm:qs.length=n.Ls.xs.length:=by have:=hql.out;have:=HM.out;omega
   have hIs:=hO.base HS4.out
   have HQ:=qh (And.intro hqm hIs)
   clear hqm hIs hO q0 q1 v0 s0 s1 s2 s3
   go_wp2_with fail
   go_ret2
   exact ⟨⟨_,rfl,.ok _ qs HQ.out.1 HQ.out.2⟩,hbr⟩
end Go.Proofs.YtoiakijmbghhlaaGreat
