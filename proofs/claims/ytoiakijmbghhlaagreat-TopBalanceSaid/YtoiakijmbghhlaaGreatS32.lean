/- rules.Settings. Conditions: the arguments read as data. -/
import Derived.Test.YtoiakijmbghhlaaGreatS23
import Derived.Test.YtoiakijmbghhlaaGreatS24
import Derived.Test.YtoiakijmbghhlaaGreatS31
set_option linter.unusedVariables false
set_option linter.unusedSimpArgs false
set_option maxRecDepth 100000
set_option maxHeartbeats 32000000
namespace Go.Proofs.YtoiakijmbghhlaaGreat
open Go.RowKit Go.Maps
inductive SetOut (base:Nat) (w:World):Value->Prop
 | no (e:Int):e≠0->SetOut base w (.tuple #[.slice none 0 0,.int .i64 e])
 | ok (v:Value) (xs:List Int):Own base 3 eInt 1 w v xs->(∀ x∈xs,gI64 w x)->SetOut base w (.tuple #[v,.int .i64 0])
theorem ruset1_any (v:Int) (w:World):Calls Tryz.prog 189 #[.int .i64 v] w fun e w'=>e=.returned (.bool (!btwB v 0 1000))/\Below w.heap.size w w':=by
 have hw:=fun W=>ruwithin_any v 0 1000 W
 generalize btwB v 0 1000=b at *
 cases b
 all_goals
  go_enter Tryz.func189,Tryz.ntmps189
  go_wp2_with fail
  refine (hw _).mono ?_
  rintro _ _ ⟨rfl,rfl⟩
  go_wp2_with fail
  go_ret
  exact ⟨rfl,qr⟩
theorem ruset_any (rs:Sl RuD) (n:Net) (ls bs:List Int) (vl vb:Value) (w:World) (hr:gRus w rs) (hg:gNet w n) (hl:IsInts w vl ls) (hlg:∀ x∈ls,gI64 w x) (hb:IsInts w vb bs) (hbg:∀ x∈bs,gI64 w x) :
  Calls Tryz.prog 125 #[vSl rs,vNet n,vl,vb] w fun e w'=>(∃ u,e=.returned u/\SetOut w.heap.size w' u)/\Below w.heap.size w w':=by
 have hmm:=@run_makeMap Tryz.prog
 obtain ⟨W,hW⟩:∃ W,W=allocs w [((eNet n).toArray,25)]:=⟨_,rfl⟩
 have hbw:Below w.heap.size w W:=by rw [hW];exact allocs_below _ _
 have t0:W.heap[w.heap.size]? = some (.cells (eNet n).toArray 25 (0,0)):=by rw [hW];exact allocs_at _ w 0 (by simp)
 have HW:Hid (W=w.alloc (.cells (eNet n).toArray 25)):=qh hW
 have q0:W.cell? ⟨w.heap.size,0,none⟩=some (.slice n.Ns.a n.Ns.xs.length n.Ns.cap):=(tank_blk t0 0).trans rfl
 have q1:W.cell? ⟨w.heap.size,1,none⟩=some (.slice n.Ls.a n.Ls.xs.length n.Ls.cap):=(tank_blk t0 1).trans rfl
 have HR:=qh (rdRus.mono hr hbw)
 have HG:=qh (rdNet.mono hg hbw)
 have HL:=qh (hl.mono hbw)
 have HB:=qh (hb.mono hbw)
 have HLG:=qh hlg
 have HBG:=qh hbg
 obtain ⟨al,cl,rfl,-,-,hlC⟩:=hl
 obtain ⟨ab,cb,rfl,-,-,hbC⟩:=hb
 have HLC:=qh (hlC.mono hbw)
 have hva:=ruvalid_any rs W HR.out
 simp only [vSl] at hva
 clear hW t0 hr hg hlg hbg hlC hbC
 simp only [vNet,vSl]
 go_enter Tryz.func125,Tryz.ntmps125
 go_upto_region 1 with (fail)
 rw [<-HW.out]
 clear HW
 go_wp2_with fail
 refine Calls.to hva ?_
 rintro e w1 ⟨vb,rfl⟩ hb1
 have hbr:=hbw.trans (hb1.mono hbw.size)
 have hbW:=hb1
 have q0:=cel_lt q0 hb1
 have q1:=cel_lt q1 hb1
 clear hva hb1
 cases vb
 ·clear q0 q1
  go_wp2_with fail
  go_ret2
  exact ⟨⟨_,rfl,.no _ (by decide)⟩,hbr⟩
 have hnv:=nvalid_any n w1 (rdNet.mono HG.out hbW)
 obtain ⟨nb,hnb⟩:∃ b,netB n=b:=⟨_,rfl⟩
 rw [hnb] at hnv
 have HNB:=qh hnb
 simp only [vNet,vSl] at hnv
 clear hnb
 go_wp2_with fail
 refine Calls.to hnv ?_
 rintro e w2 rfl hb1
 replace hbr:=hbr.trans (hb1.mono hbr.size)
 replace hbW:=hbW.trans (hb1.mono hbW.size)
 replace q0:=cel_lt q0 hb1
 replace q1:=cel_lt q1 hb1
 clear hnv hb1
 cases nb
 ·clear q0 q1
  go_wp2_with fail
  go_ret2
  exact ⟨⟨_,rfl,.no _ (by decide)⟩,hbr⟩
 have hl3:=(netB_size HNB.out).1
 have hlm:=(netB_size HNB.out).2
 by_cases hll:ls.length=n.Ns.xs.length
 rotate_left
 ·have z1:(ls.length != n.Ns.xs.length)=true:=by simpa using hll
  have z2:((ls.length:Int) != (n.Ns.xs.length:Int))=true:=bneT om
  clear hll
  go_wp2_with fail
  go_ret2
  exact ⟨⟨_,rfl,.no _ (by decide)⟩,hbr⟩
 have z1:(ls.length != n.Ns.xs.length)=false:=by simpa using hll
 have z2:((ls.length:Int) != (n.Ns.xs.length:Int))=false:=bneF om
 have HLL:=qh hll
 clear hll
 by_cases hbl:bs.length=n.Ls.xs.length
 rotate_left
 ·have z3:(bs.length != n.Ls.xs.length)=true:=by simpa using hbl
  have z4:((bs.length:Int) != (n.Ls.xs.length:Int))=true:=bneT om
  clear hbl
  go_wp2_with fail
  go_ret2
  exact ⟨⟨_,rfl,.no _ (by decide)⟩,hbr⟩
 have z3:(bs.length != n.Ls.xs.length)=false:=by simpa using hbl
 have z4:((bs.length:Int) != (n.Ls.xs.length:Int))=false:=bneF om
 have HBL:=qh hbl
 clear hbl
 have hco:=containsInts 189 #[] ent189 (fun v=>!btwB v 0 1000) bs _ w2 (HB.out.mono hbW) (fun W _ x _=>ruset1_any x W)
 obtain ⟨cbb,hcb⟩:∃ b,(bs.any fun v=>!btwB v 0 1000)=b:=⟨_,rfl⟩
 rw [hcb] at hco
 clear hcb
 go_wp2_with fail
 refine Calls.to hco ?_
 rintro e w3 rfl hb1
 replace hbr:=hbr.trans (hb1.mono hbr.size)
 replace hbW:=hbW.trans (hb1.mono hbW.size)
 replace q0:=cel_lt q0 hb1
 replace q1:=cel_lt q1 hb1
 clear hco hb1 z1 z2 z3 z4
 cases cbb
 rotate_left
 ·clear q0 q1
  go_wp2_with fail
  go_ret2
  exact ⟨⟨_,rfl,.no _ (by decide)⟩,hbr⟩
 obtain ⟨N,hN⟩:∃ N,N=n.Ns.xs.length:=⟨_,rfl⟩
 obtain ⟨M,hM⟩:∃ M,M=n.Ls.xs.length:=⟨_,rfl⟩
 have HN:=qh hN
 have HM:=qh hM
 rw [<-hN] at hl3 q0
 rw [<-hM] at hlm q1
 clear hN hM
 have hs3:=hbW.size
 have hb4:Below w3.heap.size w3 (w3.alloc (.map #[] 0)):=alloc_below _ _
 have HS0:Hid (∃ f,MapS (w3.alloc (.map #[] 0)) w3.heap.size 0 f):=qh ⟨_,MapS.made w3⟩
 have q0':=cel_lt q0 hb4
 go_upto_region 8 with (fail)
 obtain ⟨bm,hbm⟩:∃ b,b=w3.heap.size:=⟨_,rfl⟩
 have HBM:=qh hbm
 rw [<-hbm] at HS0 ⊢
 generalize w3.alloc (.map #[] 0)=w4 at *
 clear hbm
 go_wp2_with fail
 go_loopw [60] (fun s60 wr=>∃ k:Nat,k<=N/\s60=.int .i64 k/\Below w3.heap.size w3 wr/\Hid (∃ f,MapS wr bm k f)) (fun s60 _=>N-(intOf s60).toNat)
 case atStart=>exact ⟨0,Nat.zero_le _,rfl,hb4,HS0⟩
 clear HS0 hb4 q0'
 case round=>
  obtain ⟨k,hk,rfl,hb,hS⟩:=hrel
  obtain ⟨wo,hwo⟩:∃ wo,wo=wr:=⟨_,rfl⟩
  subst hwo
  have hbWo:=hbW.trans (hb.mono hbW.size)
  by_cases hkN:k<N
  ·have hkn:k<n.Ns.xs.length:=by rw [<-HN.out];exact hkN
   have hgx:=((rdNet.mono HG.out hbWo).1.2.2.2 _ (List.getElem_mem hkn))
   obtain ⟨bn,on,ea,c0,c1,c2,c3,c4,c5,c6,c7,c8⟩:=((rdNet.mono HG.out hbWo).1.2.2.1).nd k hkn
   have hkl:k<ls.length:=by rw [HLL.out];exact hkn
   obtain ⟨bl,ol,eal,d0⟩:=(HLC.out.mono hbWo).int k hkl
   have hyw:=HLG.out _ (List.getElem_mem hkl)
   obtain ⟨y,hy⟩:∃ y,y=ls[k]'hkl:=⟨_,rfl⟩
   rw [<-hy] at d0 hyw
   obtain ⟨x,hx⟩:∃ x,x=n.Ns.xs[k]'hkn:=⟨_,rfl⟩
   rw [<-hx] at c0 c1 c2 c3 c4 c5 c6 c7 c8 hgx
   obtain ⟨W2,hW2⟩:∃ W2,W2=wo.alloc (.cells (eNd x).toArray 48):=⟨_,rfl⟩
   have hbA:Below wo.heap.size wo W2:=by rw [hW2];exact alloc_below _ _
   obtain ⟨k0,-⟩:=boxNd wo W2 48 x _ rfl _ rfl (by rw [hW2];exact qr)
   have HW2:=qh hW2
   have hb2:=hb.trans (hbA.mono hb.size)
   have d0:=cel_lt d0 hbA
   obtain ⟨f,hf⟩:=hS.out
   have hbD:Below wo.heap.size wo W2.drew:=hbA.drew
   obtain ⟨w5,hup,hM5,hg5⟩:=(hf.below hbD).upd (y:=y) (by simp only [maxLen];omega) hgx.name hyw
   have hb5:=hb2.drew.grown hg5 (by have:=hb2.size;exact this) (fun q hq=>by cases hq;rw [HBM.out];exact Nat.le_refl _)
   have hS5:Hid (∃ f,MapS w5 bm (k+1) f):=qh ⟨_,hM5⟩
   replace q0:=cel_lt q0 hb
   rw [ea] at q0
   have i1:decide (k<N)=true:=decide_eq_true hkN
   have x7:IntKind.i64.wrap ((k:Int)+1)=k+1:=IntWalk.i64_in _ om
   have i4:(0:Int)<=k:=by omega
   have i5:(k:Int)<N:=by omega
   have i6:(k:Int)<ls.length:=by omega
   have EA:=qh ea
   have HKN:=qh hkN
   have HKL:=qh hkl
   subst eal
   clear hx hy hW2 hgx hyw hf hM5 hg5 hb2 hbD hkn hkN
   go_upto_region 11 with (fail)
   rw [<-HW2.out]
   clear c0 c1 c2 c3 c4 c5 c6 c7 c8 HW2
   go_region
   clear ea
   first|rw [<-EA.out]|skip
   go_wp2_with fail
   go_roundw
   case measure=>have:=HKN.out;simp [intOf,x7];omega
   case rel=>exact ⟨k+1,HKN.out,by go_num,hb5,hS5⟩
  ·have i1:decide (k<N)=false:=decide_eq_false hkN
   have hb5:Below wo.heap.size wo (wo.alloc (.map #[] 0)):=alloc_below _ _
   have HS1:Hid (∃ f,MapS (wo.alloc (.map #[] 0)) wo.heap.size 0 f/\∀ key y,f key=some y->0<=y/\y<M):=qh ⟨_,MapS.made wo,fun key y h=>by cases h⟩
   have HA:Hid (∃ f1,MapS wo bm k f1):=hS
   replace hbr:=hbr.trans (hb.mono hbr.size)
   have q0:=cel_lt q0 hb
   replace q1:=cel_lt q1 hb
   have hszo:=hb.size
   have hbWo':=qh hbWo
   clear hS hb
   have q1':=cel_lt q1 hb5
   go_upto_region 14 with (fail)
   obtain ⟨bk,hbk⟩:∃ b,b=wo.heap.size:=⟨_,rfl⟩
   have HBK:=qh hbk
   rw [<-hbk] at HS1 ⊢
   generalize wo.alloc (.map #[] 0)=w6 at *
   clear hbk hbWo
   go_wp2_with fail
   go_loopw [77] (fun s77 wr=>∃ j:Nat,j<=M/\s77=.int .i64 j/\Below wo.heap.size wo wr/\Hid (∃ f,MapS wr bk j f/\∀ key y,f key=some y->0<=y/\y<M)) (fun s77 _=>M-(intOf s77).toNat)
   case atStart=>exact ⟨0,Nat.zero_le _,rfl,hb5,HS1⟩
   clear HS1 hb5 q1'
   case round=>
    obtain ⟨j,hj,rfl,hb,hS⟩:=hrel
    obtain ⟨wp,hwp⟩:∃ wp,wp=wr:=⟨_,rfl⟩
    subst hwp
    have hbWp:=hbWo'.out.trans (hb.mono hbWo'.out.size)
    by_cases hjM:j<M
    ·have hjn:j<n.Ls.xs.length:=by rw [<-HM.out];exact hjM
     have hgx:=((rdNet.mono HG.out hbWp).2.2.2.2 _ (List.getElem_mem hjn))
     obtain ⟨bn,on,ea,c0,c1,c2,c3,c4,c5,c6,c7,c8,c9,c10⟩:=((rdNet.mono HG.out hbWp).2.2.2.1).lk j hjn
     obtain ⟨x,hx⟩:∃ x,x=n.Ls.xs[j]'hjn:=⟨_,rfl⟩
     rw [<-hx] at c0 c1 c2 c3 c4 c5 c6 c7 c8 c9 c10 hgx
     obtain ⟨W2,hW2⟩:∃ W2,W2=wp.alloc (.cells (eLk x).toArray 61):=⟨_,rfl⟩
     have hbA:Below wp.heap.size wp W2:=by rw [hW2];exact alloc_below _ _
     obtain ⟨k0,-⟩:=boxLk wp W2 61 x _ rfl _ rfl (by rw [hW2];exact qr)
     have HW2:=qh hW2
     have hb2:=hb.trans (hbA.mono hb.size)
     obtain ⟨f,hf,hff⟩:=hS.out
     obtain ⟨w7,hup,hM7,hg7⟩:=(hf.below hbA).upd (y:=(j:Int)) (by simp only [maxLen];omega) hgx.name (wfI om)
     have hb7:=hb2.grown hg7 (by have:=hb2.size;exact this) (fun q hq=>by cases hq;rw [HBK.out];exact Nat.le_refl _)
     have hS7:Hid (∃ f,MapS w7 bk (j+1) f/\∀ key y,f key=some y->0<=y/\y<M):=qh ⟨_,hM7,fun key y h=>by
      unfold setFS at h
      split at h
      ·cases h;omega
      ·exact hff key y h⟩
     replace q1:=cel_lt q1 hb
     rw [ea] at q1
     have i1:decide (j<M)=true:=decide_eq_true hjM
     have x7:IntKind.i64.wrap ((j:Int)+1)=j+1:=IntWalk.i64_in _ om
     have i4:(0:Int)<=j:=by omega
     have i5:(j:Int)<M:=by omega
     have EA:=qh ea
     have HJM:=qh hjM
     clear hx hW2 hgx hf hff hM7 hg7 hb2 hjn hjM
     go_upto_region 17 with (fail)
     rw [<-HW2.out]
     clear c0 c1 c2 c3 c4 c5 c6 c7 c8 c9 c10 HW2
     go_wp2_with fail
     clear ea
     first|rw [<-EA.out]|skip
     go_roundw
     case measure=>have:=HJM.out;simp [intOf,x7];omega
     case rel=>exact ⟨j+1,HJM.out,by go_num,hb7,hS7⟩
    ·have i1:decide (j<M)=false:=decide_eq_false hjM
     have hszp:=hb.size
     have HA2:Hid (∃ f1,MapS wp bm k f1):=qh (by
      obtain ⟨f1,h⟩:=HA.out
      exact ⟨f1,h.below hb⟩)
     replace hbr:=hbr.trans (hb.mono hbr.size)
     have q0:=cel_lt q0 hb
     replace q1:=cel_lt q1 hb
     have HBWP:=qh hbWp
     obtain ⟨f2,hf2,hff2⟩:=hS.out
     have HF2:=qh hf2
     have HFF2:=qh hff2
     obtain ⟨f1,hf1⟩:=HA2.out
     have HF1:=qh hf1
     obtain ⟨nr,hnr⟩:∃ nr,nr=rs.xs.length:=⟨_,rfl⟩
     have HNR:=qh hnr
     have hnb:nr<9223372036854775808:=by
      have h1:=HR.out.1
      have h2:=HR.out.2.1
      omega
     rw [<-hnr]
     clear hS HA HA2 hb hbWp hf2 hff2 hf1 hnr
     go_wp2_with fail
     go_loopw [89] (fun s89 wr=>∃ i:Nat,i<=nr/\s89=.int .i64 i/\Below wp.heap.size wp wr/\Hid (∀ a (h:a<rs.xs.length),a<i->(f2 rs.xs[a].L).isSome=true)) (fun s89 _=>nr-(intOf s89).toNat)
     case atStart=>exact ⟨0,Nat.zero_le _,rfl,qr,qh (fun a _ h=>absurd h (Nat.not_lt_zero a))⟩
     case round=>
      obtain ⟨i,hi,rfl,hb,hOK⟩:=hrel
      obtain ⟨wq,hwq⟩:∃ wq,wq=wr:=⟨_,rfl⟩
      subst hwq
      have hbWq:=HBWP.out.trans (hb.mono HBWP.out.size)
      have hbrq:=hbr.trans (hb.mono hbr.size)
      by_cases hin:i<nr
      ·have hir:i<rs.xs.length:=by rw [<-HNR.out];exact hin
       have gW:=rdRus.mono HR.out hbWq
       obtain ⟨bn,on,ea,d0,d1,d2,d3⟩:=(gW.2.2.1).ru i hir
       have gr:=gW.2.2.2 _ (List.getElem_mem hir)
       obtain ⟨r,hr⟩:∃ r,r=rs.xs[i]'hir:=⟨_,rfl⟩
       rw [<-hr] at d0 d1 d2 d3 gr
       obtain ⟨W2,hW2⟩:∃ W2,W2=wq.alloc (.cells (eRu r).toArray 117):=⟨_,rfl⟩
       have hbA:Below wq.heap.size wq W2:=by rw [hW2];exact alloc_below _ _
       obtain ⟨c0,c1,c2,c3⟩:=bxRu wq W2 117 r _ rfl _ rfl (by rw [hW2];exact qr)
       have HW2:=qh hW2
       have hb2:=hb.trans (hbA.mono hb.size)
       have hbr2:=hbrq.trans (hbA.mono hbrq.size)
       have gr2:=rdRu.mono gr hbA
       have hl2:=(HF2.out.below hb2).look2 gr.l
       obtain ⟨lv,hlv⟩:∃ v,v=(f2 r.L).getD 0:=⟨_,rfl⟩
       obtain ⟨lo,hlo⟩:∃ v,v=(f2 r.L).isSome:=⟨_,rfl⟩
       rw [<-hlv,<-hlo] at hl2
       have HLO:=qh hlo
       have HRR:Hid (∀ h:i<rs.xs.length,r=rs.xs[i]'h):=qh (fun _=>hr)
       have HIR:=qh hir
       have i1:decide (i<nr)=true:=decide_eq_true hin
       have x7:IntKind.i64.wrap ((i:Int)+1)=i+1:=IntWalk.i64_in _ om
       have i4:(0:Int)<=i:=by omega
       have i5:(i:Int)<nr:=by omega
       have EA:=qh ea
       have HIN:=qh hin
       obtain ⟨nc,hnc⟩:∃ nc,nc=r.W.xs.length:=⟨_,rfl⟩
       have HNC:=qh hnc
       have HNCB:Hid (nc<9223372036854775808):=qh (by
        have h1:=gr.w.1
        have h2:=gr.w.2.1
        omega)
       simp only [vSl] at c1
       rw [<-hnc] at c1
       have HGR:=qh gr2
       clear hr hW2 gr gr2 gW hlv hlo hir hin hnc hb hbrq
       go_upto_region 22 with (fail)
       first|rw [HNC.out,<-HW2.out]|rw [<-HW2.out]
       clear d0 d1 d2 d3 HW2
       go_wp2_with fail
       go_loopw [19,103] (fun s19 s103 wr=>∃ (a:Nat) (ok:Bool),a<=nc/\s103=.int .i64 a/\s19=.bool ok/\Below W2.heap.size W2 wr/\Hid (ok=true->lo=true)) (fun _ s103 _=>nc-(intOf s103).toNat)
       case atStart=>exact ⟨0,lo,Nat.zero_le _,rfl,rfl,qr,qh id⟩
       case round=>
        obtain ⟨a,ok,ha,rfl,rfl,hba,hok⟩:=hrel
        obtain ⟨wy,hwy⟩:∃ wy,wy=wr:=⟨_,rfl⟩
        subst hwy
        have hbry:=hbr2.trans (hba.mono hbr2.size)
        have hb2y:=hb2.trans (hba.mono hb2.size)
        by_cases hac:a<nc
        ·have har:a<r.W.xs.length:=by rw [<-HNC.out];exact hac
         have gW:=rdRu.mono HGR.out hba
         obtain ⟨bc,oc,eac,e0,e1,e2⟩:=(gW.w.2.2.1).co a har
         have gc:=gW.w.2.2.2 _ (List.getElem_mem har)
         obtain ⟨c,hc⟩:∃ c,c=r.W.xs[a]'har:=⟨_,rfl⟩
         rw [<-hc] at e0 e1 e2 gc
         obtain ⟨W3,hW3⟩:∃ W3,W3=wy.alloc (.cells (eCo c).toArray 270):=⟨_,rfl⟩
         have hbB:Below wy.heap.size wy W3:=by rw [hW3];exact alloc_below _ _
         obtain ⟨m0,m1,m2⟩:=bxCo wy W3 270 c _ rfl _ rfl (by rw [hW3];exact qr)
         have HW3:=qh hW3
         have hl1:=(HF1.out.below (hb2y.trans (hbB.mono hb2y.size))).look2 gc.n
         obtain ⟨v1,hv1⟩:∃ v,v=(f1 c.N).getD 0:=⟨_,rfl⟩
         obtain ⟨o1,ho1⟩:∃ v,v=(f1 c.N).isSome:=⟨_,rfl⟩
         rw [<-hv1,<-ho1] at hl1
         have hbC:=hba.trans (hbB.mono hba.size)
         have c1y:=cel_lt c1 hba
         rw [eac] at c1y
         have j1:decide (a<nc)=true:=decide_eq_true hac
         have y7:IntKind.i64.wrap ((a:Int)+1)=a+1:=IntWalk.i64_in _ (by have:=HNCB.out;omega)
         have j4:(0:Int)<=a:=by omega
         have j5:(a:Int)<nc:=by omega
         have EAC:=qh eac
         have HAC:=qh hac
         clear hc hW3 gc gW har hac hv1 ho1 ea
         go_upto_region 26 with (fail)
         rw [<-HW3.out]
         clear e0 e1 e2 HW3
         cases ok
         ·go_wp2_with fail
          clear eac
          first|rw [<-EAC.out]|skip
          go_roundw
          case measure=>have:=HAC.out;simp [intOf,y7];omega
          case rel=>exact ⟨a+1,false,HAC.out,by go_num,rfl,hbC,hok⟩
         ·go_wp2_with fail
          clear eac
          first|rw [<-EAC.out]|skip
          go_roundw
          case measure=>have:=HAC.out;simp [intOf,y7];omega
          case rel=>exact ⟨a+1,o1,HAC.out,by go_num,rfl,hbC,qh (fun _=>hok.out rfl)⟩
        ·have j1:decide (a<nc)=false:=decide_eq_false hac
         clear ea
         cases ok
         ·go_wp2_with fail
          go_ret2
          exact ⟨⟨_,rfl,.no _ (by decide)⟩,hbry⟩
         ·have hOK2:Hid (∀ a (h:a<rs.xs.length),a<i+1->(f2 rs.xs[a].L).isSome=true):=qh (fun a h h2=>by
           by_cases e:a=i
           ·subst e
            have h3:=hok.out rfl
            rw [HLO.out,HRR.out h] at h3
            exact h3
           ·exact hOK.out a h om)
          go_wp2_with fail
          first|rw [<-EA.out]|skip
          go_roundw
          case measure=>have:=HIN.out;simp [intOf,x7];omega
          case rel=>exact ⟨i+1,HIN.out,by go_num,hb2y,hOK2⟩
      ·have i1:decide (i<nr)=false:=decide_eq_false hin
       have hOK2:Hid (∀ a (h:a<rs.xs.length),(f2 rs.xs[a].L).isSome=true):=qh (fun a h=>hOK.out a h (by have:=HNR.out;omega))
       have hclo:=cloneInt_any bs _ wq (HB.out.mono hbWq) (by rw [HBL.out];have:=HM.out;omega)
       go_wp2_with fail
       refine Calls.to hclo ?_
       rintro e w8 ⟨uO,rfl,hO8⟩ hb8
       have hbr8:=(hbr.trans (hb.mono hbr.size)).trans (hb8.mono (hbr.trans (hb.mono hbr.size)).size)
       have hbW8:=hbWq.trans (hb8.mono hbWq.size)
       have hb8p:=hb.trans (hb8.mono hb.size)
       have HF1':=qh (HF1.out.below hb8p)
       have HF2':=qh (HF2.out.below hb8p)
       have hO8':=qh (hO8.below (alloc_below w8 (.map #[] 0)))
       have hb9:Below wq.heap.size wq (w8.alloc (.map #[] 0)):=hb8.trans ((alloc_below w8 _).mono hb8.size)
       have HMB:Hid (MapIB (w8.alloc (.map #[] 0)) w8.heap.size 0):=qh (MapIB.made w8)
       have hOL:Hid (∀ g,uO.ownBlock=some g->g<w8.heap.size):=qh (fun g h=>(hO8.lt g h).2)
       have HBRQ:=qh (hbr.trans (hb.mono hbr.size))
       have HBWQ:=qh hbWq
       have HBP:=qh hb
       have hs8:=hb8.size
       clear hclo hOK hO8 hb8 hbr8 hbW8 hb8p HF1' HF2' hb hbWq
       go_upto_region 34 with (fail)
       obtain ⟨bt,hbt⟩:∃ b,b=w8.heap.size:=⟨_,rfl⟩
       have HBT:=qh hbt
       rw [<-hbt] at HMB hOL ⊢
       generalize w8.alloc (.map #[] 0)=w9 at *
       clear hbt
       go_wp2_with fail
       go_loopw [127] (fun s127 wr=>∃ (a:Nat) (xs:List Int),a<=nr/\s127=.int .i64 a/\Below wq.heap.size wq wr/\Hid (Own wq.heap.size 3 eInt 1 wr uO xs)/\Hid (xs.length=M)/\Hid (∀ x∈xs,(Lit.int .i64 x).wf=true)/\Hid (MapIB wr bt a)) (fun s127 _=>nr-(intOf s127).toNat)
       case atStart=>exact ⟨0,bs,Nat.zero_le _,rfl,hb9,hO8',qh (by rw [HBL.out,HM.out]),HBG,HMB⟩
       clear hb9 hO8' HMB
       case round=>
        obtain ⟨a,xs,ha,rfl,hb,hO,hxl,hxg,hMB⟩:=hrel
        obtain ⟨wy,hwy⟩:∃ wy,wy=wr:=⟨_,rfl⟩
        subst hwy
        have hbWy:=HBWQ.out.trans (hb.mono HBWQ.out.size)
        have hbry:=HBRQ.out.trans (hb.mono HBRQ.out.size)
        by_cases han:a<nr
        ·have har:a<rs.xs.length:=by rw [<-HNR.out];exact han
         have gW:=rdRus.mono HR.out hbWy
         obtain ⟨bn,on,ea,d0,d1,d2,d3⟩:=(gW.2.2.1).ru a har
         have gr:=gW.2.2.2 _ (List.getElem_mem har)
         have hok:=hOK2.out a har
         obtain ⟨r,hr⟩:∃ r,r=rs.xs[a]'har:=⟨_,rfl⟩
         rw [<-hr] at d0 d1 d2 d3 gr hok
         obtain ⟨W2,hW2⟩:∃ W2,W2=wy.alloc (.cells (eRu r).toArray 117):=⟨_,rfl⟩
         have hbA:Below wy.heap.size wy W2:=by rw [hW2];exact alloc_below _ _
         obtain ⟨c0,c1,c2,c3⟩:=bxRu wy W2 117 r _ rfl _ rfl (by rw [hW2];exact qr)
         have HW2:=qh hW2
         have gr2:=rdRu.mono gr hbA
         have hb2:=hb.trans (hbA.mono hb.size)
         have hpq2:=HBP.out.trans (hb2.mono HBP.out.size)
         have hho:=ruholds_any r bm _ f1 W2 gr2 (HF1.out.below hpq2)
         simp only [vRu,vSl] at hho c1
         have i1:decide (a<nr)=true:=decide_eq_true han
         have x7:IntKind.i64.wrap ((a:Int)+1)=a+1:=IntWalk.i64_in _ om
         have i4:(0:Int)<=a:=by omega
         have i5:(a:Int)<nr:=by omega
         have EA:=qh ea
         have HAN:=qh han
         have HGR:=qh gr2
         clear hr hW2 gr gr2 gW har han
         go_upto_region 37 with (fail)
         rw [<-HW2.out]
         clear d0 d1 d2 d3 HW2
         go_wp2_with fail
         refine Calls.to hho ?_
         rintro e w10 ⟨hb0,rfl⟩ hb10
         have hb11:=hb2.trans (hb10.mono hb2.size)
         have hbry:=hbry.trans ((hbA.trans (hb10.mono hbA.size)).mono hbry.size)
         have hO10:=hO.out.below (hbA.trans (hb10.mono hbA.size))
         have hMB10:=hMB.out.below (hbA.trans (hb10.mono hbA.size))
         have c2:=cel_lt c2 hb10
         have c3:=cel_lt c3 hb10
         clear hho c0 c1 hb2 hpq2
         cases hb0
         ·have hO':=qh hO10
          have hMB':Hid (MapIB w10 bt (a+1)):=qh (by
           obtain ⟨D,h1,h2,h3,h4,h5,h6⟩:=hMB10
           exact ⟨D,h1,h2,h3,h4,Nat.le_succ_of_le h5,h6⟩)
          clear hok ea
          go_wp2_with fail
          first|rw [<-EA.out]|skip
          go_roundw
          case measure=>have:=HAN.out;simp [intOf,x7];omega
          case rel=>exact ⟨a+1,xs,HAN.out,by go_num,hb11,hO',hxl,hxg,hMB'⟩
         ·obtain ⟨y,hy⟩:=Option.isSome_iff_exists.1 hok
          have hyb:=HFF2.out _ _ hy
          have hl2:=(HF2.out.below (HBP.out.trans (hb11.mono HBP.out.size))).look HGR.out.l
          rw [hy] at hl2
          simp only [Option.getD_some] at hl2
          obtain ⟨i,rfl⟩:=Int.eq_ofNat_of_zero_le hyb.1
          have him:i<M:=by omega
          have hix:i<xs.length:=by rw [hxl.out];exact him
          obtain ⟨gO,cO,hu,hgO,hgl,-,-⟩:=hO10.place om
          rw [hxl.out] at hu
          subst hu
          obtain ⟨z,hz⟩:∃ z,w10.cell? ⟨gO,i,none⟩=some (.int .i64 z):=⟨_,hO10.int1 (k:=i) hix rfl⟩
          have f0:=hO10.free i
          have hgt:=hOL.out gO rfl
          have hgb:gO≠bt:=by omega
          have k4:(0:Int)<=i:=by omega
          have k5:(i:Int)<M:=by omega
          have HIX:=qh hix
          clear hok hy hyb
          have hbD:Below w10.heap.size w10 w10.drew:=qr.drew
          obtain ⟨cs,hlc⟩:=(hMB10.below hbD).look (wfI (k:=(i:Int)) om)
          clear ea
          cases cs
          ·have i9:True:=trivial
           go_wp2_with fail
           go_region
           obtain ⟨WS,hWS⟩:∃ WS,WS=w10.setCell ⟨gO,i,none⟩ (.int .i64 r.S):=⟨_,rfl⟩
           have hbS:Below WS.heap.size WS WS.drew:=qr.drew
           have hMS:=(hMB10.kept (row:=some gO) (grownBy_set w10 ⟨gO,i,none⟩ (.int .i64 r.S)) (by simpa using Ne.symm hgb))
           rw [<-hWS] at hMS
           obtain ⟨w11,hup,hM11,hg11⟩:=(hMS.below hbS).upd (by have:=HAN.out;simp only [maxLen];omega) (wfI (k:=(i:Int)) om) true
           have hMB12:=qh hM11
           have hO11:=hO10.put1 (k:=i) HIX.out r.S
           rw [<-hWS] at hO11
           have hO12:=qh ((hO11.below hbS).kept hg11 (fun g h=>by simp [Value.ownBlock] at h;subst h;simpa using fun e=>hgb e.symm))
           have hbs1:=hb11.setCell (p:=⟨gO,i,none⟩) hgO (.int .i64 r.S)
           rw [<-hWS] at hbs1
           have hb12:=hbs1.drew.grown hg11 (by have:=hbs1.size;exact this) (fun q hq=>by cases hq;have:=HBT.out;omega)
           have hxl':Hid ((xs.set i r.S).length=M):=qh (by rw [List.length_set];exact hxl.out)
           have hxg':Hid (∀ x∈xs.set i r.S,(Lit.int .i64 x).wf=true):=qh (fun x hx=>by
            rcases List.mem_or_eq_of_mem_set hx with h|h
            ·exact hxg.out x h
            ·rw [h];exact HGR.out.s)
           rw [hWS] at hup
           clear hM11 hO11 hg11 hMS hbs1 hbS hWS
           go_wp2_with fail
           first|rw [<-EA.out]|skip
           go_roundw
           case measure=>have:=HAN.out;simp [intOf,x7];omega
           case rel=>exact ⟨a+1,_,HAN.out,by go_num,hb12,hO12,hxl',hxg',hMB12⟩
          ·by_cases hzs:z=r.S
           ·have z1:(z != r.S)=false:=by simpa using hzs
            go_wp2_with fail
            go_region
            obtain ⟨WS,hWS⟩:∃ WS,WS=w10.setCell ⟨gO,i,none⟩ (.int .i64 r.S):=⟨_,rfl⟩
            have hbS:Below WS.heap.size WS WS.drew:=qr.drew
            have hMS:=(hMB10.kept (row:=some gO) (grownBy_set w10 ⟨gO,i,none⟩ (.int .i64 r.S)) (by simpa using Ne.symm hgb))
            rw [<-hWS] at hMS
            obtain ⟨w11,hup,hM11,hg11⟩:=(hMS.below hbS).upd (by have:=HAN.out;simp only [maxLen];omega) (wfI (k:=(i:Int)) om) true
            have hMB12:=qh hM11
            have hO11:=hO10.put1 (k:=i) HIX.out r.S
            rw [<-hWS] at hO11
            have hO12:=qh ((hO11.below hbS).kept hg11 (fun g h=>by simp [Value.ownBlock] at h;subst h;simpa using fun e=>hgb e.symm))
            have hbs1:=hb11.setCell (p:=⟨gO,i,none⟩) hgO (.int .i64 r.S)
            rw [<-hWS] at hbs1
            have hb12:=hbs1.drew.grown hg11 (by have:=hbs1.size;exact this) (fun q hq=>by cases hq;have:=HBT.out;omega)
            have hxl':Hid ((xs.set i r.S).length=M):=qh (by rw [List.length_set];exact hxl.out)
            have hxg':Hid (∀ x∈xs.set i r.S,(Lit.int .i64 x).wf=true):=qh (fun x hx=>by
             rcases List.mem_or_eq_of_mem_set hx with h|h
             ·exact hxg.out x h
             ·rw [h];exact HGR.out.s)
            rw [hWS] at hup
            clear hM11 hO11 hg11 hMS hbs1 hbS hWS
            go_wp2_with fail
            first|rw [<-EA.out]|skip
            go_roundw
            case measure=>have:=HAN.out;simp [intOf,x7];omega
            case rel=>exact ⟨a+1,_,HAN.out,by go_num,hb12,hO12,hxl',hxg',hMB12⟩
           ·have z1:(z != r.S)=true:=by simpa using hzs
            go_wp2_with fail
            go_region
            have hbrz:=hbry.drew
            go_wp2_with fail
            go_ret2
            exact ⟨⟨_,rfl,.no _ (by decide)⟩,hbrz⟩
        ·have i1:decide (a<nr)=false:=decide_eq_false han
         have HQ:=qh (hO.out.base (show w.heap.size<=wq.heap.size from HBRQ.out.size))
         obtain ⟨aO,cO,huo⟩:=hO.out.isSlice
         subst huo
         go_wp2_with fail
         go_ret2
         exact ⟨⟨_,rfl,.ok _ xs HQ.out hxg.out⟩,hbry⟩
end Go.Proofs.YtoiakijmbghhlaaGreat
