/- planInflows: the inflows of a step, as control.at has them. Conditions: the network is right; the inflows are right. | planLarge and planMany: what they say no to is small. Conditions: the arguments read as data. -/
import Derived.StillTailTactics
import Derived.Test.YtoiakijmbghhlaaGreatS40
import Derived.Test.YtoiakijmbghhlaaGreatS14
import Derived.Test.YtoiakijmbghhlaaGreatS19
import Derived.Test.YtoiakijmbghhlaaGreatS02
set_option linter.unusedVariables false
set_option linter.unusedSimpArgs false
set_option maxRecDepth 100000
set_option maxHeartbeats 32000000
namespace Go.Proofs.YtoiakijmbghhlaaGreat
open Go.RowKit Go.Maps
theorem wf_bd {y:Int} (h:(Lit.int .i64 y).wf=true) : -9223372036854775808<=y/\y<=9223372036854775807:=by
 simp only [Lit.wf,Bool.and_eq_true,decide_eq_true_eq] at h
 exact h
def inP (n:Net) (ins:List InD) (k i a:Nat) (qs:List Int):Prop:=qs.length=n.Ns.xs.length/\∀ j,j<n.Ns.xs.length->qs.getD j 0=if j<i then atQ n ins k j else if j=i then atQ n (ins.take a) k i else 0
theorem inP.zero (n:Net) (ins:List InD) (k:Nat):inP n ins k 0 0 (List.replicate n.Ns.xs.length 0):=by
 refine ⟨by simp,fun j hj=>?_⟩
 rw [if_neg (Nat.not_lt_zero _)]
 split <;> simp [List.getD,hj,atQ]
theorem inP.over {n:Net} {ins:List InD} {k i:Nat} {qs:List Int} (h:inP n ins k i ins.length qs):inP n ins k (i+1) 0 qs:=by
 refine ⟨h.1,fun j hj=>?_⟩
 rw [h.2 j hj,List.take_length]
 by_cases e1:j<i
 ·rw [if_pos e1,if_pos om]
 ·rw [if_neg e1]
  by_cases e2:j=i
  ·subst e2;rw [if_pos rfl,if_pos om]
  ·rw [if_neg e2,if_neg om]
   split <;> simp [atQ]
theorem inP.same {n:Net} {ins:List InD} {k i a:Nat} {qs:List Int} (h:inP n ins k i a qs) (ha:a<ins.length) (hs:¬ (findNd n.Ns.xs ins[a].N=i/\k<ins[a].V.xs.length)):inP n ins k i (a+1) qs:=by
 refine ⟨h.1,fun j hj=>?_⟩
 rw [h.2 j hj,atQ_succ n ins k i a ha]
 unfold stepQ
 rw [if_neg hs]
theorem inP.put {n:Net} {ins:List InD} {k i a:Nat} {qs:List Int} (h:inP n ins k i a qs) (ha:a<ins.length) (hs:findNd n.Ns.xs ins[a].N=i/\k<ins[a].V.xs.length) (hi:i<n.Ns.xs.length):inP n ins k i (a+1) (qs.set i (ins[a].V.xs.getD k 0)):=by
 refine ⟨by rw [List.length_set];exact h.1,fun j hj=>?_⟩
 rw [getD_set _ _ _ _ (by rw [h.1];exact hi),atQ_succ n ins k i a ha]
 unfold stepQ
 rw [if_pos hs]
 by_cases e:j=i
 ·subst e;rw [if_pos rfl,if_neg (Nat.lt_irrefl _),if_pos rfl]
 ·rw [if_neg e,h.2 j hj]
  by_cases e1:j<i
  ·rw [if_pos e1,if_pos e1]
  ·rw [if_neg e1,if_neg e1,if_neg e,if_neg e]
theorem inP.here {n:Net} {ins:List InD} (hg:GoodI n ins ins.length) (hn:netB n=true) {k i a:Nat} {qs:List Int} (h:inP n ins k i a qs) (ha:a<ins.length) (hi:i<n.Ns.xs.length) (hf:findNd n.Ns.xs ins[a].N=(i:Int)):qs.getD i 0=0:=by
 rw [h.2 i hi,if_neg (Nat.lt_irrefl _),if_pos rfl]
 exact at_zero hg hn k ha hf a (Nat.le_refl _)
theorem inP.all {n:Net} {ins:List InD} {k a:Nat} {qs:List Int} (h:inP n ins k n.Ns.xs.length a qs):∀ i,i<n.Ns.xs.length->qs.getD i 0=atQ n ins k i:=fun i hi=>by
 rw [h.2 i hi,if_pos hi]
theorem pinfl_any (n:Net) (ins:Sl InD) (k:Nat) (w:World) (hg:gNet w n) (hn:netB n=true) (hi:gIns w ins) (hgd:GoodI n ins.xs ins.xs.length) (hk:k<9223372036854775808) :
  Calls Tryz.prog 11 #[vNet n,vSl ins,.int .i64 k] w fun e w'=>(∃ u qs,e=.returned u/\Own w.heap.size 3 eInt 1 w' u qs/\qs.length=n.Ns.xs.length/\(∀ i,i<n.Ns.xs.length->qs.getD i 0=atQ n ins.xs k i))/\Below w.heap.size w w':=by
 obtain ⟨W,hW⟩:∃ W,W=allocs w [((eNet n).toArray,25)]:=⟨_,rfl⟩
 have hbw:Below w.heap.size w W:=by rw [hW];exact allocs_below _ _
 have t0:W.heap[w.heap.size]? = some (.cells (eNet n).toArray 25 (0,0)):=by rw [hW];exact allocs_at _ w 0 (by simp)
 have HW:Hid (W=w.alloc (.cells (eNet n).toArray 25)):=qh hW
 have q0:W.cell? ⟨w.heap.size,0,none⟩=some (.slice n.Ns.a n.Ns.xs.length n.Ns.cap):=(tank_blk t0 0).trans rfl
 have HG:=qh (rdNet.mono hg hbw)
 have HI:=qh (rdIns.mono hi hbw)
 have HNB:=qh hn
 have HGD:=qh hgd
 have hsz:=netB_size hn
 obtain ⟨N,hN⟩:∃ N,N=n.Ns.xs.length:=⟨_,rfl⟩
 have HN:=qh hN
 obtain ⟨ni,hni⟩:∃ ni,ni=ins.xs.length:=⟨_,rfl⟩
 have HNI:=qh hni
 have hnib:ni<=9223372036854775807:=by have h1:=hi.1;have h2:=hi.2.1;omega
 have HNIB:=qh hnib
 simp only [vNet,vSl]
 rw [<-hni,<-hN]
 rw [<-hN] at q0 hsz
 have hll:N<2147483648:=by omega
 have HP0:Hid (inP n ins.xs k 0 0 (List.replicate N 0)):=qh (by rw [hN];exact inP.zero n ins.xs k)
 have Q0:=qh q0
 clear hW t0 hg hn hi hni hN hgd
 go_enter Tryz.func11,Tryz.ntmps11
 go_upto_region 1 with (fail)
 first|rw [HN.out,<-HW.out,<-HN.out]|rw [<-HW.out]
 clear HW
 go_upto_region 2 with (refine wpList_mk _ rfl _ _ 28 rfl W.heap.size 3 _ 8 undInts infInt eInt 0 rfl rfl _ _ N rfl rfl rfl rfl hll om (Nat.le_refl _) ?_;intro w1 hown1 hb1 hlt1)
 have HO1:=qh hown1
 clear hown1 hlt1
 replace q0:=cel_lt q0 hb1
 go_upto_region 3 with (fail)
 go_loopw [19] (fun s19 wr=>∃ (i:Nat) (qs:List Int),i<=N/\s19=.int .i64 i/\Below W.heap.size W wr/\Hid (Own W.heap.size 3 eInt 1 wr (.slice (some ⟨W.heap.size,0,none⟩) N N) qs)/\Hid (inP n ins.xs k i 0 qs)) (fun s19 _=>N-(RowKit.intOf s19).toNat)
 case atStart=>exact ⟨0,_,Nat.zero_le _,rfl,hb1,HO1,HP0⟩
 clear HO1 HP0 q0 hb1
 case round=>
  obtain ⟨i,qs,hile,rfl,hb,HO,HM⟩:=hrel
  obtain ⟨wo,hwo⟩:∃ wo,wo=wr:=⟨_,rfl⟩
  subst hwo
  have hbr:=hbw.trans (hb.mono hbw.size)
  by_cases hiN:i<N
  ·have hin:i<n.Ns.xs.length:=by rw [<-HN.out];exact hiN
   obtain ⟨bn,on,ea,c0,c1,c2,c3,c4,c5,c6,c7,c8⟩:=((rdNet.mono HG.out hb).1.2.2.1).nd i hin
   obtain ⟨z,hz⟩:∃ z,z=n.Ns.xs[i]'hin:=⟨_,rfl⟩
   have HZ:Hid (z=ndK n i):=qh (by rw [ndK_at hin,hz])
   rw [<-hz] at c0 c1 c2 c3 c4 c5 c6 c7 c8
   obtain ⟨W2,hW2⟩:∃ W2,W2=wo.alloc (.cells (eNd z).toArray 48):=⟨_,rfl⟩
   have hbA:Below wo.heap.size wo W2:=by rw [hW2];exact alloc_below _ _
   obtain ⟨z0,-⟩:=boxNd wo W2 48 z _ rfl _ rfl (by rw [hW2];exact qr)
   have HW2:=qh hW2
   have hbB:=hb.trans (hbA.mono hb.size)
   have hO2:=qh (HO.out.below hbA)
   have hsw:W.heap.size<wo.heap.size:=by
    have:=HO.out
    rcases Nat.lt_or_ge W.heap.size wo.heap.size with h|h
    ·exact h
    ·exfalso
     have h1:=(this.int1 (k:=i) (by rw [HM.out.1];exact hin) rfl)
     have h2:=lt_of_isSome (a:=⟨W.heap.size,i,none⟩) (w:=wo) (by rw [h1];rfl)
     simp only at h2;omega
   have q0:wo.cell? ⟨w.heap.size,0,none⟩=some (.slice n.Ns.a N n.Ns.cap):=cel_lt Q0.out hb
   have i1:decide (i<N)=true:=decide_eq_true hiN
   have x7:IntKind.i64.wrap ((i:Int)+1)=i+1:=IntWalk.i64_in _ om
   have i4:(0:Int)<=i:=by omega
   have i5:(i:Int)<N:=by omega
   have EN:=qh ea
   have HIN:=qh hin
   have HSW:=qh hsw
   have HBB:=qh hbB
   clear hz hW2 hin hiN HO hsw hbA hbB
   go_upto_region 6 with (fail)
   rw [<-HW2.out]
   clear c0 c1 c2 c3 c4 c5 c6 c7 c8 ea q0
   go_loopw [26] (fun s26 wx=>∃ (a:Nat) (qs:List Int),a<=ni/\s26=.int .i64 a/\wx.cell? ⟨wo.heap.size,0,none⟩=some (.string z.Name)/\Hid (Own W.heap.size 3 eInt 1 wx (.slice (some ⟨W.heap.size,0,none⟩) N N) qs/\Below W.heap.size W wx)/\Hid (inP n ins.xs k i a qs)) (fun s26 _=>ni-(RowKit.intOf s26).toNat)
   case atStart=>exact ⟨0,qs,Nat.zero_le _,rfl,z0,qh ⟨hO2.out,HBB.out⟩,HM⟩
   clear HM hO2 HBB hb hbr z0
   case round=>
    obtain ⟨a,qs2,ha,rfl,z0,HO,HM⟩:=hrel
    obtain ⟨wx,hwx⟩:∃ wx,wx=wr:=⟨_,rfl⟩
    subst hwx
    by_cases han:a<ni
    ·have hai:a<ins.xs.length:=by rw [<-HNI.out];exact han
     have gI:=rdIns.mono HI.out HO.out.2
     obtain ⟨bi,oi,ea,d0,d1⟩:=(gI.2.2.1).inf a hai
     have gx:=gI.2.2.2 _ (List.getElem_mem hai)
     obtain ⟨x,hx⟩:∃ x,x=ins.xs[a]'hai:=⟨_,rfl⟩
     rw [<-hx] at d0 d1 gx
     have HAI:=qh hai
     have HX:Hid (x=ins.xs[a]'HAI.out):=qh hx
     obtain ⟨W3,hW3⟩:∃ W3,W3=wx.alloc (.cells (eIn x).toArray 121):=⟨_,rfl⟩
     have hbA:Below wx.heap.size wx W3:=by rw [hW3];exact alloc_below _ _
     obtain ⟨k0,k1⟩:=bxIn wx W3 121 x _ rfl _ rfl (by rw [hW3];exact qr)
     simp only [vSl] at k1
     have HW3:=qh hW3
     have GX:=qh (rdIn.mono gx hbA)
     have hb2:=HO.out.2.trans (hbA.mono HO.out.2.size)
     have hO2:=HO.out.1.below hbA
     have hsw2:wo.heap.size<W3.heap.size:=by
      have h:=lt_of_isSome (a:=⟨wo.heap.size,0,none⟩) (w:=wx) (by rw [z0];rfl)
      have:=hbA.size
      simp only at h;omega
     have z1:=cel_lt z0 hbA
     have hnd:(x.N.toList==z.Name.toList)=decide (findNd n.Ns.xs x.N=(i:Int)):=by
      have:=nd_is HNB.out HIN.out x.N
      rw [<-HZ.out] at this
      exact this
     have i2:decide (a<ni)=true:=decide_eq_true han
     have x8:IntKind.i64.wrap ((a:Int)+1)=a+1:=IntWalk.i64_in _ (by have:=HNIB.out;omega)
     have j4:(0:Int)<=a:=by omega
     have j5:(a:Int)<ni:=by omega
     have EA:=qh ea
     have HAN:=qh han
     have HB2:=qh hb2
     have HO2:Hid (Own W.heap.size 3 eInt 1 W3 (.slice (some ⟨W.heap.size,0,none⟩) N N) qs2/\Below W.heap.size W W3):=qh ⟨hO2,hb2⟩
     clear hx hW3 gx gI hai han hbA hb2 HO
     go_upto_region 8 with (fail)
     rw [<-HW3.out]
     clear d0 d1 HW3
     cases hbq:decide (findNd n.Ns.xs x.N=(i:Int))
     ·rw [hbq] at hnd
      have HM2:Hid (inP n ins.xs k i (a+1) qs2):=qh (HM.out.same HAI.out (fun h=>by
       have h1:=of_decide_eq_false hbq
       rw [HX.out] at h1
       exact h1 h.1))
      clear hbq
      go_wp2_with fail
      clear ea
      first|rw [<-EA.out]|skip
      go_roundw
      case measure=>have:=HAN.out;simp [RowKit.intOf,x8];omega
      case rel=>exact ⟨a+1,qs2,HAN.out,by go_num,z1,HO2,HM2⟩
     ·rw [hbq] at hnd
      have hfi:=of_decide_eq_true hbq
      have HFI:Hid (findNd n.Ns.xs (ins.xs[a]'HAI.out).N=(i:Int)):=qh (by rw [<-HX.out];exact hfi)
      clear hbq hfi
      by_cases hkl:k<x.V.xs.length
      ·have i8:decide (k<x.V.xs.length)=true:=decide_eq_true hkl
       obtain ⟨bv,ov,eav,e0⟩:=(GX.out.v.2.2.1).int k hkl
       have hyw:=wf_bd (GX.out.v.2.2.2 _ (List.getElem_mem hkl))
       have hyd:x.V.xs[k]'hkl=x.V.xs.getD k 0:=by simp [List.getD,hkl]
       rw [hyd] at e0 hyw
       obtain ⟨y,hy⟩:∃ y,y=x.V.xs.getD k 0:=⟨_,rfl⟩
       rw [<-hy] at e0 hyw
       have hiq:i<qs2.length:=by rw [HM.out.1];exact HIN.out
       have hz0:=HM.out.here HGD.out HNB.out HAI.out HIN.out HFI.out
       have hcz:W3.cell? ⟨W.heap.size,i,none⟩=some (.int .i64 0):=by
        have h:=hO2.int1 (k:=i) hiq rfl
        rw [h]
        rw [<-hz0]
        simp [List.getD,hiq]
       have f0:=hO2.free i
       have hO3:=hO2.put1 (k:=i) hiq y
       have x9:IntKind.i64.wrap (0+y)=y:=by rw [Int.zero_add];exact IntWalk.i64_in _ hyw
       have x9b:IntKind.i64.wrap y=y:=IntWalk.i64_in _ hyw
       have z2:(W3.setCell ⟨W.heap.size,i,none⟩ (.int .i64 y)).drew.cell? ⟨wo.heap.size,0,none⟩=some (.string z.Name):=
        (World.cell?_of_block (w:=W3) (w':=W3.setCell ⟨W.heap.size,i,none⟩ (.int .i64 y)) (Below.heap_setCell _ _ _ _ (by have:=HSW.out;simp only;omega))).trans z1
       have HO4:Hid (Own W.heap.size 3 eInt 1 (W3.setCell ⟨W.heap.size,i,none⟩ (.int .i64 y)).drew (.slice (some ⟨W.heap.size,0,none⟩) N N) (qs2.set i y)/\Below W.heap.size W (W3.setCell ⟨W.heap.size,i,none⟩ (.int .i64 y)).drew):=
        qh ⟨hO3.below (Below.drew qr),(HB2.out.setCell (p:=⟨W.heap.size,i,none⟩) (Nat.le_refl _) (.int .i64 y)).drew⟩
       have HM3:Hid (inP n ins.xs k i (a+1) (qs2.set i y)):=qh (by
        have h:=HM.out.put HAI.out ⟨HFI.out,by rw [<-HX.out];exact hkl⟩ HIN.out
        rw [<-HX.out,<-hy] at h
        exact h)
       have k4:(0:Int)<=k:=by omega
       have k5:(k:Int)<x.V.xs.length:=by omega
       rw [eav] at k1
       clear hyd hyw hy hiq hz0 hO2 hO3 hkl
       go_upto_region 9 with (fail)
       go_still_tail 11,(by kernel_rfl)
       change wpList _ _ _ _ _ W3.drew
       go_upto_region 10 with (fail)
       clear e0 hcz f0
       obtain ⟨W4,hW4⟩:∃ W4,W4=(W3.setCell ⟨W.heap.size,i,none⟩ (.int .i64 y)).drew:=⟨_,rfl⟩
       first|rw [<-hW4]|fail "W4"
       rw [<-hW4] at z2 HO4
       clear hW4
       go_wp2_with fail
       clear ea eav
       first|rw [<-EA.out]|skip
       go_roundw
       case measure=>have:=HAN.out;simp [RowKit.intOf,x8];omega
       case rel=>exact ⟨a+1,qs2.set i y,HAN.out,by go_num,z2,HO4,HM3⟩
      ·have i8:decide (k<x.V.xs.length)=false:=decide_eq_false hkl
       have HM2:Hid (inP n ins.xs k i (a+1) qs2):=qh (HM.out.same HAI.out (fun h=>by
        rw [<-HX.out] at h
        exact hkl h.2))
       clear hkl
       go_wp2_with fail
       clear ea
       first|rw [<-EA.out]|skip
       go_roundw
       case measure=>have:=HAN.out;simp [RowKit.intOf,x8];omega
       case rel=>exact ⟨a+1,qs2,HAN.out,by go_num,z1,HO2,HM2⟩
    ·have hae:ni=a:=by omega
     subst hae
     have i2:decide (ni<ni)=false:=decide_eq_false (Nat.lt_irrefl ni)
     have HM2:Hid (inP n ins.xs k (i+1) 0 qs2):=qh (by
      have h:=HM.out
      rw [HNI.out] at h
      exact h.over)
     have HO5:Hid (Own W.heap.size 3 eInt 1 wx (.slice (some ⟨W.heap.size,0,none⟩) N N) qs2):=qh HO.out.1
     have hbx:=HO.out.2
     clear han HO z0
     go_wp2_with fail
     first|rw [<-EN.out]|skip
     go_roundw
     case measure=>have:=HIN.out;rw [<-HN.out] at this;simp [RowKit.intOf,x7];omega
     case rel=>exact ⟨i+1,qs2,by have:=HIN.out;rw [<-HN.out] at this;omega,by go_num,hbx,HO5,HM2⟩
  ·have hie:N=i:=by omega
   subst hie
   have i1:decide (N<N)=false:=decide_eq_false (Nat.lt_irrefl N)
   have HQ:=qh (HO.out.base hbw.size)
   have HFI:Hid (qs.length=N/\∀ i,i<N->qs.getD i 0=atQ n ins.xs k i):=qh (by
    have h:=HM.out
    rw [HN.out] at h ⊢
    exact ⟨h.1,h.all⟩)
   clear hiN
   go_wp2_with fail
   go_ret
   exact ⟨⟨_,qs,rfl,HQ.out,HFI.out.1,HFI.out.2⟩,hbr⟩
end Go.Proofs.YtoiakijmbghhlaaGreat
namespace Go.Proofs.YtoiakijmbghhlaaGreat
open Go.RowKit
abbrev IsRusL (w:World) (v:Value) (xs:List RuD):Prop:=IsL eRu 4 w v xs
abbrev IsInsL (w:World) (v:Value) (xs:List InD):Prop:=IsL eIn 2 w v xs
theorem indexRusL (g:Nat) (lb:Array Value) (eg:∀ args w,(callFunc g args).run Tryz.prog w=.ok (.enter g args) w) (p:RuD->Bool) (xs:List RuD) (v:Value) (w:World)
  (hv:IsRusL w v xs) (hp:PredOn Tryz.prog g lb vRu p xs w) :
  Calls Tryz.prog 118 #[v,.func (.func g) #[] lb] w fun e w'=>e=.returned (.int .i64 (idxFrom p xs 0))/\Below w.heap.size w w':=by
 obtain ⟨a,cap,rfl,hcap,hbig,hs⟩:=hv
 go_enter Tryz.func118,Tryz.ntmps118
 go_wp2
 go_loopw [5,8] (fun _ s8 wr=>∃ k:Nat,k<=xs.length/\s8=.int .i64 k/\Below w.heap.size w wr/\Hid (idxFrom p xs 0=idxFrom p (xs.drop k) k)) (fun _ i _=>xs.length-(RowKit.intOf i).toNat)
 case atStart=>exact ⟨0,Nat.zero_le _,rfl,qr,rfl⟩
 case round=>
  obtain ⟨k,hk,rfl,hb,hm⟩:=hrel
  by_cases hlt:k<xs.length
  ·obtain ⟨b,off,rfl,c0,c1,c2,c3⟩:=(hs.mono hb).ru k hlt
   have hx:=hp wr hb xs[k] (List.getElem_mem hlt)
   have hstep:Hid (idxFrom p (xs.drop k) k=if p xs[k] then (k:Int) else idxFrom p (xs.drop (k+1)) (k+1)):=by
    rw [List.drop_eq_getElem_cons hlt];rfl
   clear hs hp
   generalize xs[k]=y at *
   cases hpy:p y
   all_goals
    rw [hpy] at hx hstep
    clear hpy
    go_wp2_with fail
    refine (Calls.to hx ?_)
    rintro e w1 rfl hb1
    have hbb:=hb.trans (hb1.mono hb.size)
    go_wp2_with fail
   ·go_roundw
    case rel=>exact ⟨k+1,by omega,by go_num,bl,hm.out.trans (hstep.out.trans (by simp))⟩
    case measure=>simp [RowKit.intOf];omega
   ·go_ret
    exact ⟨ret_int (hm.out.trans (hstep.out.trans (by simp))).symm,bl⟩
  ·go_wp2
   go_ret
   refine ⟨ret_int ?_,bl⟩
   rw [hm.out,List.drop_eq_nil_of_le om];rfl
theorem containsRusL (g:Nat) (lb:Array Value) (eg:∀ args w,(callFunc g args).run Tryz.prog w=.ok (.enter g args) w) (p:RuD->Bool) (xs:List RuD) (v:Value) (w:World)
  (hv:IsRusL w v xs) (hp:PredOn Tryz.prog g lb vRu p xs w) :
  Calls Tryz.prog 49 #[v,.func (.func g) #[] lb] w fun e w'=>e=.returned (.bool (xs.any p))/\Below w.heap.size w w':=by
 go_enter Tryz.func49,Tryz.ntmps49
 go_wp2_with fail
 refine Calls.to (indexRusL g lb eg p xs v w hv hp) ?_
 rintro e w1 rfl hb
 go_wp2_with fail
 go_ret
 exact ⟨ret_bool (idxFrom_any p xs 0),hb⟩
theorem indexInsL (g:Nat) (lb:Array Value) (eg:∀ args w,(callFunc g args).run Tryz.prog w=.ok (.enter g args) w) (p:InD->Bool) (xs:List InD) (v:Value) (w:World)
  (hv:IsInsL w v xs) (hp:PredOn Tryz.prog g lb vIn p xs w) :
  Calls Tryz.prog 119 #[v,.func (.func g) #[] lb] w fun e w'=>e=.returned (.int .i64 (idxFrom p xs 0))/\Below w.heap.size w w':=by
 obtain ⟨a,cap,rfl,hcap,hbig,hs⟩:=hv
 go_enter Tryz.func119,Tryz.ntmps119
 go_wp2
 go_loopw [5,8] (fun _ s8 wr=>∃ k:Nat,k<=xs.length/\s8=.int .i64 k/\Below w.heap.size w wr/\Hid (idxFrom p xs 0=idxFrom p (xs.drop k) k)) (fun _ i _=>xs.length-(RowKit.intOf i).toNat)
 case atStart=>exact ⟨0,Nat.zero_le _,rfl,qr,rfl⟩
 case round=>
  obtain ⟨k,hk,rfl,hb,hm⟩:=hrel
  by_cases hlt:k<xs.length
  ·obtain ⟨b,off,rfl,c0,c1⟩:=(hs.mono hb).inf k hlt
   have hx:=hp wr hb xs[k] (List.getElem_mem hlt)
   have hstep:Hid (idxFrom p (xs.drop k) k=if p xs[k] then (k:Int) else idxFrom p (xs.drop (k+1)) (k+1)):=by
    rw [List.drop_eq_getElem_cons hlt];rfl
   clear hs hp
   generalize xs[k]=y at *
   cases hpy:p y
   all_goals
    rw [hpy] at hx hstep
    clear hpy
    go_wp2_with fail
    refine (Calls.to hx ?_)
    rintro e w1 rfl hb1
    have hbb:=hb.trans (hb1.mono hb.size)
    go_wp2_with fail
   ·go_roundw
    case rel=>exact ⟨k+1,by omega,by go_num,bl,hm.out.trans (hstep.out.trans (by simp))⟩
    case measure=>simp [RowKit.intOf];omega
   ·go_ret
    exact ⟨ret_int (hm.out.trans (hstep.out.trans (by simp))).symm,bl⟩
  ·go_wp2
   go_ret
   refine ⟨ret_int ?_,bl⟩
   rw [hm.out,List.drop_eq_nil_of_le om];rfl
theorem containsInsL (g:Nat) (lb:Array Value) (eg:∀ args w,(callFunc g args).run Tryz.prog w=.ok (.enter g args) w) (p:InD->Bool) (xs:List InD) (v:Value) (w:World)
  (hv:IsInsL w v xs) (hp:PredOn Tryz.prog g lb vIn p xs w) :
  Calls Tryz.prog 51 #[v,.func (.func g) #[] lb] w fun e w'=>e=.returned (.bool (xs.any p))/\Below w.heap.size w w':=by
 go_enter Tryz.func51,Tryz.ntmps51
 go_wp2_with fail
 refine Calls.to (indexInsL g lb eg p xs v w hv hp) ?_
 rintro e w1 rfl hb
 go_wp2_with fail
 go_ret
 exact ⟨ret_bool (idxFrom_any p xs 0),hb⟩
theorem containsNdT (g:Nat) (lb:Array Value) (eg:∀ args w,(callFunc g args).run Tryz.prog w=.ok (.enter g args) w) (p:Nd->Bool) (xs:List Nd) (v:Value) (w:World)
  (hv:IsNds w v xs) (hp:PredOn Tryz.prog g lb vNd p xs w) :
  Calls Tryz.prog 43 #[v,.func (.func g) #[] lb] w fun e w'=>e=.returned (.bool (xs.any p))/\Below w.heap.size w w':=by
 go_enter Tryz.func43,Tryz.ntmps43
 go_wp2_with fail
 refine Calls.to (indexNd g lb eg p xs v w hv hp) ?_
 rintro e w1 rfl hb
 go_wp2_with fail
 go_ret
 exact ⟨ret_bool (idxFrom_any p xs 0),hb⟩
theorem containsLkT (g:Nat) (lb:Array Value) (eg:∀ args w,(callFunc g args).run Tryz.prog w=.ok (.enter g args) w) (p:Lk->Bool) (xs:List Lk) (v:Value) (w:World)
  (hv:IsLks w v xs) (hp:PredOn Tryz.prog g lb vLk p xs w) :
  Calls Tryz.prog 45 #[v,.func (.func g) #[] lb] w fun e w'=>e=.returned (.bool (xs.any p))/\Below w.heap.size w w':=by
 go_enter Tryz.func45,Tryz.ntmps45
 go_wp2_with fail
 refine Calls.to (indexLk g lb eg p xs v w hv hp) ?_
 rintro e w1 rfl hb
 go_wp2_with fail
 go_ret
 exact ⟨ret_bool (idxFrom_any p xs 0),hb⟩
theorem ent44:∀ args w,(callFunc 44 args).run Tryz.prog w=.ok (.enter 44 args) w:=by
 intro args w
 simp [go_sem]
theorem ent46:∀ args w,(callFunc 46 args).run Tryz.prog w=.ok (.enter 46 args) w:=by
 intro args w
 simp [go_sem]
theorem ent48:∀ args w,(callFunc 48 args).run Tryz.prog w=.ok (.enter 48 args) w:=by
 intro args w
 simp [go_sem]
theorem ent50:∀ args w,(callFunc 50 args).run Tryz.prog w=.ok (.enter 50 args) w:=by
 intro args w
 simp [go_sem]
theorem ent52:∀ args w,(callFunc 52 args).run Tryz.prog w=.ok (.enter 52 args) w:=by
 intro args w
 simp [go_sem]
def pg1 (x:Nd):Bool:=decide ((20:Int)<x.Sh.xs.length)||decide ((60:Int)<x.Name.size)
def pg2 (x:Lk):Bool:=decide ((20:Int)<x.Cu.xs.length)||decide ((60:Int)<x.Name.size)||decide ((60:Int)<x.From.size)||decide ((60:Int)<x.To.size)||decide ((60:Int)<x.Sec.size)
def pm1 (x:SecD):Bool:=decide ((20:Int)<x.A.xs.length)||decide ((20:Int)<x.B.xs.length)
def pm2 (x:RuD):Bool:=decide ((8:Int)<x.W.xs.length)
def pm3 (x:InD):Bool:=decide ((40:Int)<x.V.xs.length)
theorem plarge1_any (x:Nd) (w:World):Calls Tryz.prog 44 #[vNd x] w fun e w'=>e=.returned (.bool (pg1 x))/\Below w.heap.size w w':=by
 obtain ⟨nm,kd,ax,ay,iv,gr,⟨sa,scap,sxs⟩,pr,rs⟩:=x
 have H:Hid (pg1 ⟨nm,kd,ax,ay,iv,gr,⟨sa,scap,sxs⟩,pr,rs⟩=(decide ((20:Int)<sxs.length)||decide ((60:Int)<nm.size))):=rfl
 generalize pg1 ⟨nm,kd,ax,ay,iv,gr,⟨sa,scap,sxs⟩,pr,rs⟩=res at *
 simp only [vNd,vSl]
 cases h1:decide ((20:Int)<sxs.length)
 rotate_left
 ·have HK:=qh (H.out.trans (by simp [h1,Bool.true_or]:_=true))
  go_enter Tryz.func44,Tryz.ntmps44
  go_wp2_with fail
  go_ret
  exact ⟨ret_bool HK.out.symm,bl⟩
 cases h2:decide ((60:Int)<nm.size)
 rotate_left
 ·have HK:=qh (H.out.trans (by simp [h1,h2]:_=true))
  go_enter Tryz.func44,Tryz.ntmps44
  go_wp2_with fail
  go_ret
  exact ⟨ret_bool HK.out.symm,bl⟩
 ·have HK:=qh (H.out.trans (by simp [h1,h2]:_=false))
  go_enter Tryz.func44,Tryz.ntmps44
  go_wp2_with fail
  go_ret
  exact ⟨ret_bool HK.out.symm,bl⟩
theorem plarge2_any (x:Lk) (w:World):Calls Tryz.prog 46 #[vLk x] w fun e w'=>e=.returned (.bool (pg2 x))/\Below w.heap.size w w':=by
 obtain ⟨nm,fr,tt,kd,ln,up,dn,sc,wi,he,⟨sa,scap,sxs⟩⟩:=x
 have H:Hid (pg2 ⟨nm,fr,tt,kd,ln,up,dn,sc,wi,he,⟨sa,scap,sxs⟩⟩=(decide ((20:Int)<sxs.length)||decide ((60:Int)<nm.size)||decide ((60:Int)<fr.size)||decide ((60:Int)<tt.size)||decide ((60:Int)<sc.size))):=rfl
 generalize pg2 ⟨nm,fr,tt,kd,ln,up,dn,sc,wi,he,⟨sa,scap,sxs⟩⟩=res at *
 simp only [vLk,vSl]
 cases h1:decide ((20:Int)<sxs.length)
 rotate_left
 ·have HK:=qh (H.out.trans (by simp [h1,Bool.true_or,Bool.true_or,Bool.true_or]:_=true))
  go_enter Tryz.func46,Tryz.ntmps46
  go_wp2_with fail
  go_ret
  exact ⟨ret_bool HK.out.symm,bl⟩
 cases h2:decide ((60:Int)<nm.size)
 rotate_left
 ·have HK:=qh (H.out.trans (by simp [h1,h2,Bool.false_or,Bool.true_or,Bool.true_or]:_=true))
  go_enter Tryz.func46,Tryz.ntmps46
  go_wp2_with fail
  go_ret
  exact ⟨ret_bool HK.out.symm,bl⟩
 cases h3:decide ((60:Int)<fr.size)
 rotate_left
 ·have HK:=qh (H.out.trans (by simp [h1,h2,h3,Bool.false_or,Bool.false_or,Bool.true_or]:_=true))
  go_enter Tryz.func46,Tryz.ntmps46
  go_wp2_with fail
  go_ret
  exact ⟨ret_bool HK.out.symm,bl⟩
 cases h4:decide ((60:Int)<tt.size)
 rotate_left
 ·have HK:=qh (H.out.trans (by simp [h1,h2,h3,h4]:_=true))
  go_enter Tryz.func46,Tryz.ntmps46
  go_wp2_with fail
  go_ret
  exact ⟨ret_bool HK.out.symm,bl⟩
 cases h5:decide ((60:Int)<sc.size)
 rotate_left
 ·have HK:=qh (H.out.trans (by simp [h1,h2,h3,h4,h5]:_=true))
  go_enter Tryz.func46,Tryz.ntmps46
  go_wp2_with fail
  go_ret
  exact ⟨ret_bool HK.out.symm,bl⟩
 ·have HK:=qh (H.out.trans (by simp [h1,h2,h3,h4,h5]:_=false))
  go_enter Tryz.func46,Tryz.ntmps46
  go_wp2_with fail
  go_ret
  exact ⟨ret_bool HK.out.symm,bl⟩
theorem pmany1_any (x:SecD) (w:World):Calls Tryz.prog 48 #[vSec x] w fun e w'=>e=.returned (.bool (pm1 x))/\Below w.heap.size w w':=by
 obtain ⟨nm,ht,pr,⟨aa,ac,axs⟩,⟨ba,bc,bxs⟩⟩:=x
 have H:Hid (pm1 ⟨nm,ht,pr,⟨aa,ac,axs⟩,⟨ba,bc,bxs⟩⟩=(decide ((20:Int)<axs.length)||decide ((20:Int)<bxs.length))):=rfl
 generalize pm1 ⟨nm,ht,pr,⟨aa,ac,axs⟩,⟨ba,bc,bxs⟩⟩=res at *
 simp only [vSec,vSl]
 cases h1:decide ((20:Int)<axs.length)
 rotate_left
 ·have HK:=qh (H.out.trans (by simp [h1,Bool.true_or]:_=true))
  go_enter Tryz.func48,Tryz.ntmps48
  go_wp2_with fail
  go_ret
  exact ⟨ret_bool HK.out.symm,bl⟩
 cases h2:decide ((20:Int)<bxs.length)
 rotate_left
 ·have HK:=qh (H.out.trans (by simp [h1,h2]:_=true))
  go_enter Tryz.func48,Tryz.ntmps48
  go_wp2_with fail
  go_ret
  exact ⟨ret_bool HK.out.symm,bl⟩
 ·have HK:=qh (H.out.trans (by simp [h1,h2]:_=false))
  go_enter Tryz.func48,Tryz.ntmps48
  go_wp2_with fail
  go_ret
  exact ⟨ret_bool HK.out.symm,bl⟩
theorem pmany2_any (x:RuD) (w:World):Calls Tryz.prog 50 #[vRu x] w fun e w'=>e=.returned (.bool (pm2 x))/\Below w.heap.size w w':=by
 obtain ⟨nm,⟨wa,wc,wxs⟩,l,s⟩:=x
 have H:Hid (pm2 ⟨nm,⟨wa,wc,wxs⟩,l,s⟩=decide ((8:Int)<wxs.length)):=rfl
 generalize pm2 ⟨nm,⟨wa,wc,wxs⟩,l,s⟩=res at *
 simp only [vRu,vSl]
 cases h1:decide ((8:Int)<wxs.length)
 ·have HK:=qh (H.out.trans (by simp [h1]:_=false))
  go_enter Tryz.func50,Tryz.ntmps50
  go_wp2_with fail
  go_ret
  exact ⟨ret_bool HK.out.symm,bl⟩
 ·have HK:=qh (H.out.trans (by simp [h1]:_=true))
  go_enter Tryz.func50,Tryz.ntmps50
  go_wp2_with fail
  go_ret
  exact ⟨ret_bool HK.out.symm,bl⟩
theorem pmany3_any (x:InD) (w:World):Calls Tryz.prog 52 #[vIn x] w fun e w'=>e=.returned (.bool (pm3 x))/\Below w.heap.size w w':=by
 obtain ⟨nm,⟨wa,wc,wxs⟩⟩:=x
 have H:Hid (pm3 ⟨nm,⟨wa,wc,wxs⟩⟩=decide ((40:Int)<wxs.length)):=rfl
 generalize pm3 ⟨nm,⟨wa,wc,wxs⟩⟩=res at *
 simp only [vIn,vSl]
 cases h1:decide ((40:Int)<wxs.length)
 ·have HK:=qh (H.out.trans (by simp [h1]:_=false))
  go_enter Tryz.func52,Tryz.ntmps52
  go_wp2_with fail
  go_ret
  exact ⟨ret_bool HK.out.symm,bl⟩
 ·have HK:=qh (H.out.trans (by simp [h1]:_=true))
  go_enter Tryz.func52,Tryz.ntmps52
  go_wp2_with fail
  go_ret
  exact ⟨ret_bool HK.out.symm,bl⟩
theorem plarge_any (n:Net) (w:World) (hg:gNet w n):Calls Tryz.prog 7 #[vNet n] w fun e w'=>(∃ b,e=.returned (.bool b)/\(b=false->n.Ns.xs.length<=12/\n.Ls.xs.length<=12))/\Below w.heap.size w w':=by
 obtain ⟨⟨na,nc,nxs⟩,⟨la,lc,lxs⟩⟩:=n
 have isN:IsNds w (.slice na nxs.length nc) nxs:=hg.1.isL
 have isL:IsLks w (.slice la lxs.length lc) lxs:=hg.2.isL
 clear hg
 simp only [vNet,vSl]
 have hb0:Below w.heap.size w (w.alloc (.cells #[.slice na nxs.length nc,.slice la lxs.length lc] 25)):=qr.alloc (Nat.le_refl _) _
 cases h1:decide ((12:Int)<nxs.length)
 rotate_left
 ·go_enter Tryz.func7,Tryz.ntmps7
  go_wp2_with fail
  go_ret
  exact ⟨⟨_,rfl,fun h=>by cases h⟩,bl⟩
 cases h2:decide ((12:Int)<lxs.length)
 rotate_left
 ·go_enter Tryz.func7,Tryz.ntmps7
  go_wp2_with fail
  go_ret
  exact ⟨⟨_,rfl,fun h=>by cases h⟩,bl⟩
 have HS:Hid (nxs.length<=12/\lxs.length<=12):=qh (by
  have a:=of_decide_eq_false h1
  have b:=of_decide_eq_false h2
  omega)
 go_enter Tryz.func7,Tryz.ntmps7
 go_wp2_with fail
 refine Calls.to (containsNdT 44 #[] ent44 pg1 nxs _ _ (isN.mono hb0) (fun W _ x _=>plarge1_any x W)) ?_
 rintro e w1 rfl hb1
 have hbb:=hb0.trans (hb1.mono hb0.size)
 obtain ⟨e0,e1⟩:=boxNet w w1 25 ⟨⟨na,nc,nxs⟩,⟨la,lc,lxs⟩⟩ _ rfl _ rfl (hb1.mono (by simp))
 simp only [vSl] at e0 e1
 cases t1:nxs.any pg1
 rotate_left
 ·go_wp2_with fail
  go_ret
  exact ⟨⟨_,rfl,fun h=>by cases h⟩,hbb⟩
 have isL1:=isL.mono hbb
 clear hb1 hb0 isL isN
 have hcl:=containsLkT 46 #[] ent46 pg2 lxs _ _ isL1 (fun W _ x _=>plarge2_any x W)
 generalize lxs.any pg2=r at hcl
 go_wp2_with fail
 refine Calls.to hcl ?_
 rintro e w2 rfl hb2
 have hbb2:=hbb.trans (hb2.mono hbb.size)
 clear hb2 hbb hcl
 go_wp2_with fail
 go_ret
 exact ⟨⟨_,rfl,fun _=>HS.out⟩,hbb2⟩
theorem pmany_any (ss:List SecD) (vS:Value) (rs:List RuD) (vR:Value) (is:List InD) (vI:Value) (w:World) (hs:IsSecL w vS ss) (hr:IsRusL w vR rs) (hi:IsInsL w vI is) :
    Calls Tryz.prog 8 #[vS,vR,vI] w fun e w'=>(∃ b,e=.returned (.bool b))/\Below w.heap.size w w':=by
  have c1:=containsSec 48 #[] ent48 pm1 ss vS w hs (fun W _ x _=>pmany1_any x W)
  have c2:=fun W hW=>containsRusL 50 #[] ent50 pm2 rs vR W (IsL.mono hr hW) (fun W _ x _=>pmany2_any x W)
  have c3:=fun W hW=>containsInsL 52 #[] ent52 pm3 is vI W (IsL.mono hi hW) (fun W _ x _=>pmany3_any x W)
  generalize ss.any pm1=r1 at c1
  generalize rs.any pm2=r2 at c2
  generalize is.any pm3=r3 at c3
  obtain ⟨sa,sc,rfl,-⟩:=hs
  obtain ⟨ra,rc,rfl,-⟩:=hr
  obtain ⟨ia,ic,rfl,-⟩:=hi
  cases h1:decide ((8:Int)<ss.length)
  rotate_left
  · go_enter Tryz.func8,Tryz.ntmps8
    go_wp2_with fail
    go_ret
    exact ⟨⟨_,rfl⟩,bl⟩
  cases h2:decide ((8:Int)<rs.length)
  all_goals
    cases h3:decide ((8:Int)<is.length)
    all_goals
      go_enter Tryz.func8,Tryz.ntmps8
      go_wp2_with fail
      refine Calls.to c1 ?_
      rintro e w1 rfl hb1
      cases r1
      rotate_left
      · go_wp2_with fail
        go_ret
        exact ⟨⟨_,rfl⟩,hb1⟩
      replace c2:=c2 w1 hb1
      go_wp2_with fail
      first
        | (go_ret;exact ⟨⟨_,rfl⟩,hb1⟩)
        | (refine Calls.to c2 ?_
           rintro e w2 rfl hb2
           replace hb2 := hb1.trans (hb2.mono hb1.size)
           clear c1 c2
           cases r2
           rotate_left
           · go_wp2_with fail
             go_ret
             exact ⟨⟨_, rfl⟩, hb2⟩
           replace c3 := c3 w2 hb2
           go_wp2_with fail
           first
             | (go_ret; exact ⟨⟨_, rfl⟩, hb2⟩)
             | (refine Calls.to c3 ?_
                rintro e w3 rfl hb3
                replace hb3:=hb2.trans (hb3.mono hb2.size)
                clear c3
                go_wp2_with fail
                go_ret
                exact ⟨⟨_,rfl⟩,hb3⟩))
end Go.Proofs.YtoiakijmbghhlaaGreat
