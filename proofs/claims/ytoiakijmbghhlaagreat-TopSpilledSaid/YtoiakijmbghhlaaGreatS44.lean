/- simulate.at and simulate.valid. Conditions: the arguments read as data; the inflows' names are among the names. | balance.Cut between two sets of nodes. Conditions: the network is right; the lists name nodes. -/
import Derived.StillTailTactics
import Derived.Test.YtoiakijmbghhlaaGreatS43
import Derived.Test.YtoiakijmbghhlaaGreatS25
import Derived.Test.YtoiakijmbghhlaaGreatS13
import Derived.Test.YtoiakijmbghhlaaGreatS37
import Derived.Test.YtoiakijmbghhlaaGreatS16
set_option linter.unusedVariables false
set_option linter.unusedSimpArgs false
set_option maxRecDepth 100000
set_option maxHeartbeats 32000000
namespace Go.Proofs.YtoiakijmbghhlaaGreat
open Go.RowKit Go.Maps
theorem smvalid_any (n:Net) (ss:List SecD) (vS:Value) (s:St) (w:World) (hg:gNet w n) (hs:IsSecs w vS ss) (hgs:gSt w s) :
  Calls Tryz.prog 89 #[vNet n,vS,vSt s] w fun e w'=>(∃ b,e=.returned (.bool b)/\(b=true->netB n=true/\stB n s=true))/\Below w.heap.size w w':=by
 obtain ⟨W,hW⟩:∃ W,W=allocs w [((eNet n).toArray,25),((eSt s).toArray,31)]:=⟨_,rfl⟩
 have hbw:Below w.heap.size w W:=by rw [hW];exact allocs_below _ _
 have t0:W.heap[w.heap.size]? = some (.cells (eNet n).toArray 25 (0,0)):=by rw [hW];exact allocs_at [((eNet n).toArray,25),((eSt s).toArray,31)] w 0 (by simp)
 have t1:W.heap[w.heap.size+1]? = some (.cells (eSt s).toArray 31 (0,0)):=by rw [hW];exact allocs_at [((eNet n).toArray,25),((eSt s).toArray,31)] w 1 (by simp)
 have HW:Hid (W=(w.alloc (.cells (eNet n).toArray 25)).alloc (.cells (eSt s).toArray 31)):=qh hW
 have q0:W.cell? ⟨w.heap.size,0,none⟩=some (.slice n.Ns.a n.Ns.xs.length n.Ns.cap):=(tank_blk t0 0).trans rfl
 have q1:W.cell? ⟨w.heap.size,1,none⟩=some (.slice n.Ls.a n.Ls.xs.length n.Ls.cap):=(tank_blk t0 1).trans rfl
 have s0:W.cell? ⟨w.heap.size+1,0,none⟩=some (.slice s.V.a s.V.xs.length s.V.cap):=(tank_blk t1 0).trans rfl
 have s1:W.cell? ⟨w.heap.size+1,1,none⟩=some (.slice s.P.a s.P.xs.length s.P.cap):=(tank_blk t1 1).trans rfl
 have s2:W.cell? ⟨w.heap.size+1,2,none⟩=some (.slice s.S.a s.S.xs.length s.S.cap):=(tank_blk t1 2).trans rfl
 have s3:W.cell? ⟨w.heap.size+1,3,none⟩=some (.slice s.O.a s.O.xs.length s.O.cap):=(tank_blk t1 3).trans rfl
 have hsv:=svalid_any n s W (rdNet.mono hg hbw) (rdSt.mono hgs hbw)
 have hcv:=fun V (hV:Below W.heap.size W V)=>catvalid_any ss vS V (hs.mono (hbw.trans (hV.mono hbw.size)))
 obtain ⟨b,hb⟩:∃ b,b=(netB n&&stB n s):=⟨_,rfl⟩
 rw [<-hb] at hsv
 have HB:=qh hb
 have HCV:=qh hcv
 obtain ⟨⟨aS,cS,rfl,-⟩,-⟩:=hs
 clear hW t0 t1 hg hgs hb hcv
 simp only [vNet,vSt,vSl] at hsv ⊢
 go_enter Tryz.func89,Tryz.ntmps89
 go_upto_region 1 with (fail)
 try simp only [Nat.add_assoc,Nat.reduceAdd]
 first|rw [<-HW.out]|fail "W"
 clear HW
 go_wp2_with fail
 refine Calls.to hsv ?_
 rintro e w1 rfl hb1
 have hb2:=hbw.trans (hb1.mono hbw.size)
 clear hsv q0 q1 s0 s1 s2 s3
 cases b
 ·go_wp2_with fail
  go_ret
  exact ⟨⟨_,rfl,fun h=>by cases h⟩,hb2⟩
 ·have hc:=HCV.out w1 hb1
  have HT:Hid (netB n=true/\stB n s=true):=qh (by
   have h:=HB.out.symm
   rwa [Bool.and_eq_true] at h)
  generalize catB ss=r at hc
  clear HCV hb1
  go_wp2_with fail
  refine Calls.to hc ?_
  rintro e w2 rfl hb3
  have hb4:=hb2.trans (hb3.mono hb2.size)
  clear hc hb3
  go_wp2_with fail
  go_ret
  exact ⟨⟨_,rfl,fun _=>HT.out⟩,hb4⟩
inductive AtOut (w:World):Value->Prop
 | no (e:Int):e≠0->AtOut w (.tuple #[.slice none 0 0,.int .i64 e])
 | ok (a:Option Addr) (c:Nat) (qs:List Int):IsInts w (.slice a qs.length c) qs->AtOut w (.tuple #[.slice a qs.length c,.int .i64 0])
theorem smat_any (is:List InD) (vI:Value) (names:List ByteArray) (vN:Value) (k:Nat) (w:World) (hi:IsInsL w vI is) (hg:∀ x∈is,gIn w x) (hN:IsTxs w vN names) (hz:∀ z∈names,z.size<=maxLen) (hl:is.length<=1000) (hln:names.length<=1000)
  (hk:∀ x∈is,hasT names x.N=true) (hkb:k<=100000) :
  Calls Tryz.prog 93 #[vI,vN,.int .i64 k] w fun e w'=>(∃ u,e=.returned u/\AtOut w' u)/\Below w.heap.size w w':=by
 have hmm:=@run_makeMap Tryz.prog
 have HGI:=qh hg
 have HZ:=qh hz
 have HK:=qh hk
 obtain ⟨ai,ci,rfl,hi1,hi2,hi3⟩:=hi
 obtain ⟨an,cn,rfl,hn1,hn2,hn3⟩:=hN
 have HI3:=qh hi3
 have HN3:=qh hn3
 obtain ⟨nn,hnn⟩:∃ nn,nn=names.length:=⟨_,rfl⟩
 obtain ⟨ni,hni⟩:∃ ni,ni=is.length:=⟨_,rfl⟩
 have HNL:=qh hnn
 have HNI:=qh hni
 rw [<-hnn,<-hni]
 have hnb:nn<=1000:=by omega
 have hib:ni<=1000:=by omega
 obtain ⟨nm,hnm⟩:∃ nm:Nat->ByteArray,nm=fun j=>names.getD j ⟨#[]⟩:=⟨_,rfl⟩
 have HNM:=qh hnm
 clear hg hz hk hi1 hi2 hi3 hn1 hn2 hn3 hnn hni hl hln hnm
 obtain ⟨bm,hbm⟩:∃ b,b=w.heap.size:=⟨_,rfl⟩
 obtain ⟨w1,hw1⟩:∃ w1,w1=w.alloc (.map #[] 0):=⟨_,rfl⟩
 have hb1:Below w.heap.size w w1:=by rw [hw1];exact alloc_below _ _
 have HS0:Hid (MapS w1 bm 0 (lastAt nm 0)):=qh (by rw [hw1,hbm];exact MapS.made w)
 have HW1:=qh hw1
 have HBM:Hid (w.heap.size<=bm):=qh (Nat.le_of_eq hbm.symm)
 clear hw1
 go_enter Tryz.func93,Tryz.ntmps93
 go_upto_region 2 with (fail)
 first|rw [<-HW1.out]|fail "w1"
 rw [<-hbm]
 clear hmm HW1 hbm
 go_upto_region 3 with (fail)
 go_loopw [18] (fun s18 wr=>∃ j:Nat,j<=nn/\s18=.int .i64 j/\Hid (MapS wr bm j (lastAt nm j))/\Below w.heap.size w wr) (fun s18 _=>nn-(RowKit.intOf s18).toNat)
 case atStart=>exact ⟨0,Nat.zero_le _,rfl,HS0,hb1⟩
 clear HS0 hb1
 case round=>
  obtain ⟨j,hj,rfl,HS,hb⟩:=hrel
  obtain ⟨wo,hwo⟩:∃ wo,wo=wr:=⟨_,rfl⟩
  subst hwo
  by_cases hjn:j<nn
  ·have hjl:j<names.length:=by rw [<-HNL.out];exact hjn
   obtain ⟨bz,oz,ea,d0⟩:=(HN3.out.mono hb).tx j hjl
   have hzs:=HZ.out _ (List.getElem_mem hjl)
   obtain ⟨z,hzx⟩:∃ z,z=names[j]'hjl:=⟨_,rfl⟩
   have hzn:nm j=z:=by rw [HNM.out,hzx];simp [List.getD,hjl]
   rw [<-hzx] at d0 hzs
   obtain ⟨w3,hup,hS3,hg3⟩:=HS.out.upd (y:=(j:Int)) (by simp only [maxLen];omega) hzs (wfI om)
   have HS3:Hid (MapS w3 bm (j+1) (lastAt nm (j+1))):=qh (by
    show MapS w3 bm (j+1) (setFS (lastAt nm j) (nm j) j)
    rw [hzn];exact hS3)
   have hb3:Below w.heap.size w w3:=hb.grown hg3 hb.size (fun q hq=>by cases hq;exact HBM.out)
   have i1:decide (j<nn)=true:=decide_eq_true hjn
   have x7:IntKind.i64.wrap ((j:Int)+1)=j+1:=IntWalk.i64_in _ om
   have i4:(0:Int)<=j:=by omega
   have i5:(j:Int)<nn:=by omega
   have EA:=qh ea
   have HAN:=qh hjn
   clear hzx hzn hjn hjl hS3 hg3 HS
   go_wp2_with fail
   clear ea
   first|rw [<-EA.out]|skip
   go_roundw
   case measure=>have:=HAN.out;simp [RowKit.intOf,x7];omega
   case rel=>exact ⟨j+1,HAN.out,by go_num,HS3,hb3⟩
  ·have hje:nn=j:=by omega
   subst hje
   have i1:decide (nn<nn)=false:=decide_eq_false (Nat.lt_irrefl nn)
   have hll:nn<2147483648:=by omega
   have hwsz:=hb.size
   go_upto_region 8 with (refine wpList_mk _ rfl _ _ 28 rfl wo.heap.size 3 _ 8 undInts infInt eInt 0 rfl rfl _ _ nn rfl rfl rfl rfl hll om (Nat.le_refl _) ?_;intro w2 hown hb2 hlt2)
   have HO2:=qh hown
   have HM2:=qh (HS.out.below hb2)
   have hltm:=HS.out.lt
   have HLTM:=qh hltm
   obtain ⟨r,hr⟩:∃ r,r=wo.heap.size:=⟨_,rfl⟩
   have HR:Hid (r=wo.heap.size/\w.heap.size<=r):=qh ⟨hr,by omega⟩
   have HBW:=qh hb
   rw [<-hr] at HO2 ⊢
   clear hown hlt2 i1 hjn HS hltm hr hwsz hll hb
   go_upto_region 9 with (fail)
   go_loopw [32] (fun s32 wx=>∃ (a:Nat) (qs:List Int),a<=ni/\s32=.int .i64 a/\Hid (MapS wx bm nn (lastAt nm nn))/\Hid (Own r 3 eInt 1 wx (.slice (some ⟨r,0,none⟩) nn nn) qs/\qs.length=nn)/\Below r wo wx) (fun s32 _=>ni-(RowKit.intOf s32).toNat)
   case atStart=>exact ⟨0,_,Nat.zero_le _,rfl,HM2,qh ⟨by rw [HR.out.1];rw [HR.out.1] at HO2;exact HO2.out,by simp⟩,by rw [HR.out.1];exact hb2⟩
   clear HM2 HO2 hb2
   case round=>
    obtain ⟨a,qs,ha,rfl,HM,HO,hb⟩:=hrel
    obtain ⟨wx,hwx⟩:∃ wx,wx=wr:=⟨_,rfl⟩
    subst hwx
    have hbr:Below w.heap.size w wx:=HBW.out.trans (hb.mono HR.out.2)
    by_cases han:a<ni
    ·have hai:a<is.length:=by rw [<-HNI.out];exact han
     obtain ⟨bi,oi,ea,d0,d1⟩:=(HI3.out.mono hbr).inf a hai
     have gx:=rdIn.mono (HGI.out _ (List.getElem_mem hai)) hbr
     have hkx:=HK.out _ (List.getElem_mem hai)
     obtain ⟨x,hx⟩:∃ x,x=is[a]'hai:=⟨_,rfl⟩
     rw [<-hx] at d0 d1 gx hkx
     obtain ⟨W3,hW3⟩:∃ W3,W3=wx.alloc (.cells (eIn x).toArray 121):=⟨_,rfl⟩
     have hbA:Below wx.heap.size wx W3:=by rw [hW3];exact alloc_below _ _
     obtain ⟨k0,k1⟩:=bxIn wx W3 121 x _ rfl _ rfl (by rw [hW3];exact qr)
     simp only [vSl] at k1
     have HW3:=qh hW3
     have GX:=rdIn.mono gx hbA
     obtain ⟨i,hin,hlk0⟩:∃ i:Nat,i<nn/\lastAt nm nn x.N=some (i:Int):=by
      cases q:lastAt nm nn x.N with
      | some y=>
       obtain ⟨i,h1,h2,h3⟩:=lastAt_some q
       exact ⟨i,h1,by rw [h3]⟩
      | none=>
       exfalso
       obtain ⟨j,hj,hje⟩:=List.mem_iff_getElem.1 (hasT_iff.1 hkx)
       refine lastAt_none q j (by rw [HNL.out];exact hj) ?_
       rw [HNM.out,<-hje];simp [List.getD,hj]
     have hM3:=HM.out.below hbA
     have hlk:=hM3.look gx.n
     rw [hlk0] at hlk
     simp only [Option.getD_some] at hlk
     have hO3:=HO.out.1.below hbA
     have hb3:=hb.trans (hbA.mono (by have:=hb.size;have h2:=HR.out.1;omega))
     have hiq:i<qs.length:=by rw [HO.out.2];exact hin
     have i1:decide (a<ni)=true:=decide_eq_true han
     have x7:IntKind.i64.wrap ((a:Int)+1)=a+1:=IntWalk.i64_in _ om
     have i4:(0:Int)<=a:=by omega
     have i5:(a:Int)<ni:=by omega
     have j4:(0:Int)<=i:=by omega
     have j5:(i:Int)<nn:=by omega
     have EA:=qh ea
     have HAN:=qh han
     have HM3:=qh hM3
     have HOL:=qh HO.out.2
     clear hx hW3 gx hkx hlk0 hM3 HM HO hb han hai
     by_cases hkl:k<x.V.xs.length
     ·have i8:decide (x.V.xs.length<=k)=false:=decide_eq_false om
      have i9:decide ((x.V.xs.length:Int)<=k)=false:=decide_eq_false om
      obtain ⟨bv,ov,eav,e0⟩:=(GX.v.2.2.1).int k hkl
      obtain ⟨y,hy⟩:∃ y,y=x.V.xs[k]'hkl:=⟨_,rfl⟩
      rw [<-hy] at e0
      obtain ⟨p,hp⟩:∃ p,p=qs[i]'hiq:=⟨_,rfl⟩
      have hcz:W3.cell? ⟨r,i,none⟩=some (.int .i64 p):=hO3.int1 (k:=i) hiq hp.symm
      have f0:=hO3.free i
      obtain ⟨sv,hsv⟩:∃ v,IntKind.i64.wrap (p+y)=v:=⟨_,rfl⟩
      have hO4:=hO3.put1 (k:=i) hiq sv
      obtain ⟨W4,hW4⟩:∃ W4,W4=(W3.setCell ⟨r,i,none⟩ (.int .i64 sv)).drew:=⟨_,rfl⟩
      have hgS:W3.grownBy (W3.setCell ⟨r,i,none⟩ (.int .i64 sv)) (some r):=grownBy_set W3 ⟨r,i,none⟩ _
      have hrm:bm≠r:=by have:=HLTM.out;have:=HR.out.1;omega
      have HM4:Hid (MapS W4 bm nn (lastAt nm nn)):=qh (by
       rw [hW4]
       exact (HM3.out.kept hgS (fun e=>hrm (Option.some.inj e))).below (Below.drew qr))
      have HO4:Hid (Own r 3 eInt 1 W4 (.slice (some ⟨r,0,none⟩) nn nn) (qs.set i sv)/\(qs.set i sv).length=nn):=qh ⟨by rw [hW4];exact hO4.below (Below.drew qr),by rw [List.length_set];exact HOL.out⟩
      have hb4:Below r wo W4:=by rw [hW4];exact (hb3.setCell (p:=⟨r,i,none⟩) (Nat.le_refl _) _).drew
      have m0:W4.cell? ⟨r,i,none⟩=some (.int .i64 sv):=by
       rw [hW4]
       exact hO4.int1 (k:=i) (by rw [List.length_set];exact hiq) (by simp)
      have k4:(0:Int)<=k:=by omega
      have k5:(k:Int)<x.V.xs.length:=by omega
      obtain ⟨fb,hfb⟩:∃ f,decide (1125899906842624<sv)=f:=⟨_,rfl⟩
      have HW4:=qh hW4
      have EAV:=qh eav
      clear eav
      clear hy hp hO3 hO4 hW4 hgS hrm hb3 HM3 hiq HOL
      go_upto_region 11 with (fail)
      rw [<-HW3.out]
      clear d0 d1 HW3
      have eav:=EAV.out
      rw [eav] at k1
      go_upto_region 13 with (fail)
      go_still_tail 11,(by kernel_rfl)
      change wpList _ _ _ _ _ W3.drew
      go_upto_region 14 with (fail)
      first|rw [<-HW4.out]|fail "W4"
      clear HW4 hcz f0 e0 hlk k0 k1 eav
      cases fb
      ·go_wp2_with fail
       clear ea
       first|rw [<-EA.out]|skip
       go_roundw
       case measure=>have:=HAN.out;simp [RowKit.intOf,x7];omega
       case rel=>exact ⟨a+1,_,HAN.out,by go_num,HM4,HO4,hb4⟩
      ·have hbf:Below w.heap.size w W4:=HBW.out.trans (hb4.mono HR.out.2)
       clear HM4 HO4 hb4
       go_wp2_with fail
       go_ret2
       exact ⟨⟨_,rfl,.no 5 (by decide)⟩,hbf⟩
     ·have i8:decide (x.V.xs.length<=k)=true:=decide_eq_true om
      have i9:decide ((x.V.xs.length:Int)<=k)=true:=decide_eq_true om
      have HO3:Hid (Own r 3 eInt 1 W3 (.slice (some ⟨r,0,none⟩) nn nn) qs/\qs.length=nn):=qh ⟨hO3,HOL.out⟩
      clear hkl hiq hO3
      go_upto_region 11 with (fail)
      rw [<-HW3.out]
      clear d0 d1 HW3
      go_wp2_with fail
      clear ea
      first|rw [<-EA.out]|skip
      go_roundw
      case measure=>have:=HAN.out;simp [RowKit.intOf,x7];omega
      case rel=>exact ⟨a+1,qs,HAN.out,by go_num,HM3,HO3,hb3⟩
    ·have hae:ni=a:=by omega
     subst hae
     have i1:decide (ni<ni)=false:=decide_eq_false (Nat.lt_irrefl ni)
     have hIs:IsInts wx (.slice (some ⟨r,0,none⟩) qs.length nn) qs:=by
      have h:=HO.out.1.isL (enc:=eInt) (fun _=>rfl)
      rw [HO.out.2];exact h
     have HF:Hid (AtOut wx (.tuple #[.slice (some ⟨r,0,none⟩) nn nn,.int .i64 0])):=qh (by
      have h:=AtOut.ok (some ⟨r,0,none⟩) nn qs hIs
      rw [HO.out.2] at h;exact h)
     clear hIs HO HM han hb
     go_wp2_with fail
     go_ret2
     exact ⟨⟨_,rfl,HF.out⟩,hbr⟩
end Go.Proofs.YtoiakijmbghhlaaGreat
