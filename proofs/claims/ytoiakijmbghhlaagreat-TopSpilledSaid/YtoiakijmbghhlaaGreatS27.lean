/- routing: holds. Conditions: a state that reads, as many ponded waters as volumes, at most a million; none below zero, none above 2^61. | routing: within, valid, the second closure of Step. Conditions: valid: network and state read as data, the sections are data. | catalogue.Find at any name. Conditions: the sections are data. | routing: named. Conditions: the network reads as data (at most 400 links), the sections are data. | storage.Capacity at any node. Conditions: the node reads as data. | routing: part. Conditions: three numbers from 0 on; the quotient is a number. | routing: the first closure of Step (a refusal's answer). Conditions: none. -/
import Derived.Test.YtoiakijmbghhlaaGreatS25
import Derived.Test.YtoiakijmbghhlaaGreatS05
import Derived.Test.YtoiakijmbghhlaaGreatS16
set_option linter.unusedVariables false
set_option linter.unusedSimpArgs false
set_option maxRecDepth 100000
set_option maxHeartbeats 32000000
namespace Go.Proofs.YtoiakijmbghhlaaGreat
open Go.RowKit
def holdsL (vs ps:List Int) (k:Nat) (xs:List Int):Prop:=
 xs.length=vs.length/\∀ i,i<vs.length->xs.getD i 0=if i<k then vs.getD i 0+ps.getD i 0 else vs.getD i 0
theorem holdsL_set {vs ps xs:List Int} {k:Nat} (h:holdsL vs ps k xs) (hk:k<vs.length) (y:Int) (hy:y=vs.getD k 0+ps.getD k 0):holdsL vs ps (k+1) (xs.set k y):=by
 refine ⟨by rw [List.length_set];exact h.1,fun i hi=>?_⟩
 have hx:=h.1
 have q:=h.2 i hi
 by_cases e:i=k
 ·subst e
  rw [if_pos om,<-hy]
  simp [List.getD,List.getElem?_set,show i<xs.length from by omega]
 ·rw [show (xs.set k y).getD i 0=xs.getD i 0 from by simp [List.getD,List.getElem?_set,Ne.symm e],q]
  by_cases h2:i<k
  ·rw [if_pos h2,if_pos om]
  ·rw [if_neg h2,if_neg om]
theorem holdsL_all {vs ps xs:List Int} {k:Nat} (h:holdsL vs ps k xs) (hk:vs.length<=k) (hp:ps.length=vs.length):xs=List.zipWith (· + ·) vs ps:=by
 refine List.ext_getElem (by rw [h.1,List.length_zipWith];omega) fun i h1 h2=>?_
 have hx:=h.1
 have q:=h.2 i om
 rw [if_pos om] at q
 have i1:i<vs.length:=by omega
 have i2:i<ps.length:=by omega
 rw [List.getElem_zipWith]
 simpa [List.getD,h1,i1,i2] using q
theorem rholds_any (s:St) (w:World) (hgs:gSt w s) (hp:s.P.xs.length=s.V.xs.length) (hn:s.V.xs.length<=1000000)
  (hbd:∀ k (h:k<s.V.xs.length) (h2:k<s.P.xs.length),0<=s.V.xs[k]/\s.V.xs[k]<=2305843009213693952/\0<=s.P.xs[k]/\s.P.xs[k]<=2305843009213693952) :
  Calls Tryz.prog 169 #[vSt s] w fun e w'=>(∃ u,e=.returned u/\Own w.heap.size 3 eInt 1 w' u (List.zipWith (· + ·) s.V.xs s.P.xs))/\Below w.heap.size w w':=by
 obtain ⟨W,hW⟩:∃ W,W=allocs w [((eSt s).toArray,31)]:=⟨_,rfl⟩
 have hbw:Below w.heap.size w W:=by rw [hW];exact allocs_below _ _
 have hsz:w.heap.size<=W.heap.size:=hbw.size
 have t2:W.heap[w.heap.size]? = some (.cells (eSt s).toArray 31 (0,0)):=by rw [hW];exact allocs_at [((eSt s).toArray,31)] w 0 (by simp)
 have HW:Hid (W=w.alloc (.cells (eSt s).toArray 31)):=qh hW
 have s0:W.cell? ⟨w.heap.size,0,none⟩=some (.slice s.V.a s.V.xs.length s.V.cap):=(tank_blk t2 0).trans rfl
 have s1:W.cell? ⟨w.heap.size,1,none⟩=some (.slice s.P.a s.P.xs.length s.P.cap):=(tank_blk t2 1).trans rfl
 have s2:W.cell? ⟨w.heap.size,2,none⟩=some (.slice s.S.a s.S.xs.length s.S.cap):=(tank_blk t2 2).trans rfl
 have s3:W.cell? ⟨w.heap.size,3,none⟩=some (.slice s.O.a s.O.xs.length s.O.cap):=(tank_blk t2 3).trans rfl
 have HS:=qh (rdSt.mono hgs hbw)
 have hcl:=cloneInt_any s.V.xs _ W (HS.out.1.isL) hn
 have HBD:=qh hbd
 have HN:=qh hn
 have HPL:=qh hp
 clear hW t2 hgs hbd hn hp
 simp only [vSt,vSl] at hcl ⊢
 go_enter Tryz.func169,Tryz.ntmps169
 go_upto_region 1 with (fail)
 rw [<-HW.out]
 clear HW
 go_wp2_with fail
 refine Calls.to hcl ?_
 rintro e w1 ⟨u,rfl,hO⟩ hb1
 have hbr:=hbw.trans (hb1.mono hbw.size)
 have hbW:=hb1
 have r1:=s1
 have s0:=cel_lt s0 hb1
 have s1:=cel_lt s1 hb1
 have s2:=cel_lt s2 hb1
 have s3:=cel_lt s3 hb1
 clear hcl hb1
 obtain ⟨m,hm⟩:∃ m,m=s.V.xs.length:=⟨_,rfl⟩
 have HM:=qh hm
 rw [HPL.out,<-hm] at s1 r1
 have R1:=qh r1
 have hm4:m<=1000000:=by have:=HN.out;omega
 have HSZ:=qh hsz
 clear hm hsz r1
 go_wp2_with fail
 go_loopw [12] (fun s12 wr=>∃ (k:Nat) (xs:List Int),k<=m/\s12=.int .i64 k/\Below w.heap.size w wr/\Below W.heap.size W wr/\Own W.heap.size 3 eInt 1 wr u xs/\Hid (holdsL s.V.xs s.P.xs k xs)) (fun s12 _=>m-(RowKit.intOf s12).toNat)
 case atStart=>exact ⟨0,s.V.xs,Nat.zero_le _,rfl,hbr,hbW,hO,qh ⟨rfl,fun i _=>(if_neg (Nat.not_lt_zero i)).symm⟩⟩
 case round=>
  obtain ⟨k,xs,hk,rfl,hb,hbV,hO,hq⟩:=hrel
  have xl:xs.length=m:=by have:=hq.out.1;have:=HM.out;omega
  by_cases hkm:k<m
  ·have hkx:k<xs.length:=by omega
   obtain ⟨g,c,hu,hg,hgl,-,-⟩:=hO.place om
   rw [xl] at hu
   subst hu
   have f0:=hO.free k
   have hkP:k<s.P.xs.length:=by rw [HPL.out,<-HM.out];exact hkm
   have hkV:k<s.V.xs.length:=by rw [<-HM.out];exact hkm
   have gS:=rdSt.mono HS.out hbV
   obtain ⟨b,off,ea,e1⟩:=gS.2.1.2.2.1.int k hkP
   have e0:=hO.int1 hkx rfl
   have hv:=hq.out.2 k hkV
   rw [if_neg (Nat.lt_irrefl k)] at hv
   have hbk:=HBD.out k hkV hkP
   obtain ⟨y,hy⟩:∃ y,y=xs[k]'hkx:=⟨_,rfl⟩
   have hyv:y=s.V.xs[k]'hkV:=by rw [hy];simpa [List.getD,hkx,hkV] using hv
   obtain ⟨p,hpp⟩:∃ p,p=s.P.xs[k]'hkP:=⟨_,rfl⟩
   rw [<-hyv,<-hpp] at hbk
   rw [<-hy] at e0
   rw [<-hpp] at e1
   have HY:Hid (y+p=s.V.xs.getD k 0+s.P.xs.getD k 0):=qh (by rw [hyv,hpp];simp [List.getD,hkV,hkP])
   have x7:IntKind.i64.wrap ((k:Int)+1)=k+1:=IntWalk.i64_in _ om
   have x8:IntKind.i64.wrap (y+p)=y+p:=IntWalk.i64_in _ om
   have i1:decide (k<m)=true:=decide_eq_true hkm
   have i4:(0:Int)<=k:=by omega
   have i5:(k:Int)<m:=by omega
   have HKM:=qh hkm
   have HKV:=qh hkV
   have s1:=cel_lt R1.out hbV
   rw [ea] at s1
   have EA:=qh ea
   have hO':=hO.put1 hkx (y+p)
   have hb':=hb.setCell (p:=⟨g,k,none⟩) (Nat.le_trans HSZ.out hg) (.int .i64 (y+p))
   have hbV':=hbV.setCell (p:=⟨g,k,none⟩) hg (.int .i64 (y+p))
   clear hO gS hv hy hyv hpp hbk hkP hkV hb hbV xl hkm s0 s2 s3 hkx hg
   go_wp2_with fail
   clear ea s1 e0 e1
   have hlt:=HKM.out
   refine ⟨⟨k+1,xs.set k (y+p),hlt,by go_num,hb',hbV',hO',qh (holdsL_set hq.out HKV.out _ HY.out)⟩,?_⟩
   simp [RowKit.intOf];omega
  ·have i1:decide (k<m)=false:=decide_eq_false hkm
   have hz:=holdsL_all hq.out (by have:=HM.out;omega) HPL.out
   rw [hz] at hO
   clear xl hz hq
   go_wp2_with fail
   go_ret
   exact ⟨⟨_,rfl,hO.base HSZ.out⟩,hb⟩
theorem rwithin_any (v m:Int) (w:World):Calls Tryz.prog 166 #[.int .i64 v,.int .i64 m] w fun e w'=>e=.returned (.bool (decide (0<=v)&&decide (v<=m)))/\Below w.heap.size w w':=by
 obtain ⟨y1,h1⟩:∃ y,decide (0<=v)=y:=⟨_,rfl⟩
 obtain ⟨y2,h2⟩:∃ y,decide (v<=m)=y:=⟨_,rfl⟩
 rw [h1,h2]
 go_enter Tryz.func166,Tryz.ntmps166
 cases y1
 ·go_wp2
  go_ret
  exact ⟨rfl,qr⟩
 ·go_wp2
  go_ret
  exact ⟨ret_bool (by cases y2 <;> rfl),qr⟩
theorem rstep2_any (v:Int) (w:World):Calls Tryz.prog 165 #[.int .i64 v] w fun e w'=>e=.returned (.bool (!(decide (0<=v)&&decide (v<=1125899906842624))))/\Below w.heap.size w w':=by
 have hw:=rwithin_any v 1125899906842624 w
 obtain ⟨y1,h1⟩:∃ y,(decide (0<=v)&&decide (v<=1125899906842624))=y:=⟨_,rfl⟩
 rw [h1] at hw ⊢
 go_enter Tryz.func165,Tryz.ntmps165
 go_wp2_with fail
 refine Calls.to hw ?_
 rintro e w1 rfl hb1
 cases y1
 ·go_wp2_with fail
  go_ret
  exact ⟨rfl,hb1⟩
 ·go_wp2_with fail
  go_ret
  exact ⟨rfl,hb1⟩
theorem rvalid_any (n:Net) (ss:List SecD) (v:Value) (s:St) (w:World) (hg:gNet w n) (hv:IsSecs w v ss) (hgs:gSt w s) :
  Calls Tryz.prog 164 #[vNet n,v,vSt s] w fun e w'=>e=.returned (.bool (netB n&&stB n s&&catB ss))/\Below w.heap.size w w':=by
 obtain ⟨W,hW⟩:∃ W,W=allocs w [((eNet n).toArray,25),((eSt s).toArray,31)]:=⟨_,rfl⟩
 have hbw:Below w.heap.size w W:=by rw [hW];exact allocs_below _ _
 have t0:W.heap[w.heap.size]? = some (.cells (eNet n).toArray 25 (0,0)):=by rw [hW];exact allocs_at [((eNet n).toArray,25),((eSt s).toArray,31)] w 0 (by simp)
 have t2:W.heap[w.heap.size+1]? = some (.cells (eSt s).toArray 31 (0,0)):=by rw [hW];exact allocs_at [((eNet n).toArray,25),((eSt s).toArray,31)] w 1 (by simp)
 have HW:Hid (W=(w.alloc (.cells (eNet n).toArray 25)).alloc (.cells (eSt s).toArray 31)):=qh hW
 have q0:W.cell? ⟨w.heap.size,0,none⟩=some (.slice n.Ns.a n.Ns.xs.length n.Ns.cap):=(tank_blk t0 0).trans rfl
 have q1:W.cell? ⟨w.heap.size,1,none⟩=some (.slice n.Ls.a n.Ls.xs.length n.Ls.cap):=(tank_blk t0 1).trans rfl
 have s0:W.cell? ⟨w.heap.size+1,0,none⟩=some (.slice s.V.a s.V.xs.length s.V.cap):=(tank_blk t2 0).trans rfl
 have s1:W.cell? ⟨w.heap.size+1,1,none⟩=some (.slice s.P.a s.P.xs.length s.P.cap):=(tank_blk t2 1).trans rfl
 have s2:W.cell? ⟨w.heap.size+1,2,none⟩=some (.slice s.S.a s.S.xs.length s.S.cap):=(tank_blk t2 2).trans rfl
 have s3:W.cell? ⟨w.heap.size+1,3,none⟩=some (.slice s.O.a s.O.xs.length s.O.cap):=(tank_blk t2 3).trans rfl
 have hsv:=svalid_any n s W (rdNet.mono hg hbw) (rdSt.mono hgs hbw)
 have HV:=qh (hv.mono hbw)
 obtain ⟨y1,h1⟩:∃ y,(netB n&&stB n s)=y:=⟨_,rfl⟩
 obtain ⟨y2,h2⟩:∃ y,catB ss=y:=⟨_,rfl⟩
 rw [h1] at hsv
 rw [h1,h2]
 have H2:=qh h2
 obtain ⟨⟨va,vc,hvv,-,-,-⟩,-⟩:=hv
 subst hvv
 clear hW t0 t2 hg hgs h1 h2
 simp only [vNet,vSt,vSl] at hsv ⊢
 go_enter Tryz.func164,Tryz.ntmps164
 go_upto_region 1 with (fail)
 rw [<-HW.out]
 clear HW
 go_wp2_with fail
 refine Calls.to hsv ?_
 rintro e w1 rfl hb1
 have hbr:=hbw.trans (hb1.mono hbw.size)
 cases y1
 ·go_wp2_with fail
  go_ret
  exact ⟨ret_bool (by simp),hbr⟩
 ·have hca:=catvalid_any ss _ w1 (HV.out.mono hb1)
  rw [H2.out] at hca
  clear hsv hb1 q0 q1 s0 s1 s2 s3
  go_wp2_with fail
  refine Calls.to hca ?_
  rintro e w2 rfl hb2
  have hbr2:=hbr.trans (hb2.mono hbr.size)
  cases y2
  ·go_wp2_with fail
   go_ret
   exact ⟨rfl,hbr2⟩
  ·go_wp2_with fail
   go_ret
   exact ⟨rfl,hbr2⟩
theorem ent270:∀ args w,(callFunc 270 args).run Tryz.prog w=.ok (.enter 270 args) w:=by
 intro args w
 simp [go_sem]
theorem find1_any (x:SecD) (nm:ByteArray) (B:Nat) (w:World) (hc:w.cell? ⟨B,0,none⟩=some (.string nm)) :
  Calls Tryz.prog 270 #[vSec x,.pointer (some ⟨B,0,none⟩)] w fun e w'=>e=.returned (.bool (strB x.N nm))/\Below w.heap.size w w':=by
 have H:Hid (strB x.N nm=(x.N.toList==nm.toList)):=rfl
 obtain ⟨xn,ht,pr,⟨sa,scap,sxs⟩,⟨ta,tcap,txs⟩⟩:=x
 simp only at H
 simp only [vSec]
 generalize strB xn nm=r at *
 cases h:(xn.toList==nm.toList)
 all_goals
  have HH:=qh (H.out.trans h)
  clear H
  go_enter Tryz.func270,Tryz.ntmps270
  go_wp2_with fail
  go_ret
  exact ⟨ret_bool HH.out.symm,bl⟩
def findE (ss:List SecD) (nm:ByteArray):Int:=if catB ss=true then (if 0<=idxFrom (fun s:SecD=>strB s.N nm) ss 0 then 0 else 9) else 1
theorem catfind_any (ss:List SecD) (v:Value) (nm:ByteArray) (w:World) (hv:IsSecs w v ss) :
  Calls Tryz.prog 227 #[v,.string nm] w fun e w'=>(∃ i:Int,e=.returned (.tuple #[.int .i64 i,.int .i64 (findE ss nm)]))/\Below w.heap.size w w':=by
 obtain ⟨W,hW⟩:∃ W,W=allocs w [(#[.string nm],9)]:=⟨_,rfl⟩
 have hbw:Below w.heap.size w W:=by rw [hW];exact allocs_below _ _
 have t0:W.heap[w.heap.size]? = some (.cells #[.string nm] 9 (0,0)):=by rw [hW];exact allocs_at [(#[.string nm],9)] w 0 (by simp)
 have HW:Hid (W=w.alloc (.cells #[.string nm] 9)):=qh hW
 have c0:W.cell? ⟨w.heap.size,0,none⟩=some (.string nm):=(tank_blk t0 0).trans rfl
 have HV:=qh (hv.mono hbw)
 have hca:=catvalid_any ss v W HV.out
 obtain ⟨y0,h0⟩:∃ y,catB ss=y:=⟨_,rfl⟩
 obtain ⟨ix,hix⟩:∃ ix,ix=idxFrom (fun s:SecD=>strB s.N nm) ss 0:=⟨_,rfl⟩
 have HIX:=qh hix
 obtain ⟨fe,hfe⟩:∃ fe,fe=findE ss nm:=⟨_,rfl⟩
 rw [<-hfe]
 unfold findE at hfe
 rw [<-hix,h0] at hfe
 rw [h0] at hca
 have HF:=qh hfe
 obtain ⟨⟨va,vc,hvv,-,-,-⟩,-⟩:=hv
 subst hvv
 clear hW t0 hfe hix h0
 go_enter Tryz.func227,Tryz.ntmps227
 go_upto_region 1 with (fail)
 rw [<-HW.out]
 clear HW
 go_wp2_with fail
 refine Calls.to hca ?_
 rintro e w1 rfl hb1
 have hbr:=hbw.trans (hb1.mono hbw.size)
 cases y0
 ·go_wp2_with fail
  go_ret2
  exact ⟨⟨0,by rw [HF.out];rfl⟩,hbr⟩
 ·have c1:=cel_lt c0 hb1
  have hin:=indexSec 270 #[.pointer (some ⟨w.heap.size,0,none⟩)] ent270 (fun s=>strB s.N nm) ss _ w1 (HV.out.mono hb1).1 (fun V hV s _=>find1_any s nm _ V (cel_lt c1 hV))
  rw [<-HIX.out] at hin
  clear hca hb1 c0
  go_wp2_with fail
  refine Calls.to hin ?_
  rintro e w2 rfl hb2
  have hbr2:=hbr.trans (hb2.mono hbr.size)
  by_cases h:0<=ix
  ·have i1:decide (0<=ix)=true:=decide_eq_true h
   have hf:fe=0:=by rw [HF.out,if_pos trivial,if_pos h]
   have HF0:=qh hf
   clear hin hb2 h hf
   go_wp2_with fail
   go_ret2
   exact ⟨⟨ix,by rw [HF0.out];rfl⟩,hbr2⟩
  ·have i1:decide (0<=ix)=false:=decide_eq_false h
   have hf:fe=9:=by rw [HF.out,if_pos trivial,if_neg h]
   have HF0:=qh hf
   clear hin hb2 h hf
   go_wp2_with fail
   go_ret2
   exact ⟨⟨0,by rw [HF0.out];rfl⟩,hbr2⟩
theorem rnamed_any (n:Net) (ss:List SecD) (v:Value) (w:World) (hg:gNet w n) (hv:IsSecs w v ss) (hl:n.Ls.xs.length<=400) :
  Calls Tryz.prog 167 #[vNet n,v] w fun e w'=>(∃ b:Bool,e=.returned (.bool b))/\Below w.heap.size w w':=by
 obtain ⟨W,hW⟩:∃ W,W=allocs w [((eNet n).toArray,25)]:=⟨_,rfl⟩
 have hbw:Below w.heap.size w W:=by rw [hW];exact allocs_below _ _
 have t0:W.heap[w.heap.size]? = some (.cells (eNet n).toArray 25 (0,0)):=by rw [hW];exact allocs_at [((eNet n).toArray,25)] w 0 (by simp)
 have HW:Hid (W=w.alloc (.cells (eNet n).toArray 25)):=qh hW
 have q0:W.cell? ⟨w.heap.size,0,none⟩=some (.slice n.Ns.a n.Ns.xs.length n.Ns.cap):=(tank_blk t0 0).trans rfl
 have q1:W.cell? ⟨w.heap.size,1,none⟩=some (.slice n.Ls.a n.Ls.xs.length n.Ls.cap):=(tank_blk t0 1).trans rfl
 have HG:=qh (rdNet.mono hg hbw)
 have HV:=qh (hv.mono hbw)
 obtain ⟨⟨va,vc,hvv,-,-,-⟩,-⟩:=hv
 subst hvv
 obtain ⟨m,hm⟩:∃ m,m=n.Ls.xs.length:=⟨_,rfl⟩
 have HM:=qh hm
 have hm4:m<2147483648:=by omega
 simp only [vNet,vSl]
 clear hW t0 hg hl
 rw [<-hm] at q1
 clear hm
 go_enter Tryz.func167,Tryz.ntmps167
 go_upto_region 1 with (fail)
 first|rw [HM.out,<-HW.out]|rw [<-HW.out]
 clear HW
 go_wp2_with fail
 go_loopw [12] (fun s12 wr=>∃ (k:Nat),k<=m/\s12=.int .i64 k/\Below W.heap.size W wr) (fun s12 _=>m-(RowKit.intOf s12).toNat)
 case atStart=>exact ⟨0,Nat.zero_le _,rfl,qr⟩
 case round=>
  obtain ⟨k,hk,rfl,hbW⟩:=hrel
  obtain ⟨wo,hwo⟩:∃ wo,wo=wr:=⟨_,rfl⟩
  subst hwo
  have hbr:=hbw.trans (hbW.mono hbw.size)
  by_cases hkm:k<m
  ·have q1:=cel_lt q1 hbW
   have hkn:k<n.Ls.xs.length:=by rw [<-HM.out];exact hkm
   obtain ⟨b,off,ea,c0,c1,c2,c3,c4,c5,c6,c7,c8,c9,c10⟩:=((rdNet.mono HG.out hbW).2.2.2.1).lk k hkn
   obtain ⟨x,hx⟩:∃ x,x=n.Ls.xs[k]'hkn:=⟨_,rfl⟩
   rw [<-hx] at c0 c1 c2 c3 c4 c5 c6 c7 c8 c9 c10
   have i1:decide (k<m)=true:=decide_eq_true hkm
   have x7:IntKind.i64.wrap ((k:Int)+1)=k+1:=IntWalk.i64_in _ om
   have i4:(0:Int)<=k:=by omega
   have i5:(k:Int)<m:=by omega
   have hbA:Below wo.heap.size wo (wo.alloc (.cells (eLk x).toArray 61)):=qr.alloc (Nat.le_refl _) _
   have hbx:=bxLk wo (wo.alloc (.cells (eLk x).toArray 61)) 61 x _ rfl _ rfl qr
   obtain ⟨W2,hW2⟩:∃ W2,W2=wo.alloc (.cells (eLk x).toArray 61):=⟨_,rfl⟩
   have HW2:=qh hW2
   rw [<-hW2] at hbA hbx
   obtain ⟨⟨k0,k1,k2⟩,⟨k3,k4,k5,k6⟩,k7,k8,k9,k10⟩:=hbx
   rw [ea] at q1
   have HKM:=qh hkm
   have EA:=qh ea
   have hbB:=hbW.trans (hbA.mono hbW.size)
   clear hx hW2 hkn hkm
   go_upto_region 4 with (fail)
   rw [<-HW2.out]
   clear HW2 c0 c1 c2 c3 c4 c5 c6 c7 c8 c9 c10 q0
   by_cases h4:x.Kind=1
   rotate_left
   ·have j4:(x.Kind != 1)=true:=by simpa using h4
    have j6:(x.Kind==1)=false:=by simpa using h4
    have j5:decide (x.Kind=1)=false:=decide_eq_false h4
    clear h4
    go_wp2_with fail
    clear ea q1
    have hlt:=HKM.out
    refine ⟨⟨k+1,hlt,by go_num,hbB⟩,?_⟩
    simp [RowKit.intOf];omega
   ·have j4:(x.Kind != 1)=false:=by rw [h4];rfl
    have j6:(x.Kind==1)=true:=by rw [h4];rfl
    have j5:decide (x.Kind=1)=true:=decide_eq_true h4
    have hfi:=catfind_any ss _ x.Sec W2 (HV.out.mono hbB)
    obtain ⟨fe,hfe⟩:∃ fe,fe=findE ss x.Sec:=⟨_,rfl⟩
    rw [<-hfe] at hfi
    clear h4 hfe
    go_wp2_with fail
    refine Calls.to hfi ?_
    rintro e w5 ⟨i,rfl⟩ hb5
    have hbC:=hbB.trans (hb5.mono hbB.size)
    have hbr5:=hbw.trans (hbC.mono hbw.size)
    by_cases he:fe=0
    ·have z1:(fe != 0)=false:=by simpa using he
     have z2:(fe==0)=true:=by simpa using he
     have z3:decide (fe=0)=true:=decide_eq_true he
     clear hfi hb5 he k0 k1 k2 k3 k4 k5 k6 k7 k8 k9 k10 ea q1
     go_wp2_with fail
     have hlt:=HKM.out
     refine ⟨⟨k+1,hlt,by go_num,hbC⟩,?_⟩
     simp [RowKit.intOf];omega
    ·have z1:(fe != 0)=true:=by simpa using he
     have z2:(fe==0)=false:=by simpa using he
     have z3:decide (fe=0)=false:=decide_eq_false he
     clear hfi hb5 he k0 k1 k2 k3 k4 k5 k6 k7 k8 k9 k10
     go_wp2_with fail
     go_ret
     exact ⟨⟨_,rfl⟩,hbr5⟩
  ·have i1:decide (k<m)=false:=decide_eq_false hkm
   clear q0 q1
   go_wp2_with fail
   go_ret
   exact ⟨⟨_,rfl⟩,hbr⟩
theorem netB_one (x:Nd) (a b:Option Addr) (c d:Nat):netB ⟨⟨a,c,[x]⟩,⟨b,d,[]⟩⟩=ndB x:=by
 have h1:allFrom (okNd [x]) 0 1=ndB x:=by
  rw [allFrom_step _ om,allFrom_end _ om,Bool.and_true]
  simp [okNd,findNd,idxFrom,strB_self]
 have h2:allFrom (okLk [x] []) 0 0=true:=allFrom_end _ om
 simp only [netB,List.length_singleton,List.length_nil,h1,h2]
 simp
theorem sright_any (x:Nd) (w:World) (hg:gNd w x):Calls Tryz.prog 98 #[vNd x] w fun e w'=>e=.returned (.bool (ndB x))/\Below w.heap.size w w':=by
 have HB:=qh (fun a c=>netB_one x a none c 0)
 have hb0:Below w.heap.size w ((w.alloc (.cells (eNd x).toArray 48)).alloc (.cells (eNd x).toArray 48)):=(qr.alloc (Nat.le_refl _) _).alloc (by simp) _
 have hC:IsC eNd 9 ((w.alloc (.cells (eNd x).toArray 48)).alloc (.cells (eNd x).toArray 48)) (some ⟨w.heap.size+1,0,none⟩) [x]:=by
  have:=boxC eNd_len (w.alloc (.cells (eNd x).toArray 48)) 48 x _ rfl
  simpa using this
 have hG:gNet ((w.alloc (.cells (eNd x).toArray 48)).alloc (.cells (eNd x).toArray 48)) ⟨⟨some ⟨w.heap.size+1,0,none⟩,1,[x]⟩,⟨none,0,[]⟩⟩:=
  ⟨⟨by simp,by simp,hC,by intro y hy;simp at hy;subst hy;exact rdNd.mono hg hb0⟩,⟨by simp,by simp,fun i hi=>absurd hi (Nat.not_lt_zero _),by simp⟩⟩
 go_enter Tryz.func98,Tryz.ntmps98
 go_wp2_with fail
 refine Calls.to (nvalid_any ⟨⟨some ⟨w.heap.size+1,0,none⟩,1,[x]⟩,⟨none,0,[]⟩⟩ _ hG) ?_
 rintro e w1 rfl hb1
 rw [HB.out]
 have hbb:=hb0.trans (hb1.mono hb0.size)
 clear hb0 hb1 hC hG
 go_wp2_with fail
 go_ret
 exact ⟨rfl,hbb⟩
def capXB (x:Nd):Int×Int:=if ndB x then (capB x,0) else (0,1)
theorem scapX_any (x:Nd) (w:World) (hg:gNd w x):Calls Tryz.prog 32 #[vNd x] w fun e w'=>e=.returned (.tuple #[.int .i64 (capXB x).1,.int .i64 (capXB x).2])/\Below w.heap.size w w':=by
 have hb0:Below w.heap.size w (w.alloc (.cells (eNd x).toArray 48)):=qr.alloc (Nat.le_refl _) _
 cases hx:ndB x
 ·have HC:Hid (capXB x=(0,1)):=by show _=_;simp [capXB,hx]
  have HX:=qh hx
  clear hx
  rw [HC.out]
  go_enter Tryz.func32,Tryz.ntmps32
  go_wp2_with fail
  refine Calls.to (sright_any x _ (rdNd.mono hg hb0)) ?_
  rintro e w1 rfl hb1
  rw [HX.out]
  have hbb:=hb0.trans (hb1.mono hb0.size)
  clear hb0 hb1
  go_wp2_with fail
  go_ret2
  exact ⟨rfl,hbb⟩
 ·have HC:Hid (capXB x=(capB x,0)):=by show _=_;simp [capXB,hx]
  have hk:=ndB_knot hx
  have HX:=qh hx
  clear hx
  rw [HC.out]
  go_enter Tryz.func32,Tryz.ntmps32
  go_wp2_with fail
  refine Calls.to (sright_any x _ (rdNd.mono hg hb0)) ?_
  rintro e w1 rfl hb1
  rw [HX.out]
  have hbb:=hb0.trans (hb1.mono hb0.size)
  obtain ⟨d0,d1,d2,d3,d4,d5,d6,d7,d8⟩:=boxNd w w1 48 x _ rfl _ rfl (by simpa using hb1)
  have hg1:=rdNd.mono hg hbb
  clear hb0 hb1
  go_wp2_with fail
  refine Calls.to (scap_any x _ hg1 hk) ?_
  rintro e w2 rfl hb2
  have hbb2:=hbb.trans (hb2.mono hbb.size)
  clear hb2 hbb hg1
  go_wp2_with fail
  go_ret2
  exact ⟨rfl,hbb2⟩
theorem rpart_any (a b c:Nat) (w:World) (ha:a<9223372036854775808) (hb:b<9223372036854775808) (hc:c<9223372036854775808) (h:a*b / 18446744073709551616<c) (hr:a*b / c<9223372036854775808) :
  Calls Tryz.prog 232 #[.int .i64 (a:Int),.int .i64 (b:Int),.int .i64 (c:Int)] w fun e w'=>e=.returned (.int .i64 ((a*b / c:Nat):Int))/\Below w.heap.size w w':=by
 have hm:=mul64_any a b w om om
 have hd:=div64_any (a*b / 18446744073709551616) (a*b % 18446744073709551616) c w h (Nat.mod_lt _ (by decide)) om
 rw [show a*b / 18446744073709551616*18446744073709551616+a*b % 18446744073709551616=a*b from by rw [Nat.mul_comm (a*b / 18446744073709551616)];exact Nat.div_add_mod _ _] at hd
 obtain ⟨q,hq⟩:∃ q,q=a*b / c:=⟨_,rfl⟩
 obtain ⟨r,hr2⟩:∃ r,r=a*b % c:=⟨_,rfl⟩
 obtain ⟨hi,hhi⟩:∃ hi,hi=a*b / 18446744073709551616:=⟨_,rfl⟩
 obtain ⟨lo,hlo⟩:∃ lo,lo=a*b % 18446744073709551616:=⟨_,rfl⟩
 rw [<-hq] at hr hd ⊢
 rw [<-hhi,<-hlo] at hm hd
 rw [<-hr2] at hd
 clear hq hr2 hhi hlo h
 have x1:IntKind.u64.wrap (a:Int)=a:=by rw [IntKind.wrap_u64];omega
 have x2:IntKind.u64.wrap (b:Int)=b:=by rw [IntKind.wrap_u64];omega
 have x3:IntKind.u64.wrap (c:Int)=c:=by rw [IntKind.wrap_u64];omega
 have x4:IntKind.i64.wrap (q:Int)=q:=IntWalk.i64_in _ om
 go_enter Tryz.func232,Tryz.ntmps232
 go_wp2_with fail
 refine hm.mono ?_
 rintro e w1 ⟨rfl,rfl⟩
 go_wp2_with fail
 refine Calls.to hd ?_
 rintro e w2 rfl hb2
 go_wp2_with fail
 go_ret
 exact ⟨rfl,hb2⟩
theorem rstep1_any (e0:Int) (w:World) :
  Calls Tryz.prog 163 #[.int .i64 e0] w fun e w'=>e=.returned (.tuple #[.agg #[.slice none 0 0,.slice none 0 0,.slice none 0 0,.slice none 0 0],.agg #[.int .i64 0,.int .i64 0,.slice none 0 0],.int .i64 e0])/\Below w.heap.size w w':=by
 go_enter Tryz.func163,Tryz.ntmps163
 go_wp2_with fail
 refine bodyPost_ret (v:=.tuple #[.agg #[.slice none 0 0,.slice none 0 0,.slice none 0 0,.slice none 0 0],.agg #[.int .i64 0,.int .i64 0,.slice none 0 0],.int .i64 e0]) (by simp (maxDischargeDepth:=9) [results,Tryz.results163,go_sem]) rfl ?_
 exact ⟨rfl,bl⟩
end Go.Proofs.YtoiakijmbghhlaaGreat
