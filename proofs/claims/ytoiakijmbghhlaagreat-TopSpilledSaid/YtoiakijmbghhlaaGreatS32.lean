/- routing.limited. Conditions: the network is right; what nodes hold and the wishes are numbers from 0 on, as many as nodes and links. | The greatest place with at most a value, plainly. No function of the program is named. Conditions: the table is right. -/
import Derived.Test.YtoiakijmbghhlaaGreatS31
import Derived.Test.YtoiakijmbghhlaaGreatS27
import Derived.Test.YtoiakijmbghhlaaGreatS06
set_option linter.unusedVariables false
set_option linter.unusedSimpArgs false
set_option maxRecDepth 100000
set_option maxHeartbeats 32000000
namespace Go.Proofs.YtoiakijmbghhlaaGreat
open Go.RowKit
theorem IsC.nat {w:World} {a:Option Addr} {xs:List Nat} (h:IsC eNat 1 w a xs) (i:Nat) (hi:i<xs.length) :
  ∃ b off,a=some ⟨b,off,none⟩/\w.cell? ⟨b,off+i,none⟩=some (.int .i64 (xs[i]:Int)):=by
 obtain ⟨b,off,e,hc⟩:=h i hi
 exact ⟨b,off,e,by simpa using hc 0 om⟩
theorem mapsum_bd {l:List Nat} {f:Nat->Int} {m:Nat} {B:Int} (hB:0<=B) (hl:∀ x∈l,x<m) (hf:∀ k,k<m->0<=f k/\f k<=B):0<=(l.map f).sum/\(l.map f).sum<=l.length*B:=by
 induction l with
 | nil=>simp
 | cons a r ih=>
  have h1:=ih (fun x hx=>hl x (List.mem_cons_of_mem _ hx))
  have h2:=hf a (hl a List.mem_cons_self)
  rw [List.map_cons,List.sum_cons,List.length_cons,show ((r.length+1:Nat):Int)*B=r.length*B+B by rw [Int.natCast_add,Int.add_mul];simp]
  omega
theorem Own.blk {α:Type} {base:Nat} {e:TypeId} {enc:α->List Value} {k:Nat} {w:World} {a:Option Addr} {n c:Nat} {xs:List α} (h:Own base e enc k w (.slice a n c) xs):∀ b off,a=some ⟨b,off,none⟩->base<=b/\b<w.heap.size:=by
 intro b off hab
 subst hab
 rcases h.2 with ⟨e1,-⟩|⟨g,cap,cur,e1,hg,hgg,-⟩
 ·cases e1
 ·simp only [Value.slice.injEq,Option.some.injEq,Addr.mk.injEq] at e1
  exact h.lt b (by rw [e1.1.2.1];simp [Value.ownBlock])
theorem map_take_succ (f:Nat->Int) (l:List Nat) (j:Nat) (hj:j<l.length):((l.take (j+1)).map f).sum=((l.take j).map f).sum+f l[j]:=by
 rw [List.take_succ_eq_append_getElem hj,List.map_append,List.sum_append];simp
theorem map_take_le {l:List Nat} {f:Nat->Int} (hf:∀ x∈l,0<=f x) (j:Nat):((l.take j).map f).sum<=(l.map f).sum:=by
 have e2:(l.map f).sum=((l.take j).map f).sum+((l.drop j).map f).sum:=by rw [<-List.sum_append,<-List.map_append,List.take_append_drop]
 have e3:∀ r:List Nat,(∀ x∈r,0<=f x)->0<=(r.map f).sum:=by
  intro r
  induction r with
  | nil=>intro _;simp
  | cons a r ih=>
   intro hr
   have:=ih (fun x hx=>hr x (List.mem_cons_of_mem _ hx))
   have:=hr a List.mem_cons_self
   simp;omega
 have:=e3 (l.drop j) (fun x hx=>hf x (List.mem_of_mem_drop hx))
 omega
theorem part_ok1 {h b s:Nat} (hb:b<=s) (hh:h<18446744073709551616) (hs:h<s):h*b / 18446744073709551616<s:=by
 rw [Nat.div_lt_iff_lt_mul (by decide)]
 have h1:h*b<=h*s:=Nat.mul_le_mul (Nat.le_refl h) hb
 have h2:h*s<18446744073709551616*s:=Nat.mul_lt_mul_of_lt_of_le hh (Nat.le_refl s) om
 rw [Nat.mul_comm s];omega
theorem part_ok2 {h b s:Nat} (hb:b<=s) (hs:h<s):h*b / s<=h:=by
 rw [Nat.div_le_iff_le_mul_add_pred om,Nat.mul_comm s h]
 have:=Nat.mul_le_mul (Nat.le_refl h) hb
 omega
theorem rlimited_any (n:Net) (held ws:List Int) (vH vW:Value) (w:World) (hg:gNet w n) (hn:netB n=true) (hH:IsInts w vH held) (hlH:held.length=n.Ns.xs.length) (hbH:∀ i,i<n.Ns.xs.length->0<=held.getD i 0/\held.getD i 0<=4503599627370496)
  (hW:IsInts w vW ws) (hlW:ws.length=n.Ls.xs.length) (hbW:∀ k,k<n.Ls.xs.length->0<=ws.getD k 0/\ws.getD k 0<=1125899906842624) :
  Calls Tryz.prog 172 #[vNet n,vH,vW] w fun e w'=>(∃ u ps,e=.returned u/\Own w.heap.size 3 eInt 1 w' u ps/\LimI (frmN n) (fun k=>ws.getD k 0) (fun i=>held.getD i 0) n.Ls.xs.length n.Ns.xs.length ps)/\Below w.heap.size w w':=by
 obtain ⟨W,hWe⟩:∃ W,W=allocs w [((eNet n).toArray,25)]:=⟨_,rfl⟩
 have hbw:Below w.heap.size w W:=by rw [hWe];exact allocs_below _ _
 have t0:W.heap[w.heap.size]? = some (.cells (eNet n).toArray 25 (0,0)):=by rw [hWe];exact allocs_at [((eNet n).toArray,25)] w 0 (by simp)
 have HW:Hid (W=w.alloc (.cells (eNet n).toArray 25)):=qh hWe
 have q0:W.cell? ⟨w.heap.size,0,none⟩=some (.slice n.Ns.a n.Ns.xs.length n.Ns.cap):=(tank_blk t0 0).trans rfl
 have q1:W.cell? ⟨w.heap.size,1,none⟩=some (.slice n.Ls.a n.Ls.xs.length n.Ls.cap):=(tank_blk t0 1).trans rfl
 have hgW:=rdNet.mono hg hbw
 have HG:=qh hgW
 have HH:=qh (hH.mono hbw)
 have HWS:=qh (hW.mono hbw)
 have HBH:=qh hbH
 have HBW:=qh hbW
 have HNB:=qh hn
 have hsz:=netB_size hn
 have hcl:=cloneInt_any ws vW W HWS.out om
 obtain ⟨N,hN⟩:∃ N,N=n.Ns.xs.length:=⟨_,rfl⟩
 obtain ⟨M,hM⟩:∃ M,M=n.Ls.xs.length:=⟨_,rfl⟩
 have HN:=qh hN
 have HM:=qh hM
 have hFN:Hid (∀ k,k<M->frmN n k<N):=qh (fun k hk=>by rw [hM] at hk;rw [hN];exact (ends_lt hn hk).1)
 obtain ⟨aH,cH,rfl,-,-,-⟩:=hH
 obtain ⟨aW,cW,rfl,-,-,-⟩:=hW
 rw [<-hN] at hlH q0 hsz
 rw [<-hM] at hlW q1 hsz
 rw [hlW] at hcl
 rw [hlH,hlW,<-hN,<-hM]
 have HLH:=qh hlH
 have HLW:=qh hlW
 have HCH:Hid (IsC eInt 1 W aH held):=qh (by obtain ⟨a',c',e,-,-,h⟩:=HH.out;cases e;exact h)
 have HCW:Hid (IsC eInt 1 W aW ws):=qh (by obtain ⟨a',c',e,-,-,h⟩:=HWS.out;cases e;exact h)
 clear hWe t0 hg hn hbH hbW hgW hN hM hlH hlW
 simp only [vNet,vSl] at hcl ⊢
 go_enter Tryz.func172,Tryz.ntmps172
 go_upto_region 1 with (fail)
 rw [HN.out,HM.out,<-HW.out,<-HN.out,<-HM.out]
 clear HW
 go_wp2_with fail
 refine Calls.to hcl ?_
 rintro e w1 ⟨uO,rfl,hO1⟩ hb1
 have q0:=cel_lt q0 hb1
 have q1:=cel_lt q1 hb1
 have hou:=routs_any n w1 (rdNet.mono HG.out hb1) HNB.out
 simp only [vNet,vSl] at hou
 rw [<-HN.out,<-HM.out] at hou
 clear hcl
 go_wp2_with fail
 refine Calls.to hou ?_
 rintro e w2 ⟨uR,vs,v2,rfl,hR2,-⟩ hb2
 have hO2:=hO1.below hb2
 have hvl:vs.length=N:=by have:=hR2.len;simpa using this
 have HVL:=qh hvl
 have hOL:Hid (∀ g,uO.ownBlock=some g->W.heap.size<=g/\g<w1.heap.size):=qh hO1.lt
 obtain ⟨aR,cR,rfl,-,-,hRC⟩:=hR2.out.isL (fun _=>rfl)
 have HRB:=qh hR2.out.blk
 have HRC:=qh hRC
 have HRow:Hid (∀ i (h:i<vs.length),∃ a c,vs[i]=.slice a (rowN (frmN n) M i).length c/\IsC eNat 1 w2 a (rowN (frmN n) M i)/\∀ b off,a=some ⟨b,off,none⟩->w1.heap.size<=b/\b<w2.heap.size):=qh (fun i hi=>by
  have h:=hR2.row i hi (by rw [<-hR2.len];exact hi)
  rw [List.getElem_map,List.getElem_range] at h
  obtain ⟨a,c,e,-,-,hc⟩:=h.isL (fun _=>rfl)
  rw [e] at h
  exact ⟨a,c,e,hc,h.blk⟩)
 have hbb:=hb1.trans (hb2.mono hb1.size)
 have hs1:=hb1.size
 have hs2:=hb2.size
 have HO2:=qh hO2
 have HI0:Hid (LimI (frmN n) (fun k=>ws.getD k 0) (fun i=>held.getD i 0) M 0 ws):=qh (LimI.start HLW.out (fun _ _=>rfl) (fun k hk=>by have:=HBW.out k (by rw [<-HM.out];exact hk);omega))
 rw [hvl]
 clear hou hR2 hO1 hO2 hb1 hb2 hRC q0 q1 hvl
 go_wp2_with fail
 go_loopw [29] (fun s29 wr=>∃ (i:Nat) (xs:List Int),i<=N/\s29=.int .i64 i/\Below W.heap.size W wr/\w2.heap.size<=wr.heap.size/\Hid (Own W.heap.size 3 eInt 1 wr uO xs) /\
  Hid (∀ j,w1.heap.size<=j->j<w2.heap.size->wr.heap[j]? = w2.heap[j]?)/\Hid (LimI (frmN n) (fun k=>ws.getD k 0) (fun i=>held.getD i 0) M i xs)) (fun i _=>N-(intOf i).toNat)
 case atStart=>exact ⟨0,ws,Nat.zero_le _,rfl,hbb,Nat.le_refl _,HO2,qh (fun _ _ _=>rfl),HI0⟩
 clear HO2 HI0 hbb
 case round=>
  obtain ⟨i,xs,hi,rfl,hb,hsz,HO,HNR,HI⟩:=hrel
  obtain ⟨wo,hwo⟩:∃ wo,wo=wr:=⟨_,rfl⟩
  subst hwo
  by_cases hiN:i<N
  ·have hiv:i<vs.length:=by rw [HVL.out];exact hiN
   obtain ⟨bR,oR,eaR,hcR⟩:=(HRC.out.near (w':=wo) (fun b off e=>by
    have:=HRB.out b off e
    exact HNR.out b this.1 this.2)) i hiv
   have r0:=hcR 0 om
   simp only [List.getD,List.getElem?_cons_zero,Option.getD_some,Nat.mul_one,Nat.add_zero] at r0
   obtain ⟨ra,rc,hre,hrC,hrB⟩:=HRow.out i hiv
   have HR1:=qh hre
   rw [hre] at r0
   have HrC:Hid (IsC eNat 1 wo ra (rowN (frmN n) M i)):=qh (hrC.near (fun b off e=>by
    have:=hrB b off e
    exact HNR.out b this.1 this.2))
   have HrM:Hid (∀ x∈rowN (frmN n) M i,x<M/\frmN n x=i):=qh (fun x hx=>rowN_mem.1 hx)
   obtain ⟨row,hrow⟩:∃ row,row=rowN (frmN n) M i:=⟨_,rfl⟩
   have HROW:=qh hrow
   have hrl:row.length<=400:=by have:=rowN_len (frmN n) i M;rw [hrow];omega
   rw [<-hrow] at r0 HrC HrM
   obtain ⟨bH,oH,eaH,h0⟩:=(HCH.out.mono hb).int i (by rw [HLH.out];exact hiN)
   have hbh:=HBH.out i (by rw [<-HN.out];exact hiN)
   have hhd:held.getD i 0=held[i]'(by rw [HLH.out];exact hiN):=by simp [List.getD,show i<held.length from by rw [HLH.out];exact hiN]
   rw [<-hhd] at h0
   obtain ⟨hh,hhh⟩:∃ hh:Nat,held.getD i 0=hh:=⟨(held.getD i 0).toNat,by omega⟩
   have HHH:=qh hhh
   rw [hhh] at h0 hbh
   obtain ⟨sm,hsm⟩:∃ sm:Nat,(sm:Int)=(row.map fun k=>ws.getD k 0).sum:=by
    have:=mapsum_bd (l:=row) (f:=fun k=>ws.getD k 0) (m:=M) (B:=1125899906842624) (by decide) (fun x hx=>(HrM.out x hx).1) (fun k hk=>HBW.out k (by rw [<-HM.out];exact hk))
    exact ⟨((row.map fun k=>ws.getD k 0).sum).toNat,by omega⟩
   have HSM:=qh hsm
   have HTB:Hid (∀ j,j<=row.length->0<=((row.take j).map fun k=>ws.getD k 0).sum/\((row.take j).map fun k=>ws.getD k 0).sum<=450359962737049600):=qh (fun j hj=>by
    have:=mapsum_bd (l:=row.take j) (f:=fun k=>ws.getD k 0) (m:=M) (B:=1125899906842624) (by decide) (fun x hx=>(HrM.out x (List.mem_of_mem_take hx)).1) (fun k hk=>HBW.out k (by rw [<-HM.out];exact hk))
    rw [List.length_take,Nat.min_eq_left hj] at this
    omega)
   have hsb:sm<=450359962737049600:=by have:=HTB.out row.length (Nat.le_refl _);rw [List.take_length] at this;omega
   have i1:decide (i<N)=true:=decide_eq_true hiN
   have x7:IntKind.i64.wrap ((i:Int)+1)=i+1:=IntWalk.i64_in _ om
   have i4:(0:Int)<=i:=by omega
   have i5:(i:Int)<N:=by omega
   clear hcR hre hrC hrB hrow hhd hhh hsm
   subst eaR
   subst eaH
   go_wp2_with fail
   go_loopw [12,36] (fun s12 s36 wr=>∃ j:Nat,j<=row.length/\s36=.int .i64 j/\s12=.int .i64 ((row.take j).map fun k=>ws.getD k 0).sum/\wr=wo) (fun _ s36 _=>row.length-(intOf s36).toNat)
   case atStart=>exact ⟨0,Nat.zero_le _,rfl,by simp,rfl⟩
   case round=>
    obtain ⟨j,hj,rfl,rfl,rfl⟩:=hrel
    by_cases hjr:j<row.length
    ·obtain ⟨b1,o1,ea1,d1⟩:=HrC.out.nat j hjr
     have hkM:=(HrM.out _ (List.getElem_mem hjr)).1
     have hst:=map_take_succ (fun k=>ws.getD k 0) row j hjr
     have ht0:=HTB.out j hj
     have ht1:=HTB.out (j+1) om
     rw [hst] at ht1
     obtain ⟨k,hk⟩:∃ k,k=row[j]'hjr:=⟨_,rfl⟩
     simp only [<-hk] at d1 hkM hst ht1
     obtain ⟨b2,o2,ea2,d2⟩:=(HCW.out.mono hb).int k (by rw [HLW.out];exact hkM)
     have hwd:ws[k]'(by rw [HLW.out];exact hkM)=ws.getD k 0:=by simp [List.getD,show k<ws.length from by rw [HLW.out];exact hkM]
     rw [hwd] at d2
     obtain ⟨y,hy⟩:∃ y,y=ws.getD k 0:=⟨_,rfl⟩
     rw [<-hy] at d2 hst ht1
     obtain ⟨t,ht⟩:∃ t,t=((row.take j).map fun k=>ws.getD k 0).sum:=⟨_,rfl⟩
     rw [<-ht] at ht0 ht1 hst ⊢
     have HST:=qh hst
     have j1:decide (j<row.length)=true:=decide_eq_true hjr
     have y7:IntKind.i64.wrap ((j:Int)+1)=j+1:=IntWalk.i64_in _ om
     have y8:IntKind.i64.wrap (t+y)=t+y:=IntWalk.i64_in _ om
     have j4:(0:Int)<=j:=by omega
     have j5:(j:Int)<row.length:=by omega
     have k4:(0:Int)<=k:=by omega
     have k5:(k:Int)<M:=by omega
     subst ea1
     subst ea2
     clear hst hk hy ht hwd
     go_wp2_with fail
     go_roundw
     case measure=>simp [intOf,y7];omega
     case rel=>exact ⟨j+1,hjr,by go_num,by rw [HST.out];exact ⟨rfl,trivial⟩⟩
    ·have j1:decide (j<row.length)=false:=decide_eq_false hjr
     have hE:Hid (((row.take j).map fun k=>ws.getD k 0).sum=(sm:Int)):=qh (by rw [List.take_of_length_le om,<-HSM.out])
     rw [hE.out]
     by_cases hle:sm<=hh
     ·have s1:decide (sm<=hh)=true:=decide_eq_true hle
      have s2:decide ((sm:Int)<=hh)=true:=decide_eq_true om
      have HI':=qh (HI.out.easy (by rw [<-HROW.out,<-HSM.out];show (sm:Int)<=held.getD i 0;rw [HHH.out];omega))
      clear hle
      go_wp2_with fail
      go_roundw
      case measure=>simp [intOf,x7];omega
      case rel=>exact ⟨i+1,xs,hiN,by go_num,hb,hsz,HO,HNR,HI'⟩
     ·have s1:decide (sm<=hh)=false:=decide_eq_false hle
      have s2:decide ((sm:Int)<=hh)=false:=decide_eq_false om
      have HLT:=qh (show hh<sm by omega)
      have HJ0:=qh (HI.out.deal (i:=i) (hh:=hh) (s:=sm) HHH.out (by rw [<-HROW.out];exact HSM.out))
      clear hle
      go_wp2_with fail
      go_loopw [15,16,55] (fun s15 s16 s55 wr=>∃ (j:Nat) (xs:List Int) (b d:Nat),j<=row.length/\s15=.int .i64 (b:Int)/\s16=.int .i64 (d:Int)/\s55=.int .i64 j/\Below W.heap.size W wr/\w2.heap.size<=wr.heap.size/\Hid (Own W.heap.size 3 eInt 1 wr uO xs) /\
       Hid (∀ j,w1.heap.size<=j->j<w2.heap.size->wr.heap[j]? = w2.heap[j]?)/\Hid (LimJ (frmN n) (fun k=>ws.getD k 0) (fun i=>held.getD i 0) M i j xs hh b d sm)) (fun _ _ s55 _=>row.length-(intOf s55).toNat)
      case atStart=>exact ⟨0,xs,0,0,Nat.zero_le _,rfl,rfl,rfl,hb,hsz,HO,HNR,HJ0⟩
      clear HO HNR HI HJ0
      case round=>
       obtain ⟨j,xs,b,d,hj,rfl,rfl,rfl,hb2,hsz2,HO,HNR,HJ⟩:=hrel
       obtain ⟨wz,hwz⟩:∃ wz,wz=wr:=⟨_,rfl⟩
       subst hwz
       by_cases hjr:j<row.length
       ·have hC:=HrC.out
        have HrC2:IsC eNat 1 wz ra row:=by
         obtain ⟨a',c',he,hc',hB'⟩:=HRow.out i hiv
         rw [HROW.out]
         have hrr:=HR1.out
         rw [hrr] at he
         simp only [Value.slice.injEq] at he
         obtain ⟨rfl,-,-⟩:=he
         exact hc'.near (fun b off e=>by
          have:=hB' b off e
          exact HNR.out b this.1 this.2)
        obtain ⟨b1,o1,ea1,d1⟩:=HrC2.nat j hjr
        have hkM:=(HrM.out _ (List.getElem_mem hjr)).1
        have hst:=map_take_succ (fun k=>ws.getD k 0) row j hjr
        have hle:=map_take_le (l:=row) (f:=fun k=>ws.getD k 0) (fun x hx=>(HBW.out x (by rw [<-HM.out];exact (HrM.out x hx).1)).1) (j+1)
        rw [hst,<-HSM.out] at hle
        have hbf:=HJ.out.before
        rw [<-HROW.out] at hbf
        rw [<-hbf] at hle
        have hwb:=HBW.out (row[j]'hjr) (by rw [<-HM.out];exact hkM)
        have hnx:=fun (b':Nat) (hb':(b':Int)=b+(fun k=>ws.getD k 0) ((rowN (frmN n) M i)[j]'(by rw [<-HROW.out];exact hjr)))=>HJ.out.next HLT.out om (fun k hk=>(HBW.out k (by rw [<-HM.out];exact hk)).1) (by rw [<-HROW.out];exact hjr) hb'
        have hrk:(rowN (frmN n) M i)[j]'(by rw [<-HROW.out];exact hjr)=row[j]'hjr:=by simp only [HROW.out]
        simp only [hrk] at hnx
        obtain ⟨k,hk⟩:∃ k,k=row[j]'hjr:=⟨_,rfl⟩
        simp only [<-hk] at d1 hkM hle hwb hnx
        obtain ⟨b2,o2,ea2,d2⟩:=(HCW.out.mono hb2).int k (by rw [HLW.out];exact hkM)
        have hwd:ws[k]'(by rw [HLW.out];exact hkM)=ws.getD k 0:=by simp [List.getD,show k<ws.length from by rw [HLW.out];exact hkM]
        rw [hwd] at d2
        obtain ⟨y,hy⟩:∃ y:Nat,ws.getD k 0=y:=⟨(ws.getD k 0).toNat,by omega⟩
        simp only [hy] at d2 hle hwb hnx
        obtain ⟨b',hb'⟩:∃ b',b'=b+y:=⟨_,rfl⟩
        have HJ':=qh (hnx b' (by rw [hb'];push_cast;rfl))
        have hxl:=HJ.out.len
        have hdq:=HJ.out.dq
        have hdle:d<=hh*b' / sm:=by rw [hdq];exact Nat.div_le_div_right (Nat.mul_le_mul (Nat.le_refl hh) om)
        have hlt:=HLT.out
        have hp1:=part_ok1 (h:=hh) (b:=b') (s:=sm) om om hlt
        have hp2:=part_ok2 (h:=hh) (b:=b') (s:=sm) om hlt
        obtain ⟨q,hq⟩:∃ q,q=hh*b' / sm:=⟨_,rfl⟩
        rw [<-hq] at hdle hp2
        have hpc:∀ W,Calls Tryz.prog 232 #[.int .i64 (hh:Int),.int .i64 (b':Int),.int .i64 (sm:Int)] W fun e w'=>e=.returned (.int .i64 (q:Int))/\Below W.heap.size W w':=fun W=>by rw [hq];exact rpart_any hh b' sm W om om om hp1 om
        have HHQ:=qh hq
        have HJ2:Hid (LimJ (frmN n) (fun k=>ws.getD k 0) (fun i=>held.getD i 0) M i (j+1) (xs.set k ((q:Int)-(d:Int))) hh b' q sm):=by rw [hq];exact HJ'
        clear hq
        obtain ⟨gO,cO,hu,hgO,hgl,-,-⟩:=HO.out.place om
        rw [hxl] at hu
        subst hu
        have f0:=HO.out.free k
        obtain ⟨z0,e0⟩:∃ z0,wz.cell? ⟨gO,k,none⟩=some (.int .i64 z0):=⟨_,HO.out.int1 (k:=k) om rfl⟩
        have hg1:=(hOL.out gO rfl).2
        have j1:decide (j<row.length)=true:=decide_eq_true hjr
        have y7:IntKind.i64.wrap ((j:Int)+1)=j+1:=IntWalk.i64_in _ om
        have y8:IntKind.i64.wrap ((b:Int)+y)=b':=(IntWalk.i64_in _ om).trans (by rw [hb'];push_cast;rfl)
        have y9:IntKind.i64.wrap ((q:Int)-d)=q-d:=IntWalk.i64_in _ om
        have j4:(0:Int)<=j:=by omega
        have j5:(j:Int)<row.length:=by omega
        have k4:(0:Int)<=k:=by omega
        have k5:(k:Int)<M:=by omega
        obtain ⟨b3,o3,e3,h3⟩:=(HCH.out.mono hb2).int i (by rw [HLH.out];exact hiN)
        have hhd3:held[i]'(by rw [HLH.out];exact hiN)=held.getD i 0:=by simp [List.getD,show i<held.length from by rw [HLH.out];exact hiN]
        rw [hhd3,HHH.out] at h3
        simp only [Option.some.injEq,Addr.mk.injEq] at e3
        obtain ⟨rfl,rfl,-⟩:=e3
        have HKM:=qh hkM
        have HJR:=qh hjr
        subst ea1
        subst ea2
        clear hst hbf hnx hrk hwd hC HrC2 hxl hdq hle hp1 hwb hk hb' hhd3 hkM hjr
        go_wp2_with fail
        refine Calls.to (hpc _) ?_
        rintro e w6 rfl hb6
        have hO6:=HO.out.below hb6
        have f0:=hO6.free k
        have e0:=cel_lt e0 hb6
        have hb7:=hb2.trans (hb6.mono hb2.size)
        have hsz6:=hb6.size
        have hO7:=qh (hO6.put1 (k:=k) (by rw [HJ.out.len];exact HKM.out) ((q:Int)-d))
        have hb8:=hb7.setCell (p:=⟨gO,k,none⟩) hgO (.int .i64 ((q:Int)-d))
        have hN7:Hid (∀ j,w1.heap.size<=j->j<w2.heap.size->(w6.setCell ⟨gO,k,none⟩ (.int .i64 ((q:Int)-d))).heap[j]? = w2.heap[j]?):=qh (fun j h1 h2=>by
         rw [Below.heap_setCell _ _ _ _ (show j≠(⟨gO,k,none⟩:Addr).block from by show j≠gO;omega),hb6.block j om]
         exact HNR.out j h1 h2)
        have hsz8:w2.heap.size<=(w6.setCell ⟨gO,k,none⟩ (.int .i64 ((q:Int)-d))).heap.size:=by simp [World.setCell];omega
        clear hpc hO6 hb7 d1 d2 h3
        go_wp2_with fail
        go_roundw
        case measure=>have:=HJR.out;simp [intOf,y7];omega
        case rel=>exact ⟨j+1,_,b',q,HJR.out,rfl,rfl,by go_num,hb8,hsz8,hO7,hN7,HJ2⟩
       ·have j1:decide (j<row.length)=false:=decide_eq_false hjr
        have HI':=qh (HJ.out.done HLT.out (by rw [<-HROW.out];omega))
        go_wp2_with fail
        go_roundw
        case measure=>simp [intOf,x7];omega
        case rel=>exact ⟨i+1,xs,hiN,by go_num,hb2,hsz2,HO,HNR,HI'⟩
  ·have hiE:i=N:=by omega
   subst hiE
   have i1:decide (i<i)=false:=decide_eq_false (Nat.lt_irrefl i)
   have hbr:=hbw.trans (hb.mono hbw.size)
   have HQ:=qh (HO.out.base hbw.size)
   clear HO
   go_wp2_with fail
   go_ret
   exact ⟨⟨_,xs,rfl,HQ.out,HI.out⟩,hbr⟩
def cntY (xs:List Kn) (y:Int):Nat:=(xs.filter fun k=>decide (k.Y<=y)).length
theorem cntY_le (xs:List Kn) (y:Int):cntY xs y<=xs.length:=List.length_filter_le _ _
theorem cntY_pw:∀ {xs:List Kn},xs.Pairwise (fun a b=>a.Y<=b.Y)->∀ (y:Int) (j:Nat) (hj:j<xs.length),(xs[j].Y<=y->j<cntY xs y)/\(y<xs[j].Y->cntY xs y<=j)
 | k :: r,hp,y,0,hj=>by
  rw [List.pairwise_cons] at hp
  unfold cntY
  constructor
  ·intro h
   simp only [List.getElem_cons_zero] at h
   rw [List.filter_cons,if_pos (by simpa using h)];simp
  ·intro h
   simp only [List.getElem_cons_zero] at h
   have:((k :: r).filter fun k=>decide (k.Y<=y)) = []:=by
    rw [List.filter_eq_nil_iff]
    intro z hz
    rcases List.mem_cons.1 hz with rfl|q
    ·simp;omega
    ·have:=hp.1 z q;simp;omega
   rw [this];simp
 | k :: r,hp,y,j+1,hj=>by
  rw [List.pairwise_cons] at hp
  have hj':j<r.length:=by simpa using hj
  have ih:=cntY_pw hp.2 y j hj'
  have hk:=hp.1 _ (List.getElem_mem hj')
  simp only [List.getElem_cons_succ]
  unfold cntY at ih ⊢
  rw [List.filter_cons]
  constructor
  ·intro h
   rw [if_pos (by simp;omega)]
   have:=ih.1 h
   simp only [List.length_cons];omega
  ·intro h
   have:=ih.2 h
   split
   ·simp only [List.length_cons];omega
   ·omega
theorem tabB_pwY {xs:List Kn} (h:tabB xs=true):xs.Pairwise (fun a b=>a.Y<=b.Y):=
 List.pairwise_iff_getElem.2 fun i j _ hj hij=>(tabB_lt h i j hij hj).2
theorem cntY_lt {xs:List Kn} (h:tabB xs=true) (y:Int) (j:Nat) (hj:j<xs.length):j<cntY xs y↔xs[j].Y<=y:=by
 obtain ⟨h1,h2⟩:=cntY_pw (tabB_pwY h) y j hj
 constructor
 ·intro hh
  by_cases q:xs[j].Y<=y
  ·exact q
  ·have:=h2 om;omega
 ·exact h1
def mostV (xs:List Kn) (y:Int):Int:=
 let k:=cntY xs y
 if k=xs.length then (knAt xs (k-1)).X
 else (knAt xs (k-1)).X+(y-(knAt xs (k-1)).Y)*((knAt xs k).X-(knAt xs (k-1)).X) / ((knAt xs k).Y-(knAt xs (k-1)).Y)
theorem mostV_mid {xs:List Kn} (h:tabB xs=true) (y:Int) (m:Nat) (hm0:m<xs.length) (hm1:m+1<xs.length) (hk:cntY xs y=m+1) :
  mostV xs y=xs[m].X+(y-xs[m].Y)*(xs[m+1].X-xs[m].X) / (xs[m+1].Y-xs[m].Y)/\xs[m].Y<=y/\y<xs[m+1].Y:=by
 refine ⟨?_,(cntY_lt h y m hm0).1 om,?_⟩
 ·unfold mostV
  simp only [hk]
  rw [if_neg om,Nat.add_sub_cancel,knAt_is hm0,knAt_is hm1]
 ·have:=(cntY_lt h y (m+1) hm1)
  by_cases q:xs[m+1].Y<=y
  ·have:=this.2 q;omega
  ·omega
theorem mostV_end {xs:List Kn} (h:tabB xs=true) (y:Int) (hk:cntY xs y=xs.length):mostV xs y=(xs[xs.length-1]'(by have:=tabB_len h;omega)).X:=by
 have:=tabB_len h
 unfold mostV
 simp only [hk,if_true]
 rw [knAt_is om]
theorem mostV_bd {xs:List Kn} (h:tabB xs=true) (y:Int) (h0:(xs[0]'(by have:=tabB_len h;omega)).Y<=y) :
  (xs[0]'(by have:=tabB_len h;omega)).X<=mostV xs y/\mostV xs y<=(xs[xs.length-1]'(by have:=tabB_len h;omega)).X/\((xs[xs.length-1]'(by have:=tabB_len h;omega)).Y<=y\/mostV xs y<(xs[xs.length-1]'(by have:=tabB_len h;omega)).X):=by
 have hl:=tabB_len h
 have hc:=cntY_le xs y
 have hx:∀ i j (_:i<=j) (hj:j<xs.length),xs[i].X<=xs[j].X:=by
  intro i j hij hj
  rcases Nat.lt_or_eq_of_le hij with q|rfl
  ·have:=(tabB_lt h i j q hj).1;omega
  ·exact Int.le_refl _
 have hk0:0<cntY xs y:=(cntY_lt h y 0 om).2 h0
 by_cases hk:cntY xs y=xs.length
 ·rw [mostV_end h y hk]
  refine ⟨hx 0 _ om om,Int.le_refl _,.inl ?_⟩
  exact (cntY_lt h y (xs.length-1) om).1 om
 ·obtain ⟨m,hm⟩:∃ m,cntY xs y=m+1:=⟨cntY xs y-1,by omega⟩
  obtain ⟨e,e1,e2⟩:=mostV_mid h y m om om hm
  have hst:=(tabB_lt h m (m+1) om om).1
  have g0:=hx 0 m om om
  have g1:=hx (m+1) (xs.length-1) om om
  rw [e]
  generalize xs[m]=a at *
  generalize xs[m+1]=b at *
  have n1:0<=(y-a.Y)*(b.X-a.X) / (b.Y-a.Y):=Int.ediv_nonneg (Int.mul_nonneg om om) om
  have n2:(y-a.Y)*(b.X-a.X) / (b.Y-a.Y)<b.X-a.X:=by
   refine Int.ediv_lt_of_lt_mul om ?_
   rw [Int.mul_comm (b.X-a.X)]
   exact Int.mul_lt_mul_of_pos_right om om
  omega
end Go.Proofs.YtoiakijmbghhlaaGreat
