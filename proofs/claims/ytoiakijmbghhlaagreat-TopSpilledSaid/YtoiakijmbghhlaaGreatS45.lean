/- simulate.Run, walked. Conditions: the arguments read as data. -/
import Derived.Test.YtoiakijmbghhlaaGreatS42
import Derived.Test.YtoiakijmbghhlaaGreatS44
import Derived.Test.YtoiakijmbghhlaaGreatS38
set_option linter.unusedVariables false
set_option linter.unusedSimpArgs false
set_option maxRecDepth 100000
set_option maxHeartbeats 32000000
namespace Go.Proofs.YtoiakijmbghhlaaGreat
open Go.RowKit Go.Maps
def nmS (n:Net) (k:Nat):List ByteArray:=(n.Ns.xs.take k).map (·.Name)
theorem nmS_succ {n:Net} {k:Nat} (h:k<n.Ns.xs.length):nmS n (k+1)=nmS n k ++ [n.Ns.xs[k].Name]:=by
 simp only [nmS]
 rw [List.take_succ_eq_append_getElem h,List.map_append]
 rfl
theorem nmS_len (n:Net) (k:Nat) (h:k<=n.Ns.xs.length):(nmS n k).length=k:=by
 simp [nmS];omega
theorem stepOut_res {base:Nat} {w:World} {n:Net} {s:St} {q:List Int} {u:Value} (h:StepOut base w n s q u):∃ (s':St) (g:Led) (er:Int),u=.tuple #[vSt s',vLed g,.int .i64 er]/\(er≠0\/(er=0/\SGood n s'/\gSt w s'/\FarS base s' g)):=by
 cases h with
 | no e he=>exact ⟨⟨⟨none,0,[]⟩,⟨none,0,[]⟩,⟨none,0,[]⟩,⟨none,0,[]⟩⟩,⟨0,0,⟨none,0,[]⟩⟩,e,rfl,.inl he⟩
 | ok s' g h1 h2 h3 h4=>exact ⟨s',g,0,rfl,.inr ⟨rfl,⟨h1.st',h1.full⟩,h2,h4⟩⟩
theorem undSts:Tryz.prog.underlying 37=some (.slice 31):=by kernel_rfl
theorem infSt:(Tryz.prog.info? 31).map (fun i=>(i.zero,i.size,i.bytes))=some (some (.agg #[.slice none 0 0,.slice none 0 0,.slice none 0 0,.slice none 0 0]),4,96):=by kernel_rfl
theorem undLeds:Tryz.prog.underlying 38=some (.slice 56):=by kernel_rfl
theorem infLed:(Tryz.prog.info? 56).map (fun i=>(i.zero,i.size,i.bytes))=some (some (.agg #[.int .i64 0,.int .i64 0,.slice none 0 0]),3,40):=by kernel_rfl
theorem smrun_any (n:Net) (ss:List SecD) (vS:Value) (x:St) (is:List InD) (vI:Value) (sec steps:Int) (w:World) (hg:gNet w n) (hs:IsSecs w vS ss) (hgs:gSt w x) (hI:IsInsL w vI is) (hgi:∀ x∈is,gIn w x) :
  Calls Tryz.prog 30 #[vNet n,vS,vSt x,vI,.int .i64 sec,.int .i64 steps] w fun e w'=>(∃ u,e=.returned u/\SimOut w' n steps u)/\Below w.heap.size w w':=by
 obtain ⟨L,hL⟩:∃ L:List (Array Value×TypeId),L = [((eNet n).toArray,25),((eSt x).toArray,31)]:=⟨_,rfl⟩
 obtain ⟨W,hW⟩:∃ W,W=allocs w L:=⟨_,rfl⟩
 have hbw:Below w.heap.size w W:=by rw [hW];exact allocs_below _ _
 have t6:W.heap[w.heap.size]? = some (.cells (eNet n).toArray 25 (0,0)):=by rw [hW,hL];exact allocs_at _ w 0 (by simp)
 have t8:W.heap[w.heap.size+1]? = some (.cells (eSt x).toArray 31 (0,0)):=by rw [hW,hL];exact allocs_at _ w 1 (by simp)
 have HW:Hid (W=((w.alloc (.cells (eNet n).toArray 25)).alloc (.cells (eSt x).toArray 31))):=qh (by rw [hW,hL];rfl)
 have hsz:w.heap.size+1<W.heap.size:=(Array.getElem?_eq_some_iff.1 t8).1
 clear hW hL
 have HG:=qh hg
 have HS:=qh hs
 have HGS:=qh hgs
 have HI:=qh (And.intro hI hgi)
 obtain ⟨b6,h6⟩:∃ b,b=w.heap.size:=⟨_,rfl⟩
 obtain ⟨b8,h8⟩:∃ b,b=w.heap.size+1:=⟨_,rfl⟩
 have HB:Hid (b6=w.heap.size/\b8=w.heap.size+1/\b8<W.heap.size):=qh ⟨h6,h8,by omega⟩
 have hva:=smvalid_any n ss vS x W (rdNet.mono hg hbw) (hs.mono hbw) (rdSt.mono hgs hbw)
 clear hg hs hgs hI hgi
 simp only [vNet,vSt,vSl] at hva ⊢
 go_enter Tryz.func30,Tryz.ntmps30
 go_upto_region 1 with (fail)
 try simp only [Nat.add_assoc,Nat.reduceAdd]
 rw [<-HW.out]
 rw [<-h8] at t8 ⊢
 rw [<-h6] at t6 ⊢
 clear HW h6 h8
 have T6:=qh t6
 have T8:=qh t8
 clear t6 t8
 have q0:W.cell? ⟨b6,0,none⟩=some (.slice n.Ns.a n.Ns.xs.length n.Ns.cap):=(tank_blk T6.out 0).trans rfl
 have q1:W.cell? ⟨b6,1,none⟩=some (.slice n.Ls.a n.Ls.xs.length n.Ls.cap):=(tank_blk T6.out 1).trans rfl
 have s0:W.cell? ⟨b8,0,none⟩=some (.slice x.V.a x.V.xs.length x.V.cap):=(tank_blk T8.out 0).trans rfl
 have s1:W.cell? ⟨b8,1,none⟩=some (.slice x.P.a x.P.xs.length x.P.cap):=(tank_blk T8.out 1).trans rfl
 have s2:W.cell? ⟨b8,2,none⟩=some (.slice x.S.a x.S.xs.length x.S.cap):=(tank_blk T8.out 2).trans rfl
 have s3:W.cell? ⟨b8,3,none⟩=some (.slice x.O.a x.O.xs.length x.O.cap):=(tank_blk T8.out 3).trans rfl
 go_wp2_with fail
 refine Calls.to hva ?_
 rintro e w1 ⟨vb,rfl,hvb⟩ hb1
 have hbr:=hbw.trans (hb1.mono hbw.size)
 have Q0:=qh (cel_lt q0 hb1)
 have T8:=qh (blk_mono T8.out hb1)
 have T6:=qh (blk_mono T6.out hb1)
 have hsz1:=hb1.size
 have HSZ:=qh (And.intro hsz hsz1)
 clear hva hb1 q0 q1 s0 s1 s2 s3 hbw hsz hsz1
 cases vb
 ·clear hvb
  go_upto_region 2 with (fail)
  go_wp2_with fail
  go_ret3
  exact ⟨⟨_,rfl,.no _ (by decide)⟩,hbr⟩
 have HNB:=qh (hvb rfl)
 clear hvb
 obtain ⟨N,hN⟩:∃ N,N=n.Ns.xs.length:=⟨_,rfl⟩
 have HN:=qh hN
 have hN3:N<=300:=by rw [hN];exact (netB_size HNB.out.1).1
 have q0:=Q0.out
 rw [<-hN] at q0
 clear hN
 go_upto_region 5 with (fail)
 clear q0
 have HBR:=qh hbr
 clear hbr
 go_loopw [15,35] (fun s15 s35 wx=>∃ j:Nat,j<=N/\s35=.int .i64 j/\Hid (Own w1.heap.size 9 eTx 1 wx s15 (nmS n j))/\Below w1.heap.size w1 wx) (fun _ s35 _=>N-(RowKit.intOf s35).toNat)
 case atStart=>exact ⟨0,Nat.zero_le _,rfl,qh (World.ownsRow_nil _ _ _ _),qr⟩
 case round=>
  obtain ⟨j,hj,rfl,HO,hb⟩:=hrel
  obtain ⟨wx,hwx⟩:∃ wx,wx=wr:=⟨_,rfl⟩
  subst hwx
  have hbr:=HBR.out.trans (hb.mono HBR.out.size)
  by_cases hjN:j<N
  ·have hjl:j<n.Ns.xs.length:=by rw [<-HN.out];exact hjN
   have gN:=rdNet.mono HG.out hbr
   obtain ⟨bl,ol,el,c0,c1,c2,c3,c4,c5,c6,c7,c8⟩:=(gN.1.2.2.1).nd j hjl
   have hsu:=nmS_succ hjl
   obtain ⟨z,hz⟩:∃ z,z=n.Ns.xs[j]'hjl:=⟨_,rfl⟩
   rw [<-hz] at c0 c1 c2 c3 c4 c5 c6 c7 c8 hsu
   obtain ⟨w5,hw5⟩:∃ w5,w5=wx.alloc (.cells (eNd z).toArray 48):=⟨_,rfl⟩
   have hbA:Below wx.heap.size wx w5:=by rw [hw5];exact alloc_below _ _
   obtain ⟨k0,-⟩:=boxNd wx w5 48 z _ rfl _ rfl (by rw [hw5];exact qr)
   have i1:decide (j<N)=true:=decide_eq_true hjN
   have x7:IntKind.i64.wrap ((j:Int)+1)=j+1:=IntWalk.i64_in _ om
   have i4:(0:Int)<=j:=by omega
   have i5:(j:Int)<N:=by omega
   have EL:=qh el
   have HJN:=qh hjN
   have HW5:=qh hw5
   have HSU:=qh hsu
   have hO5:=HO.out.below hbA
   have hb5:=hb.trans (hbA.mono hb.size)
   have hcl:(nmS n j).length<2147483648:=by rw [nmS_len n j (by have:=HN.out;omega)];omega
   clear hz hw5 hjl hjN gN hsu hbA HO hb hbr
   go_upto_region 7 with (fail)
   first|rw [<-HW5.out]|fail "w5"
   clear c0 c1 c2 c3 c4 c5 c6 c7 c8 HW5
   have h1c:∀ u∈eTx z.Name,u.oneCell'=true:=by simp [Value.oneCell']
   have hsz7:=hb5.size
   go_wp2_with (at_builtin;go_must (refine wpList_pushR rfl _ _ 42 rfl 9 _ 1 16 undStr infStr rfl (by decide) z.Name (fun _=>rfl) h1c _ (nmS n j) rfl hO5 w5.heap.size rfl rfl hcl (by decide) hsz7 _ rfl ?_);intro g8 k8 w8 hR8)
   have hb10:=hb5.trans (hR8.below hO5 hsz7)
   have HO8:Hid (Own w1.heap.size 9 eTx 1 w8 _ (nmS n (j+1))):=qh (by rw [HSU.out];exact hR8.own)
   clear hR8 hO5 h1c hsz7 hb5 k0 hcl
   go_wp2_with fail
   clear el
   first|rw [<-EL.out]|skip
   go_roundw
   case measure=>have:=HJN.out;simp [RowKit.intOf,x7];omega
   case rel=>exact ⟨j+1,HJN.out,by go_num,HO8,hb10⟩
  ·have hjN2:N=j:=by omega
   subst hjN2
   have i1:decide (N<N)=false:=decide_eq_false (Nat.lt_irrefl N)
   have hIT:IsTxs wx u15 (nmS n N):=HO.out.isL (fun _=>rfl)
   have hnz:∀ z∈nmS n N,z.size<=maxLen:=by
    intro z hz
    simp only [nmS,List.mem_map] at hz
    obtain ⟨d,hd,rfl⟩:=hz
    exact ((rdNet.mono HG.out hbr).1.2.2.2 d (List.mem_of_mem_take hd)).name
   have hgv:=smgiven_any is vI (nmS n N) u15 wx (HI.out.1.mono hbr) (fun x hx=>rdIn.mono (HI.out.2 x hx) hbr) hIT hnz
   have HNZ:=qh hnz
   have HIT:=qh hIT
   have hbx:=hb
   clear hnz hIT HO hb hjN hj
   go_wp2_with fail
   refine Calls.to hgv ?_
   rintro e w2 ⟨er,rfl,her⟩ hb2
   have hbr2:=hbr.trans (hb2.mono hbr.size)
   have hbx2:=hbx.trans (hb2.mono hbx.size)
   replace HIT:=qh (IsL.mono HIT.out hb2)
   clear hgv hb2 hbr hbx i1
   by_cases hz:er=0
   rotate_left
   ·have z1:(er != 0)=true:=by simpa using hz
    have HNE:=qh hz
    clear hz her
    go_upto_region 11 with (fail)
    go_wp2_with fail
    go_ret3
    exact ⟨⟨_,rfl,.no _ HNE.out⟩,hbr2⟩
   have z1:(er != 0)=false:=by simpa using hz
   have HGV:=qh (her hz)
   subst hz
   clear her
   have hct:=smcount_any steps w2
   go_wp2_with fail
   refine Calls.to hct ?_
   rintro e w3 ⟨cb,rfl,hcb⟩ hb3
   have hbr3:=hbr2.trans (hb3.mono hbr2.size)
   have hbx3:=hbx2.trans (hb3.mono hbx2.size)
   replace HIT:=qh (IsL.mono HIT.out hb3)
   clear hct hb3 hbr2 hbx2 z1
   cases cb
   ·clear hcb
    go_upto_region 13 with (fail)
    go_wp2_with fail
    go_ret3
    exact ⟨⟨_,rfl,.no _ (by decide)⟩,hbr3⟩
   obtain ⟨hk0,hk1⟩:=hcb rfl
   clear hcb
   obtain ⟨K,rfl⟩:=Int.eq_ofNat_of_zero_le hk0
   have HK:Hid (K<=10000):=qh om
   clear hk0 hk1
   cases h1:decide (sec<1)
   rotate_left
   ·go_upto_region 13 with (fail)
    go_wp2_with fail
    go_ret3
    exact ⟨⟨_,rfl,.no _ (by decide)⟩,hbr3⟩
   cases h2:decide (86400<sec)
   rotate_left
   ·go_upto_region 13 with (fail)
    go_wp2_with fail
    go_ret3
    exact ⟨⟨_,rfl,.no _ (by decide)⟩,hbr3⟩
   obtain ⟨l1,l2,l3,l4,-⟩:=stB_parts HNB.out.2
   have hl2:=netB_size HNB.out.1
   have hcp:=simcopied_any x w3 (rdSt.mono HGS.out hbr3) om om om om
   have T8:=qh (blk_mono T8.out hbx3)
   have s0:w3.cell? ⟨b8,0,none⟩=some (.slice x.V.a x.V.xs.length x.V.cap):=(tank_blk T8.out 0).trans rfl
   have s1:w3.cell? ⟨b8,1,none⟩=some (.slice x.P.a x.P.xs.length x.P.cap):=(tank_blk T8.out 1).trans rfl
   have s2:w3.cell? ⟨b8,2,none⟩=some (.slice x.S.a x.S.xs.length x.S.cap):=(tank_blk T8.out 2).trans rfl
   have s3:w3.cell? ⟨b8,3,none⟩=some (.slice x.O.a x.O.xs.length x.O.cap):=(tank_blk T8.out 3).trans rfl
   simp only [vSt,vSl] at hcp
   clear hl2 l1 l2 l3 l4
   go_wp2_with fail
   refine Calls.to hcp ?_
   rintro e w4 ⟨uV,uP,uS,uO,lV,hV,lP,hP,lS,hS,lO,hO,rfl,hC⟩ hb4
   obtain ⟨sn,⟨rfl,rfl,rfl,rfl⟩,hsame,hgsn,-⟩:=copied_st hC (rdSt.mono HGS.out hbr3)
   have hbr4:=hbr3.trans (hb4.mono hbr3.size)
   have hbx4:=hbx3.trans (hb4.mono hbx3.size)
   replace HIT:=qh (IsL.mono HIT.out hb4)
   clear hcp hC hb4 hbr3 hbx3 s0 s1 s2 s3 h1 h2 hsame
   simp only [vSl]
   go_upto_region 17 with (fail)
   obtain ⟨W5,hW5⟩:∃ W5,W5=w4.alloc (.cells (eSt sn).toArray 31):=⟨_,rfl⟩
   have k21:W5.heap[w4.heap.size]? = some (.cells (eSt sn).toArray 31 (0,0)):=by rw [hW5];exact heap_alloc_new w4 _
   have hb5:Below w4.heap.size w4 W5:=by rw [hW5];exact alloc_below _ _
   have hsz5:W5.heap.size=w4.heap.size+1:=by rw [hW5];simp
   change Code.wp _ _ _ _ (w4.alloc (.cells (eSt sn).toArray 31))
   rw [<-hW5]
   obtain ⟨b21,h21⟩:∃ b,b=w4.heap.size:=⟨_,rfl⟩
   have HB21:Hid (b21=w4.heap.size/\W5.heap.size=b21+1):=qh ⟨h21,by omega⟩
   rw [<-h21] at k21 ⊢
   have hR0:Hid (SRunI W5.heap.size b21 W5 (.slice none 0 0) (.slice none 0 0) n [] [] sn 0):=qh ⟨World.ownsRow_nil _ _ _ _,World.ownsRow_nil _ _ _ _,fun g h=>(by simp [Value.ownBlock] at h),fun s h=>absurd h List.not_mem_nil,rdSt.mono hgsn hb5,rfl,rfl,k21⟩
   have HBQ0:Hid (Below w.heap.size w W5/\Below w4.heap.size w4 W5/\W5.heap.size<=W5.heap.size):=qh ⟨hbr4.trans (hb5.mono hbr4.size),hb5,Nat.le_refl _⟩
   have T6:=qh (blk_mono T6.out hbx4)
   have HBW4:Hid (w.heap.size<=w4.heap.size):=qh hbr4.size
   have HSZ6:Hid (b6<w4.heap.size):=qh (Array.getElem?_eq_some_iff.1 T6.out).1
   clear hW5 h21 hsz5 k21 hb5 hbr4 hbx4 hgsn
   go_upto_region 18 with (fail)
   go_loopw [19,20,65] (fun s19 s20 s65 wr=>∃ (k:Nat) (sts:List St) (leds:List Led) (xk:St),k<=K/\s65=.int .i64 k/\Hid (Below w.heap.size w wr/\Below w4.heap.size w4 wr/\W5.heap.size<=wr.heap.size)/\Hid (SRunI W5.heap.size b21 wr s19 s20 n sts leds xk k)) (fun _ _ s65 _=>K-(RowKit.intOf s65).toNat)
   case atStart=>exact ⟨0,[],[],sn,Nat.zero_le _,rfl,HBQ0,hR0⟩
   clear HBQ0 hR0
   case round=>
    obtain ⟨k,sts,leds,xk,hk,rfl,HBQ,HI0⟩:=hrel
    obtain ⟨wo,hwo⟩:∃ wo,wo=wr:=⟨_,rfl⟩
    subst hwo
    by_cases hkK:k<K
    ·have i1:decide (k<K)=true:=decide_eq_true hkK
     have HKK:=qh hkK
     have hat:=smat_any is vI (nmS n N) u15 k wo (HI.out.1.mono HBQ.out.1) (fun x hx=>rdIn.mono (HI.out.2 x hx) HBQ.out.1) (IsL.mono HIT.out HBQ.out.2.1) HNZ.out HGV.out.1 (by rw [nmS_len n N (Nat.le_of_eq HN.out)];omega) HGV.out.2 (by have:=HK.out;omega)
     clear hkK hk
     go_wp2_with fail
     refine Calls.to hat ?_
     rintro e w6 ⟨u,rfl,hu⟩ hb6
     have hbr6:=HBQ.out.1.trans (hb6.mono HBQ.out.1.size)
     have hbx6:=HBQ.out.2.1.trans (hb6.mono HBQ.out.2.1.size)
     clear hat i1
     cases hu with
     | no er he=>
      have z1:(er != 0)=true:=by simpa using he
      have HNE:=qh he
      clear he
      go_upto_region 22 with (fail)
      go_wp2_with fail
      go_ret3
      exact ⟨⟨_,rfl,.no _ HNE.out⟩,hbr6⟩
     | ok a c qs hq=>
      have hst:=rstep_any n ss vS xk qs (.slice a qs.length c) sec w6 (rdNet.mono HG.out hbr6) (HS.out.mono hbr6) (rdSt.mono HI0.out.cur hb6) hq
      have v21:w6.heap[b21]? = some (.cells (eSt xk).toArray 31 (0,0)):=(hb6.block b21 (by have:=HB21.out;have:=HBQ.out;omega)).trans HI0.out.k21
      have v6:=blk_mono T6.out hbx6
      have q0:w6.cell? ⟨b6,0,none⟩=some (.slice n.Ns.a n.Ns.xs.length n.Ns.cap):=(tank_blk v6 0).trans rfl
      have q1:w6.cell? ⟨b6,1,none⟩=some (.slice n.Ls.a n.Ls.xs.length n.Ls.cap):=(tank_blk v6 1).trans rfl
      have s0:w6.cell? ⟨b21,0,none⟩=some (.slice xk.V.a xk.V.xs.length xk.V.cap):=(tank_blk v21 0).trans rfl
      have s1:w6.cell? ⟨b21,1,none⟩=some (.slice xk.P.a xk.P.xs.length xk.P.cap):=(tank_blk v21 1).trans rfl
      have s2:w6.cell? ⟨b21,2,none⟩=some (.slice xk.S.a xk.S.xs.length xk.S.cap):=(tank_blk v21 2).trans rfl
      have s3:w6.cell? ⟨b21,3,none⟩=some (.slice xk.O.a xk.O.xs.length xk.O.cap):=(tank_blk v21 3).trans rfl
      simp only [vNet,vSt,vSl] at hst
      clear v6 hq
      go_upto_region 23 with (fail)
      go_wp2_with fail
      refine Calls.to hst ?_
      rintro e w7 ⟨u,rfl,hu⟩ hb7
      obtain ⟨s',g,er,rfl,hok⟩:=stepOut_res hu
      have V21:=qh (blk_mono v21 hb7)
      have hbr7:=hbr6.trans (hb7.mono hbr6.size)
      have hbo7:=hb6.trans (hb7.mono hb6.size)
      have hsz6:wo.heap.size<=w6.heap.size:=hb6.size
      clear hst hu v21 q0 q1 s0 s1 s2 s3 hb6 hb7 hbr6 hbx6
      obtain ⟨w8,hw8⟩:∃ w8,w8=(w7.alloc (.cells (eSt s').toArray 31)).alloc (.cells (eLed g).toArray 56):=⟨_,rfl⟩
      have m25:w8.heap[w7.heap.size]? = some (.cells (eSt s').toArray 31 (0,0)):=by rw [hw8];exact blk_mono (heap_alloc_new w7 _) (alloc_below _ _)
      have m26:w8.heap[w7.heap.size+1]? = some (.cells (eLed g).toArray 56 (0,0)):=by
       rw [hw8]
       have h:=heap_alloc_new (w7.alloc (.cells (eSt s').toArray 31)) (.cells (eLed g).toArray 56)
       simpa using h
      have hb8:Below w7.heap.size w7 w8:=by rw [hw8];exact (alloc_below _ _).trans ((alloc_below _ _).mono (by simp))
      have hbr8:=hbr7.trans (hb8.mono hbr7.size)
      have hbo8:=hbo7.trans (hb8.mono hbo7.size)
      replace V21:=qh (blk_mono V21.out hb8)
      have HW8:=qh hw8
      clear hw8 hbr7
      simp only [vSt,vLed,vSl]
      by_cases hz:er=0
      rotate_left
      ·have z1:(er != 0)=true:=by simpa using hz
       have HNE:=qh hz
       clear hz hok m25 m26 hbo8 hbo7 hb8
       go_upto_region 24 with (fail)
       first|(change Code.wp _ _ _ _ ((w7.alloc (.cells (eSt s').toArray 31)).alloc (.cells (eLed g).toArray 56));rw [<-HW8.out])|fail "w8"
       go_upto_region 25 with (fail)
       go_wp2_with fail
       go_ret3
       exact ⟨⟨_,rfl,.no _ HNE.out⟩,hbr8⟩
      have z1:(er != 0)=false:=by simpa using hz
      subst hz
      have hok2:SGood n s'/\gSt w7 s'/\FarS w6.heap.size s' g:=by
       rcases hok with h|h
       ·exact absurd rfl h
       ·exact h.2
      clear hok
      go_upto_region 24 with (fail)
      first|(change Code.wp _ _ _ _ ((w7.alloc (.cells (eSt s').toArray 31)).alloc (.cells (eLed g).toArray 56));rw [<-HW8.out])|fail "w8"
      clear HW8
      have v0:w8.cell? ⟨w7.heap.size,0,none⟩=some (.slice s'.V.a s'.V.xs.length s'.V.cap):=(tank_blk m25 0).trans rfl
      have v1:w8.cell? ⟨w7.heap.size,1,none⟩=some (.slice s'.P.a s'.P.xs.length s'.P.cap):=(tank_blk m25 1).trans rfl
      have v2:w8.cell? ⟨w7.heap.size,2,none⟩=some (.slice s'.S.a s'.S.xs.length s'.S.cap):=(tank_blk m25 2).trans rfl
      have v3:w8.cell? ⟨w7.heap.size,3,none⟩=some (.slice s'.O.a s'.O.xs.length s'.O.cap):=(tank_blk m25 3).trans rfl
      have o0:w8.cell? ⟨b21,0,none⟩=some (.slice xk.V.a xk.V.xs.length xk.V.cap):=(tank_blk V21.out 0).trans rfl
      have o1:w8.cell? ⟨b21,1,none⟩=some (.slice xk.P.a xk.P.xs.length xk.P.cap):=(tank_blk V21.out 1).trans rfl
      have o2:w8.cell? ⟨b21,2,none⟩=some (.slice xk.S.a xk.S.xs.length xk.S.cap):=(tank_blk V21.out 2).trans rfl
      have o3:w8.cell? ⟨b21,3,none⟩=some (.slice xk.O.a xk.O.xs.length xk.O.cap):=(tank_blk V21.out 3).trans rfl
      have p0:w8.frozen? ⟨b21,0,none⟩=false:=tank_free V21.out 0
      have p1:w8.frozen? ⟨b21,1,none⟩=false:=tank_free V21.out 1
      have p2:w8.frozen? ⟨b21,2,none⟩=false:=tank_free V21.out 2
      have p3:w8.frozen? ⟨b21,3,none⟩=false:=tank_free V21.out 3
      obtain ⟨b25,h25⟩:∃ b,b=w7.heap.size:=⟨_,rfl⟩
      obtain ⟨b26,h26⟩:∃ b,b=w7.heap.size+1:=⟨_,rfl⟩
      have hwo7:=hbo7.size
      have H25:Hid (wo.heap.size<=b25/\b26=b25+1/\b21<wo.heap.size):=qh ⟨by omega,by omega,by have:=HB21.out;have:=HBQ.out;omega⟩
      rw [<-h25] at m25 v0 v1 v2 v3 ⊢
      rw [<-h26] at m26
      have hA26:(w7.alloc (.cells #[.slice s'.V.a s'.V.xs.length s'.V.cap,.slice s'.P.a s'.P.xs.length s'.P.cap,.slice s'.S.a s'.S.xs.length s'.S.cap,.slice s'.O.a s'.O.xs.length s'.O.cap] 31)).heap.size=b26:=by rw [h26];simp
      first|rw [hA26]|(try simp only [Nat.add_assoc,Nat.reduceAdd];rw [<-h26])|fail "b26"
      have HGS7:=qh (And.intro (rdSt.mono hok2.2.1 hb8) (And.intro hok2.1 hok2.2.2))
      have HFAR:Hid (FarS wo.heap.size s' g):=qh (by
       have hle:wo.heap.size<=w6.heap.size:=by assumption
       exact ⟨fun b off e=>Nat.le_trans hle (hok2.2.2.V b off e),fun b off e=>Nat.le_trans hle (hok2.2.2.P b off e),fun b off e=>Nat.le_trans hle (hok2.2.2.S b off e),fun b off e=>Nat.le_trans hle (hok2.2.2.O b off e),fun b off e=>Nat.le_trans hle (hok2.2.2.G b off e)⟩)
      have M25:=qh m25
      have M26:=qh m26
      clear h25 h26 hok2 hb8 hwo7 m25 m26 hbo7
      go_upto_region 27 with (fail)
      show Code.wp _ _ _ _ (set4 w8 b21 (.slice s'.V.a s'.V.xs.length s'.V.cap) (.slice s'.P.a s'.P.xs.length s'.P.cap) (.slice s'.S.a s'.S.xs.length s'.S.cap) (.slice s'.O.a s'.O.xs.length s'.O.cap))
      have r21:=set4_cells V21.out (.slice s'.V.a s'.V.xs.length s'.V.cap) (.slice s'.P.a s'.P.xs.length s'.P.cap) (.slice s'.S.a s'.S.xs.length s'.S.cap) (.slice s'.O.a s'.O.xs.length s'.O.cap)
      have rfar:∀ b,b≠b21->_:=fun b h=>set4_far w8 (b:=b21) (c:=b) h (.slice s'.V.a s'.V.xs.length s'.V.cap) (.slice s'.P.a s'.P.xs.length s'.P.cap) (.slice s'.S.a s'.S.xs.length s'.S.cap) (.slice s'.O.a s'.O.xs.length s'.O.cap)
      have rsz:=set4_size w8 b21 (.slice s'.V.a s'.V.xs.length s'.V.cap) (.slice s'.P.a s'.P.xs.length s'.P.cap) (.slice s'.S.a s'.S.xs.length s'.S.cap) (.slice s'.O.a s'.O.xs.length s'.O.cap)
      have hoT:∀ {α:Type} {e:TypeId} {enc:α->List Value} {kk:Nat} {v:Value} {xs:List α},Own W5.heap.size e enc kk w8 v xs->v.ownBlock≠some b21:=fun h e=>by
       have h1:=(h.lt _ e).1;have:=HB21.out;omega
      have rT:=(HI0.out.T.below hbo8).set4' (hoT (HI0.out.T.below hbo8)) (.slice s'.V.a s'.V.xs.length s'.V.cap) (.slice s'.P.a s'.P.xs.length s'.P.cap) (.slice s'.S.a s'.S.xs.length s'.S.cap) (.slice s'.O.a s'.O.xs.length s'.O.cap)
      have rU:=(HI0.out.U.below hbo8).set4' (hoT (HI0.out.U.below hbo8)) (.slice s'.V.a s'.V.xs.length s'.V.cap) (.slice s'.P.a s'.P.xs.length s'.P.cap) (.slice s'.S.a s'.S.xs.length s'.S.cap) (.slice s'.O.a s'.O.xs.length s'.O.cap)
      have rbx:=set4_below (HBQ.out.2.1.trans (hbo8.mono HBQ.out.2.1.size)) (b:=b21) (by have:=HB21.out;omega) (.slice s'.V.a s'.V.xs.length s'.V.cap) (.slice s'.P.a s'.P.xs.length s'.P.cap) (.slice s'.S.a s'.S.xs.length s'.S.cap) (.slice s'.O.a s'.O.xs.length s'.O.cap)
      have rbr:=set4_below hbr8 (b:=b21) (by have:=HB21.out;have:=HBW4.out;omega) (.slice s'.V.a s'.V.xs.length s'.V.cap) (.slice s'.P.a s'.P.xs.length s'.P.cap) (.slice s'.S.a s'.S.xs.length s'.S.cap) (.slice s'.O.a s'.O.xs.length s'.O.cap)
      clear o0 o1 o2 o3 p0 p1 p2 p3 v0 v1 v2 v3 hoT
      generalize set4 w8 b21 (.slice s'.V.a s'.V.xs.length s'.V.cap) (.slice s'.P.a s'.P.xs.length s'.P.cap) (.slice s'.S.a s'.S.xs.length s'.S.cap) (.slice s'.O.a s'.O.xs.length s'.O.cap)=W2 at *
      have m3:W2.heap[b25]? = some (.cells (eSt s').toArray 31 (0,0)):=(rfar b25 (by have:=H25.out;omega)).trans M25.out
      have n3:W2.heap[b26]? = some (.cells (eLed g).toArray 56 (0,0)):=(rfar b26 (by have:=H25.out;omega)).trans M26.out
      have lt25:b25<W2.heap.size:=(Array.getElem?_eq_some_iff.1 m3).1
      have lt26:b26<W2.heap.size:=(Array.getElem?_eq_some_iff.1 n3).1
      have hTn:∀ b,wo.heap.size<=b->u19.ownBlock≠some b/\u20.ownBlock≠some b:=fun b hb=>by
       refine ⟨fun e=>?_,fun e=>?_⟩
       ·have:=(HI0.out.T.lt _ e).2;omega
       ·have:=(HI0.out.U.lt _ e).2;omega
      have hBW2:W5.heap.size<=W2.heap.size:=by rw [rsz];exact Nat.le_trans HBQ.out.2.2 hbo8.size
      have hgW2:gSt W2 s':=gSl_near HGS7.out.1 (P:=fun b=>wo.heap.size<=b) (fun b h _=>rfar b (by have:=H25.out;omega)) (fun _ b off e=>HFAR.out.V b off e) (fun _ b off e=>HFAR.out.P b off e) (fun _ b off e=>HFAR.out.S b off e) (fun _ b off e=>HFAR.out.O b off e)
      have RW:=qh (And.intro r21 (And.intro rfar (And.intro rsz (And.intro rbr rbx))))
      clear r21 rfar hbr8
      have hlen:sts.length=k/\leds.length=k:=⟨HI0.out.ls,HI0.out.ll⟩
      have hkb:k<2147483648:=by have:=HKK.out;have:=HK.out;omega
      refine wp_z0 rfl (fun y0 hy0=>?_)
      have e19:y0 19=u19:=(congrArg (fun a:Act=>a.tmps.getD 19 undef) hy0).symm
      have e20:y0 20=u20:=(congrArg (fun a:Act=>a.tmps.getD 20 undef) hy0).symm
      have e25:y0 25=.pointer (some ⟨b25,0,none⟩):=(congrArg (fun a:Act=>a.tmps.getD 25 undef) hy0).symm
      have e26:y0 26=.pointer (some ⟨b25+1,0,none⟩):=(congrArg (fun a:Act=>a.tmps.getD 26 undef) hy0).symm
      rw [<-H25.out.2.1] at e26
      have HY0:=qh hy0
      clear hy0
      refine wp_region_rk (cjI srA W5.heap.size W2 u19 u20 sts leds s' g y0) (by kernel_rfl) [0,1,2,3,4,5,6,7,8,9,10] (by kernel_rfl) (fun l a W h=>h.1) ?step2 ?fin2 (cj_start srA s' g y0 hBW2 rT rU HI0.out.ne)
      case step2=>
       intro l a W3 i o hI ho hun hdeps
       obtain ⟨hz,y,sc,tT,tU,c1,c2,rfl,hM,hy,hF⟩:=hI
       have hi11:i<11:=(Array.getElem?_eq_some_iff.1 ho).1
       have hT25:=hTn b25 (by have:=H25.out;omega)
       have hT26:=hTn b26 (by have:=H25.out;omega)
       have v25:=(hM.m.kept b25 lt25 hT25.1 hT25.2).trans m3
       have v26:=(hM.m.kept b26 lt26 hT26.1 hT26.2).trans n3
       have s0:W3.cell? ⟨b25,0,none⟩=some (.slice s'.V.a s'.V.xs.length s'.V.cap):=(tank_blk v25 0).trans rfl
       have s1:W3.cell? ⟨b25,1,none⟩=some (.slice s'.P.a s'.P.xs.length s'.P.cap):=(tank_blk v25 1).trans rfl
       have s2:W3.cell? ⟨b25,2,none⟩=some (.slice s'.S.a s'.S.xs.length s'.S.cap):=(tank_blk v25 2).trans rfl
       have s3:W3.cell? ⟨b25,3,none⟩=some (.slice s'.O.a s'.O.xs.length s'.O.cap):=(tank_blk v25 3).trans rfl
       have l0:W3.cell? ⟨b26,0,none⟩=some (.int .i64 g.I):=(tank_blk v26 0).trans rfl
       have l1:W3.cell? ⟨b26,1,none⟩=some (.int .i64 g.O):=(tank_blk v26 1).trans rfl
       have l2:W3.cell? ⟨b26,2,none⟩=some (.slice g.P.a g.P.xs.length g.P.cap):=(tank_blk v26 2).trans rfl
       have hBz:W5.heap.size<=W3.heap.size:=Nat.le_trans hM.m.hB hM.m.sz
       have hgd:l.getD i false=false:=by rw [<-getD_tf (by rw [hz];exact hi11)];exact hun
       have hno9:l.getD 0 false=false->l.getD 9 false=false:=fun h0=>by
        cases h8:l.getD 9 false
        ·rfl
        ·have:=(hF 4 om (hF 9 om h8).1).1.1;rw [h0] at this;cases this
       have hno10:l.getD 5 false=false->l.getD 10 false=false:=fun h0=>by
        cases h8:l.getD 10 false
        ·rfl
        ·have:=(hF 8 om (hF 10 om h8).1).1;rw [h0] at this;cases this
       rcases (show i=0\/i=1\/i=2\/i=3\/i=4\/i=5\/i=6\/i=7\/i=8\/i=9\/i=10 by omega) with rfl|rfl|rfl|rfl|rfl|rfl|rfl|rfl|rfl|rfl|rfl
       ·have e:y 19=_:=(hy 19 (.inr (.inl ⟨rfl,hno9 hgd⟩))).trans e19
        refine wpOp_step rfl (fun K hK=>?_)
        rw [if_pos (by rfl)]
        go_simp
        refine hK _ _ (cj_pure hz hM hy hF (i:=0) om hun (u19) ?_ rfl)
        first|rfl|simp [srA,updV,cjS,e]
       ·have e:y 25=_:=(hy 25 (.inl (by unfold cjT;omega))).trans e25
        refine wpOp_step rfl (fun K hK=>?_)
        rw [if_pos (by rfl)]
        go_simp
        refine hK _ _ (cj_pure hz hM hy hF (i:=1) om hun (vSt s') ?_ rfl)
        first|rfl|simp [srA,updV,cjS,e]
       ·obtain rfl:=Option.some.inj (show some _=some o from ho)
        have e93:y 93=vSt s':=hF 1 om (hdeps ⟨1,.data⟩ (by simp) rfl)
        have hgW3:gSt W3 s':=gSl_near hgW2 (P:=fun b=>wo.heap.size<=b) (fun b h lt=>hM.m.kept b lt (hTn b h).1 (hTn b h).2) (fun _ b off e=>HFAR.out.V b off e) (fun _ b off e=>HFAR.out.P b off e) (fun _ b off e=>HFAR.out.S b off e) (fun _ b off e=>HFAR.out.O b off e)
        obtain ⟨l1',l2',l3',l4',-⟩:=stB_parts HGS7.out.2.1.1
        have hl2:=netB_size HNB.out.1
        have hcp:=simcopied_any s' W3 hgW3 om om om om
        clear l1' l2' l3' l4' hl2
        simp only [vSt,vSl] at e93 hcp
        refine wpOp_step rfl (fun K hK=>?_)
        rw [if_pos (by rfl)]
        go_simp
        go_at_call 92
        refine hcp.mono ?_
        rintro e' w' ⟨⟨uV,uP,uS,uO,lV,hV,lP,hP,lS,hS,lO,hO,rfl,hC⟩,hbel⟩
        obtain ⟨sn2,⟨rfl,rfl,rfl,rfl⟩,hsame,hgsn,r1,r2,r3,r4⟩:=copied_st hC hgW3
        refine hK _ _ (cj_call hz hM hy hF hun hbel hgsn hsame r1 r2 r3 r4 ?_)
        first|rfl|simp [srA,updV,cjS,e93]
       ·obtain rfl:=Option.some.inj (show some _=some o from ho)
        have d2:l.getD 2 false=true:=(hdeps ⟨2,.data⟩ (by simp) rfl)
        have e94:y 94=vSt sc:=(hF 2 om d2).1
        simp only [vSt,vSl] at e94
        refine wpOp_step rfl (fun K hK=>?_)
        rw [if_pos (by rfl)]
        go_simp
        refine hK _ _ (cj_box1 d2 hz hM hy hF hun ?_)
        first|rfl|simp [srA,updV,cjS,e94]
       ·obtain rfl:=Option.some.inj (show some _=some o from ho)
        have d0:l.getD 0 false=true:=(hdeps ⟨0,.data⟩ (by simp) rfl)
        have d3:l.getD 3 false=true:=(hdeps ⟨3,.data⟩ (by simp) rfl)
        have e92:y 92=u19:=hF 0 om d0
        have e95:y 95=_:=(hF 3 om d3).2
        have h3:l.getD 4 false=false:=hgd
        have hk1:=hM.m.k1 d3 h3
        have hown:=hM.m.T
        have hT0:=hM.m.T0 h3
        rw [h3] at hown
        refine wpOp_step rfl (fun K hK=>?_)
        rw [if_pos (by rfl)]
        refine wp_pushR _ _ 37 rfl 31 _ 4 96 undSts infSt rfl (by decide) sc (fun _=>rfl) (by simp [Value.oneCell',vSl]) tT sts (by rw [hT0];exact e92) hown c1 (by exact e95) om (by decide) hBz hk1.2.2.1 ?_
        intro g7 c7 w7' hR7
        exact hK _ _ (cj_app1 d0 d3 hz hM hy hF hun hR7 rfl)
       ·have e:y 20=_:=(hy 20 (.inr (.inr ⟨rfl,hno10 hgd⟩))).trans e20
        refine wpOp_step rfl (fun K hK=>?_)
        rw [if_pos (by rfl)]
        go_simp
        refine hK _ _ (cj_pure hz hM hy hF (i:=5) om hun (u20) ?_ rfl)
        first|rfl|simp [srA,updV,cjS,e]
       ·have e:y 26=_:=(hy 26 (.inl (by unfold cjT;omega))).trans e26
        refine wpOp_step rfl (fun K hK=>?_)
        rw [if_pos (by rfl)]
        go_simp
        refine hK _ _ (cj_pure hz hM hy hF (i:=6) om hun (vLed g) ?_ rfl)
        first|rfl|simp [srA,updV,cjS,e]
       ·obtain rfl:=Option.some.inj (show some _=some o from ho)
        have e98:y 98=vLed g:=hF 6 om (hdeps ⟨6,.data⟩ (by simp) rfl)
        refine wpOp_step rfl (fun K hK=>?_)
        rw [if_pos (by rfl)]
        go_simp
        refine hK _ _ (cj_box2 hz hM hy hF hun ?_)
        first|rfl|simp [srA,updV,cjS,e98]
       ·obtain rfl:=Option.some.inj (show some _=some o from ho)
        have d5:l.getD 5 false=true:=(hdeps ⟨5,.data⟩ (by simp) rfl)
        have d7:l.getD 7 false=true:=(hdeps ⟨7,.data⟩ (by simp) rfl)
        have e97:y 97=u20:=hF 5 om d5
        have e99:y 99=_:=hF 7 om d7
        have h3:l.getD 8 false=false:=hgd
        have hk1:=hM.m.k2 d7 h3
        have hown:=hM.m.U
        have hT0:=hM.m.U0 h3
        rw [h3] at hown
        refine wpOp_step rfl (fun K hK=>?_)
        rw [if_pos (by rfl)]
        refine wp_pushR _ _ 38 rfl 56 _ 3 40 undLeds infLed rfl (by decide) g (fun _=>rfl) (by simp [Value.oneCell',vSl]) tU leds (by rw [hT0];exact e97) hown c2 (by exact e99) om (by decide) hBz hk1.2.2.1 ?_
        intro g7 c7 w7' hR7
        exact hK _ _ (cj_app2 d5 hz hM hy hF hun hR7 rfl)
       ·obtain rfl:=Option.some.inj (show some _=some o from ho)
        have d3:l.getD 4 false=true:=(hdeps ⟨4,.data⟩ (by simp) rfl)
        have e:y 96=tT:=(hF 4 om d3).2
        refine wpOp_step rfl (fun K hK=>?_)
        rw [if_pos (by rfl)]
        go_simp
        refine hK _ _ (cj_pure hz hM hy hF (i:=9) om hun tT ?_ ⟨getD_setOf om d3,rfl⟩)
        first|rfl|simp [srA,updV,cjS,e]
       ·obtain rfl:=Option.some.inj (show some _=some o from ho)
        have d3:l.getD 8 false=true:=(hdeps ⟨8,.data⟩ (by simp) rfl)
        have e:y 100=tU:=(hF 8 om d3).2
        refine wpOp_step rfl (fun K hK=>?_)
        rw [if_pos (by rfl)]
        go_simp
        refine hK _ _ (cj_pure hz hM hy hF (i:=10) om hun tU ?_ ⟨getD_setOf om d3,rfl⟩)
        first|rfl|simp [srA,updV,cjS,e]
      case fin2=>
       intro l a W3 hI hall
       obtain ⟨hz,y,sc,tT,tU,c1,c2,rfl,hM,hy,hF⟩:=hI
       have g19:=(hF 9 om (hall 9 (by decide))).2
       have g20:=(hF 10 om (hall 10 (by decide))).2
       have hsame:=(hF 2 om (hall 2 (by decide))).2
       have h2:l.getD 2 false=true:=hall 2 (by decide)
       have h3:l.getD 3 false=true:=hall 3 (by decide)
       have h4:l.getD 4 false=true:=hall 4 (by decide)
       have h7:l.getD 7 false=true:=hall 7 (by decide)
       have h8:l.getD 8 false=true:=hall 8 (by decide)
       rw [h2,h3,h4,h7,h8] at hM
       have hbe:Below W5.heap.size W2 W3:=hM.m.bel
       have hnx:=SRunI.next HI0.out hbo8 HBQ.out.2.2 (by have:=HB21.out;omega) HGS7.out.2.1 HGS7.out.1 HFAR.out hsame RW.out.2.2.1 RW.out.2.1 RW.out.1 hM
       have hbrF:Below w.heap.size w W3:=RW.out.2.2.2.1.trans (hbe.mono (by have:=HB21.out;have:=HBW4.out;omega))
       have hbxF:Below w4.heap.size w4 W3:=RW.out.2.2.2.2.trans (hbe.mono (by have:=HB21.out;omega))
       have hszF:W5.heap.size<=W3.heap.size:=Nat.le_trans hM.m.hB hM.m.sz
       have hact:=cj_fin HY0.out (fun j h=>hy j (.inl h))
       rw [g19,g20] at hact
       dsimp only at hact
       rw [hact]
       have HF:=qh (And.intro (And.intro hbrF (And.intro hbxF hszF)) hnx)
       clear hact g19 g20 h2 h3 h4 h7 h8 hM hbe hnx hbrF hbxF hszF hF hall hy HY0 e19 e20 e25 e26 rT rU m3 n3 lt25 lt26 hTn hsame hgW2 hBW2
       generalize y 92=z92
       generalize y 93=z93
       generalize y 94=z94
       generalize y 95=z95
       generalize y 96=z96
       generalize y 97=z97
       generalize y 98=z98
       generalize y 99=z99
       generalize y 100=z100
       clear y y0
       have x7:IntKind.i64.wrap ((k:Int)+1)=k+1:=IntWalk.i64_in _ om
       have i4:(0:Int)<=k:=by omega
       go_wp2_with fail
       go_roundw
       case measure=>
        have:=HKK.out
        simp [RowKit.intOf,x7]
        omega
       case rel=>exact ⟨k+1,sts ++ [sc],leds ++ [g],s',HKK.out,by go_num,qh HF.out.1,qh HF.out.2⟩
    ·have hkk:k=K:=by omega
     subst hkk
     have i1:decide (k<k)=false:=decide_eq_false (Nat.lt_irrefl k)
     have HO:Hid (SimOut wo n k (.tuple #[u19,u20,.int .i64 0])):=qh (.ok sts leds u19 u20 HNB.out.1 (by rw [HI0.out.ls]) (by rw [HI0.out.ls,HI0.out.ll]) (HI0.out.T.isL (fun _=>rfl)) (HI0.out.U.isL (fun _=>rfl)) (fun s hs=>⟨(HI0.out.st s hs).1.1,(HI0.out.st s hs).2⟩))
     go_wp2_with fail
     go_ret3
     exact ⟨⟨_,rfl,HO.out⟩,HBQ.out.1⟩
end Go.Proofs.YtoiakijmbghhlaaGreat
