/- balance.of, walked. Conditions: the arguments read as data and obey a step's bounds. -/
import Derived.StillTailTactics
import Derived.Test.YtoiakijmbghhlaaGreatS39
set_option linter.unusedVariables false
set_option linter.unusedSimpArgs false
set_option maxRecDepth 100000
set_option maxHeartbeats 32000000
namespace Go.Proofs.YtoiakijmbghhlaaGreat
open Go.RowKit Go.Maps
theorem baof_any (n:Net) (bs:List Bool) (vb:Value) (x y:St) (q:List Int) (vq:Value) (p:List Int) (vp:Value) (w:World) (hg:gNet w n) (hb:IsBools w vb bs) (hx:gSt w x) (hy:gSt w y) (hq:IsInts w vq q) (hp:IsInts w vp p)
  (hc:AccB n x y q p) (hbl:bs.length=n.Ns.xs.length) :
  Calls Tryz.prog 62 #[vNet n,vb,vSt x,vSt y,vq,vp] w fun e w'=>e=.returned (.agg #[.int .i64 (accR n (fun i=>bs.getD i false) x y q n.Ns.xs.length+sg (linkF n (fun i=>bs.getD i false) p) n.Ls.xs.length-(accL n (fun i=>bs.getD i false) q n.Ns.xs.length+sg (lostP n (fun i=>bs.getD i false) p) n.Ls.xs.length)),.int .i64 (accL n (fun i=>bs.getD i false) q n.Ns.xs.length+sg (lostP n (fun i=>bs.getD i false) p) n.Ls.xs.length)])/\Below w.heap.size w w':=by
 have hmm:=@run_makeMap Tryz.prog
 obtain ⟨ins,hins⟩:∃ f:Nat->Bool,f=fun i=>bs.getD i false:=⟨_,rfl⟩
 rw [<-hins]
 have HINS:=qh hins
 obtain ⟨L,hLL⟩:∃ L:List (Array Value×TypeId),L = [((eNet n).toArray,25),((eSt x).toArray,31),((eSt y).toArray,31),(#[.int .i64 0,.int .i64 0],132)]:=⟨_,rfl⟩
 obtain ⟨W,hW⟩:∃ W,W=allocs w L:=⟨_,rfl⟩
 have hbw:Below w.heap.size w W:=by rw [hW];exact allocs_below _ _
 have t6:W.heap[w.heap.size]? = some (.cells (eNet n).toArray 25 (0,0)):=by rw [hW,hLL];exact allocs_at _ w 0 (by simp)
 have t8:W.heap[w.heap.size+1]? = some (.cells (eSt x).toArray 31 (0,0)):=by rw [hW,hLL];exact allocs_at _ w 1 (by simp)
 have t9:W.heap[w.heap.size+2]? = some (.cells (eSt y).toArray 31 (0,0)):=by rw [hW,hLL];exact allocs_at _ w 2 (by simp)
 have t12:W.heap[w.heap.size+3]? = some (.cells #[.int .i64 0,.int .i64 0] 132 (0,0)):=by rw [hW,hLL];exact allocs_at _ w 3 (by simp)
 have HW:Hid (W=(((w.alloc (.cells (eNet n).toArray 25)).alloc (.cells (eSt x).toArray 31)).alloc (.cells (eSt y).toArray 31)).alloc (.cells #[.int .i64 0,.int .i64 0] 132)):=qh (by rw [hW,hLL];rfl)
 have hsz:W.heap.size=w.heap.size+4:=by rw [HW.out];simp
 obtain ⟨aq,cq,rfl,hq1,hq2,hq3⟩:=hq
 obtain ⟨ap,cp,rfl,hp1,hp2,hp3⟩:=hp
 obtain ⟨ab,cb,rfl,hb1,hb2,hb3⟩:=hb
 have HG:=qh hg
 have HX:=qh hx
 have HY:=qh hy
 have HQ:=qh hq3
 have HP:=qh hp3
 have HBS:=qh hb3
 have HC:=qh hc
 obtain ⟨N,hN⟩:∃ N,N=n.Ns.xs.length:=⟨_,rfl⟩
 obtain ⟨M,hM⟩:∃ M,M=n.Ls.xs.length:=⟨_,rfl⟩
 have HN:=qh hN
 have HM:=qh hM
 have hlq:=hc.ql
 have hlp:=hc.pl
 have l1:=hc.xv
 have l2:=hc.xp
 have l3:=hc.yv
 have l4:=hc.yp
 rw [<-hN] at hbl hlq l1 l2 l3 l4 ⊢
 rw [<-hM] at hlp ⊢
 have hN3:N<=300:=by rw [hN];exact (netB_size hc.net).1
 have hM3:M<=400:=by rw [hM];exact (netB_size hc.net).2
 have HLL:Hid (q.length=N/\p.length=M/\x.V.xs.length=N/\x.P.xs.length=N/\y.V.xs.length=N/\y.P.xs.length=N/\bs.length=N):=qh ⟨hlq,hlp,l1,l2,l3,l4,hbl⟩
 obtain ⟨b6,h6⟩:∃ b,b=w.heap.size:=⟨_,rfl⟩
 obtain ⟨b8,h8⟩:∃ b,b=w.heap.size+1:=⟨_,rfl⟩
 obtain ⟨b9,h9⟩:∃ b,b=w.heap.size+2:=⟨_,rfl⟩
 obtain ⟨b12,h12⟩:∃ b,b=w.heap.size+3:=⟨_,rfl⟩
 obtain ⟨b13,h13⟩:∃ b,b=w.heap.size+4:=⟨_,rfl⟩
 obtain ⟨bm,hbm⟩:∃ b,b=w.heap.size+5:=⟨_,rfl⟩
 have HB:Hid (b6=w.heap.size/\b8=w.heap.size+1/\b9=w.heap.size+2/\b12=w.heap.size+3/\b13=w.heap.size+4/\bm=w.heap.size+5):=qh ⟨h6,h8,h9,h12,h13,hbm⟩
 obtain ⟨W2,hW2⟩:∃ W2,W2=(W.alloc (.cells #[.int .i64 0,.int .i64 0] 132)).alloc (.map #[] 0):=⟨_,rfl⟩
 have hb1':Below W.heap.size W (W.alloc (.cells #[.int .i64 0,.int .i64 0] 132)):=alloc_below _ _
 have hb2':Below (W.alloc (.cells #[.int .i64 0,.int .i64 0] 132)).heap.size (W.alloc (.cells #[.int .i64 0,.int .i64 0] 132)) W2:=by rw [hW2];exact alloc_below _ _
 have hbA:Below W.heap.size W W2:=hb1'.trans (hb2'.mono hb1'.size)
 have HI0:Hid (OfI w W2 b6 b8 b9 b12 b13 bm n x y 0 (accR n ins x y q 0) (accL n ins q 0)):=qh (by
  refine ⟨hbw.trans (hbA.mono hbw.size),?_,?_,?_,?_,?_,?_⟩
  ·rw [h6];exact blk_mono t6 hbA
  ·rw [h8];exact blk_mono t8 hbA
  ·rw [h9];exact blk_mono t9 hbA
  ·rw [h12];exact blk_mono t12 hbA
  ·rw [h13,<-hsz];exact blk_mono (heap_alloc_new W _) hb2'
  ·have:=MapN.made (W.alloc (.cells #[.int .i64 0,.int .i64 0] 132)) n
   rw [hW2,hbm]
   rwa [show (W.alloc (.cells #[.int .i64 0,.int .i64 0] 132)).heap.size=w.heap.size+5 from by simp [hsz]] at this)
 have HW2:Hid (W2=(W.alloc (.cells #[.int .i64 0,.int .i64 0] 132)).alloc (.map #[] 0)):=qh hW2
 have HSZ:Hid (W.heap.size=w.heap.size+4):=qh hsz
 clear hW hLL t6 t8 t9 t12 hg hx hy hc hq1 hq2 hq3 hp1 hp2 hp3 hb1 hb2 hb3 hN hM l1 l2 l3 l4 hW2 hb1' hb2' hbA hsz hins hbw
 rw [hlq,hlp,hbl]
 clear hlq hlp hbl
 simp only [vNet,vSt,vSl]
 go_enter Tryz.func62,Tryz.ntmps62
 go_upto_region 3 with (fail)
 simp only [Nat.add_assoc,Nat.reduceAdd]
 first|rw [<-HW.out,<-HW2.out]|(simp only [<-HW.out];rw [<-HW2.out])|fail "world"
 rw [<-hbm,<-h13,<-h12,<-h9,<-h8,<-h6]
 clear hbm h13 h12 h9 h8 h6 HW HW2
 have q0:W2.cell? ⟨b6,0,none⟩=some (.slice n.Ns.a N n.Ns.cap):=by rw [HN.out];exact (tank_blk HI0.out.k6 0).trans rfl
 go_upto_region 4 with (fail)
 clear q0
 go_loopw [25] (fun s25 wr=>∃ k:Nat,k<=N/\s25=.int .i64 k/\Hid (OfI w wr b6 b8 b9 b12 b13 bm n x y k (accR n ins x y q k) (accL n ins q k))) (fun s25 _=>N-(RowKit.intOf s25).toNat)
 case atStart=>exact ⟨0,Nat.zero_le _,rfl,HI0⟩
 clear HI0
 case round=>
  obtain ⟨k,hk,rfl,HI⟩:=hrel
  obtain ⟨wo,hwo⟩:∃ wo,wo=wr:=⟨_,rfl⟩
  subst hwo
  by_cases hkN:k<N
  ·have hkn:k<n.Ns.xs.length:=by rw [<-HN.out];exact hkN
   have hbo:=HI.out.bel
   have hgx:=((rdNet.mono HG.out hbo).1.2.2.2 _ (List.getElem_mem hkn))
   obtain ⟨bn,on,ea,c0,c1,c2,c3,c4,c5,c6,c7,c8⟩:=((rdNet.mono HG.out hbo).1.2.2.1).nd k hkn
   obtain ⟨z,hzx⟩:∃ z,z=n.Ns.xs[k]'hkn:=⟨_,rfl⟩
   have hKind:isOut n k=decide (z.Kind=3):=by
    unfold isOut
    rw [ndK_at hkn,hzx]
   rw [<-hzx] at c0 c1 c2 c3 c4 c5 c6 c7 c8 hgx
   obtain ⟨w2,hw2⟩:∃ w2,w2=wo.alloc (.cells (eNd z).toArray 48):=⟨_,rfl⟩
   have hbA:Below wo.heap.size wo w2:=by rw [hw2];exact alloc_below _ _
   obtain ⟨k0,k1,-⟩:=boxNd wo w2 48 z _ rfl _ rfl (by rw [hw2];exact qr)
   have HW2:=qh hw2
   have HI2:=HI.out.grow hbA
   obtain ⟨w5,hup,hM5,hg5⟩:=HI2.map.upd HC.out.net hkn (by rw [<-hzx];exact hgx.name)
   rw [<-hzx] at hup
   have hbs:wo.heap.size<=w2.heap.size:=hbA.size
   have hI5:=HI2.upd hg5 hM5 (by have:=HB.out;omega) (by have:=HB.out;omega) (by have:=HB.out;omega) (by have:=HB.out;omega) (by have:=HB.out;omega) (by have:=HB.out;omega)
   have hmlt:=HI.out.map.lt
   have k1':w5.cell? ⟨wo.heap.size,1,none⟩=some (.int .i64 z.Kind):=hg5.cell k1 (fun e=>by have:=Option.some.inj e;simp only at this;omega)
   have hb5:=hI5.bel
   obtain ⟨ba,oa,eab,d0⟩:∃ b off,ab=some ⟨b,off,none⟩/\w5.cell? ⟨b,off+k,none⟩=some (.bool (ins k)):=by
    have hkb:k<bs.length:=by rw [HLL.out.2.2.2.2.2.2];exact hkN
    obtain ⟨b,off,e,hh⟩:=(HBS.out.mono hb5) k hkb
    refine ⟨b,off,e,?_⟩
    have:=hh 0 om
    simp only [Nat.mul_one,Nat.add_zero] at this
    rw [this,HINS.out]
    simp [List.getD,hkb]
   have q0:wo.cell? ⟨b6,0,none⟩=some (.slice n.Ns.a N n.Ns.cap):=by rw [HN.out];exact (tank_blk HI.out.k6 0).trans rfl
   have i1:decide (k<N)=true:=decide_eq_true hkN
   have x7:IntKind.i64.wrap ((k:Int)+1)=k+1:=IntWalk.i64_in _ om
   have i4:(0:Int)<=k:=by omega
   have i5:(k:Int)<N:=by omega
   have EA:=qh ea
   have EB:=qh eab
   have HKN:=qh hkN
   have HI5:=qh hI5
   have HKK:=qh hKind
   clear hzx hw2 hgx hM5 hg5 HI2 hkN hI5 hmlt hKind k1
   go_upto_region 6 with (fail)
   rw [<-HW2.out]
   clear c0 c1 c2 c3 c4 c5 c6 c7 c8 HW2
   cases hi:ins k
   ·have HR:Hid (accR n ins x y q (k+1)=accR n ins x y q k/\accL n ins q (k+1)=accL n ins q k):=qh (by
     unfold accR accL
     rw [sg_succ,sg_succ]
     simp only [hi,lostQ]
     simp)
    rw [hi] at d0
    clear hi
    go_wp2_with fail
    clear ea eab
    first|rw [<-EA.out]|skip
    first|rw [<-EB.out]|skip
    go_roundw
    case measure=>have:=HKN.out;simp [RowKit.intOf,x7];omega
    case rel=>exact ⟨k+1,HKN.out,by go_num,by rw [HR.out.1,HR.out.2];exact HI5⟩
   rw [hi] at d0
   have hkn:k<n.Ns.xs.length:=by rw [<-HN.out];exact HKN.out
   obtain ⟨a1,o1,f1,v1⟩:=((rdSt.mono HX.out hb5).1.2.2.1).int k (by rw [HC.out.xv];exact hkn)
   obtain ⟨a2,o2,f2,v2⟩:=((rdSt.mono HX.out hb5).2.1.2.2.1).int k (by rw [HC.out.xp];exact hkn)
   obtain ⟨a3,o3,f3,v3⟩:=((rdSt.mono HY.out hb5).1.2.2.1).int k (by rw [HC.out.yv];exact hkn)
   obtain ⟨a4,o4,f4,v4⟩:=((rdSt.mono HY.out hb5).2.1.2.2.1).int k (by rw [HC.out.yp];exact hkn)
   obtain ⟨a5,o5,f5,v5⟩:=(HQ.out.mono hb5).int k (by rw [HC.out.ql];exact hkn)
   rw [show x.V.xs[k]'(by rw [HC.out.xv];exact hkn)=x.V.xs.getD k 0 from by simp [List.getD,HC.out.xv,hkn]] at v1
   rw [show x.P.xs[k]'(by rw [HC.out.xp];exact hkn)=x.P.xs.getD k 0 from by simp [List.getD,HC.out.xp,hkn]] at v2
   rw [show y.V.xs[k]'(by rw [HC.out.yv];exact hkn)=y.V.xs.getD k 0 from by simp [List.getD,HC.out.yv,hkn]] at v3
   rw [show y.P.xs[k]'(by rw [HC.out.yp];exact hkn)=y.P.xs.getD k 0 from by simp [List.getD,HC.out.yp,hkn]] at v4
   rw [show q[k]'(by rw [HC.out.ql];exact hkn)=q.getD k 0 from by simp [List.getD,HC.out.ql,hkn]] at v5
   have bd:=HC.out.bd k hkn
   have bR:=accR_bd (ins:=ins) HC.out (k:=k) om
   have bL:=accL_bd (ins:=ins) HC.out (k:=k) om
   have hRs:accR n ins x y q (k+1)=accR n ins x y q k+difF x y q k:=by
    unfold accR
    rw [sg_succ,hi]
    simp
   have hdf:difF x y q k=x.V.xs.getD k 0+x.P.xs.getD k 0+q.getD k 0-y.V.xs.getD k 0-y.P.xs.getD k 0:=rfl
   have hLs:accL n ins q (k+1)=accL n ins q k+(if isOut n k then q.getD k 0 else 0):=by
    unfold accL
    rw [sg_succ]
    simp [lostQ,hi]
   rw [hdf] at hRs
   have kr:=HI5.out.k13
   have k8:=HI5.out.k8
   have k9:=HI5.out.k9
   obtain ⟨R,hR⟩:∃ R,R=accR n ins x y q k:=⟨_,rfl⟩
   obtain ⟨LL,hL2⟩:∃ R,R=accL n ins q k:=⟨_,rfl⟩
   obtain ⟨e1,he1⟩:∃ e,e=x.V.xs.getD k 0:=⟨_,rfl⟩
   obtain ⟨e2,he2⟩:∃ e,e=x.P.xs.getD k 0:=⟨_,rfl⟩
   obtain ⟨e3,he3⟩:∃ e,e=y.V.xs.getD k 0:=⟨_,rfl⟩
   obtain ⟨e4,he4⟩:∃ e,e=y.P.xs.getD k 0:=⟨_,rfl⟩
   obtain ⟨e5,he5⟩:∃ e,e=q.getD k 0:=⟨_,rfl⟩
   rw [<-hR] at bR hRs kr
   rw [<-hL2] at bL hLs kr
   rw [<-he1,<-he2,<-he3,<-he4,<-he5] at bd hRs
   rw [<-he5] at hLs v5
   rw [<-he1] at v1
   rw [<-he2] at v2
   rw [<-he3] at v3
   rw [<-he4] at v4
   have HI6:Hid (OfI w w5 b6 b8 b9 b12 b13 bm n x y (k+1) R LL):=qh (by rw [hR,hL2];exact HI5.out)
   have s0:w5.cell? ⟨b8,0,none⟩=some (.slice x.V.a N x.V.cap):=by rw [<-HLL.out.2.2.1];exact (tank_blk k8 0).trans rfl
   have s1:w5.cell? ⟨b8,1,none⟩=some (.slice x.P.a N x.P.cap):=by rw [<-HLL.out.2.2.2.1];exact (tank_blk k8 1).trans rfl
   have r0:w5.cell? ⟨b9,0,none⟩=some (.slice y.V.a N y.V.cap):=by rw [<-HLL.out.2.2.2.2.1];exact (tank_blk k9 0).trans rfl
   have r1:w5.cell? ⟨b9,1,none⟩=some (.slice y.P.a N y.P.cap):=by rw [<-HLL.out.2.2.2.2.2.1];exact (tank_blk k9 1).trans rfl
   rw [f1] at s0
   rw [f2] at s1
   rw [f3] at r0
   rw [f4] at r1
   have g0:w5.cell? ⟨b13,0,none⟩=some (.int .i64 R):=(tank_blk kr 0).trans rfl
   have g1:w5.cell? ⟨b13,1,none⟩=some (.int .i64 LL):=(tank_blk kr 1).trans rfl
   have gf0:w5.frozen? ⟨b13,0,none⟩=false:=tank_free kr 0
   have gf1:w5.frozen? ⟨b13,1,none⟩=false:=tank_free kr 1
   have y1:IntKind.i64.wrap (e1+e2)=e1+e2:=IntWalk.i64_in _ om
   have y2:IntKind.i64.wrap (e1+e2+e5)=e1+e2+e5:=IntWalk.i64_in _ om
   have y3:IntKind.i64.wrap (e1+e2+e5-e3)=e1+e2+e5-e3:=IntWalk.i64_in _ om
   have y4:IntKind.i64.wrap (e1+e2+e5-e3-e4)=e1+e2+e5-e3-e4:=IntWalk.i64_in _ om
   have y5:IntKind.i64.wrap (R+(e1+e2+e5-e3-e4))=R+(e1+e2+e5-e3-e4):=IntWalk.i64_in _ om
   have y6:IntKind.i64.wrap (LL+e5)=LL+e5:=IntWalk.i64_in _ om
   have HRS:=qh (And.intro hRs hLs)
   have F5:=qh f5
   have hlt13:b13<w5.heap.size:=(Array.getElem?_eq_some_iff.1 kr).1
   have hlto:wo.heap.size<w5.heap.size:=lt_of_isSome (a:=⟨wo.heap.size,1,none⟩) (by rw [k1'];rfl)
   have hneo:wo.heap.size≠b13:=by have:=HB.out;have:=(Array.getElem?_eq_some_iff.1 HI.out.k13).1;omega
   obtain ⟨W8,hW8⟩:∃ W8,W8=(w5.setCell ⟨b13,0,none⟩ (.int .i64 (R+(e1+e2+e5-e3-e4)))).drew:=⟨_,rfl⟩
   have HI8:Hid (OfI w W8 b6 b8 b9 b12 b13 bm n x y (k+1) (R+(e1+e2+e5-e3-e4)) LL):=qh (by rw [hW8];exact (HI6.out.setR (by have:=HB.out;omega) (by have:=HB.out;omega) (by have:=HB.out;omega) (by have:=HB.out;omega) (by have:=HB.out;omega) (by have:=HB.out;omega) _).grow (Below.drew qr))
   have kd:W8.cell? ⟨wo.heap.size,1,none⟩=some (.int .i64 z.Kind):=by
    rw [hW8]
    exact (World.cell?_of_block (w:=w5) (w':=w5.setCell ⟨b13,0,none⟩ (.int .i64 (R+(e1+e2+e5-e3-e4)))) (Below.heap_setCell _ _ _ _ hneo)).trans k1'
   have HW8:=qh hW8
   have HE5:=qh he5
   clear hR hL2 he1 he2 he3 he4 he5 hRs hLs kr k8 k9 bd bR bL hi HI5 HI6 hdf f1 f2 f3 f4 hlt13 hW8 hneo hlto
   go_upto_region 8 with (fail)
   go_still_tail 32,(by kernel_rfl)
   change wpList _ _ _ _ _ w5.drew
   go_upto_region 9 with (fail)
   first|rw [<-HW8.out]|fail "W8"
   clear y1 y2 y3 y4 y5 s0 s1 r0 r1 v1 v2 v3 v4 g0 gf0 k1' d0 hup HW8
   have k13:=HI8.out.k13
   have g1:W8.cell? ⟨b13,1,none⟩=some (.int .i64 LL):=(tank_blk k13 1).trans rfl
   have gf1:W8.frozen? ⟨b13,1,none⟩=false:=tank_free k13 1
   have f5:=F5.out
   cases hz:(z.Kind==3)
   ·have hR:=HRS.out.1
    have hL:=HRS.out.2
    rw [HKK.out,show decide (z.Kind=3)=false from hz] at hL
    simp only [Bool.false_eq_true,if_false,Int.add_zero] at hL
    have HI9:Hid (OfI w W8 b6 b8 b9 b12 b13 bm n x y (k+1) (accR n ins x y q (k+1)) (accL n ins q (k+1))):=qh (by rw [hR,hL];exact HI8.out)
    clear hR hL k13 g1 gf1 f5 HI8
    go_wp2_with fail
    clear ea eab
    first|rw [<-F5.out]|skip
    first|rw [<-EA.out]|skip
    first|rw [<-EB.out]|skip
    go_roundw
    case measure=>have:=HKN.out;simp [RowKit.intOf,x7];omega
    case rel=>exact ⟨k+1,HKN.out,by go_num,HI9⟩
   ·have hR:=HRS.out.1
    have hL:=HRS.out.2
    rw [HKK.out,show decide (z.Kind=3)=true from hz] at hL
    simp only [if_true] at hL
    have d5:=v5
    obtain ⟨W10,hW10⟩:∃ W10,W10=(W8.setCell ⟨b13,1,none⟩ (.int .i64 (LL+e5))).drew:=⟨_,rfl⟩
    have HI9:Hid (OfI w W10 b6 b8 b9 b12 b13 bm n x y (k+1) (accR n ins x y q (k+1)) (accL n ins q (k+1))):=qh (by
     rw [hW10,hR,hL]
     exact (HI8.out.setL (by have:=HB.out;omega) (by have:=HB.out;omega) (by have:=HB.out;omega) (by have:=HB.out;omega) (by have:=HB.out;omega) (by have:=HB.out;omega) _).grow (Below.drew qr))
    have d8:W8.cell? ⟨a5,o5+k,none⟩=some (.int .i64 e5):=by
     obtain ⟨a6,o6,f6,v6⟩:=(HQ.out.mono HI8.out.bel).int k (by rw [HC.out.ql,<-HN.out];exact HKN.out)
     have hkq:k<q.length:=by rw [HC.out.ql,<-HN.out];exact HKN.out
     rw [F5.out] at f6
     simp only [Option.some.injEq,Addr.mk.injEq] at f6
     rw [f6.1,f6.2.1,v6,HE5.out]
     simp [List.getD,hkq]
    have HW10:=qh hW10
    clear hR hL k13 HI8 v5 d5 hW10
    go_upto_region 10 with (fail)
    go_still_tail 8,(by kernel_rfl)
    change wpList _ _ _ _ _ W8.drew
    go_upto_region 11 with (fail)
    first|rw [<-HW10.out]|fail "W10"
    clear HW10 d8 g1 gf1 f5
    go_wp2_with fail
    clear ea eab
    first|rw [<-F5.out]|skip
    first|rw [<-EA.out]|skip
    first|rw [<-EB.out]|skip
    go_roundw
    case measure=>have:=HKN.out;simp [RowKit.intOf,x7];omega
    case rel=>exact ⟨k+1,HKN.out,by go_num,HI9⟩
  ·have hkN2:N=k:=by omega
   subst hkN2
   have i1:decide (N<N)=false:=decide_eq_false (Nat.lt_irrefl N)
   have q1:wo.cell? ⟨b6,1,none⟩=some (.slice n.Ls.a M n.Ls.cap):=by rw [HM.out];exact (tank_blk HI.out.k6 1).trans rfl
   go_upto_region 13 with (fail)
   clear i1 q1 hkN
   have bR:=accR_bd (ins:=ins) HC.out (k:=N) (by rw [<-HN.out];exact Nat.le_refl _)
   have bL:=accL_bd (ins:=ins) HC.out (k:=N) (by rw [<-HN.out];exact Nat.le_refl _)
   obtain ⟨RN,hRN⟩:∃ R,R=accR n ins x y q N:=⟨_,rfl⟩
   obtain ⟨LN,hLN⟩:∃ R,R=accL n ins q N:=⟨_,rfl⟩
   rw [<-hRN] at bR HI
   rw [<-hLN] at bL HI
   have HRN:=qh hRN
   have HLN:=qh hLN
   have HBRL:=qh (And.intro bR bL)
   clear hRN hLN bR bL
   go_loopw [86] (fun s86 wx=>∃ j:Nat,j<=M/\s86=.int .i64 j/\Hid (OfI w wx b6 b8 b9 b12 b13 bm n x y N (RN+sg (linkF n ins p) j) (LN+sg (lostP n ins p) j))) (fun s86 _=>M-(RowKit.intOf s86).toNat)
   case atStart=>exact ⟨0,Nat.zero_le _,rfl,qh (by simpa [sg] using HI.out)⟩
   clear HI
   case round=>
    obtain ⟨j,hj,rfl,HI⟩:=hrel
    obtain ⟨wx,hwx⟩:∃ wx,wx=wr:=⟨_,rfl⟩
    subst hwx
    by_cases hjM:j<M
    ·have hjl:j<n.Ls.xs.length:=by rw [<-HM.out];exact hjM
     have hbo:=HI.out.bel
     have hgx:=((rdNet.mono HG.out hbo).2.2.2.2 _ (List.getElem_mem hjl))
     obtain ⟨bl,ol,el,c0,c1,c2,c3,c4,c5,c6,c7,c8,c9,c10⟩:=((rdNet.mono HG.out hbo).2.2.2.1).lk j hjl
     have hend:=ends_lt HC.out.net hjl
     have hfd:=netB_lk HC.out.net j hjl
     obtain ⟨f,hf⟩:∃ f,f=frmN n j:=⟨_,rfl⟩
     obtain ⟨t,ht⟩:∃ t,t=toN n j:=⟨_,rfl⟩
     have hf2:findNd n.Ns.xs n.Ls.xs[j].From=(f:Int):=by
      rw [hf];unfold frmN
      rw [show n.Ls.xs.getD j default=n.Ls.xs[j] from by simp [List.getD,hjl]]
      omega
     have ht2:findNd n.Ns.xs n.Ls.xs[j].To=(t:Int):=by
      rw [ht];unfold toN
      rw [show n.Ls.xs.getD j default=n.Ls.xs[j] from by simp [List.getD,hjl]]
      omega
     rw [<-hf,<-ht] at hend
     have HFT:Hid (f=frmN n j/\t=toN n j):=qh ⟨hf,ht⟩
     obtain ⟨z,hzx⟩:∃ z,z=n.Ls.xs[j]'hjl:=⟨_,rfl⟩
     rw [<-hzx] at c0 c1 c2 c3 c4 c5 c6 c7 c8 c9 c10 hgx hf2 ht2
     obtain ⟨w2,hw2⟩:∃ w2,w2=wx.alloc (.cells (eLk z).toArray 61):=⟨_,rfl⟩
     have hbA:Below wx.heap.size wx w2:=by rw [hw2];exact alloc_below _ _
     obtain ⟨k0,k1,k2,-⟩:=boxLk wx w2 61 z _ rfl _ rfl (by rw [hw2];exact qr)
     have HW2:=qh hw2
     have HI2:=qh (HI.out.grow (hbA.trans (Below.drew qr)))
     have hmap:MapN w2.drew bm n n.Ns.xs.length:=by rw [<-HN.out];exact HI2.out.map
     have hl1:=hmap.look hgx.src hf2
     have hl2:=hmap.look hgx.dst ht2
     have hfn:f<bs.length:=by rw [HLL.out.2.2.2.2.2.2,HN.out];exact hend.1
     have htn:t<bs.length:=by rw [HLL.out.2.2.2.2.2.2,HN.out];exact hend.2
     obtain ⟨ba,oa,eab,hh⟩:=HBS.out f hfn
     have dfw:w.cell? ⟨ba,oa+f,none⟩=some (.bool (ins f)):=by
      have:=hh 0 om
      simp only [Nat.mul_one,Nat.add_zero] at this
      rw [this,HINS.out]
      simp [List.getD,hfn]
     obtain ⟨ba2,oa2,eab2,hh2⟩:=HBS.out t htn
     rw [eab] at eab2
     simp only [Option.some.injEq,Addr.mk.injEq,and_true] at eab2
     have dtw:w.cell? ⟨ba,oa+t,none⟩=some (.bool (ins t)):=by
      have:=hh2 0 om
      simp only [Nat.mul_one,Nat.add_zero] at this
      rw [eab2.1,eab2.2,this,HINS.out]
      simp [List.getD,htn]
     have df:=cel_lt dfw HI2.out.bel
     have dt:=cel_lt dtw HI2.out.bel
     have hpl:j<p.length:=by rw [HC.out.pl];exact hjl
     obtain ⟨ap2,op2,ep,vpw⟩:=HP.out.int j hpl
     rw [show p[j]'hpl=p.getD j 0 from by simp [List.getD,hpl]] at vpw
     have bd:=HC.out.pb j hjl
     have bP:=accP_bd (ins:=ins) HC.out (j:=j) om
     have bRL:=HBRL.out
     obtain ⟨pj,hpj⟩:∃ e,e=p.getD j 0:=⟨_,rfl⟩
     have HPJ:Hid (p.getD j 0=pj):=qh hpj.symm
     rw [<-hpj] at bd vpw
     obtain ⟨RJ,hRJ⟩:∃ R,R=RN+sg (linkF n ins p) j:=⟨_,rfl⟩
     obtain ⟨LJ,hLJ⟩:∃ R,R=LN+sg (lostP n ins p) j:=⟨_,rfl⟩
     rw [<-hRJ,<-hLJ] at HI2
     have hlf:RN+sg (linkF n ins p) (j+1)=RJ+(if ins t && !ins f then pj else if ins f && !ins t then -pj else 0):=by
      rw [sg_succ,hRJ]
      unfold linkF
      rw [<-hf,<-ht,<-hpj]
      omega
     have hlp:LN+sg (lostP n ins p) (j+1)=LJ+(if ins t&&isOut n t then pj else 0):=by
      rw [sg_succ,hLJ]
      unfold lostP
      rw [<-ht,<-hpj]
      omega
     have y1:IntKind.i64.wrap (RJ+pj)=RJ+pj:=IntWalk.i64_in _ om
     have y2:IntKind.i64.wrap (RJ-pj)=RJ-pj:=IntWalk.i64_in _ om
     have y3:IntKind.i64.wrap (LJ+pj)=LJ+pj:=IntWalk.i64_in _ om
     have q1:wx.cell? ⟨b6,1,none⟩=some (.slice n.Ls.a M n.Ls.cap):=by rw [HM.out];exact (tank_blk HI.out.k6 1).trans rfl
     have i1:decide (j<M)=true:=decide_eq_true hjM
     have x7:IntKind.i64.wrap ((j:Int)+1)=j+1:=IntWalk.i64_in _ om
     have i4:(0:Int)<=j:=by omega
     have i5:(j:Int)<M:=by omega
     have i6:(0:Int)<=f:=by omega
     have i7:(f:Int)<N:=by rw [HN.out];omega
     have i8:(0:Int)<=t:=by omega
     have i9:(t:Int)<N:=by rw [HN.out];omega
     have HTN:Hid (t<n.Ns.xs.length):=qh hend.2
     have VPW:=qh vpw
     have DTW:=qh dtw
     have EP:=qh ep
     have EL:=qh el
     have EB:=qh eab
     have HJM:=qh hjM
     have HLF:=qh hlf
     have HLP:=qh hlp
     clear hzx hw2 hgx hf ht hf2 ht2 hend hfd hh hh2 eab2 hmap hpj vpw dfw dtw ep hpl hRJ hLJ hlf hlp bd bP bRL hjM hjl HI hfn htn
     go_upto_region 15 with (fail)
     rw [<-HW2.out]
     clear c0 c1 c2 c3 c4 c5 c6 c7 c8 c9 c10 HW2 q1 k0
     go_region
     obtain ⟨wd,hwd⟩:∃ wd,wd=w2.drew:=⟨_,rfl⟩
     rw [<-hwd] at HI2 df dt ⊢
     clear hwd hl1 hl2 k1 k2
     cases it:ins t
     ·rw [it] at dt
      cases jf:ins f
      ·rw [jf] at df
       have HIX:Hid (OfI w wd b6 b8 b9 b12 b13 bm n x y N (RN+sg (linkF n ins p) (j+1)) (LN+sg (lostP n ins p) (j+1))):=qh (by
        rw [HLF.out,HLP.out,it,jf]
        simpa using HI2.out)
       clear it jf HI2
       go_wp2_with fail
       clear el eab
       first|rw [<-EP.out]|skip
       first|rw [<-EN.out]|skip
       first|rw [<-EB.out]|skip
       first|rw [<-EL.out]|skip
       go_roundw
       case measure=>have:=HJM.out;simp [RowKit.intOf,x7];omega
       case rel=>exact ⟨j+1,HJM.out,by go_num,HIX⟩
      ·rw [jf] at df
       have v0:=cel_lt VPW.out HI2.out.bel
       have ep:=EP.out
       have k13:=HI2.out.k13
       have g0:wd.cell? ⟨b13,0,none⟩=some (.int .i64 RJ):=(tank_blk k13 0).trans rfl
       have gf0:wd.frozen? ⟨b13,0,none⟩=false:=tank_free k13 0
       obtain ⟨W17,hW17⟩:∃ W17,W17=(wd.setCell ⟨b13,0,none⟩ (.int .i64 (RJ-pj))).drew:=⟨_,rfl⟩
       have HI17:Hid (OfI w W17 b6 b8 b9 b12 b13 bm n x y N (RJ-pj) LJ):=qh (by
        rw [hW17]
        exact (HI2.out.setR (by have:=HB.out;omega) (by have:=HB.out;omega) (by have:=HB.out;omega) (by have:=HB.out;omega) (by have:=HB.out;omega) (by have:=HB.out;omega) _).grow (Below.drew qr))
       have HW17:=qh hW17
       clear hW17 k13 HI2
       go_upto_region 19 with (fail)
       go_still_tail 8,(by kernel_rfl)
       change wpList _ _ _ _ _ wd.drew
       go_upto_region 20 with (fail)
       first|rw [<-HW17.out]|fail "W17"
       clear HW17 g0 gf0 v0 dt df
       have HIX:Hid (OfI w W17 b6 b8 b9 b12 b13 bm n x y N (RN+sg (linkF n ins p) (j+1)) (LN+sg (lostP n ins p) (j+1))):=qh (by
        rw [HLF.out,HLP.out,it,jf]
        simpa [Int.sub_eq_add_neg] using HI17.out)
       have dt:=cel_lt DTW.out HI17.out.bel
       rw [it] at dt
       clear it jf HI17
       go_wp2_with fail
       clear el eab ep
       first|rw [<-EP.out]|skip
       first|rw [<-EN.out]|skip
       first|rw [<-EB.out]|skip
       first|rw [<-EL.out]|skip
       go_roundw
       case measure=>have:=HJM.out;simp [RowKit.intOf,x7];omega
       case rel=>exact ⟨j+1,HJM.out,by go_num,HIX⟩
     ·rw [it] at dt
      cases jf:ins f
      ·rw [jf] at df
       have v0:=cel_lt VPW.out HI2.out.bel
       have ep:=EP.out
       have k13:=HI2.out.k13
       have g0:wd.cell? ⟨b13,0,none⟩=some (.int .i64 RJ):=(tank_blk k13 0).trans rfl
       have gf0:wd.frozen? ⟨b13,0,none⟩=false:=tank_free k13 0
       obtain ⟨W17,hW17⟩:∃ W17,W17=(wd.setCell ⟨b13,0,none⟩ (.int .i64 (RJ+pj))).drew:=⟨_,rfl⟩
       have HI17:Hid (OfI w W17 b6 b8 b9 b12 b13 bm n x y N (RJ+pj) LJ):=qh (by
        rw [hW17]
        exact (HI2.out.setR (by have:=HB.out;omega) (by have:=HB.out;omega) (by have:=HB.out;omega) (by have:=HB.out;omega) (by have:=HB.out;omega) (by have:=HB.out;omega) _).grow (Below.drew qr))
       have HW17:=qh hW17
       clear hW17 k13 HI2
       go_upto_region 17 with (fail)
       go_still_tail 8,(by kernel_rfl)
       change wpList _ _ _ _ _ wd.drew
       go_upto_region 20 with (fail)
       first|rw [<-HW17.out]|fail "W17"
       clear HW17 g0 gf0 v0 dt df
       have HLS:Hid ((RN+sg (linkF n ins p) (j+1)=RJ+pj)/\(isOut n t=false->LN+sg (lostP n ins p) (j+1)=LJ)):=qh ⟨by rw [HLF.out,it,jf];simp,fun h=>by rw [HLP.out,it,h];simp⟩
       have HLT:Hid (isOut n t=true->LN+sg (lostP n ins p) (j+1)=LJ+pj):=qh (fun h=>by rw [HLP.out,it,h];simp)
       have dt:=cel_lt DTW.out HI17.out.bel
       rw [it] at dt
       clear it jf ep
       have v0:=cel_lt VPW.out HI17.out.bel
       have ep:=EP.out
       obtain ⟨bn,on,en,n0,n1,-⟩:=((rdNet.mono HG.out HI17.out.bel).1.2.2.1).nd t HTN.out
       obtain ⟨kt,hkt⟩:∃ kt,kt=(n.Ns.xs[t]'HTN.out).Kind:=⟨_,rfl⟩
       have HKT:Hid (isOut n t=(kt==3)):=qh (by
        unfold isOut
        rw [ndK_at HTN.out,hkt]
        rfl)
       rw [<-hkt] at n1
       have q0:(W17).cell? ⟨b6,0,none⟩=some (.slice n.Ns.a N n.Ns.cap):=by rw [HN.out];exact (tank_blk HI17.out.k6 0).trans rfl
       rw [en] at q0
       have EN:=qh en
       have k13:=HI17.out.k13
       have g1:(W17).cell? ⟨b13,1,none⟩=some (.int .i64 LJ):=(tank_blk k13 1).trans rfl
       have gf1:(W17).frozen? ⟨b13,1,none⟩=false:=tank_free k13 1
       clear hkt k13 n0
       cases hz:(kt==3)
       ·have HIX:Hid (OfI w W17 b6 b8 b9 b12 b13 bm n x y N (RN+sg (linkF n ins p) (j+1)) (LN+sg (lostP n ins p) (j+1))):=qh (by
         rw [HLS.out.2 (by rw [HKT.out,hz])]
         rw [HLS.out.1]
         exact HI17.out)
        clear g1 gf1 ep v0 HI17
        go_wp2_with fail
        clear el eab en
        first|rw [<-EP.out]|skip
        first|rw [<-EN.out]|skip
        first|rw [<-EB.out]|skip
        first|rw [<-EL.out]|skip
        go_roundw
        case measure=>have:=HJM.out;simp [RowKit.intOf,x7];omega
        case rel=>exact ⟨j+1,HJM.out,by go_num,HIX⟩
       ·obtain ⟨W10,hW10⟩:∃ W10,W10=((W17).setCell ⟨b13,1,none⟩ (.int .i64 (LJ+pj))).drew:=⟨_,rfl⟩
        have HIX:Hid (OfI w W10 b6 b8 b9 b12 b13 bm n x y N (RN+sg (linkF n ins p) (j+1)) (LN+sg (lostP n ins p) (j+1))):=qh (by
         rw [HLT.out (by rw [HKT.out,hz])]
         rw [HLS.out.1,hW10]
         exact (HI17.out.setL (by have:=HB.out;omega) (by have:=HB.out;omega) (by have:=HB.out;omega) (by have:=HB.out;omega) (by have:=HB.out;omega) (by have:=HB.out;omega) _).grow (Below.drew qr))
        have HW10:=qh hW10
        clear hW10
        go_upto_region 21 with (fail)
        go_still_tail 8,(by kernel_rfl)
        change wpList _ _ _ _ _ (W17).drew
        go_upto_region 22 with (fail)
        first|rw [<-HW10.out]|fail "W10"
        clear HW10 g1 gf1 v0 HI17
        go_wp2_with fail
        clear el eab en ep
        first|rw [<-EP.out]|skip
        first|rw [<-EN.out]|skip
        first|rw [<-EB.out]|skip
        first|rw [<-EL.out]|skip
        go_roundw
        case measure=>have:=HJM.out;simp [RowKit.intOf,x7];omega
        case rel=>exact ⟨j+1,HJM.out,by go_num,HIX⟩
      ·rw [jf] at df
       have HLS:Hid ((RN+sg (linkF n ins p) (j+1)=RJ)/\(isOut n t=false->LN+sg (lostP n ins p) (j+1)=LJ)):=qh ⟨by rw [HLF.out,it,jf];simp,fun h=>by rw [HLP.out,it,h];simp⟩
       have HLT:Hid (isOut n t=true->LN+sg (lostP n ins p) (j+1)=LJ+pj):=qh (fun h=>by rw [HLP.out,it,h];simp)
       clear it jf
       have v0:=cel_lt VPW.out HI2.out.bel
       have ep:=EP.out
       obtain ⟨bn,on,en,n0,n1,-⟩:=((rdNet.mono HG.out HI2.out.bel).1.2.2.1).nd t HTN.out
       obtain ⟨kt,hkt⟩:∃ kt,kt=(n.Ns.xs[t]'HTN.out).Kind:=⟨_,rfl⟩
       have HKT:Hid (isOut n t=(kt==3)):=qh (by
        unfold isOut
        rw [ndK_at HTN.out,hkt]
        rfl)
       rw [<-hkt] at n1
       have q0:(wd).cell? ⟨b6,0,none⟩=some (.slice n.Ns.a N n.Ns.cap):=by rw [HN.out];exact (tank_blk HI2.out.k6 0).trans rfl
       rw [en] at q0
       have EN:=qh en
       have k13:=HI2.out.k13
       have g1:(wd).cell? ⟨b13,1,none⟩=some (.int .i64 LJ):=(tank_blk k13 1).trans rfl
       have gf1:(wd).frozen? ⟨b13,1,none⟩=false:=tank_free k13 1
       clear hkt k13 n0
       cases hz:(kt==3)
       ·have HIX:Hid (OfI w wd b6 b8 b9 b12 b13 bm n x y N (RN+sg (linkF n ins p) (j+1)) (LN+sg (lostP n ins p) (j+1))):=qh (by
         rw [HLS.out.2 (by rw [HKT.out,hz])]
         rw [HLS.out.1]
         exact HI2.out)
        clear g1 gf1 ep v0 HI2
        go_wp2_with fail
        clear el eab en
        first|rw [<-EP.out]|skip
        first|rw [<-EN.out]|skip
        first|rw [<-EB.out]|skip
        first|rw [<-EL.out]|skip
        go_roundw
        case measure=>have:=HJM.out;simp [RowKit.intOf,x7];omega
        case rel=>exact ⟨j+1,HJM.out,by go_num,HIX⟩
       ·obtain ⟨W10,hW10⟩:∃ W10,W10=((wd).setCell ⟨b13,1,none⟩ (.int .i64 (LJ+pj))).drew:=⟨_,rfl⟩
        have HIX:Hid (OfI w W10 b6 b8 b9 b12 b13 bm n x y N (RN+sg (linkF n ins p) (j+1)) (LN+sg (lostP n ins p) (j+1))):=qh (by
         rw [HLT.out (by rw [HKT.out,hz])]
         rw [HLS.out.1,hW10]
         exact (HI2.out.setL (by have:=HB.out;omega) (by have:=HB.out;omega) (by have:=HB.out;omega) (by have:=HB.out;omega) (by have:=HB.out;omega) (by have:=HB.out;omega) _).grow (Below.drew qr))
        have HW10:=qh hW10
        clear hW10
        go_upto_region 21 with (fail)
        go_still_tail 8,(by kernel_rfl)
        change wpList _ _ _ _ _ (wd).drew
        go_upto_region 22 with (fail)
        first|rw [<-HW10.out]|fail "W10"
        clear HW10 g1 gf1 v0 HI2
        go_wp2_with fail
        clear el eab en ep
        first|rw [<-EP.out]|skip
        first|rw [<-EN.out]|skip
        first|rw [<-EB.out]|skip
        first|rw [<-EL.out]|skip
        go_roundw
        case measure=>have:=HJM.out;simp [RowKit.intOf,x7];omega
        case rel=>exact ⟨j+1,HJM.out,by go_num,HIX⟩
    ·have hjM2:M=j:=by omega
     subst hjM2
     have i1:decide (M<M)=false:=decide_eq_false (Nat.lt_irrefl M)
     have bP:=accP_bd (ins:=ins) HC.out (j:=M) (by rw [<-HM.out];exact Nat.le_refl _)
     have bRL:=HBRL.out
     obtain ⟨RJ,hRJ⟩:∃ R,R=RN+sg (linkF n ins p) M:=⟨_,rfl⟩
     obtain ⟨LJ,hLJ⟩:∃ R,R=LN+sg (lostP n ins p) M:=⟨_,rfl⟩
     rw [<-hRJ,<-hLJ] at HI
     have HFIN:Hid (accR n ins x y q N+sg (linkF n ins p) M-(accL n ins q N+sg (lostP n ins p) M)=RJ-LJ/\accL n ins q N+sg (lostP n ins p) M=LJ):=qh (by rw [<-HRN.out,<-HLN.out,<-hRJ,<-hLJ];exact ⟨rfl,rfl⟩)
     have y1:IntKind.i64.wrap (RJ-LJ)=RJ-LJ:=IntWalk.i64_in _ om
     have k13:=HI.out.k13
     have g0:wx.cell? ⟨b13,0,none⟩=some (.int .i64 RJ):=(tank_blk k13 0).trans rfl
     have g1:wx.cell? ⟨b13,1,none⟩=some (.int .i64 LJ):=(tank_blk k13 1).trans rfl
     have gf0:wx.frozen? ⟨b13,0,none⟩=false:=tank_free k13 0
     obtain ⟨W1,hW1⟩:∃ W1,W1=wx.setCell ⟨b13,0,none⟩ (.int .i64 (RJ-LJ)):=⟨_,rfl⟩
     have HI1:OfI w W1 b6 b8 b9 b12 b13 bm n x y N (RJ-LJ) LJ:=by
      rw [hW1]
      exact HI.out.setR (by have:=HB.out;omega) (by have:=HB.out;omega) (by have:=HB.out;omega) (by have:=HB.out;omega) (by have:=HB.out;omega) (by have:=HB.out;omega) _
     have HW1:=qh hW1
     clear hRJ hLJ hW1 bP bRL k13 HI hjM
     go_upto_region 24 with (fail)
     first|rw [<-HW1.out]|fail "W1"
     clear g0 g1 gf0 HW1
     have g0:W1.cell? ⟨b13,0,none⟩=some (.int .i64 (RJ-LJ)):=(tank_blk HI1.k13 0).trans rfl
     have g1:W1.cell? ⟨b13,1,none⟩=some (.int .i64 LJ):=(tank_blk HI1.k13 1).trans rfl
     have h0:W1.cell? ⟨b12,0,none⟩=some (.int .i64 0):=(tank_blk HI1.k12 0).trans rfl
     have h1:W1.cell? ⟨b12,1,none⟩=some (.int .i64 0):=(tank_blk HI1.k12 1).trans rfl
     have hf0:W1.frozen? ⟨b12,0,none⟩=false:=tank_free HI1.k12 0
     have hf1:W1.frozen? ⟨b12,1,none⟩=false:=tank_free HI1.k12 1
     have HBE:=qh HI1.bel
     have hwb:w.heap.size<=b12:=by have:=HB.out;omega
     clear HI1
     go_wp2_with fail
     have hbf:Below w.heap.size w ((W1.setCell ⟨b12,0,none⟩ (.int .i64 (RJ-LJ))).setCell ⟨b12,1,none⟩ (.int .i64 LJ)):=(HBE.out.setCell (p:=⟨b12,0,none⟩) hwb _).setCell (p:=⟨b12,1,none⟩) hwb _
     have z0:((W1.setCell ⟨b12,0,none⟩ (.int .i64 (RJ-LJ))).setCell ⟨b12,1,none⟩ (.int .i64 LJ)).cell? ⟨b12,0,none⟩=some (.int .i64 (RJ-LJ)):=by simp [go_sem,h0]
     have z1:((W1.setCell ⟨b12,0,none⟩ (.int .i64 (RJ-LJ))).setCell ⟨b12,1,none⟩ (.int .i64 LJ)).cell? ⟨b12,1,none⟩=some (.int .i64 LJ):=by simp [go_sem,h1]
     exact bodyPost_ret (v:=.agg #[.int .i64 (RJ-LJ),.int .i64 LJ]) (by simp (maxDischargeDepth:=9) [results,Tryz.results62,go_sem,z0,z1]) rfl ⟨by rw [HFIN.out.1,HFIN.out.2],hbf⟩
end Go.Proofs.YtoiakijmbghhlaaGreat
