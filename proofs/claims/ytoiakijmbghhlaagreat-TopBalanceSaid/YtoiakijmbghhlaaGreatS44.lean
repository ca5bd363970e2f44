/- balance.Step at what a step hands back. Conditions: the arguments read as data and come of a step. -/
import Derived.Test.YtoiakijmbghhlaaGreatS42
import Derived.Test.YtoiakijmbghhlaaGreatS43
import Derived.Test.YtoiakijmbghhlaaGreatS40
set_option linter.unusedVariables false
set_option linter.unusedSimpArgs false
set_option maxRecDepth 100000
set_option maxHeartbeats 32000000
namespace Go.Proofs.YtoiakijmbghhlaaGreat
open Go.RowKit Go.Maps
abbrev ssA (n:Net) (x y:St) (q:List Int) (aq:Option Addr) (cq:Nat) (g:Led) (w:World) (u:Nat->Value):Act:=⟨#[.agg #[.slice n.Ns.a n.Ns.xs.length n.Ns.cap,.slice n.Ls.a n.Ls.xs.length n.Ls.cap],.agg #[.slice x.V.a x.V.xs.length x.V.cap,.slice x.P.a x.P.xs.length x.P.cap,.slice x.S.a x.S.xs.length x.S.cap,.slice x.O.a x.O.xs.length x.O.cap],.agg #[.slice y.V.a y.V.xs.length y.V.cap,.slice y.P.a y.P.xs.length y.P.cap,.slice y.S.a y.S.xs.length y.S.cap,.slice y.O.a y.O.xs.length y.O.cap],.slice aq q.length cq,.agg #[.int .i64 g.I,.int .i64 g.O,.slice g.P.a g.P.xs.length g.P.cap],.pointer (some ⟨w.heap.size,0,none⟩),.pointer (some ⟨w.heap.size+1,0,none⟩),.pointer (some ⟨w.heap.size+2,0,none⟩),undef,.pointer (some ⟨w.heap.size+3,0,none⟩),.bool false,.int .i64 0,.int .i64 0,.int .i64 0,u 12,undef,.agg #[.slice n.Ns.a n.Ns.xs.length n.Ns.cap,.slice n.Ls.a n.Ls.xs.length n.Ls.cap],.agg #[.slice x.V.a x.V.xs.length x.V.cap,.slice x.P.a x.P.xs.length x.P.cap,.slice x.S.a x.S.xs.length x.S.cap,.slice x.O.a x.O.xs.length x.O.cap],.agg #[.slice y.V.a y.V.xs.length y.V.cap,.slice y.P.a y.P.xs.length y.P.cap,.slice y.S.a y.S.xs.length y.S.cap,.slice y.O.a y.O.xs.length y.O.cap],.slice aq q.length cq,.agg #[.int .i64 g.I,.int .i64 g.O,.slice g.P.a g.P.xs.length g.P.cap],.int .i64 0,.int .i64 0,.bool false,undef,u 0,u 1,u 2,u 3,u 4,u 5,u 6,u 7,u 8,u 9,u 10,u 11,undef,undef,undef,undef,undef,undef,undef,undef,undef,undef,undef,undef,undef,undef,undef,undef,undef,undef,undef,undef,undef,undef,undef,undef,undef,undef,undef,undef,undef,undef,undef,undef,undef,undef,undef,undef,undef,undef],[]⟩
def ssF (n:Net) (x y:St) (q:List Int) (aq:Option Addr) (cq:Nat) (g:Led) (w:World):Nat->World->Value->Prop
 | 0,_,v=>v=.agg #[.slice n.Ns.a n.Ns.xs.length n.Ns.cap,.slice n.Ls.a n.Ls.xs.length n.Ls.cap]
 | 1,W,v=>∃ b,v=.slice (some ⟨b,0,none⟩) 1 1/\W.cell? ⟨b,0,none⟩=some (.bool true)
 | 2,_,v=>v=.pointer (some ⟨w.heap.size,0,none⟩)
 | 3,_,v=>v=.slice n.Ns.a n.Ns.xs.length n.Ns.cap
 | 4,_,v=>v=.int .i64 (n.Ns.xs.length:Int)
 | 5,W,v=>IsBools W v (List.replicate n.Ns.xs.length true)
 | 6,_,v=>v=.agg #[.slice x.V.a x.V.xs.length x.V.cap,.slice x.P.a x.P.xs.length x.P.cap,.slice x.S.a x.S.xs.length x.S.cap,.slice x.O.a x.O.xs.length x.O.cap]
 | 7,_,v=>v=.agg #[.slice y.V.a y.V.xs.length y.V.cap,.slice y.P.a y.P.xs.length y.P.cap,.slice y.S.a y.S.xs.length y.S.cap,.slice y.O.a y.O.xs.length y.O.cap]
 | 8,_,v=>v=.slice aq q.length cq
 | 9,_,v=>v=.pointer (some ⟨w.heap.size+3,2,none⟩)
 | 10,_,v=>v=.slice g.P.a g.P.xs.length g.P.cap
 | 11,_,v=>v=.agg #[.int .i64 0,.int .i64 g.O]
 | 12,W,v=>∃ B,v=.pointer (some ⟨B,0,none⟩)/\w.heap.size+4<=B/\W.heap[B]? = some (.cells #[.int .i64 0,.int .i64 0] 132 (0,0))
 | _,_,_=>True
def ssR (g:Led) (w:World) (V:World) (u:Nat->Value) (W:World):Prop:=∃ B,u 12=.pointer (some ⟨B,0,none⟩)/\w.heap.size+4<=B/\V.heap[B]? = some (.cells #[.int .i64 0,.int .i64 0] 132 (0,0))/\W=(V.setCell ⟨B,0,none⟩ (.int .i64 0)).setCell ⟨B,1,none⟩ (.int .i64 g.O)
theorem ssF_mono (n:Net) (x y:St) (q:List Int) (aq:Option Addr) (cq:Nat) (g:Led) (w:World):∀ j W W' v,Below W.heap.size W W'->ssF n x y q aq cq g w j W v->ssF n x y q aq cq g w j W' v:=by
 intro j W W' v hb h
 match j,h with
 | 0,h=>exact h
 | 1,h=>obtain ⟨b,e,hc⟩:=h;exact ⟨b,e,cel_lt hc hb⟩
 | 2,h=>exact h
 | 3,h=>exact h
 | 4,h=>exact h
 | 5,h=>exact IsL.mono h hb
 | 6,h=>exact h
 | 7,h=>exact h
 | 8,h=>exact h
 | 9,h=>exact h
 | 10,h=>exact h
 | 11,h=>exact h
 | 12,h=>obtain ⟨B,e,h1,h2⟩:=h;exact ⟨B,e,h1,blk_mono h2 hb⟩
 | n+13,_=>exact trivial
theorem of_all {n:Net} {x y:St} {q:List Int} {g:Led} (h:CStep n x q y g) :
  accR n (fun i=>(List.replicate n.Ns.xs.length true).getD i false) x y q n.Ns.xs.length+sg (linkF n (fun i=>(List.replicate n.Ns.xs.length true).getD i false) g.P.xs) n.Ls.xs.length-(accL n (fun i=>(List.replicate n.Ns.xs.length true).getD i false) q n.Ns.xs.length+sg (lostP n (fun i=>(List.replicate n.Ns.xs.length true).getD i false) g.P.xs) n.Ls.xs.length)=0 /\
  accL n (fun i=>(List.replicate n.Ns.xs.length true).getD i false) q n.Ns.xs.length+sg (lostP n (fun i=>(List.replicate n.Ns.xs.length true).getD i false) g.P.xs) n.Ls.xs.length=g.O:=by
 have a:accR n (fun i=>(List.replicate n.Ns.xs.length true).getD i false) x y q n.Ns.xs.length+sg (linkF n (fun i=>(List.replicate n.Ns.xs.length true).getD i false) g.P.xs) n.Ls.xs.length=accL n (fun i=>(List.replicate n.Ns.xs.length true).getD i false) q n.Ns.xs.length+sg (lostP n (fun i=>(List.replicate n.Ns.xs.length true).getD i false) g.P.xs) n.Ls.xs.length:=h.dif (fun i=>(List.replicate n.Ns.xs.length true).getD i false)
 have c:=h.go
 have hi:∀ i,i<n.Ns.xs.length->(List.replicate n.Ns.xs.length true).getD i false=true:=fun i hi=>by simp [List.getD,hi]
 have e1:sg (lostQ n (fun _=>true) q) n.Ns.xs.length=accL n (fun i=>(List.replicate n.Ns.xs.length true).getD i false) q n.Ns.xs.length:=sg_congr (fun i h1=>by
  unfold lostQ
  simp only [hi i h1])
 have e2:sg (lostP n (fun _=>true) g.P.xs) n.Ls.xs.length=sg (lostP n (fun i=>(List.replicate n.Ns.xs.length true).getD i false) g.P.xs) n.Ls.xs.length:=sg_congr (fun k hk=>by
  unfold lostP
  simp only [hi _ (ends_lt h.net hk).2])
 rw [e1,e2] at c
 exact ⟨by omega,c.symm⟩
theorem heldL_sum {n:Net} {s:St} (h:stB n s=true):heldL n s=s.V.xs.sum+s.P.xs.sum:=by
 have a:=stB_parts h
 unfold heldL
 rw [sg_add,<-sg_list s.V.xs,<-sg_list s.P.xs,a.1,a.2.1]
theorem list_bd {n:Net} {l:List Int} (hn:netB n=true) (hN:n.Ns.xs.length<=12) (hl:l.length=n.Ns.xs.length) (h:∀ i,i<n.Ns.xs.length->0<=l.getD i 0/\l.getD i 0<=1125899906842624):(0<=l.sum/\l.sum<=13510798882111488)/\∀ x∈l,0<=x/\x<=4503599627370496:=by
 have a:=sg_bd (n:=n.Ns.xs.length) h
 have e:((n.Ns.xs.length:Nat):Int)<=12:=by omega
 refine ⟨by rw [<-sg_list,hl];omega,fun x hx=>?_⟩
 obtain ⟨i,hi,rfl⟩:=List.mem_iff_getElem.1 hx
 have:=h i om
 simp only [List.getD,List.getElem?_eq_getElem hi,Option.getD_some] at this
 omega
theorem ledO_bd {n:Net} {s s':St} {q:List Int} {g:Led} (hc:CStep n s q s' g) (hN:n.Ns.xs.length<=12) (hL:n.Ls.xs.length<=12):0<=g.O/\g.O<=67553994410557440:=by
 have b:=sg_bd (n:=n.Ns.xs.length) (f:=lostQ n (fun _=>true) q) (b:=1125899906842624) (fun i hi=>by
  have:=hc.qb i hi
  unfold lostQ
  split <;> omega)
 have c:=sg_bd (n:=n.Ls.xs.length) (f:=lostP n (fun _=>true) g.P.xs) (b:=4503599627370496) (fun i hi=>by
  have:=hc.pb i hi
  unfold lostP
  split <;> omega)
 have e1:=hc.go
 have a1:((n.Ns.xs.length:Nat):Int)<=12:=by omega
 have a2:((n.Ls.xs.length:Nat):Int)<=12:=by omega
 omega
theorem bastep_ok (n:Net) (x y:St) (q:List Int) (vq:Value) (g:Led) (w:World) (hg:gNet w n) (hx:gSt w x) (hy:gSt w y) (hq:IsInts w vq q) (hp:gInts w g.P) (hc:CStep n x q y g) (hN:n.Ns.xs.length<=12) (hL:n.Ls.xs.length<=12) :
  Calls Tryz.prog 12 #[vNet n,vSt x,vSt y,vq,vLed g] w fun e w'=>e=.returned (.tuple #[.bool true,.int .i64 0,.int .i64 0])/\Below w.heap.size w w':=by
 obtain ⟨L,hLL⟩:∃ L:List (Array Value×TypeId),L = [((eNet n).toArray,25),((eSt x).toArray,31),((eSt y).toArray,31),((eLed g).toArray,56)]:=⟨_,rfl⟩
 obtain ⟨W,hW⟩:∃ W,W=allocs w L:=⟨_,rfl⟩
 have hbw:Below w.heap.size w W:=by rw [hW];exact allocs_below _ _
 have t0:W.heap[w.heap.size]? = some (.cells (eNet n).toArray 25 (0,0)):=by rw [hW,hLL];exact allocs_at _ w 0 (by simp)
 have t1:W.heap[w.heap.size+1]? = some (.cells (eSt x).toArray 31 (0,0)):=by rw [hW,hLL];exact allocs_at _ w 1 (by simp)
 have t2:W.heap[w.heap.size+2]? = some (.cells (eSt y).toArray 31 (0,0)):=by rw [hW,hLL];exact allocs_at _ w 2 (by simp)
 have t3:W.heap[w.heap.size+3]? = some (.cells (eLed g).toArray 56 (0,0)):=by rw [hW,hLL];exact allocs_at _ w 3 (by simp)
 have HW:Hid (W=(((w.alloc (.cells (eNet n).toArray 25)).alloc (.cells (eSt x).toArray 31)).alloc (.cells (eSt y).toArray 31)).alloc (.cells (eLed g).toArray 56)):=qh (by rw [hW,hLL];rfl)
 have hsz:w.heap.size+3<W.heap.size:=(Array.getElem?_eq_some_iff.1 t3).1
 obtain ⟨aq,cq,rfl,hq1,hq2,hq3⟩:=hq
 have HG:=qh hg
 have HX:=qh hx
 have HY:=qh hy
 have HQ:Hid (IsInts w (.slice aq q.length cq) q):=qh ⟨aq,cq,rfl,hq1,hq2,hq3⟩
 have HP:=qh hp
 have HC:=qh hc
 have HNL:=qh (And.intro hN hL)
 obtain ⟨N,hNN⟩:∃ N,N=n.Ns.xs.length:=⟨_,rfl⟩
 have HNN:=qh hNN
 have q0:W.cell? ⟨w.heap.size,0,none⟩=some (.slice n.Ns.a n.Ns.xs.length n.Ns.cap):=(tank_blk t0 0).trans rfl
 have q1:W.cell? ⟨w.heap.size,1,none⟩=some (.slice n.Ls.a n.Ls.xs.length n.Ls.cap):=(tank_blk t0 1).trans rfl
 have s0:W.cell? ⟨w.heap.size+1,0,none⟩=some (.slice x.V.a x.V.xs.length x.V.cap):=(tank_blk t1 0).trans rfl
 have s1:W.cell? ⟨w.heap.size+1,1,none⟩=some (.slice x.P.a x.P.xs.length x.P.cap):=(tank_blk t1 1).trans rfl
 have s2:W.cell? ⟨w.heap.size+1,2,none⟩=some (.slice x.S.a x.S.xs.length x.S.cap):=(tank_blk t1 2).trans rfl
 have s3:W.cell? ⟨w.heap.size+1,3,none⟩=some (.slice x.O.a x.O.xs.length x.O.cap):=(tank_blk t1 3).trans rfl
 have r0:W.cell? ⟨w.heap.size+2,0,none⟩=some (.slice y.V.a y.V.xs.length y.V.cap):=(tank_blk t2 0).trans rfl
 have r1:W.cell? ⟨w.heap.size+2,1,none⟩=some (.slice y.P.a y.P.xs.length y.P.cap):=(tank_blk t2 1).trans rfl
 have r2:W.cell? ⟨w.heap.size+2,2,none⟩=some (.slice y.S.a y.S.xs.length y.S.cap):=(tank_blk t2 2).trans rfl
 have r3:W.cell? ⟨w.heap.size+2,3,none⟩=some (.slice y.O.a y.O.xs.length y.O.cap):=(tank_blk t2 3).trans rfl
 have g0:W.cell? ⟨w.heap.size+3,0,none⟩=some (.int .i64 g.I):=(tank_blk t3 0).trans rfl
 have g1:W.cell? ⟨w.heap.size+3,1,none⟩=some (.int .i64 g.O):=(tank_blk t3 1).trans rfl
 have g2:W.cell? ⟨w.heap.size+3,2,none⟩=some (.slice g.P.a g.P.xs.length g.P.cap):=(tank_blk t3 2).trans rfl
 clear hW hLL t0 t1 t2 t3 hg hx hy hp hc hN hL hq1 hq2 hq3 hNN
 simp only [vNet,vSt,vLed,vSl]
 go_enter Tryz.func12,Tryz.ntmps12
 go_upto_region 1 with (fail)
 simp only [Nat.add_assoc,Nat.reduceAdd]
 rw [<-HW.out]
 clear HW
 have k1:=bagiven_ok n x y q _ g W (rdNet.mono HG.out hbw) (rdSt.mono HX.out hbw) (rdSt.mono HY.out hbw) (HQ.out.mono hbw) (rdInts.mono HP.out hbw) HC.out HNL.out.1 HNL.out.2
 simp only [vNet,vSt,vLed,vSl] at k1
 go_wp2_with fail
 refine Calls.to k1 ?_
 rintro e w1 rfl hb1
 replace q0:=cel_lt q0 hb1
 replace q1:=cel_lt q1 hb1
 replace s0:=cel_lt s0 hb1
 replace s1:=cel_lt s1 hb1
 replace s2:=cel_lt s2 hb1
 replace s3:=cel_lt s3 hb1
 replace r0:=cel_lt r0 hb1
 replace r1:=cel_lt r1 hb1
 replace r2:=cel_lt r2 hb1
 replace r3:=cel_lt r3 hb1
 replace g0:=cel_lt g0 hb1
 replace g1:=cel_lt g1 hb1
 replace g2:=cel_lt g2 hb1
 have hb0:=hbw.trans (hb1.mono hbw.size)
 have HSZ:Hid (w.heap.size+4<=w1.heap.size):=qh (by have:=hb1.size;omega)
 clear k1 hb1 hbw hsz
 go_upto_region 4 with (fail)
 have hx0:=hb0
 refine wp_region_inv (gJ 13 (ssA n x y q aq cq g w) (ssF n x y q aq cq g w) (ssR g w) w1) (by kernel_rfl) (by kernel_rfl) (fun l a W h=>h.1) ?step ?fin ?start
 case start=>exact gJ_start (Below.drew qr) (fun _=>undef)
 case step=>
  intro l a V i o hI ho hun hdeps
  have hz:=hI.1
  have hi14:i<14:=(Array.getElem?_eq_some_iff.1 ho).1
  obtain ⟨u,rfl,hn,hb,hV⟩:=gJ_open hI hun hi14
  have hFm:=ssF_mono n x y q aq cq g w
  have q0:=cel_lt q0 hb
  have q1:=cel_lt q1 hb
  have s0:=cel_lt s0 hb
  have s1:=cel_lt s1 hb
  have s2:=cel_lt s2 hb
  have s3:=cel_lt s3 hb
  have r0:=cel_lt r0 hb
  have r1:=cel_lt r1 hb
  have r2:=cel_lt r2 hb
  have r3:=cel_lt r3 hb
  have g2:=cel_lt g2 hb
  have hbV:=hb0.trans (hb.mono hb0.size)
  rcases (show i=0\/i=1\/i=2\/i=3\/i=4\/i=5\/i=6\/i=7\/i=8\/i=9\/i=10\/i=11\/i=12\/i=13 by omega) with rfl|rfl|rfl|rfl|rfl|rfl|rfl|rfl|rfl|rfl|rfl|rfl|rfl|rfl
  ·obtain rfl:=Option.some.inj (show some _=some o from ho)
   refine wpOp_step rfl (fun K hK=>?_)
   rw [if_pos (by rfl)]
   go_simp
   refine hK _ _ (gJ_op hFm hz hn hb hV (i:=0) (v:=.agg #[.slice n.Ns.a n.Ns.xs.length n.Ns.cap,.slice n.Ls.a n.Ls.xs.length n.Ls.cap]) om ?_ qr rfl)
   first|rfl|simp [ssA,upY]
  ·obtain rfl:=Option.some.inj (show some _=some o from ho)
   refine wpOp_step rfl (fun K hK=>?_)
   rw [if_pos (by rfl)]
   go_simp
   refine hK _ _ (gJ_op hFm hz hn hb hV (i:=1) (v:=.slice (some ⟨V.heap.size,0,none⟩) 1 1) om ?_ (alloc_below _ _) ⟨V.heap.size,rfl,by simp [go_sem]⟩)
   first|rfl|simp [ssA,upY]
  ·obtain rfl:=Option.some.inj (show some _=some o from ho)
   refine wpOp_step rfl (fun K hK=>?_)
   rw [if_pos (by rfl)]
   go_simp
   refine hK _ _ (gJ_op hFm hz hn hb hV (i:=2) (v:=.pointer (some ⟨w.heap.size,0,none⟩)) om ?_ qr rfl)
   first|rfl|simp [ssA,upY]
  ·obtain rfl:=Option.some.inj (show some _=some o from ho)
   have e2:u 2=.pointer (some ⟨w.heap.size,0,none⟩):=hV 2 om (hdeps ⟨2,.data⟩ (by simp) rfl)
   refine wpOp_step rfl (fun K hK=>?_)
   rw [if_pos (by rfl)]
   go_simp
   refine hK _ _ (gJ_op hFm hz hn hb hV (i:=3) (v:=.slice n.Ns.a n.Ns.xs.length n.Ns.cap) om ?_ qr rfl)
   first|rfl|simp [ssA,upY,e2]
  ·obtain rfl:=Option.some.inj (show some _=some o from ho)
   have e3:u 3=.slice n.Ns.a n.Ns.xs.length n.Ns.cap:=hV 3 om (hdeps ⟨3,.data⟩ (by simp) rfl)
   refine wpOp_step rfl (fun K hK=>?_)
   rw [if_pos (by rfl)]
   go_simp
   refine hK _ _ (gJ_op hFm hz hn hb hV (i:=4) (v:=.int .i64 (n.Ns.xs.length:Int)) om ?_ qr rfl)
   first|rfl|simp [ssA,upY,e3]
  ·obtain rfl:=Option.some.inj (show some _=some o from ho)
   have e4:u 4=.int .i64 (n.Ns.xs.length:Int):=hV 4 om (hdeps ⟨4,.data⟩ (by simp) rfl)
   obtain ⟨b,e1,hcb⟩:∃ b,u 1=.slice (some ⟨b,0,none⟩) 1 1/\V.cell? ⟨b,0,none⟩=some (.bool true):=hV 1 om (hdeps ⟨1,.data⟩ (by simp) rfl)
   have hre:=repeat_any n.Ns.xs.length b V (by have:=HNL.out.1;omega) hcb
   refine wpOp_step rfl (fun K hK=>?_)
   rw [if_pos (by rfl)]
   go_simp
   go_at_call 63
   refine hre.mono ?_
   rintro e' w' ⟨⟨v',rfl,hv⟩,hbel⟩
   refine hK _ _ (gJ_op hFm hz hn hb hV (i:=5) (v:=v') om ?_ hbel hv)
   first|rfl|simp [ssA,upY,e1,e4]
  ·obtain rfl:=Option.some.inj (show some _=some o from ho)
   refine wpOp_step rfl (fun K hK=>?_)
   rw [if_pos (by rfl)]
   go_simp
   refine hK _ _ (gJ_op hFm hz hn hb hV (i:=6) (v:=.agg #[.slice x.V.a x.V.xs.length x.V.cap,.slice x.P.a x.P.xs.length x.P.cap,.slice x.S.a x.S.xs.length x.S.cap,.slice x.O.a x.O.xs.length x.O.cap]) om ?_ qr rfl)
   first|rfl|simp [ssA,upY]
  ·obtain rfl:=Option.some.inj (show some _=some o from ho)
   refine wpOp_step rfl (fun K hK=>?_)
   rw [if_pos (by rfl)]
   go_simp
   refine hK _ _ (gJ_op hFm hz hn hb hV (i:=7) (v:=.agg #[.slice y.V.a y.V.xs.length y.V.cap,.slice y.P.a y.P.xs.length y.P.cap,.slice y.S.a y.S.xs.length y.S.cap,.slice y.O.a y.O.xs.length y.O.cap]) om ?_ qr rfl)
   first|rfl|simp [ssA,upY]
  ·obtain rfl:=Option.some.inj (show some _=some o from ho)
   refine wpOp_step rfl (fun K hK=>?_)
   rw [if_pos (by rfl)]
   go_simp
   refine hK _ _ (gJ_op hFm hz hn hb hV (i:=8) (v:=.slice aq q.length cq) om ?_ qr rfl)
   first|rfl|simp [ssA,upY]
  ·obtain rfl:=Option.some.inj (show some _=some o from ho)
   refine wpOp_step rfl (fun K hK=>?_)
   rw [if_pos (by rfl)]
   go_simp
   refine hK _ _ (gJ_op hFm hz hn hb hV (i:=9) (v:=.pointer (some ⟨w.heap.size+3,2,none⟩)) om ?_ qr rfl)
   first|rfl|simp [ssA,upY]
  ·obtain rfl:=Option.some.inj (show some _=some o from ho)
   have e9:u 9=.pointer (some ⟨w.heap.size+3,2,none⟩):=hV 9 om (hdeps ⟨9,.data⟩ (by simp) rfl)
   refine wpOp_step rfl (fun K hK=>?_)
   rw [if_pos (by rfl)]
   go_simp
   refine hK _ _ (gJ_op hFm hz hn hb hV (i:=10) (v:=.slice g.P.a g.P.xs.length g.P.cap) om ?_ qr rfl)
   first|rfl|simp [ssA,upY,e9]
  ·obtain rfl:=Option.some.inj (show some _=some o from ho)
   have e0:u 0=.agg #[.slice n.Ns.a n.Ns.xs.length n.Ns.cap,.slice n.Ls.a n.Ls.xs.length n.Ls.cap]:=hV 0 om (hdeps ⟨0,.data⟩ (by simp) rfl)
   have e6:u 6=.agg #[.slice x.V.a x.V.xs.length x.V.cap,.slice x.P.a x.P.xs.length x.P.cap,.slice x.S.a x.S.xs.length x.S.cap,.slice x.O.a x.O.xs.length x.O.cap]:=hV 6 om (hdeps ⟨6,.data⟩ (by simp) rfl)
   have e7:u 7=.agg #[.slice y.V.a y.V.xs.length y.V.cap,.slice y.P.a y.P.xs.length y.P.cap,.slice y.S.a y.S.xs.length y.S.cap,.slice y.O.a y.O.xs.length y.O.cap]:=hV 7 om (hdeps ⟨7,.data⟩ (by simp) rfl)
   have e8:u 8=.slice aq q.length cq:=hV 8 om (hdeps ⟨8,.data⟩ (by simp) rfl)
   have e10:u 10=.slice g.P.a g.P.xs.length g.P.cap:=hV 10 om (hdeps ⟨10,.data⟩ (by simp) rfl)
   have e5:IsBools V (u 5) (List.replicate n.Ns.xs.length true):=hV 5 om (hdeps ⟨5,.data⟩ (by simp) rfl)
   have hof:=baof_any n (List.replicate n.Ns.xs.length true) (u 5) x y q _ g.P.xs _ V (rdNet.mono HG.out hbV) e5 (rdSt.mono HX.out hbV) (rdSt.mono HY.out hbV) (HQ.out.mono hbV) (rdInts.mono HP.out hbV).isL HC.out.acc (by simp)
   rw [(of_all HC.out).1,(of_all HC.out).2] at hof
   simp only [vNet,vSt,vSl] at hof
   refine wpOp_step rfl (fun K hK=>?_)
   rw [if_pos (by rfl)]
   go_simp
   go_at_call 62
   refine hof.mono ?_
   rintro e' w' ⟨rfl,hbel⟩
   refine hK _ _ (gJ_op hFm hz hn hb hV (i:=11) (v:=.agg #[.int .i64 0,.int .i64 g.O]) om ?_ hbel rfl)
   first|rfl|simp [ssA,upY,e0,e6,e7,e8,e10]
  ·obtain rfl:=Option.some.inj (show some _=some o from ho)
   refine wpOp_step rfl (fun K hK=>?_)
   rw [if_pos (by rfl)]
   go_simp
   refine hK _ _ (gJ_op hFm hz hn hb hV (i:=12) (v:=.pointer (some ⟨V.heap.size,0,none⟩)) om ?_ (alloc_below _ _) ⟨V.heap.size,rfl,?_,heap_alloc_new V _⟩)
   ·first|rfl|simp [ssA,upY]
   ·have:=hb.size;have:=HSZ.out;omega
  ·obtain rfl:=Option.some.inj (show some _=some o from ho)
   have hall:∀ j,j<13->l.getD j false=true:=by
    intro j hj
    rcases (show j=0\/j=1\/j=2\/j=3\/j=4\/j=5\/j=6\/j=7\/j=8\/j=9\/j=10\/j=11\/j=12 by omega) with rfl|rfl|rfl|rfl|rfl|rfl|rfl|rfl|rfl|rfl|rfl|rfl|rfl
    all_goals exact hdeps ⟨_,.phase⟩ (by simp) rfl
   obtain ⟨B,e12,hB,hBk⟩:∃ B,u 12=.pointer (some ⟨B,0,none⟩)/\w.heap.size+4<=B/\V.heap[B]? = some (.cells #[.int .i64 0,.int .i64 0] 132 (0,0)):=hV 12 om (hall 12 om)
   have e11:u 11=.agg #[.int .i64 0,.int .i64 g.O]:=hV 11 om (hall 11 om)
   have o0:V.cell? ⟨B,0,none⟩=some (.int .i64 0):=(tank_blk hBk 0).trans rfl
   have o1:V.cell? ⟨B,1,none⟩=some (.int .i64 0):=(tank_blk hBk 1).trans rfl
   have of0:V.frozen? ⟨B,0,none⟩=false:=tank_free hBk 0
   have of1:V.frozen? ⟨B,1,none⟩=false:=tank_free hBk 1
   refine wpOp_step rfl (fun K hK=>?_)
   rw [if_pos (by rfl)]
   go_simp
   refine hK _ _ (gJ_last hz hb hV hall (y:=u) ?_ ⟨B,e12,hB,hBk,rfl⟩)
   first|rfl|simp [ssA,e12,e11]
 case fin=>
  intro l a V hI hall
  obtain ⟨u,V0,rfl,hb,hV,B,e12,hB,hBk,rfl⟩:=gJ_fin hI (hall 13 (by decide))
  obtain ⟨WF,hWF⟩:∃ WF,WF=(V0.setCell ⟨B,0,none⟩ (.int .i64 0)).setCell ⟨B,1,none⟩ (.int .i64 g.O):=⟨_,rfl⟩
  have hbf:Below w.heap.size w WF:=by rw [hWF];exact (((hb0.trans (hb.mono hb0.size)).setCell (p:=⟨B,0,none⟩) (by show w.heap.size<=B;omega) _).setCell (p:=⟨B,1,none⟩) (by show w.heap.size<=B;omega) _)
  have hc:∀ b j v,b<B->w1.cell? ⟨b,j,none⟩=some v->WF.cell? ⟨b,j,none⟩=some v:=by
   intro b j v hbB h
   rw [hWF]
   refine (World.cell?_of_block (w:=V0) ?_).trans (cel_lt h hb)
   exact (Below.heap_setCell _ _ _ _ (by simp only;omega)).trans (Below.heap_setCell _ _ _ _ (by simp only;omega))
  have l1:WF.cell? ⟨B,1,none⟩=some (.int .i64 g.O):=by
   have o1:V0.cell? ⟨B,1,none⟩=some (.int .i64 0):=(tank_blk hBk 1).trans rfl
   rw [hWF];simp [go_sem,o1]
  replace q0:=hc _ _ _ om q0
  replace s0:=hc _ _ _ om s0
  replace s1:=hc _ _ _ om s1
  replace r0:=hc _ _ _ om r0
  replace r1:=hc _ _ _ om r1
  replace g0:=hc _ _ _ om g0
  replace g1:=hc _ _ _ om g1
  rw [<-hWF]
  simp only [ssA,e12]
  clear e12
  have hsx:=stB_parts HC.out.st
  have hsy:=stB_parts HC.out.st'
  have hm:=fun (s:St) (h:stB n s=true)=>heldL_sum h
  have ex:=hm x HC.out.st
  have ey:=hm y HC.out.st'
  have eh:=HC.out.held
  have ei:g.I=q.sum:=by rw [HC.out.gi,<-HC.out.ql,sg_list]
  have bx1:=list_bd HC.out.net HNL.out.1 hsx.1 (fun i hi=>⟨(HC.out.bd i hi).1,(HC.out.bd i hi).2.1⟩)
  have bx2:=list_bd HC.out.net HNL.out.1 hsx.2.1 (fun i hi=>⟨(HC.out.bd i hi).2.2.1,(HC.out.bd i hi).2.2.2.1⟩)
  have by1:=list_bd HC.out.net HNL.out.1 hsy.1 (fun i hi=>⟨(HC.out.bd i hi).2.2.2.2.1,(HC.out.bd i hi).2.2.2.2.2.1⟩)
  have by2:=list_bd HC.out.net HNL.out.1 hsy.2.1 (fun i hi=>⟨(HC.out.bd i hi).2.2.2.2.2.2.1,(HC.out.bd i hi).2.2.2.2.2.2.2⟩)
  have bq:=list_bd HC.out.net HNL.out.1 HC.out.ql HC.out.qb
  have bo:=ledO_bd HC.out HNL.out.1 HNL.out.2
  have H1:Hid (∀ xw,Calls Tryz.prog 64 #[.slice x.V.a x.V.xs.length x.V.cap] (more WF xw) fun e w'=>e=.returned (.int .i64 x.V.xs.sum)/\Below (more WF xw).heap.size (more WF xw) w'):=qh (fun xw=>basum0_any _ _ _ ((rdSt.mono HX.out (hbf.trans ((below_more WF xw).mono hbf.size))).1.isL) (by have:=HNL.out.1;omega) bx1.2)
  have H2:Hid (∀ xw,Calls Tryz.prog 64 #[.slice x.P.a x.P.xs.length x.P.cap] (more WF xw) fun e w'=>e=.returned (.int .i64 x.P.xs.sum)/\Below (more WF xw).heap.size (more WF xw) w'):=qh (fun xw=>basum0_any _ _ _ ((rdSt.mono HX.out (hbf.trans ((below_more WF xw).mono hbf.size))).2.1.isL) (by have:=HNL.out.1;omega) bx2.2)
  have H3:Hid (∀ xw,Calls Tryz.prog 64 #[.slice y.V.a y.V.xs.length y.V.cap] (more WF xw) fun e w'=>e=.returned (.int .i64 y.V.xs.sum)/\Below (more WF xw).heap.size (more WF xw) w'):=qh (fun xw=>basum0_any _ _ _ ((rdSt.mono HY.out (hbf.trans ((below_more WF xw).mono hbf.size))).1.isL) (by have:=HNL.out.1;omega) by1.2)
  have H4:Hid (∀ xw,Calls Tryz.prog 64 #[.slice y.P.a y.P.xs.length y.P.cap] (more WF xw) fun e w'=>e=.returned (.int .i64 y.P.xs.sum)/\Below (more WF xw).heap.size (more WF xw) w'):=qh (fun xw=>basum0_any _ _ _ ((rdSt.mono HY.out (hbf.trans ((below_more WF xw).mono hbf.size))).2.1.isL) (by have:=HNL.out.1;omega) by2.2)
  have HQS:Hid (∀ W,Below WF.heap.size WF W->∀ xw,Calls Tryz.prog 64 #[.slice aq q.length cq] (more W xw) fun e w'=>e=.returned (.int .i64 g.I)/\Below (more W xw).heap.size (more W xw) w'):=qh (fun W hW xw=>by
   rw [ei]
   have hbW:=hbf.trans (hW.mono hbf.size)
   exact basum0_any _ _ _ (HQ.out.mono (hbW.trans ((below_more W xw).mono hbW.size))) (by have:=HNL.out.1;have:=HC.out.ql;omega) bq.2)
  obtain ⟨a1,ha1⟩:∃ a,a=x.V.xs.sum:=⟨_,rfl⟩
  obtain ⟨a2,ha2⟩:∃ a,a=x.P.xs.sum:=⟨_,rfl⟩
  obtain ⟨a3,ha3⟩:∃ a,a=y.V.xs.sum:=⟨_,rfl⟩
  obtain ⟨a4,ha4⟩:∃ a,a=y.P.xs.sum:=⟨_,rfl⟩
  rw [<-ha1] at H1 bx1
  rw [<-ha2] at H2 bx2
  rw [<-ha3] at H3 by1
  rw [<-ha4] at H4 by2
  rw [<-ha1,<-ha2] at ex
  rw [<-ha3,<-ha4] at ey
  obtain ⟨GI,hGI⟩:∃ a,a=g.I:=⟨_,rfl⟩
  obtain ⟨GO,hGO⟩:∃ a,a=g.O:=⟨_,rfl⟩
  have bi:0<=GI/\GI<=13510798882111488:=by rw [hGI,ei];exact bq.1
  rw [<-hGO] at bo
  have hzero:a1+a2+GI-a3-a4-GO=0:=by rw [hGI,hGO];omega
  have y1:IntKind.i64.wrap (a1+a2)=a1+a2:=IntWalk.i64_in _ (by have:=bx1.1;have:=bx2.1;omega)
  have y2:IntKind.i64.wrap (a1+a2+GI)=a1+a2+GI:=IntWalk.i64_in _ (by have:=bx1.1;have:=bx2.1;omega)
  have y3:IntKind.i64.wrap (a1+a2+GI-a3)=a1+a2+GI-a3:=IntWalk.i64_in _ (by have:=bx1.1;have:=bx2.1;have:=by1.1;omega)
  have y4:IntKind.i64.wrap (a1+a2+GI-a3-a4)=a1+a2+GI-a3-a4:=IntWalk.i64_in _ (by have:=bx1.1;have:=bx2.1;have:=by1.1;have:=by2.1;omega)
  have y5:IntKind.i64.wrap (a1+a2+GI-a3-a4-GO)=0:=by rw [hzero];rfl
  rw [<-hGI] at g0 HQS
  rw [<-hGO] at g1 l1
  obtain ⟨v1,hv1⟩:∃ v,v=Value.slice x.V.a x.V.xs.length x.V.cap:=⟨_,rfl⟩
  obtain ⟨v2,hv2⟩:∃ v,v=Value.slice x.P.a x.P.xs.length x.P.cap:=⟨_,rfl⟩
  obtain ⟨v3,hv3⟩:∃ v,v=Value.slice y.V.a y.V.xs.length y.V.cap:=⟨_,rfl⟩
  obtain ⟨v4,hv4⟩:∃ v,v=Value.slice y.P.a y.P.xs.length y.P.cap:=⟨_,rfl⟩
  rw [<-hv1] at s0 H1
  rw [<-hv2] at s1 H2
  rw [<-hv3] at r0 H3
  rw [<-hv4] at r1 H4
  clear hv1 hv2 hv3 hv4
  clear hsx hsy hm ex ey eh ei bx1 bx2 by1 by2 bq bo ha1 ha2 ha3 ha4 hGI hGO bi hzero hWF hb hV hBk hc hI hall hb0 hx0 q1 s2 s3 r2 r3 g2
  go_upto_region 5 with (fail)
  refine wp_region_more_lit (by kernel_rfl) (by kernel_rfl) ?_
  repeat (go_big_quiet_step ((go_at_call 64;first|with_reducible exact Calls.more_of (H1.out _)|with_reducible exact Calls.more_of (H2.out _)|with_reducible exact Calls.more_of (H3.out _)|with_reducible exact Calls.more_of (H4.out _))))
  refine wpQuiet_nil ?_
  intro _ hwq
  obtain ⟨xq,hwq⟩:=hwq
  subst hwq
  go_upto_region 6 with (fail)
  have hb6:Below WF.heap.size WF (more WF xq):=below_more WF xq
  replace g0:=cel_lt g0 hb6
  replace g1:=cel_lt g1 hb6
  replace l1:=cel_lt l1 hb6
  have HQ6:=qh (HQS.out _ hb6)
  have hbf6:=hbf.trans (hb6.mono hbf.size)
  generalize more WF xq=W6 at *
  have b1:(GI==GI)=true:=by simp
  have b2:(GO==GO)=true:=by simp
  clear hb6 HQS H1 H2 H3 H4 y1 y2 y3 y4 y5
  refine wp_region_more_lit (by kernel_rfl) (by kernel_rfl) ?_
  repeat (go_big_quiet_step ((go_at_call 64;with_reducible exact Calls.more_of (HQ6.out _))))
  refine wpQuiet_nil ?_
  intro _ hwq
  obtain ⟨xq,hwq⟩:=hwq
  subst hwq
  have hb7:=hbf6.trans ((below_more W6 xq).mono hbf6.size)
  generalize more W6 xq=W7 at *
  clear g0 g1 l1 HQ6 hbf6
  go_wp2_with fail
  go_ret3
  exact ⟨rfl,hb7⟩
end Go.Proofs.YtoiakijmbghhlaaGreat
