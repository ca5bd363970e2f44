/- routing.wishes. Conditions: network, sections and state read as data. -/
import Derived.Defers
import Derived.Test.YtoiakijmbghhlaaGreatS32
import Derived.Test.YtoiakijmbghhlaaGreatS34
import Derived.Test.YtoiakijmbghhlaaGreatS24
set_option linter.unusedVariables false
set_option linter.unusedSimpArgs false
set_option maxRecDepth 100000
set_option maxHeartbeats 32000000
namespace Go.Proofs.YtoiakijmbghhlaaGreat
open Go.RowKit
theorem frz_lt {w w':World} {b o:Nat} {v:Value} (h:w.frozen? ⟨b,o,none⟩=false) (hc:w.cell? ⟨b,o,none⟩=some v) (hb:Below w.heap.size w w'):w'.frozen? ⟨b,o,none⟩=false:=
 (hb.frozen (p:=⟨b,o,none⟩) (lt_of_isSome (a:=⟨b,o,none⟩) (by rw [hc];rfl))).trans h
structure WC (w:World) (b0 b6 b8 b9 b10:Nat) (n:Net) (s:St) (uo v8 v9:Value) (e:Int):Prop where
 q0:w.cell? ⟨b0,0,none⟩=some (.slice n.Ns.a n.Ns.xs.length n.Ns.cap)
 q1:w.cell? ⟨b0,1,none⟩=some (.slice n.Ls.a n.Ls.xs.length n.Ls.cap)
 s0:w.cell? ⟨b6,0,none⟩=some (.slice s.V.a s.V.xs.length s.V.cap)
 s1:w.cell? ⟨b6,1,none⟩=some (.slice s.P.a s.P.xs.length s.P.cap)
 s2:w.cell? ⟨b6,2,none⟩=some (.slice s.S.a s.S.xs.length s.S.cap)
 s3:w.cell? ⟨b6,3,none⟩=some uo
 r8:w.cell? ⟨b8,0,none⟩=some v8
 r9:w.cell? ⟨b9,0,none⟩=some v9
 r10:w.cell? ⟨b10,0,none⟩=some (.int .i64 e)
 f3:w.frozen? ⟨b6,3,none⟩=false
 f8:w.frozen? ⟨b8,0,none⟩=false
 f9:w.frozen? ⟨b9,0,none⟩=false
 f10:w.frozen? ⟨b10,0,none⟩=false
 d1:b0<b6
 d2:b6<b8
 d3:b8<b9
 d4:b9<b10
section
variable {w w' : World} {b0 b6 b8 b9 b10 : Nat} {n : Net} {s : St} {uo v8 v9 : Value} {e : Int}
theorem WC.mono (h:WC w b0 b6 b8 b9 b10 n s uo v8 v9 e) (hb:Below w.heap.size w w'):WC w' b0 b6 b8 b9 b10 n s uo v8 v9 e:=
 ⟨cel_lt h.q0 hb,cel_lt h.q1 hb,cel_lt h.s0 hb,cel_lt h.s1 hb,cel_lt h.s2 hb,cel_lt h.s3 hb,cel_lt h.r8 hb,cel_lt h.r9 hb,cel_lt h.r10 hb,frz_lt h.f3 h.s3 hb,frz_lt h.f8 h.r8 hb,frz_lt h.f9 h.r9 hb,frz_lt h.f10 h.r10 hb,h.d1,h.d2,h.d3,h.d4⟩
theorem WC.grown {row:Option Nat} (h:WC w b0 b6 b8 b9 b10 n s uo v8 v9 e) (hg:w.grownBy w' row) (hr:∀ g,row=some g->b10<g):WC w' b0 b6 b8 b9 b10 n s uo v8 v9 e:=by
 obtain ⟨h1,h2,h3,h4,h5,h6,h7,h8,h9,h10,h11,h12,h13,d1,d2,d3,d4⟩:=h
 have B:∀ (b o:Nat) (v:Value),b<=b10->w.cell? ⟨b,o,none⟩=some v->w'.heap[b]? = w.heap[b]?:=fun b o v hb hv=>hg.block b (lt_of_isSome (a:=⟨b,o,none⟩) (by rw [hv];rfl)) (fun e=>by have:=hr b e.symm;omega)
 have c:∀ (b o:Nat) (v:Value),b<=b10->w.cell? ⟨b,o,none⟩=some v->w'.cell? ⟨b,o,none⟩=some v:=fun b o v hb hv=>(World.cell?_of_block (B b o v hb hv)).trans hv
 have f:∀ (b o:Nat) (v:Value),b<=b10->w.cell? ⟨b,o,none⟩=some v->w.frozen? ⟨b,o,none⟩=false->w'.frozen? ⟨b,o,none⟩=false:=fun b o v hb hv hf=>(World.frozen?_of_block (B b o v hb hv)).trans hf
 exact ⟨c _ _ _ om h1,c _ _ _ om h2,c _ _ _ om h3,c _ _ _ om h4,c _ _ _ om h5,c _ _ _ om h6,c _ _ _ om h7,c _ _ _ om h8,c _ _ _ om h9,f _ _ _ om h6 h10,f _ _ _ om h7 h11,f _ _ _ om h8 h12,f _ _ _ om h9 h13,d1,d2,d3,d4⟩
theorem WC.set3 (h:WC w b0 b6 b8 b9 b10 n s uo v8 v9 e) (u:Value):WC (w.setCell ⟨b6,3,none⟩ u) b0 b6 b8 b9 b10 n s u v8 v9 e:=by
 obtain ⟨h1,h2,h3,h4,h5,h6,h7,h8,h9,h10,h11,h12,h13,d1,d2,d3,d4⟩:=h
 have o:∀ (i:Nat) (v:Value),i≠3->w.cell? ⟨b6,i,none⟩=some v->(w.setCell ⟨b6,3,none⟩ u).cell? ⟨b6,i,none⟩=some v:=fun i v hi hv=>(World.cell?_setCell_other _ _ _ _ (by intro e;simp only [Addr.mk.injEq] at e;omega)).trans hv
 exact ⟨cell_far h1 _ _ (by show b0≠b6;omega),cell_far h2 _ _ (by show b0≠b6;omega),o 0 _ om h3,o 1 _ om h4,o 2 _ om h5,World.cell?_setCell_same' _ _ _ (by rw [h6];rfl),cell_far h7 _ _ (by show b8≠b6;omega),cell_far h8 _ _ (by show b9≠b6;omega),cell_far h9 _ _ (by show b10≠b6;omega),
  (World.frozen?_setCell _ _ _ _).trans h10,(World.frozen?_setCell _ _ _ _).trans h11,(World.frozen?_setCell _ _ _ _).trans h12,(World.frozen?_setCell _ _ _ _).trans h13,d1,d2,d3,d4⟩
theorem WC.set8 (h:WC w b0 b6 b8 b9 b10 n s uo v8 v9 e) (u:Value):WC (w.setCell ⟨b8,0,none⟩ u) b0 b6 b8 b9 b10 n s uo u v9 e:=by
 obtain ⟨h1,h2,h3,h4,h5,h6,h7,h8,h9,h10,h11,h12,h13,d1,d2,d3,d4⟩:=h
 exact ⟨cell_far h1 _ _ (by show b0≠b8;omega),cell_far h2 _ _ (by show b0≠b8;omega),cell_far h3 _ _ (by show b6≠b8;omega),cell_far h4 _ _ (by show b6≠b8;omega),cell_far h5 _ _ (by show b6≠b8;omega),cell_far h6 _ _ (by show b6≠b8;omega),World.cell?_setCell_same' _ _ _ (by rw [h7];rfl),cell_far h8 _ _ (by show b9≠b8;omega),cell_far h9 _ _ (by show b10≠b8;omega),
  (World.frozen?_setCell _ _ _ _).trans h10,(World.frozen?_setCell _ _ _ _).trans h11,(World.frozen?_setCell _ _ _ _).trans h12,(World.frozen?_setCell _ _ _ _).trans h13,d1,d2,d3,d4⟩
theorem WC.set9 (h:WC w b0 b6 b8 b9 b10 n s uo v8 v9 e) (u:Value):WC (w.setCell ⟨b9,0,none⟩ u) b0 b6 b8 b9 b10 n s uo v8 u e:=by
 obtain ⟨h1,h2,h3,h4,h5,h6,h7,h8,h9,h10,h11,h12,h13,d1,d2,d3,d4⟩:=h
 exact ⟨cell_far h1 _ _ (by show b0≠b9;omega),cell_far h2 _ _ (by show b0≠b9;omega),cell_far h3 _ _ (by show b6≠b9;omega),cell_far h4 _ _ (by show b6≠b9;omega),cell_far h5 _ _ (by show b6≠b9;omega),cell_far h6 _ _ (by show b6≠b9;omega),cell_far h7 _ _ (by show b8≠b9;omega),World.cell?_setCell_same' _ _ _ (by rw [h8];rfl),cell_far h9 _ _ (by show b10≠b9;omega),
  (World.frozen?_setCell _ _ _ _).trans h10,(World.frozen?_setCell _ _ _ _).trans h11,(World.frozen?_setCell _ _ _ _).trans h12,(World.frozen?_setCell _ _ _ _).trans h13,d1,d2,d3,d4⟩
theorem WC.set10 (h:WC w b0 b6 b8 b9 b10 n s uo v8 v9 e) (x:Int):WC (w.setCell ⟨b10,0,none⟩ (.int .i64 x)) b0 b6 b8 b9 b10 n s uo v8 v9 x:=by
 obtain ⟨h1,h2,h3,h4,h5,h6,h7,h8,h9,h10,h11,h12,h13,d1,d2,d3,d4⟩:=h
 exact ⟨cell_far h1 _ _ (by show b0≠b10;omega),cell_far h2 _ _ (by show b0≠b10;omega),cell_far h3 _ _ (by show b6≠b10;omega),cell_far h4 _ _ (by show b6≠b10;omega),cell_far h5 _ _ (by show b6≠b10;omega),cell_far h6 _ _ (by show b6≠b10;omega),cell_far h7 _ _ (by show b8≠b10;omega),cell_far h8 _ _ (by show b9≠b10;omega),World.cell?_setCell_same' _ _ _ (by rw [h9];rfl),
  (World.frozen?_setCell _ _ _ _).trans h10,(World.frozen?_setCell _ _ _ _).trans h11,(World.frozen?_setCell _ _ _ _).trans h12,(World.frozen?_setCell _ _ _ _).trans h13,d1,d2,d3,d4⟩
end
inductive WishesR (base:Nat) (w:World) (n:Net):Value->Prop
 | no (e:Int):e≠0->WishesR base w n (.tuple #[.slice none 0 0,.slice none 0 0,.int .i64 e])
 | ok (u v:Value) (ws:List Int) (bs:List Bool):ws.length=n.Ls.xs.length->(∀ x∈ws,0<=x/\x<=1125899906842624)->Own base 3 eInt 1 w u ws->bs.length=n.Ls.xs.length->(∀ k,bs.getD k false=true->(n.Ls.xs.getD k default).Kind=4)->Own base 4 eBool 1 w v bs->WishesR base w n (.tuple #[u,v,.int .i64 0])
theorem wishes1_no (B8 B9 B10:Nat) (e:Int) (u:FrameMode) (w:World) (he:e≠0) (h:w.cell? ⟨B10,0,none⟩=some (.int .i64 e)) (f8:w.frozen? ⟨B8,0,none⟩=false) (f9:w.frozen? ⟨B9,0,none⟩=false)
  {v8 v9:Value} (h8:w.cell? ⟨B8,0,none⟩=some v8) (h9:w.cell? ⟨B9,0,none⟩=some v9) (h89:B8≠B9) :
  CallsD Tryz.prog 228 #[.pointer (some ⟨B10,0,none⟩),.pointer (some ⟨B8,0,none⟩),.pointer (some ⟨B9,0,none⟩)] u w fun x u' w'=>u'=u/\(x=.returned (.tuple #[])/\w'=(w.setCell ⟨B8,0,none⟩ (.slice none 0 0)).setCell ⟨B9,0,none⟩ (.slice none 0 0)):=by
 have z1:(e != 0)=true:=by simpa using he
 have g9:(w.setCell ⟨B8,0,none⟩ (.slice none 0 0)).cell? ⟨B9,0,none⟩=some v9:=cell_far h9 _ _ (Ne.symm h89)
 have g9':(w.setCell ⟨B8,0,none⟩ (.slice none 0 0)).frozen? ⟨B9,0,none⟩=false:=(World.frozen?_setCell _ _ _ _).trans f9
 go_enter_d Tryz.func228,Tryz.ntmps228
 go_wp2
 first|go_end0|refine bodyPost_ret (results_none rfl _ _ _) rfl ?_
 exact ⟨rfl,rfl⟩
theorem wishes1_ok (B8 B9 B10:Nat) (u:FrameMode) (w:World) (h:w.cell? ⟨B10,0,none⟩=some (.int .i64 0)) :
  CallsD Tryz.prog 228 #[.pointer (some ⟨B10,0,none⟩),.pointer (some ⟨B8,0,none⟩),.pointer (some ⟨B9,0,none⟩)] u w fun x u' w'=>u'=u/\(x=.returned (.tuple #[])/\w'=w):=by
 go_enter_d Tryz.func228,Tryz.ntmps228
 go_wp2
 first|go_end0|refine bodyPost_ret (results_none rfl _ _ _) rfl ?_
 exact ⟨rfl,rfl⟩
theorem rwishes_any (n:Net) (ss:List SecD) (vS:Value) (s:St) (sec:Int) (w:World) (hg:gNet w n) (hn:netB n=true) (hs:IsSecs w vS ss) (hgs:gSt w s) :
  Calls Tryz.prog 171 #[vNet n,vS,vSt s,.int .i64 sec] w fun e w'=>(∃ u,e=.returned u/\WishesR w.heap.size w' n u)/\Below w.heap.size w w':=by
 have hmf:∀ (fn:Fn) (first cap:Array Value) (w:World),(Instr.makeFunc fn first cap).run Tryz.prog w=.ok (.func fn first cap) w:=fun _ _ _ _=>rfl
 obtain ⟨L,hL⟩:∃ L:List (Array Value×TypeId),L = [((eNet n).toArray,25),((eSt s).toArray,31),(#[.slice none 0 0],28),(#[.slice none 0 0],29),(#[.int .i64 0],39)]:=⟨_,rfl⟩
 obtain ⟨W,hW⟩:∃ W,W=allocs w L:=⟨_,rfl⟩
 have hbw:Below w.heap.size w W:=by rw [hW];exact allocs_below _ _
 have t0:W.heap[w.heap.size]? = some (.cells (eNet n).toArray 25 (0,0)):=by rw [hW,hL];exact allocs_at _ w 0 (by simp)
 have t1:W.heap[w.heap.size+1]? = some (.cells (eSt s).toArray 31 (0,0)):=by rw [hW,hL];exact allocs_at _ w 1 (by simp)
 have t2:W.heap[w.heap.size+2]? = some (.cells #[.slice none 0 0] 28 (0,0)):=by rw [hW,hL];exact allocs_at _ w 2 (by simp)
 have t3:W.heap[w.heap.size+3]? = some (.cells #[.slice none 0 0] 29 (0,0)):=by rw [hW,hL];exact allocs_at _ w 3 (by simp)
 have t4:W.heap[w.heap.size+4]? = some (.cells #[.int .i64 0] 39 (0,0)):=by rw [hW,hL];exact allocs_at _ w 4 (by simp)
 have HW:Hid (W=((((w.alloc (.cells (eNet n).toArray 25)).alloc (.cells (eSt s).toArray 31)).alloc (.cells #[.slice none 0 0] 28)).alloc (.cells #[.slice none 0 0] 29)).alloc (.cells #[.int .i64 0] 39)):=qh (by rw [hW,hL];rfl)
 clear hW hL
 have hsz:w.heap.size+4<W.heap.size:=(Array.getElem?_eq_some_iff.1 t4).1
 have hC0:WC W w.heap.size (w.heap.size+1) (w.heap.size+2) (w.heap.size+3) (w.heap.size+4) n s (.slice s.O.a s.O.xs.length s.O.cap) (.slice none 0 0) (.slice none 0 0) 0:=
  ⟨(tank_blk t0 0).trans rfl,(tank_blk t0 1).trans rfl,(tank_blk t1 0).trans rfl,(tank_blk t1 1).trans rfl,(tank_blk t1 2).trans rfl,(tank_blk t1 3).trans rfl,(tank_blk t2 0).trans rfl,(tank_blk t3 0).trans rfl,(tank_blk t4 0).trans rfl,tank_free t1 3,tank_free t2 0,tank_free t3 0,tank_free t4 0,by omega,by omega,by omega,by omega⟩
 have HG:=qh hg
 have HNB:=qh hn
 clear hn
 have HS:=qh hs
 have HGS:=qh hgs
 clear t0 t1 t2 t3 t4
 simp only [vNet,vSt,vSl]
 go_enter_defers Tryz.func171,Tryz.ntmps171
 go_upto_region 1 with (fail)
 simp only [Nat.add_assoc,Nat.reduceAdd]
 rw [<-HW.out]
 clear HW
 obtain ⟨b0,h0⟩:∃ b,b=w.heap.size:=⟨_,rfl⟩
 obtain ⟨b6,h6⟩:∃ b,b=w.heap.size+1:=⟨_,rfl⟩
 obtain ⟨b8,h8⟩:∃ b,b=w.heap.size+2:=⟨_,rfl⟩
 obtain ⟨b9,h9⟩:∃ b,b=w.heap.size+3:=⟨_,rfl⟩
 obtain ⟨b10,h10⟩:∃ b,b=w.heap.size+4:=⟨_,rfl⟩
 have HB:Hid (b0=w.heap.size/\b6=w.heap.size+1/\b8=w.heap.size+2/\b9=w.heap.size+3/\b10=w.heap.size+4/\b10<W.heap.size):=qh ⟨h0,h6,h8,h9,h10,by omega⟩
 rw [<-h6,<-h8,<-h9,<-h10,<-h0] at hC0 ⊢
 clear h0 h6 h8 h9 h10 hg hs hgs
 have hlv:=slevs_any n s.V W (rdNet.mono HG.out hbw) (rdSt.mono HGS.out hbw).1
 simp only [vNet,vSl] at hlv
 have q0:=(hC0).q0
 have q1:=(hC0).q1
 have s0:=(hC0).s0
 have s1:=(hC0).s1
 have s2:=(hC0).s2
 have s3:=(hC0).s3
 have r8:=(hC0).r8
 have r9:=(hC0).r9
 have r10:=(hC0).r10
 have f3:=(hC0).f3
 have f8:=(hC0).f8
 have f9:=(hC0).f9
 have f10:=(hC0).f10
 have dd1:b8≠b9:=by have:=(hC0).d3;omega
 have dd2:b9≠b10:=by have:=(hC0).d4;omega
 have dd3:b6≠b9:=by have:=(hC0).d2;have:=(hC0).d3;omega
 have dd4:b6≠b10:=by have:=(hC0).d2;have:=(hC0).d3;have:=(hC0).d4;omega
 go_wp2_with fail
 refine Calls.to hlv ?_
 rintro e w2 ⟨lv,rfl,hls⟩ hb2
 have hC2:=hC0.mono hb2
 obtain ⟨ls,hlsq⟩:∃ ls,ls=(levsM n s.V.xs).1:=⟨_,rfl⟩
 obtain ⟨e1,he1⟩:∃ e1,e1=(levsM n s.V.xs).2:=⟨_,rfl⟩
 rw [<-hlsq] at hls
 rw [<-he1]
 have hbr2:=hbw.trans (hb2.mono hbw.size)
 have hbW2:=hb2
 clear q0 q1 s0 s1 s2 s3 r8 r9 r10 f3 f8 f9 f10 dd1 dd2 dd3 dd4
 clear hlv hlsq he1 hC0 hb2
 have q0:=(hC2).q0
 have q1:=(hC2).q1
 have s0:=(hC2).s0
 have s1:=(hC2).s1
 have s2:=(hC2).s2
 have s3:=(hC2).s3
 have r8:=(hC2).r8
 have r9:=(hC2).r9
 have r10:=(hC2).r10
 have f3:=(hC2).f3
 have f8:=(hC2).f8
 have f9:=(hC2).f9
 have f10:=(hC2).f10
 have dd1:b8≠b9:=by have:=(hC2).d3;omega
 have dd2:b9≠b10:=by have:=(hC2).d4;omega
 have dd3:b6≠b9:=by have:=(hC2).d2;have:=(hC2).d3;omega
 have dd4:b6≠b10:=by have:=(hC2).d2;have:=(hC2).d3;have:=(hC2).d4;omega
 by_cases hz:e1=0
 rotate_left
 ·have z1:(e1 != 0)=true:=by simpa using hz
  have HNE:=qh hz
  clear hz
  go_wp2_with fail
  have hC3:=hC2.set10 e1
  have hb3:=hbr2.setCell (p:=⟨b10,0,none⟩) (by have:=HB.out;show w.heap.size<=b10;omega) (.int .i64 e1)
  refine leaves_cons (f:=228) (args:=#[.pointer (some ⟨b10,0,none⟩),.pointer (some ⟨b8,0,none⟩),.pointer (some ⟨b9,0,none⟩)]) (by simp) (by simp [go_sem]) ?_
  have hd:=wishes1_no b8 b9 b10 e1 .returning _ HNE.out (hC3).r10 (hC3).f8 (hC3).f9 (hC3).r8 (hC3).r9 (by have:=(hC3).d3;omega)
  have hC:=(((hC3).set8 (.slice none 0 0)).set9 (.slice none 0 0))
  have hbz:=((hb3).setCell (p:=⟨b8,0,none⟩) (by have:=HB.out;show w.heap.size<=b8;omega) (.slice none 0 0)).setCell (p:=⟨b9,0,none⟩) (by have:=HB.out;show w.heap.size<=b9;omega) (.slice none 0 0)
  have z8:=hC.r8
  have z9:=hC.r9
  have z10:=hC.r10
  refine hd.mono ?_
  rintro e u' w'' ⟨rfl,rfl,rfl⟩
  exact ⟨.tuple #[.slice none 0 0,.slice none 0 0,.int .i64 e1],by simp (maxDischargeDepth:=9) [results,Tryz.results171,go_sem,z8,z9,z10],⟨_,rfl,.no _ HNE.out⟩,hbz⟩
 have z1:(e1 != 0)=false:=by simpa using hz
 subst hz
 have hC3:=hC2.set10 0
 have hb3:=hbr2.setCell (p:=⟨b10,0,none⟩) (by have:=HB.out;show w.heap.size<=b10;omega) (.int .i64 0)
 have hO3:Own W.heap.size 3 eInt 1 (w2.setCell ⟨b10,0,none⟩ (.int .i64 0)) lv ls:=hls.under (a:=⟨b10,0,none⟩) (by have:=HB.out;show b10<W.heap.size;omega) _
 have hs3:W.heap.size<=(w2.setCell ⟨b10,0,none⟩ (.int .i64 0)).heap.size:=by simp [World.setCell];exact hbW2.size
 go_upto_region 4 with (fail)
 clear q0 q1 s0 s1 s2 s3 r8 r9 r10 f3 f8 f9 f10 dd1 dd2 dd3 dd4
 clear hls hC2
 generalize w2.setCell ⟨b10,0,none⟩ (.int .i64 0)=w3 at *
 have hon:=lon_any n ls lv s w3 (rdNet.mono HG.out hb3) (hO3.isL (fun _=>rfl)) (rdSt.mono HGS.out hb3)
 simp only [vNet,vSt,vSl] at hon
 have q0:=(hC3).q0
 have q1:=(hC3).q1
 have s0:=(hC3).s0
 have s1:=(hC3).s1
 have s2:=(hC3).s2
 have s3:=(hC3).s3
 have r8:=(hC3).r8
 have r9:=(hC3).r9
 have r10:=(hC3).r10
 have f3:=(hC3).f3
 have f8:=(hC3).f8
 have f9:=(hC3).f9
 have f10:=(hC3).f10
 have dd1:b8≠b9:=by have:=(hC3).d3;omega
 have dd2:b9≠b10:=by have:=(hC3).d4;omega
 have dd3:b6≠b9:=by have:=(hC3).d2;have:=(hC3).d3;omega
 have dd4:b6≠b10:=by have:=(hC3).d2;have:=(hC3).d3;have:=(hC3).d4;omega
 go_wp2_with fail
 refine Calls.to hon ?_
 rintro e w4 ⟨u,rfl,hu⟩ hb4
 have hC4:=hC3.mono hb4
 have hb5:=hb3.trans (hb4.mono hb3.size)
 have hs4:W.heap.size<=w4.heap.size:=Nat.le_trans hs3 hb4.size
 have hO4:=hO3.below hb4
 clear q0 q1 s0 s1 s2 s3 r8 r9 r10 f3 f8 f9 f10 dd1 dd2 dd3 dd4
 clear hon hC3 hO3 hb4
 have q0:=(hC4).q0
 have q1:=(hC4).q1
 have s0:=(hC4).s0
 have s1:=(hC4).s1
 have s2:=(hC4).s2
 have s3:=(hC4).s3
 have r8:=(hC4).r8
 have r9:=(hC4).r9
 have r10:=(hC4).r10
 have f3:=(hC4).f3
 have f8:=(hC4).f8
 have f9:=(hC4).f9
 have f10:=(hC4).f10
 have dd1:b8≠b9:=by have:=(hC4).d3;omega
 have dd2:b9≠b10:=by have:=(hC4).d4;omega
 have dd3:b6≠b9:=by have:=(hC4).d2;have:=(hC4).d3;omega
 have dd4:b6≠b10:=by have:=(hC4).d2;have:=(hC4).d3;have:=(hC4).d4;omega
 cases hu with
 | no e2 he2=>
  have z1:(e2 != 0)=true:=by simpa using he2
  have HNE:=qh he2
  clear he2
  go_wp2_with fail
  have hC6:=(hC4.set9 (.slice none 0 0)).set10 e2
  have hb6:=(hb5.setCell (p:=⟨b9,0,none⟩) (by have:=HB.out;show w.heap.size<=b9;omega) (.slice none 0 0)).setCell (p:=⟨b10,0,none⟩) (by have:=HB.out;show w.heap.size<=b10;omega) (.int .i64 e2)
  refine leaves_cons (f:=228) (args:=#[.pointer (some ⟨b10,0,none⟩),.pointer (some ⟨b8,0,none⟩),.pointer (some ⟨b9,0,none⟩)]) (by simp) (by simp [go_sem]) ?_
  have hd:=wishes1_no b8 b9 b10 e2 .returning _ HNE.out (hC6).r10 (hC6).f8 (hC6).f9 (hC6).r8 (hC6).r9 (by have:=(hC6).d3;omega)
  have hC:=(((hC6).set8 (.slice none 0 0)).set9 (.slice none 0 0))
  have hbz:=((hb6).setCell (p:=⟨b8,0,none⟩) (by have:=HB.out;show w.heap.size<=b8;omega) (.slice none 0 0)).setCell (p:=⟨b9,0,none⟩) (by have:=HB.out;show w.heap.size<=b9;omega) (.slice none 0 0)
  have z8:=hC.r8
  have z9:=hC.r9
  have z10:=hC.r10
  refine hd.mono ?_
  rintro e u' w'' ⟨rfl,rfl,rfl⟩
  exact ⟨.tuple #[.slice none 0 0,.slice none 0 0,.int .i64 e2],by simp (maxDischargeDepth:=9) [results,Tryz.results171,go_sem,z8,z9,z10],⟨_,rfl,.no _ HNE.out⟩,hbz⟩
 | ok uo bs hbl hbk hbs=>
 have HBL:=qh hbl
 clear hbl
 obtain ⟨aO,cO,hao⟩:=hbs.isSlice
 subst hao
 have hC6:=((hC4.set9 (.slice aO bs.length cO)).set10 0).set3 (.slice aO bs.length cO)
 have hb6:=((hb5.setCell (p:=⟨b9,0,none⟩) (by have:=HB.out;show w.heap.size<=b9;omega) (.slice aO bs.length cO)).setCell (p:=⟨b10,0,none⟩) (by have:=HB.out;show w.heap.size<=b10;omega) (.int .i64 0)).setCell (p:=⟨b6,3,none⟩) (by have:=HB.out;show w.heap.size<=b6;omega) (.slice aO bs.length cO)
 have hO6:=((hO4.under (a:=⟨b9,0,none⟩) (by have:=HB.out;show b9<W.heap.size;omega) (.slice aO bs.length cO)).under (a:=⟨b10,0,none⟩) (by have:=HB.out;show b10<W.heap.size;omega) (.int .i64 0)).under (a:=⟨b6,3,none⟩) (by have:=HB.out;show b6<W.heap.size;omega) (.slice aO bs.length cO)
 have hP6:=(((hbs.base hs3).under (a:=⟨b9,0,none⟩) (by have:=HB.out;show b9<W.heap.size;omega) (.slice aO bs.length cO)).under (a:=⟨b10,0,none⟩) (by have:=HB.out;show b10<W.heap.size;omega) (.int .i64 0)).under (a:=⟨b6,3,none⟩) (by have:=HB.out;show b6<W.heap.size;omega) (.slice aO bs.length cO)
 have hs6:W.heap.size<=(((w4.setCell ⟨b9,0,none⟩ (.slice aO bs.length cO)).setCell ⟨b10,0,none⟩ (.int .i64 0)).setCell ⟨b6,3,none⟩ (.slice aO bs.length cO)).heap.size:=by simp [World.setCell];exact hs4
 have z1:((0:Int) != 0)=false:=by rfl
 go_upto_region 7 with (fail)
 generalize ((w4.setCell ⟨b9,0,none⟩ (.slice aO bs.length cO)).setCell ⟨b10,0,none⟩ (.int .i64 0)).setCell ⟨b6,3,none⟩ (.slice aO bs.length cO)=w6 at *
 obtain ⟨sx,hsx⟩:∃ sx:St,sx=⟨s.V,s.P,s.S,⟨aO,cO,bs⟩⟩:=⟨_,rfl⟩
 have hGS2:gSt w6 sx:=by
  have h:=rdSt.mono HGS.out hb6
  obtain ⟨a',c',he,h1,h2,h3⟩:=hP6.isL (fun _=>rfl)
  cases he
  rw [hsx]
  exact ⟨h.1,h.2.1,h.2.2.1,h1,h2,h3,fun _ _=>trivial⟩
 have hfl:=lflows_any n ss vS ls lv sx w6 (rdNet.mono HG.out hb6) (HS.out.mono hb6) (hO6.isL (fun _=>rfl)) hGS2
 rw [hsx] at hfl
 simp only [vNet,vSt,vSl] at hfl
 clear q0 q1 s0 s1 s2 s3 r8 r9 r10 f3 f8 f9 f10 dd1 dd2 dd3 dd4
 clear hC4 hb5 hs4 hO4 hb3 hs3 z1
 have q0:=(hC6).q0
 have q1:=(hC6).q1
 have s0:=(hC6).s0
 have s1:=(hC6).s1
 have s2:=(hC6).s2
 have s3:=(hC6).s3
 have r8:=(hC6).r8
 have r9:=(hC6).r9
 have r10:=(hC6).r10
 have f3:=(hC6).f3
 have f8:=(hC6).f8
 have f9:=(hC6).f9
 have f10:=(hC6).f10
 have dd1:b8≠b9:=by have:=(hC6).d3;omega
 have dd2:b9≠b10:=by have:=(hC6).d4;omega
 have dd3:b6≠b9:=by have:=(hC6).d2;have:=(hC6).d3;omega
 have dd4:b6≠b10:=by have:=(hC6).d2;have:=(hC6).d3;have:=(hC6).d4;omega
 go_wp2_with fail
 refine Calls.to hfl ?_
 rintro e w7 ⟨u,rfl,hu⟩ hb7
 obtain ⟨uq,qs,e3,rfl,hq7,hq0,hq1,hql⟩:∃ uq qs e3,u=.tuple #[uq,.int .i64 e3]/\Own w6.heap.size 3 eInt 1 w7 uq qs/\(e3=0->qs.length=n.Ls.xs.length)/\(e3≠0->qs = [])/\qs.length<=2147483647:=by
  cases hu with
  | no e he=>exact ⟨_,[],e,rfl,World.ownsRow_nil _ _ _ _,fun h=>absurd h he,fun _=>rfl,by simp⟩
  | ok u qs hl ho=>
   refine ⟨u,qs,0,rfl,ho,fun _=>hl,fun h=>absurd rfl h,?_⟩
   rw [hl];have:=(netB_size HNB.out).2;omega
 have hC7:=hC6.mono hb7
 have hb8:=(hb6.trans (hb7.mono hb6.size)).setCell (p:=⟨b10,0,none⟩) (by have:=HB.out;show w.heap.size<=b10;omega) (.int .i64 e3)
 have hC8:=hC7.set10 e3
 have hs7:=hb7.size
 have hQ8:=hq7.under (a:=⟨b10,0,none⟩) (by have:=HB.out;show b10<w6.heap.size;omega) (.int .i64 e3)
 have hP8:=(hP6.below hb7).under (a:=⟨b10,0,none⟩) (by have:=HB.out;show b10<W.heap.size;omega) (.int .i64 e3)
 have hs8:W.heap.size<=(w7.setCell ⟨b10,0,none⟩ (.int .i64 e3)).heap.size:=by simp [World.setCell];omega
 clear q0 q1 s0 s1 s2 s3 r8 r9 r10 f3 f8 f9 f10 dd1 dd2 dd3 dd4
 clear hfl hu hGS2 hsx hO6
 have q0:=(hC7).q0
 have q1:=(hC7).q1
 have s0:=(hC7).s0
 have s1:=(hC7).s1
 have s2:=(hC7).s2
 have s3:=(hC7).s3
 have r8:=(hC7).r8
 have r9:=(hC7).r9
 have r10:=(hC7).r10
 have f3:=(hC7).f3
 have f8:=(hC7).f8
 have f9:=(hC7).f9
 have f10:=(hC7).f10
 have dd1:b8≠b9:=by have:=(hC7).d3;omega
 have dd2:b9≠b10:=by have:=(hC7).d4;omega
 have dd3:b6≠b9:=by have:=(hC7).d2;have:=(hC7).d3;omega
 have dd4:b6≠b10:=by have:=(hC7).d2;have:=(hC7).d3;have:=(hC7).d4;omega
 obtain ⟨aq,cq,haq⟩:=hq7.isSlice
 subst haq
 go_upto_region 8 with (fail)
 clear q0 q1 s0 s1 s2 s3 r8 r9 r10 f3 f8 f9 f10 dd1 dd2 dd3 dd4
 clear hC7 hC6 hb6 hP6 hb7 hq7
 generalize w7.setCell ⟨b10,0,none⟩ (.int .i64 e3)=w8 at *
 have HLQ:Hid (∀ g,(Value.slice aq qs.length cq).ownBlock=some g->g<w8.heap.size):=qh (fun g h=>(hQ8.lt g h).2)
 have HLP:Hid (∀ g,(Value.slice aO bs.length cO).ownBlock=some g->g<w8.heap.size):=qh (fun g h=>(hP8.lt g h).2)
 have HQ0:=qh hq0
 have HQ1:=qh hq1
 have HS6:Hid (b10<w6.heap.size):=qh (by have:=HB.out;omega)
 obtain ⟨qn,hqn⟩:∃ qn,qn=qs.length:=⟨_,rfl⟩
 have HQN:=qh hqn
 rw [<-hqn] at hql HLQ hQ8 ⊢
 have HC8:=qh hC8
 have HQ8:=qh hQ8
 have HP8:=qh hP8
 clear hq0 hq1 hqn hC8 hQ8 hP8
 have hs9:b10<w8.heap.size:=by have:=HB.out;omega
 go_wp2_with fail
 go_loopw [47] (fun s47 wr=>∃ (k:Nat) (v8:Value) (xs:List Int),k<=qn/\s47=.int .i64 k/\Below w.heap.size w wr/\w8.heap.size<=wr.heap.size/\Hid (WC wr b0 b6 b8 b9 b10 n s (.slice aO bs.length cO) v8 (.slice aO bs.length cO) e3)/\Hid (Own w8.heap.size 3 eInt 1 wr v8 xs)/\Hid (xs.length=k)/\Hid (∀ x∈xs,0<=x/\x<=1125899906842624) /\
  Hid (Own w6.heap.size 3 eInt 1 wr (.slice aq qn cq) qs)/\Hid (Own W.heap.size 4 eBool 1 wr (.slice aO bs.length cO) bs)) (fun s47 _=>qn-(RowKit.intOf s47).toNat)
 case atStart=>exact ⟨0,.slice none 0 0,[],Nat.zero_le _,rfl,hb8,Nat.le_refl _,HC8,qh (World.ownsRow_nil _ _ _ _),qh rfl,qh (fun x hx=>by cases hx),HQ8,HP8⟩
 clear HC8 HQ8 HP8 hb8
 case round=>
  obtain ⟨k,v8,xs,hk,rfl,hb,hsz,HC,HO,hxl,hxb,HQ,HP⟩:=hrel
  obtain ⟨wo,hwo⟩:∃ wo,wo=wr:=⟨_,rfl⟩
  subst hwo
  by_cases hkm:k<qn
  ·have he3:e3=0:=by
    by_cases h:e3=0
    ·exact h
    ·have h1:=HQ1.out h
     have h2:=HQN.out
     rw [h1] at h2
     simp at h2
     omega
   have hkq:k<qs.length:=by rw [<-HQN.out];exact hkm
   obtain ⟨gq,c',hge,-,-,-,-⟩:=HQ.out.place om
   rw [<-HQN.out] at hge
   simp only [Value.slice.injEq] at hge
   obtain ⟨rfl,-,rfl⟩:=hge
   have e0:=HQ.out.int1 (k:=k) hkq rfl
   obtain ⟨q,hq⟩:∃ q,q=qs[k]'hkq:=⟨_,rfl⟩
   rw [<-hq] at e0
   have hC:=HC.out
   have i1:decide (k<qn)=true:=decide_eq_true hkm
   have x7:IntKind.i64.wrap ((k:Int)+1)=k+1:=IntWalk.i64_in _ om
   have i4:(0:Int)<=k:=by omega
   have i5:(k:Int)<qn:=by omega
   have hwi:=lwish_any q sec
   subst he3
   obtain ⟨a8,c8,rfl⟩:=HO.out.isSlice
   have HKM:=qh hkm
   clear hq hkq hkm
   have q0:=(hC).q0
   have q1:=(hC).q1
   have s0:=(hC).s0
   have s1:=(hC).s1
   have s2:=(hC).s2
   have s3:=(hC).s3
   have r8:=(hC).r8
   have r9:=(hC).r9
   have r10:=(hC).r10
   have f3:=(hC).f3
   have f8:=(hC).f8
   have f9:=(hC).f9
   have f10:=(hC).f10
   have dd1:b8≠b9:=by have:=(hC).d3;omega
   have dd2:b9≠b10:=by have:=(hC).d4;omega
   have dd3:b6≠b9:=by have:=(hC).d2;have:=(hC).d3;omega
   have dd4:b6≠b10:=by have:=(hC).d2;have:=(hC).d3;have:=(hC).d4;omega
   go_wp2_with fail
   refine (hwi _).mono ?_
   rintro e w9 ⟨⟨u,rfl,hu⟩,hw9⟩
   have hw9:=hw9.symm
   subst hw9
   cases hu with
   | no=>
    have z1:((2:Int) != 0)=true:=rfl
    have HNE:Hid ((2:Int)≠0):=qh (by decide)
    go_wp2_with fail
    have hC9:=hC.set10 2
    have hb9:=hb.setCell (p:=⟨b10,0,none⟩) (by have:=HB.out;show w.heap.size<=b10;omega) (.int .i64 2)
    refine leaves_cons (f:=228) (args:=#[.pointer (some ⟨b10,0,none⟩),.pointer (some ⟨b8,0,none⟩),.pointer (some ⟨b9,0,none⟩)]) (by simp) (by simp [go_sem]) ?_
    have hd:=wishes1_no b8 b9 b10 (2:Int) .returning _ HNE.out (hC9).r10 (hC9).f8 (hC9).f9 (hC9).r8 (hC9).r9 (by have:=(hC9).d3;omega)
    have hC:=(((hC9).set8 (.slice none 0 0)).set9 (.slice none 0 0))
    have hbz:=((hb9).setCell (p:=⟨b8,0,none⟩) (by have:=HB.out;show w.heap.size<=b8;omega) (.slice none 0 0)).setCell (p:=⟨b9,0,none⟩) (by have:=HB.out;show w.heap.size<=b9;omega) (.slice none 0 0)
    have z8:=hC.r8
    have z9:=hC.r9
    have z10:=hC.r10
    refine hd.mono ?_
    rintro e u' w'' ⟨rfl,rfl,rfl⟩
    exact ⟨.tuple #[.slice none 0 0,.slice none 0 0,.int .i64 (2:Int)],by simp (maxDischargeDepth:=9) [results,Tryz.results171,go_sem,z8,z9,z10],⟨_,rfl,.no _ HNE.out⟩,hbz⟩
   | ok y hy=>
    have z1:((0:Int) != 0)=false:=rfl
    go_upto_region 14 with (fail)
    have hC9:=hC.set10 0
    have hb9:=hb.setCell (p:=⟨b10,0,none⟩) (by have:=HB.out;show w.heap.size<=b10;omega) (.int .i64 0)
    have hO9:=HO.out.under (a:=⟨b10,0,none⟩) hs9 (.int .i64 0)
    have hQ9:=qh (HQ.out.under (a:=⟨b10,0,none⟩) HS6.out (.int .i64 0))
    have hP9:=qh (HP.out.under (a:=⟨b10,0,none⟩) (by have:=HB.out;show b10<W.heap.size;omega) (.int .i64 0))
    have hsz9:w8.heap.size<=(wo.setCell ⟨b10,0,none⟩ (.int .i64 0)).heap.size:=by simp [World.setCell];exact hsz
    clear q0 q1 s0 s1 s2 s3 r8 r9 r10 f3 f8 f9 f10 dd1 dd2 dd3 dd4
    clear hC
    generalize wo.setCell ⟨b10,0,none⟩ (.int .i64 0)=w9 at *
    have hyl:xs.length<2147483648:=by have:=hxl.out;omega
    have h1c:∀ u∈eInt y,u.oneCell'=true:=by simp [Value.oneCell']
    have hob:∀ g,(Value.slice a8 xs.length c8).ownBlock=some g->b10<g:=fun g hg=>by have:=(hO9.lt g hg).1;omega
    have q0:=(hC9).q0
    have q1:=(hC9).q1
    have s0:=(hC9).s0
    have s1:=(hC9).s1
    have s2:=(hC9).s2
    have s3:=(hC9).s3
    have r8:=(hC9).r8
    have r9:=(hC9).r9
    have r10:=(hC9).r10
    have f3:=(hC9).f3
    have f8:=(hC9).f8
    have f9:=(hC9).f9
    have f10:=(hC9).f10
    have dd1:b8≠b9:=by have:=(hC9).d3;omega
    have dd2:b9≠b10:=by have:=(hC9).d4;omega
    have dd3:b6≠b9:=by have:=(hC9).d2;have:=(hC9).d3;omega
    have dd4:b6≠b10:=by have:=(hC9).d2;have:=(hC9).d3;have:=(hC9).d4;omega
    go_wp2_with (at_builtin;go_must (refine wpList_pushR rfl _ _ 28 rfl 3 _ 1 8 undInts infInt rfl (by decide) y (fun _=>rfl) h1c _ xs rfl hO9 w9.heap.size rfl rfl hyl (by decide) hsz9 _ rfl ?_);intro g5 c5 w10 hR;have hCA:=hC9.grown hR.grown hob;have r8:=hCA.r8;have f8:=hCA.f8)
    have hbA:=hb9.trans ((hR.below hO9 hsz9).mono (by have:=HB.out;omega))
    have hQA:=hR.other hQ9.out (fun g hg=>fun he=>by have h1:=HLQ.out g hg;have h2:=(hO9.lt g he).1;omega)
    have hPA:=hR.other hP9.out (fun g hg=>fun he=>by have h1:=HLP.out g hg;have h2:=(hO9.lt g he).1;omega)
    have hszA:=hR.grown.size
    have hCB:=qh (hCA.set8 (.slice (some ⟨g5,0,none⟩) (xs.length+1) c5))
    have hbB:=hbA.setCell (p:=⟨b8,0,none⟩) (by have:=HB.out;show w.heap.size<=b8;omega) (.slice (some ⟨g5,0,none⟩) (xs.length+1) c5)
    have hOB:=qh (hR.own.under (a:=⟨b8,0,none⟩) (by have:=HB.out;show b8<w8.heap.size;omega) (.slice (some ⟨g5,0,none⟩) (xs.length+1) c5))
    have hQB:=qh (hQA.under (a:=⟨b8,0,none⟩) (by have:=HB.out;have:=HS6.out;show b8<w6.heap.size;omega) (.slice (some ⟨g5,0,none⟩) (xs.length+1) c5))
    have hPB:=qh (hPA.under (a:=⟨b8,0,none⟩) (by have:=HB.out;show b8<W.heap.size;omega) (.slice (some ⟨g5,0,none⟩) (xs.length+1) c5))
    have hszB:w8.heap.size<=(w10.setCell ⟨b8,0,none⟩ (.slice (some ⟨g5,0,none⟩) (xs.length+1) c5)).heap.size:=by simp [World.setCell];omega
    clear q0 q1 s0 s1 s2 s3 r8 r9 r10 f3 f8 f9 f10 dd1 dd2 dd3 dd4
    clear hCA hQA hPA hbA hR hO9 hC9 hb9
    go_wp2_with fail
    go_roundw
    case measure=>have:=HKM.out;simp [RowKit.intOf,x7];omega
    case rel=>exact ⟨k+1,_,xs ++ [y],HKM.out,by go_num,hbB,hszB,hCB,hOB,qh (by rw [List.length_append,hxl.out];rfl),qh (fun x hx=>by
     rcases List.mem_append.1 hx with h|h
     ·exact hxb.out x h
     ·rw [List.mem_singleton] at h;rw [h];exact hy),hQB,hPB⟩
  ·have i1:decide (k<qn)=false:=decide_eq_false hkm
   have hkq:k=qn:=by omega
   have hC:=HC.out
   have q0:=(hC).q0
   have q1:=(hC).q1
   have s0:=(hC).s0
   have s1:=(hC).s1
   have s2:=(hC).s2
   have s3:=(hC).s3
   have r8:=(hC).r8
   have r9:=(hC).r9
   have r10:=(hC).r10
   have f3:=(hC).f3
   have f8:=(hC).f8
   have f9:=(hC).f9
   have f10:=(hC).f10
   have dd1:b8≠b9:=by have:=(hC).d3;omega
   have dd2:b9≠b10:=by have:=(hC).d4;omega
   have dd3:b6≠b9:=by have:=(hC).d2;have:=(hC).d3;omega
   have dd4:b6≠b10:=by have:=(hC).d2;have:=(hC).d3;have:=(hC).d4;omega
   by_cases he3:e3=0
   ·subst he3
    have hin:=HO.out.base (show w.heap.size<=w8.heap.size by have:=HB.out;omega)
    have hbo:=HP.out.base hbw.size
    have HFI:Hid (xs.length=n.Ls.xs.length):=qh (by rw [hxl.out,hkq,HQN.out,HQ0.out rfl])
    have HIN:=qh hin
    have HBO:=qh hbo
    clear hin hbo hkq
    go_wp2_with fail
    refine leaves_cons (f:=228) (args:=#[.pointer (some ⟨b10,0,none⟩),.pointer (some ⟨b8,0,none⟩),.pointer (some ⟨b9,0,none⟩)]) (by simp) (by simp [go_sem]) ?_
    have hd:=wishes1_ok b8 b9 b10 .returning _ (hC).r10
    have z8:=(hC).r8
    have z9:=(hC).r9
    have z10:=(hC).r10
    refine hd.mono ?_
    rintro e u' w'' ⟨rfl,rfl,rfl⟩
    exact ⟨.tuple #[v8,.slice aO bs.length cO,.int .i64 0],by simp (maxDischargeDepth:=9) [results,Tryz.results171,go_sem,z8,z9,z10],⟨_,rfl,(.ok _ _ xs bs HFI.out hxb.out HIN.out HBL.out hbk HBO.out)⟩,hb⟩
   ·have HNE:=qh he3
    clear hkq he3
    go_wp2_with fail
    refine leaves_cons (f:=228) (args:=#[.pointer (some ⟨b10,0,none⟩),.pointer (some ⟨b8,0,none⟩),.pointer (some ⟨b9,0,none⟩)]) (by simp) (by simp [go_sem]) ?_
    have hd:=wishes1_no b8 b9 b10 e3 .returning _ HNE.out (hC).r10 (hC).f8 (hC).f9 (hC).r8 (hC).r9 (by have:=(hC).d3;omega)
    have hC:=(((hC).set8 (.slice none 0 0)).set9 (.slice none 0 0))
    have hbz:=((hb).setCell (p:=⟨b8,0,none⟩) (by have:=HB.out;show w.heap.size<=b8;omega) (.slice none 0 0)).setCell (p:=⟨b9,0,none⟩) (by have:=HB.out;show w.heap.size<=b9;omega) (.slice none 0 0)
    have z8:=hC.r8
    have z9:=hC.r9
    have z10:=hC.r10
    refine hd.mono ?_
    rintro e u' w'' ⟨rfl,rfl,rfl⟩
    exact ⟨.tuple #[.slice none 0 0,.slice none 0 0,.int .i64 e3],by simp (maxDischargeDepth:=9) [results,Tryz.results171,go_sem,z8,z9,z10],⟨_,rfl,.no _ HNE.out⟩,hbz⟩
end Go.Proofs.YtoiakijmbghhlaaGreat
