/- network.Node; control.wrong. Conditions: the network is right; the inflows read as data. | control.wrong. Conditions: the network is right; the inflows read as data. -/
import Derived.Test.YtoiakijmbghhlaaGreatS32
import Derived.Test.YtoiakijmbghhlaaGreatS14
import Derived.Test.YtoiakijmbghhlaaGreatS30
set_option linter.unusedVariables false
set_option linter.unusedSimpArgs false
set_option maxRecDepth 100000
set_option maxHeartbeats 32000000
namespace Go.Proofs.YtoiakijmbghhlaaGreat
open Go.RowKit Go.Maps
def nodeX (n:Net) (nm:ByteArray):Int×Int:=if findNd n.Ns.xs nm<0 then (0,9) else (findNd n.Ns.xs nm,0)
theorem nfound_any (n:Net) (i:Int) (w:World):Calls Tryz.prog 131 #[vNet n,.int .i64 i] w fun e w'=>e=.returned (.tuple #[.int .i64 (if i<0 then 0 else i),.int .i64 (if i<0 then 9 else 0)])/\Below w.heap.size w w':=by
 have hb:=alloc_below w (.cells (eNet n).toArray 25)
 by_cases h:i<0
 ·have i1:decide (i<0)=true:=decide_eq_true h
  rw [if_pos h,if_pos h]
  go_enter Tryz.func131,Tryz.ntmps131
  go_wp2_with fail
  go_ret2
  exact ⟨rfl,hb⟩
 ·have i1:decide (i<0)=false:=decide_eq_false h
  rw [if_neg h,if_neg h]
  go_enter Tryz.func131,Tryz.ntmps131
  go_wp2_with fail
  go_ret2
  exact ⟨rfl,hb⟩
theorem nfound_lit {i:Int} {a b:Int} (h1:(if i<0 then 0 else i)=a) (h2:(if i<0 then (9:Int) else 0)=b) (n:Net) (w:World):Calls Tryz.prog 131 #[vNet n,.int .i64 i] w fun e w'=>e=.returned (.tuple #[.int .i64 a,.int .i64 b])/\Below w.heap.size w w':=by
 rw [<-h1,<-h2];exact nfound_any n i w
theorem node_lit {n:Net} {nm:ByteArray} {i:Int} (h:findNd n.Ns.xs nm=i) (w:World) (hv:IsNds w (vSl n.Ns) n.Ns.xs):Calls Tryz.prog 127 #[vNet n,.string nm] w fun e w'=>e=.returned (.int .i64 i)/\Below w.heap.size w w':=by
 rw [<-h];exact node_any n nm w hv
theorem nodeX_any (n:Net) (nm:ByteArray) (w:World) (hg:gNet w n) (hn:netB n=true):Calls Tryz.prog 60 #[vNet n,.string nm] w fun e w'=>e=.returned (.tuple #[.int .i64 (nodeX n nm).1,.int .i64 (nodeX n nm).2])/\Below w.heap.size w w':=by
 obtain ⟨W,hW⟩:∃ W,W=allocs w [((eNet n).toArray,25)]:=⟨_,rfl⟩
 have hbw:Below w.heap.size w W:=by rw [hW];exact allocs_below _ _
 have t0:W.heap[w.heap.size]? = some (.cells (eNet n).toArray 25 (0,0)):=by rw [hW];exact allocs_at _ w 0 (by simp)
 have HW:Hid (W=w.alloc (.cells (eNet n).toArray 25)):=qh hW
 have q0:W.cell? ⟨w.heap.size,0,none⟩=some (.slice n.Ns.a n.Ns.xs.length n.Ns.cap):=(tank_blk t0 0).trans rfl
 have q1:W.cell? ⟨w.heap.size,1,none⟩=some (.slice n.Ls.a n.Ls.xs.length n.Ls.cap):=(tank_blk t0 1).trans rfl
 have HG:=qh (rdNet.mono hg hbw)
 have hnv:=nvalid_any n W HG.out
 rw [hn] at hnv
 obtain ⟨i,hi⟩:∃ i,findNd n.Ns.xs nm=i:=⟨_,rfl⟩
 obtain ⟨a,ha⟩:∃ a,(if i<0 then 0 else i)=a:=⟨_,rfl⟩
 obtain ⟨b,hb⟩:∃ b,(if i<0 then (9:Int) else 0)=b:=⟨_,rfl⟩
 have hres:nodeX n nm=(a,b):=by
  unfold nodeX
  rw [hi,<-ha,<-hb]
  split <;> rfl
 rw [hres]
 have HI:=qh hi
 have HA:=qh ha
 have HB:=qh hb
 clear hres hi ha hb hW t0 hg hn
 simp only [vNet,vSl] at hnv ⊢
 go_enter Tryz.func60,Tryz.ntmps60
 go_upto_region 1 with (fail)
 rw [<-HW.out]
 clear HW
 go_wp2_with fail
 refine Calls.to hnv ?_
 rintro e w1 rfl hb1
 have hbr:=hbw.trans (hb1.mono hbw.size)
 have q0:=cel_lt q0 hb1
 have q1:=cel_lt q1 hb1
 have HNd:=qh (fun y=>(node_lit HI.out (more w1 y) ((rdNet.mono HG.out (hb1.trans ((below_more w1 y).mono hb1.size))).1.isL)))
 have HFd:=qh (fun y=>nfound_lit HA.out HB.out n (more w1 y))
 simp only [vNet,vSl] at HNd HFd
 clear hnv
 go_wp2_with fail
 refine wp_region_more_lit (by kernel_rfl) (by kernel_rfl) ?_
 repeat (go_big_quiet_step ((first|(go_at_call 127;exact Calls.more_of (HNd.out _))|(go_at_call 131;exact Calls.more_of (HFd.out _)))))
 refine wpQuiet_nil ?_
 intro _ hwq
 obtain ⟨xq,hwq⟩:=hwq
 subst hwq
 have hbrm:=Below.more hbr hbr.size xq
 go_wp2_with fail
 go_ret2
 exact ⟨rfl,hbrm⟩
theorem indexE_any (xs:List Int) (y:Int) (v:Value) (w:World) (hv:IsInts w v xs) :
  Calls Tryz.prog 123 #[v,.int .i64 y] w fun e w'=>e=.returned (.int .i64 (idxFrom (fun x=>y==x) xs 0))/\Below w.heap.size w w':=by
 obtain ⟨a,cap,rfl,hcap,hbig,hs⟩:=hv
 go_enter Tryz.func123,Tryz.ntmps123
 go_wp2
 go_loopw [5,8] (fun _ s8 wr=>∃ k:Nat,k<=xs.length/\s8=.int .i64 k/\Below w.heap.size w wr/\Hid (idxFrom (fun x=>y==x) xs 0=idxFrom (fun x=>y==x) (xs.drop k) k)) (fun _ i _=>xs.length-(intOf i).toNat)
 case atStart=>exact ⟨0,Nat.zero_le _,rfl,qr,rfl⟩
 case round=>
  obtain ⟨k,hk,rfl,hb,hm⟩:=hrel
  by_cases hlt:k<xs.length
  ·obtain ⟨b,off,rfl,c0⟩:=(hs.mono hb).int k hlt
   have hd:=qh (List.drop_eq_getElem_cons hlt)
   clear hs
   generalize xs[k]=x at *
   cases h:(y==x)
   ·have HS:=qh h
    go_wp2_with fail
    go_roundw
    case rel=>exact ⟨k+1,by omega,by go_num,bl,hm.out.trans (by rw [hd.out];simp [idxFrom,HS.out])⟩
    case measure=>simp [intOf];omega
   ·have HS:=qh h
    go_wp2_with fail
    go_ret
    exact ⟨ret_int (by rw [hm.out,hd.out];simp [idxFrom,HS.out]),bl⟩
  ·go_wp2_with fail
   go_ret
   refine ⟨ret_int ?_,bl⟩
   rw [hm.out,List.drop_eq_nil_of_le om];rfl
theorem ints3 (w:World) (a b c:Int) (T:TypeId):IsInts (w.alloc (.cells #[.int .i64 a,.int .i64 b,.int .i64 c] T)) (.slice (some ⟨w.heap.size,0,none⟩) 3 3) [a,b,c]:=
 isL_lit eInt 1 (fun _=>rfl) _ _ T #[.int .i64 a,.int .i64 b,.int .i64 c] [a,b,c] 3 3 (heap_alloc_new w _) rfl rfl (Nat.le_refl 3) om
theorem grown_trans {w w1 w2:World} {B:Nat} (h:Below w.heap.size w w1) (h2:w1.grownBy w2 (some B)):w.grownBy w2 (some B):=
 World.grownBy.trans (grown_none h (some B)) h2
theorem worse_any (f e0:Int) (hf:f=4\/f=10\/f=9) (B:Nat) (w:World) (hc:w.cell? ⟨B,0,none⟩=some (.int .i64 e0)) (hz:w.frozen? ⟨B,0,none⟩=false) :
  Calls Tryz.prog 122 #[.int .i64 f,.pointer (some ⟨B,0,none⟩)] w fun e w'=>e=.returned (.tuple #[])/\∃ e1:Int,e1≠0/\w'.cell? ⟨B,0,none⟩=some (.int .i64 e1)/\w'.frozen? ⟨B,0,none⟩=false/\w.grownBy w' (some B):=by
 obtain ⟨W,hW⟩:∃ W,W=w.alloc (.cells #[.int .i64 4,.int .i64 10,.int .i64 9] 39):=⟨_,rfl⟩
 have hbw:Below w.heap.size w W:=by rw [hW];exact alloc_below _ _
 have hL:IsInts W (.slice (some ⟨w.heap.size,0,none⟩) 3 3) [4,10,9]:=by rw [hW];exact ints3 w 4 10 9 _
 obtain ⟨ix,hix⟩:∃ ix:Int->Int,ix=fun z=>idxFrom (fun x=>z==x) [4,10,9] 0:=⟨_,rfl⟩
 have h01:e0=0->ix e0<ix f:=fun e=>by
  rw [hix,e]
  rcases hf with rfl|rfl|rfl <;> decide
 have hf0:f≠0:=by rcases hf with rfl|rfl|rfl <;> decide
 have HI:Hid (∀ y z,Calls Tryz.prog 123 #[.slice (some ⟨w.heap.size,0,none⟩) 3 3,.int .i64 z] (more W y) fun e w'=>e=.returned (.int .i64 (ix z))/\Below (more W y).heap.size (more W y) w'):=qh (fun y z=>by
  rw [hix]
  exact indexE_any [4,10,9] z _ _ (hL.more y))
 have HW:=qh hW
 have HFE:=qh (And.intro h01 hf0)
 have hz2:=frz_lt hz hc hbw
 replace hc:=cel_lt hc hbw
 clear hW hL hix h01 hf0 hf hz
 by_cases hlt:ix e0<ix f
 ·have i1:decide (ix e0<ix f)=true:=decide_eq_true hlt
  go_enter Tryz.func122,Tryz.ntmps122
  go_upto_region 1 with (fail)
  rw [<-HW.out]
  clear HW hlt
  refine wp_region_more_lit (by kernel_rfl) (by kernel_rfl) ?_
  repeat (go_big_quiet_step ((go_at_call 123;exact Calls.more_of (HI.out _ _))))
  refine wpQuiet_nil ?_
  intro _ hwq
  obtain ⟨xq,hwq⟩:=hwq
  subst hwq
  have hbm:=below_more W xq
  have hcm:=cel_lt hc hbm
  have hzm:(more W xq).frozen? ⟨B,0,none⟩=false:=frz_lt hz2 hc hbm
  generalize more W xq=W2 at *
  go_wp2_with fail
  first|go_end0|refine bodyPost_ret (results_none rfl _ _ _) rfl ?_
  refine ⟨rfl,f,HFE.out.2,World.cell?_setCell_same' _ _ _ (by rw [hcm];rfl),(World.frozen?_setCell _ _ _ _).trans hzm,grown_trans (hbw.trans (hbm.mono hbw.size)) (grownBy_set W2 ⟨B,0,none⟩ _)⟩
 ·have i1:decide (ix e0<ix f)=false:=decide_eq_false hlt
  have he0:e0≠0:=fun e=>hlt (HFE.out.1 e)
  have HE:=qh he0
  go_enter Tryz.func122,Tryz.ntmps122
  go_upto_region 1 with (fail)
  rw [<-HW.out]
  clear HW hlt he0
  refine wp_region_more_lit (by kernel_rfl) (by kernel_rfl) ?_
  repeat (go_big_quiet_step ((go_at_call 123;exact Calls.more_of (HI.out _ _))))
  refine wpQuiet_nil ?_
  intro _ hwq
  obtain ⟨xq,hwq⟩:=hwq
  subst hwq
  have hbm:=below_more W xq
  have hcm:=cel_lt hc hbm
  have hzm:(more W xq).frozen? ⟨B,0,none⟩=false:=frz_lt hz2 hc hbm
  generalize more W xq=W2 at *
  go_wp2_with fail
  first|go_end0|refine bodyPost_ret (results_none rfl _ _ _) rfl ?_
  exact ⟨rfl,e0,HE.out,hcm,hzm,grown_none (hbw.trans (hbm.mono hbw.size)) _⟩
theorem cel_gr {w w':World} {B j:Nat} {v:Value} {row:Option Nat} (hc:w.cell? ⟨B,j,none⟩=some v) (hg:w.grownBy w' row) (hne:row≠some B):w'.cell? ⟨B,j,none⟩=some v:=
 (World.cell?_of_block (hg.block B (lt_of_isSome (a:=⟨B,j,none⟩) (by rw [hc];rfl)) (fun e=>hne e.symm))).trans hc
theorem frz_gr {w w':World} {B j:Nat} {v:Value} {row:Option Nat} (hz:w.frozen? ⟨B,j,none⟩=false) (hc:w.cell? ⟨B,j,none⟩=some v) (hg:w.grownBy w' row) (hne:row≠some B):w'.frozen? ⟨B,j,none⟩=false:=
 (World.frozen?_of_block (hg.block B (lt_of_isSome (a:=⟨B,j,none⟩) (by rw [hc];rfl)) (fun e=>hne e.symm))).trans hz
theorem SetS.kept {w w':World} {b n:Nat} {s:ByteArray->Prop} {row:Option Nat} (h:SetS w b n s) (hg:w.grownBy w' row) (hne:some b≠row):SetS w' b n s:=by
 obtain ⟨D,h1,h2⟩:=h
 exact ⟨D,h1.kept hg hne,h2⟩
theorem SetS.upd {w:World} {b n:Nat} {s:ByteArray->Prop} (h:SetS w b n s) (hn:n<maxLen) {k:ByteArray} (hk:k.size<=maxLen) :
  ∃ w',(Instr.mapUpdate 206 (.map (some b)) (.string k) (.bool true)).run Tryz.prog w=.ok () w'/\SetS w' b (n+1) (fun j=>s j\/j=k)/\w.grownBy w' (some b):=by
 obtain ⟨D,hD,hf⟩:=h
 obtain ⟨w',h1,h2,h3⟩:=hD.update kStr undMSB hn (keyS hk) (plainElem_bool undB true)
 exact ⟨w',h1,SetS.put hD.isMap hf h2,h3⟩
structure GoodI (n:Net) (ins:List InD) (k:Nat):Prop where
 known:∀ a (h:a<ins.length),a<k->0<=findNd n.Ns.xs ins[a].N
 apart:∀ a b (ha:a<ins.length) (hb:b<ins.length),b<k->a<b->ins[a].N≠ins[b].N
theorem GoodI.zero (n:Net) (ins:List InD):GoodI n ins 0:=⟨fun a _ h=>absurd h (Nat.not_lt_zero a),fun a b _ _ h=>absurd h (Nat.not_lt_zero b)⟩
theorem GoodI.next {n:Net} {ins:List InD} {k:Nat} (h:GoodI n ins k) (hk:k<ins.length) (h1:0<=findNd n.Ns.xs ins[k].N) (h2:¬ ∃ i,i<k/\∃ hi:i<ins.length,ins[i].N=ins[k].N):GoodI n ins (k+1):=by
 refine ⟨fun a ha hak=>?_,fun a b ha hb hbk hab=>?_⟩
 ·by_cases e:a=k
  ·subst e;exact h1
  ·exact h.known a ha om
 ·by_cases e:b=k
  ·subst e
   exact fun he=>h2 ⟨a,hab,ha,he⟩
  ·exact h.apart a b ha hb om hab
theorem ctwrong_any (n:Net) (ins:Sl InD) (w:World) (hg:gNet w n) (hn:netB n=true) (hi:gIns w ins) :
  Calls Tryz.prog 55 #[vNet n,vSl ins] w fun e w'=>(∃ er:Int,e=.returned (.int .i64 er)/\(er=0->GoodI n ins.xs ins.xs.length))/\Below w.heap.size w w':=by
 have hmm:=@run_makeMap Tryz.prog
 have hmf:∀ (fn:Fn) (first cap:Array Value) (w:World),(Instr.makeFunc fn first cap).run Tryz.prog w=.ok (.func fn first cap) w:=fun _ _ _ _=>rfl
 obtain ⟨L,hL⟩:∃ L:List (Array Value×TypeId),L = [((eNet n).toArray,25),(#[.int .i64 0],39)]:=⟨_,rfl⟩
 obtain ⟨W,hW⟩:∃ W,W=allocs w L:=⟨_,rfl⟩
 have hbw:Below w.heap.size w W:=by rw [hW];exact allocs_below _ _
 have t0:W.heap[w.heap.size]? = some (.cells (eNet n).toArray 25 (0,0)):=by rw [hW,hL];exact allocs_at _ w 0 (by simp)
 have t1:W.heap[w.heap.size+1]? = some (.cells #[.int .i64 0] 39 (0,0)):=by rw [hW,hL];exact allocs_at _ w 1 (by simp)
 have HW:Hid (W=(w.alloc (.cells (eNet n).toArray 25)).alloc (.cells #[.int .i64 0] 39)):=qh (by rw [hW,hL];rfl)
 have hzW:W.heap.size=w.heap.size+1+1:=by rw [HW.out];simp
 obtain ⟨W1,hW1⟩:∃ W1,W1=W.alloc (.map #[] 0):=⟨_,rfl⟩
 have hbM:Below W.heap.size W W1:=by rw [hW1];exact alloc_below _ _
 have q0:=cel_lt ((tank_blk t0 0).trans rfl:W.cell? ⟨w.heap.size,0,none⟩=some (.slice n.Ns.a n.Ns.xs.length n.Ns.cap)) hbM
 have q1:=cel_lt ((tank_blk t0 1).trans rfl:W.cell? ⟨w.heap.size,1,none⟩=some (.slice n.Ls.a n.Ls.xs.length n.Ls.cap)) hbM
 have c5a:W.cell? ⟨w.heap.size+1,0,none⟩=some (.int .i64 0):=(tank_blk t1 0).trans rfl
 have c5:=cel_lt c5a hbM
 have f5:=frz_lt (tank_free t1 0) c5a hbM
 have hS0:SetS W1 W.heap.size 0 (fun _=>False):=by rw [hW1];exact SetS.made W
 have HG:=qh hg
 have HI:=qh hi
 have HNB:=qh hn
 obtain ⟨ni,hni⟩:∃ ni,ni=ins.xs.length:=⟨_,rfl⟩
 have HNI:=qh hni
 have hnib:ni<=9223372036854775807:=by have h1:=hi.1;have h2:=hi.2.1;omega
 simp only [vNet,vSl]
 rw [<-hni]
 have hb0:=hbw.trans (hbM.mono hbw.size)
 have HW1:=qh hW1
 clear hW hL t0 t1 hg hn hi hni c5a hbM hW1
 go_enter Tryz.func55,Tryz.ntmps55
 go_upto_region 4 with (fail)
 rw [<-HW.out,<-HW1.out]
 obtain ⟨b2,h2⟩:∃ b,b=w.heap.size:=⟨_,rfl⟩
 obtain ⟨b5,h5⟩:∃ b,b=w.heap.size+1:=⟨_,rfl⟩
 obtain ⟨bm,hm⟩:∃ b,b=w.heap.size+1+1:=⟨_,rfl⟩
 have HD:Hid (b2=w.heap.size/\b5=w.heap.size+1/\bm=w.heap.size+2):=qh ⟨h2,h5,by omega⟩
 have hsz0:w.heap.size+3<=W1.heap.size:=by rw [HW1.out];simp;omega
 rw [hzW] at hS0
 rw [<-hm] at hS0 ⊢
 rw [<-h5] at c5 f5 ⊢
 rw [<-h2] at q0 q1 ⊢
 clear HW HW1 hm h5 h2 hzW
 have HS0:Hid (SetS W1 bm 0 (fun z=>∃ i,i<0/\∃ hi:i<ins.xs.length,ins.xs[i].N=z)):=qh (hS0.iff (fun z=>⟨fun h=>h.elim,fun ⟨i,h,_⟩=>absurd h (Nat.not_lt_zero i)⟩))
 clear hS0
 go_wp2_with fail
 go_loopw [16] (fun s16 wr=>∃ (k:Nat) (ev:Int),k<=ni/\s16=.int .i64 k/\Below w.heap.size w wr/\w.heap.size+3<=wr.heap.size/\wr.cell? ⟨b2,0,none⟩=some (.slice n.Ns.a n.Ns.xs.length n.Ns.cap)/\wr.cell? ⟨b2,1,none⟩=some (.slice n.Ls.a n.Ls.xs.length n.Ls.cap) /\
  wr.cell? ⟨b5,0,none⟩=some (.int .i64 ev)/\wr.frozen? ⟨b5,0,none⟩=false/\Hid (SetS wr bm k (fun z=>∃ i,i<k/\∃ hi:i<ins.xs.length,ins.xs[i].N=z))/\Hid (ev=0->GoodI n ins.xs k)) (fun s16 _=>ni-(intOf s16).toNat)
 case atStart=>exact ⟨0,0,Nat.zero_le _,rfl,hb0,hsz0,q0,q1,c5,f5,HS0,qh (fun _=>GoodI.zero _ _)⟩
 clear HS0 hb0 hsz0 q0 q1 c5 f5
 case round=>
  obtain ⟨k,ev,hk,rfl,hb,hsz,q0,q1,c5,f5,hSH,hGD⟩:=hrel
  obtain ⟨wo,hwo⟩:∃ wo,wo=wr:=⟨_,rfl⟩
  subst hwo
  by_cases hkn:k<ni
  ·have hki:k<ins.xs.length:=by rw [<-HNI.out];exact hkn
   have gI:=rdIns.mono HI.out hb
   obtain ⟨bn,on,ea,d0,d1⟩:=(gI.2.2.1).inf k hki
   have gx:=gI.2.2.2 _ (List.getElem_mem hki)
   obtain ⟨x,hx⟩:∃ x,x=ins.xs[k]'hki:=⟨_,rfl⟩
   rw [<-hx] at d0 d1 gx
   have HNX:Hid (∀ z,(∃ i,i<k+1/\∃ hi:i<ins.xs.length,ins.xs[i].N=z)↔((∃ i,i<k/\∃ hi:i<ins.xs.length,ins.xs[i].N=z)\/z=x.N)):=qh (fun z=>by
    constructor
    ·rintro ⟨i,h1,h2,h3⟩
     by_cases e:i=k
     ·subst e;right;rw [<-h3,hx]
     ·exact .inl ⟨i,by omega,h2,h3⟩
    ·rintro (⟨i,h1,h2,h3⟩|h)
     ·exact ⟨i,by omega,h2,h3⟩
     ·exact ⟨k,by omega,hki,by rw [h,hx]⟩)
   have HNG:Hid (0<=findNd n.Ns.xs x.N->(¬ ∃ i,i<k/\∃ hi:i<ins.xs.length,ins.xs[i].N=x.N)->ev=0->GoodI n ins.xs (k+1)):=qh (fun h1 h2 h3=>(hGD.out h3).next hki (by rw [<-hx];exact h1) (by rw [<-hx];exact h2))
   obtain ⟨W2,hW2⟩:∃ W2,W2=wo.alloc (.cells (eIn x).toArray 121):=⟨_,rfl⟩
   have hbA:Below wo.heap.size wo W2:=by rw [hW2];exact alloc_below _ _
   obtain ⟨k0,k1⟩:=bxIn wo W2 121 x _ rfl _ rfl (by rw [hW2];exact qr)
   simp only [vSl] at k1
   have HW2:=qh hW2
   have HGX:=qh (rdIn.mono gx hbA)
   obtain ⟨b9,hb9⟩:∃ b,b=wo.heap.size:=⟨_,rfl⟩
   have HB9:Hid (w.heap.size+3<=b9):=qh om
   rw [<-hb9] at k0 k1
   have HB9E:=qh hb9
   have i1:decide (k<ni)=true:=decide_eq_true hkn
   have x7:IntKind.i64.wrap ((k:Int)+1)=k+1:=IntWalk.i64_in _ om
   have i4:(0:Int)<=k:=by omega
   have i5:(k:Int)<ni:=by omega
   have EA:=qh ea
   have HKN:=qh hkn
   clear hx hW2 gx gI hki hkn hb9 hGD
   go_upto_region 7 with (fail)
   rw [<-HW2.out,<-HB9E.out]
   clear d0 d1 HW2 HB9E
   replace hb:=hb.trans (hbA.mono hb.size)
   replace hsz:=Nat.le_trans hsz hbA.size
   have hS:=hSH.out.below hbA
   replace f5:=frz_lt f5 c5 hbA
   replace c5:=cel_lt c5 hbA
   replace q0:=cel_lt q0 hbA
   replace q1:=cel_lt q1 hbA
   clear hbA hSH
   have hnd:=nodeX_any n x.N W2 (rdNet.mono HG.out hb) HNB.out
   simp only [vNet,vSl] at hnd
   by_cases hfn:findNd n.Ns.xs x.N<0
   ·rw [show nodeX n x.N=(0,9) from by unfold nodeX;rw [if_pos hfn]] at hnd
    clear hfn
    go_wp2_with fail
    refine Calls.to hnd ?_
    rintro e w3 rfl hb3
    replace hb:=hb.trans (hb3.mono hb.size)
    replace hsz:=Nat.le_trans hsz hb3.size
    replace hS:=hS.below hb3
    replace f5:=frz_lt f5 c5 hb3
    replace c5:=cel_lt c5 hb3
    replace q0:=cel_lt q0 hb3
    replace q1:=cel_lt q1 hb3
    replace k0:=cel_lt k0 hb3
    replace k1:=cel_lt k1 hb3
    clear hnd hb3
    have z9:((9:Int) != 0)=true:=rfl
    go_wp2_with fail
    refine (worse_any 9 ev (.inr (.inr rfl)) b5 _ c5 f5).mono ?_
    rintro e wz ⟨rfl,e1,hee1,c5',f5',hg⟩
    replace c5:=c5'
    replace f5:=f5'
    clear c5' f5'
    replace q0:=cel_gr q0 hg (by have:=HD.out;simp;omega)
    replace q1:=cel_gr q1 hg (by have:=HD.out;simp;omega)
    replace k0:=cel_gr k0 hg (by have:=HD.out;have:=HB9.out;simp;omega)
    replace k1:=cel_gr k1 hg (by have:=HD.out;have:=HB9.out;simp;omega)
    replace hS:=hS.kept hg (by have:=HD.out;simp;omega)
    replace hb:=hb.grown hg hb.size (fun q hq=>by cases hq;have:=HD.out;omega)
    replace hsz:=Nat.le_trans hsz hg.size
    have HNEe1:=qh hee1
    clear hg hee1
    have HGF1:e1=0->GoodI n ins.xs (k+1):=fun h=>absurd h HNEe1.out
    have HMID:Hid (¬ (∃ i,i<k/\∃ hi:i<ins.xs.length,ins.xs[i].N=x.N)->e1=0->GoodI n ins.xs (k+1)):=qh (fun _=>HGF1)
    clear HGF1
    by_cases hin:∃ i,i<k/\∃ hi:i<ins.xs.length,ins.xs[i].N=x.N
    ·have hlk:=hS.look HGX.out.n true (by simpa using hin)
     clear hin
     go_wp2_with fail
     refine (worse_any 10 e1 (.inr (.inl rfl)) b5 _ c5 f5).mono ?_
     rintro e wz ⟨rfl,e2,hee2,c5',f5',hg⟩
     replace c5:=c5'
     replace f5:=f5'
     clear c5' f5'
     replace q0:=cel_gr q0 hg (by have:=HD.out;simp;omega)
     replace q1:=cel_gr q1 hg (by have:=HD.out;simp;omega)
     replace k0:=cel_gr k0 hg (by have:=HD.out;have:=HB9.out;simp;omega)
     replace k1:=cel_gr k1 hg (by have:=HD.out;have:=HB9.out;simp;omega)
     replace hS:=hS.kept hg (by have:=HD.out;simp;omega)
     replace hb:=hb.grown hg hb.size (fun q hq=>by cases hq;have:=HD.out;omega)
     replace hsz:=Nat.le_trans hsz hg.size
     have HNEe2:=qh hee2
     clear hg hee2
     have HGF2:Hid (e2=0->GoodI n ins.xs (k+1)):=qh (fun h=>absurd h HNEe2.out)
     obtain ⟨wu,hup,hSu,hgu⟩:=hS.upd (by have:=HKN.out;simp only [maxLen];omega) HGX.out.n
     have c5u:=cel_gr c5 hgu (by have:=HD.out;simp;omega)
     have f5u:=frz_gr f5 c5 hgu (by have:=HD.out;simp;omega)
     have q0u:=cel_gr q0 hgu (by have:=HD.out;simp;omega)
     have q1u:=cel_gr q1 hgu (by have:=HD.out;simp;omega)
     have k1u:=cel_gr k1 hgu (by have:=HD.out;have:=HB9.out;simp;omega)
     have k0u:=cel_gr k0 hgu (by have:=HD.out;have:=HB9.out;simp;omega)
     have hbu:=hb.grown hgu hb.size (fun q hq=>by cases hq;have:=HD.out;omega)
     have hsu:=Nat.le_trans hsz hgu.size
     go_upto_region 13 with (fail)
     clear hup hlk
     replace c5:=c5u
     replace f5:=f5u
     replace q0:=q0u
     replace q1:=q1u
     replace k0:=k0u
     replace k1:=k1u
     replace hS:=hSu
     replace hb:=hbu
     replace hsz:=hsu
     clear c5u f5u q0u q1u k0u k1u hSu hbu hsu hgu
     by_cases hbig:10000<x.V.xs.length
     ·have i8:decide (10000<x.V.xs.length)=true:=decide_eq_true hbig
      have i9:decide ((10000:Int)<x.V.xs.length)=true:=decide_eq_true om
      clear hbig
      go_wp2_with fail
      refine (worse_any 4 e2 (.inl rfl) b5 _ c5 f5).mono ?_
      rintro e wz ⟨rfl,e3,hee3,c5',f5',hg⟩
      replace c5:=c5'
      replace f5:=f5'
      clear c5' f5'
      replace q0:=cel_gr q0 hg (by have:=HD.out;simp;omega)
      replace q1:=cel_gr q1 hg (by have:=HD.out;simp;omega)
      replace k0:=cel_gr k0 hg (by have:=HD.out;have:=HB9.out;simp;omega)
      replace k1:=cel_gr k1 hg (by have:=HD.out;have:=HB9.out;simp;omega)
      replace hS:=hS.kept hg (by have:=HD.out;simp;omega)
      replace hb:=hb.grown hg hb.size (fun q hq=>by cases hq;have:=HD.out;omega)
      replace hsz:=Nat.le_trans hsz hg.size
      have HNEe3:=qh hee3
      clear hg hee3
      have HGF:Hid (e3=0->GoodI n ins.xs (k+1)):=qh (fun h=>absurd h HNEe3.out)
      have HS':=qh (hS.iff (fun z=>(HNX.out z).symm))
      clear hS
      go_wp2_with fail
      clear ea k0 k1
      first|rw [<-EA.out]|skip
      go_roundw
      case measure=>have:=HKN.out;simp [intOf,x7];omega
      case rel=>exact ⟨k+1,e3,HKN.out,by go_num,hb,hsz,q0,q1,c5,f5,HS',HGF⟩
     ·have i8:decide (10000<x.V.xs.length)=false:=decide_eq_false hbig
      have i9:decide ((10000:Int)<x.V.xs.length)=false:=decide_eq_false om
      clear hbig
      have HS':=qh (hS.iff (fun z=>(HNX.out z).symm))
      clear hS
      go_wp2_with fail
      clear ea k0 k1
      first|rw [<-EA.out]|skip
      go_roundw
      case measure=>have:=HKN.out;simp [intOf,x7];omega
      case rel=>exact ⟨k+1,e2,HKN.out,by go_num,hb,hsz,q0,q1,c5,f5,HS',HGF2⟩
    ·have hlk:=hS.look HGX.out.n false (by simpa using hin)
     have HGF2:Hid (e1=0->GoodI n ins.xs (k+1)):=qh (fun h=>(HMID.out hin h))
     clear hin
     obtain ⟨wu,hup,hSu,hgu⟩:=hS.upd (by have:=HKN.out;simp only [maxLen];omega) HGX.out.n
     have c5u:=cel_gr c5 hgu (by have:=HD.out;simp;omega)
     have f5u:=frz_gr f5 c5 hgu (by have:=HD.out;simp;omega)
     have q0u:=cel_gr q0 hgu (by have:=HD.out;simp;omega)
     have q1u:=cel_gr q1 hgu (by have:=HD.out;simp;omega)
     have k1u:=cel_gr k1 hgu (by have:=HD.out;have:=HB9.out;simp;omega)
     have k0u:=cel_gr k0 hgu (by have:=HD.out;have:=HB9.out;simp;omega)
     have hbu:=hb.grown hgu hb.size (fun q hq=>by cases hq;have:=HD.out;omega)
     have hsu:=Nat.le_trans hsz hgu.size
     go_upto_region 13 with (fail)
     clear hup hlk
     replace c5:=c5u
     replace f5:=f5u
     replace q0:=q0u
     replace q1:=q1u
     replace k0:=k0u
     replace k1:=k1u
     replace hS:=hSu
     replace hb:=hbu
     replace hsz:=hsu
     clear c5u f5u q0u q1u k0u k1u hSu hbu hsu hgu
     by_cases hbig:10000<x.V.xs.length
     ·have i8:decide (10000<x.V.xs.length)=true:=decide_eq_true hbig
      have i9:decide ((10000:Int)<x.V.xs.length)=true:=decide_eq_true om
      clear hbig
      go_wp2_with fail
      refine (worse_any 4 e1 (.inl rfl) b5 _ c5 f5).mono ?_
      rintro e wz ⟨rfl,e3,hee3,c5',f5',hg⟩
      replace c5:=c5'
      replace f5:=f5'
      clear c5' f5'
      replace q0:=cel_gr q0 hg (by have:=HD.out;simp;omega)
      replace q1:=cel_gr q1 hg (by have:=HD.out;simp;omega)
      replace k0:=cel_gr k0 hg (by have:=HD.out;have:=HB9.out;simp;omega)
      replace k1:=cel_gr k1 hg (by have:=HD.out;have:=HB9.out;simp;omega)
      replace hS:=hS.kept hg (by have:=HD.out;simp;omega)
      replace hb:=hb.grown hg hb.size (fun q hq=>by cases hq;have:=HD.out;omega)
      replace hsz:=Nat.le_trans hsz hg.size
      have HNEe3:=qh hee3
      clear hg hee3
      have HGF:Hid (e3=0->GoodI n ins.xs (k+1)):=qh (fun h=>absurd h HNEe3.out)
      have HS':=qh (hS.iff (fun z=>(HNX.out z).symm))
      clear hS
      go_wp2_with fail
      clear ea k0 k1
      first|rw [<-EA.out]|skip
      go_roundw
      case measure=>have:=HKN.out;simp [intOf,x7];omega
      case rel=>exact ⟨k+1,e3,HKN.out,by go_num,hb,hsz,q0,q1,c5,f5,HS',HGF⟩
     ·have i8:decide (10000<x.V.xs.length)=false:=decide_eq_false hbig
      have i9:decide ((10000:Int)<x.V.xs.length)=false:=decide_eq_false om
      clear hbig
      have HS':=qh (hS.iff (fun z=>(HNX.out z).symm))
      clear hS
      go_wp2_with fail
      clear ea k0 k1
      first|rw [<-EA.out]|skip
      go_roundw
      case measure=>have:=HKN.out;simp [intOf,x7];omega
      case rel=>exact ⟨k+1,e1,HKN.out,by go_num,hb,hsz,q0,q1,c5,f5,HS',HGF2⟩
   ·rw [show nodeX n x.N=(findNd n.Ns.xs x.N,0) from by unfold nodeX;rw [if_neg hfn]] at hnd
    have HMID:Hid (¬ (∃ i,i<k/\∃ hi:i<ins.xs.length,ins.xs[i].N=x.N)->ev=0->GoodI n ins.xs (k+1)):=qh (fun h1 h2=>HNG.out om h1 h2)
    clear hfn
    go_wp2_with fail
    refine Calls.to hnd ?_
    rintro e w3 rfl hb3
    replace hb:=hb.trans (hb3.mono hb.size)
    replace hsz:=Nat.le_trans hsz hb3.size
    replace hS:=hS.below hb3
    replace f5:=frz_lt f5 c5 hb3
    replace c5:=cel_lt c5 hb3
    replace q0:=cel_lt q0 hb3
    replace q1:=cel_lt q1 hb3
    replace k0:=cel_lt k0 hb3
    replace k1:=cel_lt k1 hb3
    clear hnd hb3
    have z9:((0:Int) != 0)=false:=rfl
    by_cases hin:∃ i,i<k/\∃ hi:i<ins.xs.length,ins.xs[i].N=x.N
    ·have hlk:=hS.look HGX.out.n true (by simpa using hin)
     clear hin
     go_wp2_with fail
     refine (worse_any 10 ev (.inr (.inl rfl)) b5 _ c5 f5).mono ?_
     rintro e wz ⟨rfl,e2,hee2,c5',f5',hg⟩
     replace c5:=c5'
     replace f5:=f5'
     clear c5' f5'
     replace q0:=cel_gr q0 hg (by have:=HD.out;simp;omega)
     replace q1:=cel_gr q1 hg (by have:=HD.out;simp;omega)
     replace k0:=cel_gr k0 hg (by have:=HD.out;have:=HB9.out;simp;omega)
     replace k1:=cel_gr k1 hg (by have:=HD.out;have:=HB9.out;simp;omega)
     replace hS:=hS.kept hg (by have:=HD.out;simp;omega)
     replace hb:=hb.grown hg hb.size (fun q hq=>by cases hq;have:=HD.out;omega)
     replace hsz:=Nat.le_trans hsz hg.size
     have HNEe2:=qh hee2
     clear hg hee2
     have HGF2:Hid (e2=0->GoodI n ins.xs (k+1)):=qh (fun h=>absurd h HNEe2.out)
     obtain ⟨wu,hup,hSu,hgu⟩:=hS.upd (by have:=HKN.out;simp only [maxLen];omega) HGX.out.n
     have c5u:=cel_gr c5 hgu (by have:=HD.out;simp;omega)
     have f5u:=frz_gr f5 c5 hgu (by have:=HD.out;simp;omega)
     have q0u:=cel_gr q0 hgu (by have:=HD.out;simp;omega)
     have q1u:=cel_gr q1 hgu (by have:=HD.out;simp;omega)
     have k1u:=cel_gr k1 hgu (by have:=HD.out;have:=HB9.out;simp;omega)
     have k0u:=cel_gr k0 hgu (by have:=HD.out;have:=HB9.out;simp;omega)
     have hbu:=hb.grown hgu hb.size (fun q hq=>by cases hq;have:=HD.out;omega)
     have hsu:=Nat.le_trans hsz hgu.size
     go_upto_region 13 with (fail)
     clear hup hlk
     replace c5:=c5u
     replace f5:=f5u
     replace q0:=q0u
     replace q1:=q1u
     replace k0:=k0u
     replace k1:=k1u
     replace hS:=hSu
     replace hb:=hbu
     replace hsz:=hsu
     clear c5u f5u q0u q1u k0u k1u hSu hbu hsu hgu
     by_cases hbig:10000<x.V.xs.length
     ·have i8:decide (10000<x.V.xs.length)=true:=decide_eq_true hbig
      have i9:decide ((10000:Int)<x.V.xs.length)=true:=decide_eq_true om
      clear hbig
      go_wp2_with fail
      refine (worse_any 4 e2 (.inl rfl) b5 _ c5 f5).mono ?_
      rintro e wz ⟨rfl,e3,hee3,c5',f5',hg⟩
      replace c5:=c5'
      replace f5:=f5'
      clear c5' f5'
      replace q0:=cel_gr q0 hg (by have:=HD.out;simp;omega)
      replace q1:=cel_gr q1 hg (by have:=HD.out;simp;omega)
      replace k0:=cel_gr k0 hg (by have:=HD.out;have:=HB9.out;simp;omega)
      replace k1:=cel_gr k1 hg (by have:=HD.out;have:=HB9.out;simp;omega)
      replace hS:=hS.kept hg (by have:=HD.out;simp;omega)
      replace hb:=hb.grown hg hb.size (fun q hq=>by cases hq;have:=HD.out;omega)
      replace hsz:=Nat.le_trans hsz hg.size
      have HNEe3:=qh hee3
      clear hg hee3
      have HGF:Hid (e3=0->GoodI n ins.xs (k+1)):=qh (fun h=>absurd h HNEe3.out)
      have HS':=qh (hS.iff (fun z=>(HNX.out z).symm))
      clear hS
      go_wp2_with fail
      clear ea k0 k1
      first|rw [<-EA.out]|skip
      go_roundw
      case measure=>have:=HKN.out;simp [intOf,x7];omega
      case rel=>exact ⟨k+1,e3,HKN.out,by go_num,hb,hsz,q0,q1,c5,f5,HS',HGF⟩
     ·have i8:decide (10000<x.V.xs.length)=false:=decide_eq_false hbig
      have i9:decide ((10000:Int)<x.V.xs.length)=false:=decide_eq_false om
      clear hbig
      have HS':=qh (hS.iff (fun z=>(HNX.out z).symm))
      clear hS
      go_wp2_with fail
      clear ea k0 k1
      first|rw [<-EA.out]|skip
      go_roundw
      case measure=>have:=HKN.out;simp [intOf,x7];omega
      case rel=>exact ⟨k+1,e2,HKN.out,by go_num,hb,hsz,q0,q1,c5,f5,HS',HGF2⟩
    ·have hlk:=hS.look HGX.out.n false (by simpa using hin)
     have HGF2:Hid (ev=0->GoodI n ins.xs (k+1)):=qh (fun h=>(HMID.out hin h))
     clear hin
     obtain ⟨wu,hup,hSu,hgu⟩:=hS.upd (by have:=HKN.out;simp only [maxLen];omega) HGX.out.n
     have c5u:=cel_gr c5 hgu (by have:=HD.out;simp;omega)
     have f5u:=frz_gr f5 c5 hgu (by have:=HD.out;simp;omega)
     have q0u:=cel_gr q0 hgu (by have:=HD.out;simp;omega)
     have q1u:=cel_gr q1 hgu (by have:=HD.out;simp;omega)
     have k1u:=cel_gr k1 hgu (by have:=HD.out;have:=HB9.out;simp;omega)
     have k0u:=cel_gr k0 hgu (by have:=HD.out;have:=HB9.out;simp;omega)
     have hbu:=hb.grown hgu hb.size (fun q hq=>by cases hq;have:=HD.out;omega)
     have hsu:=Nat.le_trans hsz hgu.size
     go_upto_region 13 with (fail)
     clear hup hlk
     replace c5:=c5u
     replace f5:=f5u
     replace q0:=q0u
     replace q1:=q1u
     replace k0:=k0u
     replace k1:=k1u
     replace hS:=hSu
     replace hb:=hbu
     replace hsz:=hsu
     clear c5u f5u q0u q1u k0u k1u hSu hbu hsu hgu
     by_cases hbig:10000<x.V.xs.length
     ·have i8:decide (10000<x.V.xs.length)=true:=decide_eq_true hbig
      have i9:decide ((10000:Int)<x.V.xs.length)=true:=decide_eq_true om
      clear hbig
      go_wp2_with fail
      refine (worse_any 4 ev (.inl rfl) b5 _ c5 f5).mono ?_
      rintro e wz ⟨rfl,e3,hee3,c5',f5',hg⟩
      replace c5:=c5'
      replace f5:=f5'
      clear c5' f5'
      replace q0:=cel_gr q0 hg (by have:=HD.out;simp;omega)
      replace q1:=cel_gr q1 hg (by have:=HD.out;simp;omega)
      replace k0:=cel_gr k0 hg (by have:=HD.out;have:=HB9.out;simp;omega)
      replace k1:=cel_gr k1 hg (by have:=HD.out;have:=HB9.out;simp;omega)
      replace hS:=hS.kept hg (by have:=HD.out;simp;omega)
      replace hb:=hb.grown hg hb.size (fun q hq=>by cases hq;have:=HD.out;omega)
      replace hsz:=Nat.le_trans hsz hg.size
      have HNEe3:=qh hee3
      clear hg hee3
      have HGF:Hid (e3=0->GoodI n ins.xs (k+1)):=qh (fun h=>absurd h HNEe3.out)
      have HS':=qh (hS.iff (fun z=>(HNX.out z).symm))
      clear hS
      go_wp2_with fail
      clear ea k0 k1
      first|rw [<-EA.out]|skip
      go_roundw
      case measure=>have:=HKN.out;simp [intOf,x7];omega
      case rel=>exact ⟨k+1,e3,HKN.out,by go_num,hb,hsz,q0,q1,c5,f5,HS',HGF⟩
     ·have i8:decide (10000<x.V.xs.length)=false:=decide_eq_false hbig
      have i9:decide ((10000:Int)<x.V.xs.length)=false:=decide_eq_false om
      clear hbig
      have HS':=qh (hS.iff (fun z=>(HNX.out z).symm))
      clear hS
      go_wp2_with fail
      clear ea k0 k1
      first|rw [<-EA.out]|skip
      go_roundw
      case measure=>have:=HKN.out;simp [intOf,x7];omega
      case rel=>exact ⟨k+1,ev,HKN.out,by go_num,hb,hsz,q0,q1,c5,f5,HS',HGF2⟩
  ·have i1:decide (k<ni)=false:=decide_eq_false hkn
   have HFI:Hid (ev=0->GoodI n ins.xs ni):=qh (fun h=>by
    have:=hGD.out h
    rwa [show k=ni from by omega] at this)
   clear q0 q1 hSH
   go_wp2_with fail
   go_ret
   exact ⟨⟨ev,rfl,HFI.out⟩,hb⟩
end Go.Proofs.YtoiakijmbghhlaaGreat
