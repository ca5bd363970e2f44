/- routing.outs: the links out of each node. Conditions: the network is right. | routing.limited. Conditions: the network is right; what nodes hold and the wishes are numbers from 0 on, as many as nodes and links. -/
import Derived.WalkSpells
import Derived.Test.YtoiakijmbghhlaaGreatS26
import Derived.Test.YtoiakijmbghhlaaGreatS24
import Derived.Test.YtoiakijmbghhlaaGreatS04
import Derived.Test.YtoiakijmbghhlaaGreatS23
set_option linter.unusedVariables false
set_option linter.unusedSimpArgs false
set_option maxRecDepth 100000
set_option maxHeartbeats 32000000
namespace Go.Proofs.YtoiakijmbghhlaaGreat
open Go.RowKit
abbrev eNat (x:Nat):List Value:=[.int .i64 (x:Int)]
theorem undRowsN:Tryz.prog.underlying 70=some (.slice 28):=by kernel_rfl
theorem infRowN:(Tryz.prog.info? 28).map (fun i=>(i.zero,i.size,i.bytes))=some (some (.slice none 0 0),1,24):=by kernel_rfl
theorem heap_new2N (w:World) (o o2:Obj):((w.alloc o).alloc o2).drew.heap[w.heap.size+1]? = some o2:=by
 have h:=heap_alloc_new (w.alloc o) o2
 rw [show (w.alloc o).heap.size=w.heap.size+1 from by simp] at h
 exact h
theorem IsC.near {α:Type} {enc:α->List Value} {k:Nat} {w w':World} {a:Option Addr} {xs:List α} (h:IsC enc k w a xs) (hb:∀ b off,a=some ⟨b,off,none⟩->w'.heap[b]? = w.heap[b]?):IsC enc k w' a xs:=by
 intro i hi
 obtain ⟨b,off,e,hc⟩:=h i hi
 exact ⟨b,off,e,fun j hj=>(World.cell?_of_block (hb b off e)).trans (hc j hj)⟩
theorem row_rows {frm:Nat->Nat} {n k:Nat} (h:frm k<n) :
  ((List.range n).map (rowN frm k)).set (frm k) (rowN frm k (frm k) ++ [k])=(List.range n).map (rowN frm (k+1)):=by
 apply List.ext_getElem
 ·simp
 ·intro i h1 h2
  have hi:i<n:=by simpa using h2
  by_cases hia:frm k=i
  ·subst hia
   rw [List.getElem_set_self,List.getElem_map,List.getElem_range,rowN,if_pos rfl]
  ·rw [List.getElem_set_ne hia,List.getElem_map,List.getElem_map,List.getElem_range,rowN,if_neg hia]
theorem routs_any (n:Net) (w:World) (hg:gNet w n) (hn:netB n=true) :
  Calls Tryz.prog 173 #[vNet n] w fun e w'=>(∃ u vs v2,e=.returned (.tuple #[u,v2])/\OwnR w.heap.size 28 3 eNat 1 w' u vs ((List.range n.Ns.xs.length).map (rowN (frmN n) n.Ls.xs.length))/\IsPrs w' v2 (edgesM n.Ns.xs n.Ls.xs)/\∀ b off n' c,v2=.slice (some ⟨b,off,none⟩) n' c->w.heap.size<=b/\b<w'.heap.size)/\Below w.heap.size w w':=by
 obtain ⟨W,hW⟩:∃ W,W=allocs w [((eNet n).toArray,25)]:=⟨_,rfl⟩
 have hbw:Below w.heap.size w W:=by rw [hW];exact allocs_below _ _
 have t0:W.heap[w.heap.size]? = some (.cells (eNet n).toArray 25 (0,0)):=by rw [hW];exact allocs_at [((eNet n).toArray,25)] w 0 (by simp)
 have HW:Hid (W=w.alloc (.cells (eNet n).toArray 25)):=qh hW
 have q0:W.cell? ⟨w.heap.size,0,none⟩=some (.slice n.Ns.a n.Ns.xs.length n.Ns.cap):=(tank_blk t0 0).trans rfl
 have q1:W.cell? ⟨w.heap.size,1,none⟩=some (.slice n.Ls.a n.Ls.xs.length n.Ls.cap):=(tank_blk t0 1).trans rfl
 have hgW:=rdNet.mono hg hbw
 have HG:=qh hgW
 have hsz:=netB_size hn
 have HED:=qh (fun k (hk:k<n.Ls.xs.length) (h2:k<(edgesM n.Ns.xs n.Ls.xs).length)=>ends_edge hn hk h2)
 have HLT:=qh (fun k (hk:k<n.Ls.xs.length)=>ends_lt hn hk)
 obtain ⟨N,hN⟩:∃ N,N=n.Ns.xs.length:=⟨_,rfl⟩
 have HN:=qh hN
 rw [<-hN] at q0 hsz ⊢
 have hel:(edgesM n.Ns.xs n.Ls.xs).length=n.Ls.xs.length:=edges_len _ _
 obtain ⟨M,hM⟩:∃ M,M=n.Ls.xs.length:=⟨_,rfl⟩
 have HM:=qh hM
 rw [<-hM] at q1 hsz hel ⊢
 have HEL:=qh hel
 have HNB:=qh hn
 clear hW t0 hg hn hel hM hN hgW
 simp only [vNet,vSl]
 have hll:N<2147483648:=by omega
 go_enter Tryz.func173,Tryz.ntmps173
 go_upto_region 1 with (fail)
 first|rw [HN.out,HM.out,<-HW.out]|rw [<-HN.out,<-HM.out,<-HW.out]|rw [<-HW.out]
 clear HW
 go_upto_region 2 with (refine wpList_mk _ rfl _ _ 70 rfl W.heap.size 28 _ 24 undRowsN infRowN eV (.slice none 0 0) rfl rfl _ _ N rfl rfl rfl rfl hll om (Nat.le_refl _) ?_;intro w1 hown1 hb1 hlt1)
 have hR1:OwnR W.heap.size 28 3 eNat 1 w1 (.slice (some ⟨W.heap.size,0,none⟩) N N) (List.replicate N (.slice none 0 0)) ((List.range N).map (rowN (frmN n) 0)):=by
  have h:=OwnR.start (α:=Nat) (e:=3) (enc:=eNat) (k:=1) hown1
  rw [show (List.range N).map (rowN (frmN n) 0)=List.replicate N [] from by
   apply List.ext_getElem
   ·simp
   ·intro i h1 h2;simp [rowN]]
  exact h
 have q0:=cel_lt q0 hb1
 have q1:=cel_lt q1 hb1
 have hed:=edgesX_any n w1 (rdNet.mono HG.out hb1) HNB.out
 simp only [vNet,vSl] at hed
 rw [<-HN.out,<-HM.out] at hed
 clear hown1
 go_wp2_with fail
 refine Calls.to hed ?_
 rintro e w2 ⟨v2,rfl,hO2⟩ hb2
 have hR2:=hR1.below hb2
 have hbb:=hb1.trans (hb2.mono (Nat.le_of_lt hlt1))
 have hlt2:W.heap.size<w2.heap.size:=by have:=hb2.size;omega
 have HO2:=qh hO2
 have HLO:Hid (∀ b off n' c,v2=.slice (some ⟨b,off,none⟩) n' c->W.heap.size<b/\b<w2.heap.size):=qh (fun b off n' c e=>by
  rcases hO2.2 with ⟨e1,-⟩|⟨g,cap,cur,e1,hg,hgg,-⟩
  ·rw [e] at e1;cases e1
  ·rw [e] at e1
   simp only [Value.slice.injEq,Option.some.injEq,Addr.mk.injEq] at e1
   have:=(hO2.lt b (by rw [e,e1.1.1];first|rfl|simp [Value.ownBlock])).2
   omega)
 have hIs:=hO2.isL ePr_len
 obtain ⟨a2,c2,rfl,hc1,hc2,hC2⟩:=hIs
 have HCP:=qh (And.intro hc1 hc2)
 have HC2:=qh hC2
 rw [HEL.out] at HLO ⊢
 have HR2:Hid (OwnR W.heap.size 28 3 eNat 1 w2 (.slice (some ⟨W.heap.size,0,none⟩) N N) (List.replicate N (.slice none 0 0)) ((List.range N).map (rowN (frmN n) 0))):=qh hR2
 have HP2:Hid (∀ (i:Nat) (hi:i<(List.replicate N (Value.slice none 0 0)).length) (g:Nat),(List.replicate N (Value.slice none 0 0))[i].ownBlock=some g->w2.heap.size<=g):=qh (fun i hi g h=>by simp [Value.ownBlock] at h)
 clear hR1 hR2 hed hb1 hlt1 hb2 hO2 hC2 q0 q1 hc1 hc2
 go_wp2_with fail
 go_loopw [20] (fun s20 wr=>∃ (k:Nat) (vs:List Value),k<=M/\s20=.int .i64 k/\Below W.heap.size W wr/\w2.heap.size<=wr.heap.size/\Hid (OwnR W.heap.size 28 3 eNat 1 wr (.slice (some ⟨W.heap.size,0,none⟩) N N) vs ((List.range N).map (rowN (frmN n) k))) /\
  Hid (∀ (i:Nat) (hi:i<vs.length) (g:Nat),vs[i].ownBlock=some g->w2.heap.size<=g)/\Hid (∀ j,W.heap.size<j->j<w2.heap.size->wr.heap[j]? = w2.heap[j]?)) (fun i _=>M-(intOf i).toNat)
 case atStart=>exact ⟨0,_,Nat.zero_le _,rfl,hbb,Nat.le_refl _,HR2,HP2,qh (fun _ _ _=>rfl)⟩
 clear HR2 HP2 hbb
 case round=>
  obtain ⟨k,vs,hk,rfl,hb,hsz,HR,HP,HNR⟩:=hrel
  by_cases hkl:k<M
  ·have hke:k<(edgesM n.Ns.xs n.Ls.xs).length:=by rw [HEL.out];exact hkl
   have hC:=HC2.out.near (w':=wr) (fun b off e=>by
    have:=HLO.out b off M c2 (by rw [e])
    exact HNR.out b this.1 this.2)
   obtain ⟨b,off,ea,d1,d2⟩:=hC.prs k hke
   have hE:=HED.out k (by rw [<-HM.out];exact hkl) hke
   have ha:=(HLT.out k (by rw [<-HM.out];exact hkl)).1
   rw [<-HN.out] at ha
   rw [hE] at d1 d2
   have hvl:vs.length=N:=by have:=HR.out.len;simpa using this
   have hav:frmN n k<vs.length:=by omega
   have q3:=OwnR.cellv HR.out (frmN n k) hav
   have hrow:=HR.out.row (frmN n k) hav (by simpa using ha)
   rw [List.getElem_map,List.getElem_range] at hrow
   have hfar:vs[frmN n k].ownBlock≠some W.heap.size:=fun e=>HR.out.off _ hav _ e rfl
   have hlo:∀ g,vs[frmN n k].ownBlock=some g->g<wr.heap.size:=fun g hg=>(hrow.lt g hg).2
   have hlp:∀ g,vs[frmN n k].ownBlock=some g->w2.heap.size<=g:=fun g hg=>HP.out _ hav g hg
   have f3:wr.frozen? ⟨W.heap.size,frmN n k,none⟩=false:=Own.free HR.out.out _
   have HT:=qh (row_rows (n:=N) ha)
   have htl:(rowN (frmN n) k (frmN n k)).length<2147483648:=by
    have:=rowN_len (frmN n) (frmN n k) k
    omega
   have HRR:=HR
   have HPP:=HP
   clear HR HP hC hE
   obtain ⟨u,hu⟩:∃ u,u=vs[frmN n k]:=⟨_,rfl⟩
   rw [<-hu] at q3 hrow hfar hlo hlp
   have HU:=qh hu
   clear hu
   obtain ⟨x,hx⟩:∃ x,frmN n k=x:=⟨_,rfl⟩
   obtain ⟨y,hy⟩:∃ y,toN n k=y:=⟨_,rfl⟩
   have hav2:x<vs.length:=hx ▸ hav
   simp only [hx,hy] at *
   clear hx hy
   generalize rowN (frmN n) k x=ts at *
   obtain ⟨ua,uc,rfl⟩:=hrow.isSlice
   have i1:decide (k<M)=true:=decide_eq_true hkl
   have i4:(0:Int)<=k:=by omega
   have i5:(k:Int)<M:=by omega
   subst ea
   go_wp2_with fail
   have n0:(Value.slice ua ts.length uc).ownBlock≠some wr.heap.size:=fun e=>Nat.lt_irrefl _ (hlo _ e)
   have hX:Below wr.heap.size wr (wr.alloc (.cells #[.int .i64 (x:Int),.int .i64 (y:Int)] 183)):=alloc_below _ _
   have hsz1:W.heap.size<=wr.heap.size:=by omega
   have d0:(wr.alloc (.cells #[.int .i64 (x:Int),.int .i64 (y:Int)] 183)).cell? ⟨wr.heap.size,0,none⟩=some (.int .i64 (x:Int)):=by simp [go_sem]
   have d1:(wr.alloc (.cells #[.int .i64 (x:Int),.int .i64 (y:Int)] 183)).cell? ⟨wr.heap.size,1,none⟩=some (.int .i64 (y:Int)):=by simp [go_sem]
   have hXX:Below wr.heap.size wr ((wr.alloc (.cells #[.int .i64 (x:Int),.int .i64 (y:Int)] 183)).alloc (.cells #[.int .i64 (k:Int)] 3)).drew:=bl
   go_region_law ((first|((try dsimp only at *);(try go_split_ands);rw [if_pos (by rfl)];go_must (refine wp_pushR _ _ 28 rfl 3 _ 1 8 undInts infInt rfl (by decide) k (fun _=>rfl) (by simp [Value.oneCell']) (.slice ua ts.length uc) ts rfl (hrow.below (bl)) _ rfl htl (by decide) (by simp;omega) (heap_new2N _ _ _) ?_);intro g5 c5 w5 hR5;have k0:w5.cell? ⟨wr.heap.size,0,none⟩=some (.int .i64 (x:Int)):=hR5.cell (by simp [go_sem]) n0;have k1:w5.cell? ⟨wr.heap.size,1,none⟩=some (.int .i64 (y:Int)):=hR5.cell (by simp [go_sem]) n0;have k3:w5.cell? ⟨W.heap.size,x,none⟩=some (.slice ua ts.length uc):=hR5.cell (by simp [go_sem,q3]) hfar;have k4:w5.frozen? ⟨W.heap.size,x,none⟩=false:=(hR5.frozen (by simp;omega) hfar).trans ((Below.frozen (B:=wr.heap.size) (w:=wr) (bl) (p:=⟨W.heap.size,x,none⟩) (by show W.heap.size<wr.heap.size;omega)).trans f3))))
   all_goals
    have hR6:=hR5
    rw [HU.out] at hR6
    have hO:=(HRR.out.below hXX).put x hav2 hR6 rfl
    rw [HT.out] at hO
    have hO:=qh hO
    have hb5:=((hb.trans (hXX.mono hsz1)).trans (hR5.below (hrow.below hXX) (by simp;omega))).setCell (p:=⟨W.heap.size,x,none⟩) (Nat.le_refl W.heap.size) (.slice (some ⟨g5,0,none⟩) (ts.length+1) c5)
    have hl5:w2.heap.size<=(w5.setCell ⟨W.heap.size,x,none⟩ (.slice (some ⟨g5,0,none⟩) (ts.length+1) c5)).heap.size:=by
     have:=hR5.grown.size
     simp [World.setCell] at this ⊢;omega
    have hP5:Hid (∀ (i:Nat) (hi:i<(vs.set x (.slice (some ⟨g5,0,none⟩) (ts.length+1) c5)).length) (g:Nat),(vs.set x (.slice (some ⟨g5,0,none⟩) (ts.length+1) c5))[i].ownBlock=some g->w2.heap.size<=g):=qh (fun i hi g hg=>by
     have hi':i<vs.length:=by simpa using hi
     by_cases e:x=i
     ·subst e
      rw [List.getElem_set_self] at hg
      rcases hR5.place g hg with h|h
      ·exact hlp g h
      ·simp at h;omega
     ·rw [List.getElem_set_ne e] at hg
      exact HPP.out i hi' g hg)
    have hN5:Hid (∀ j,W.heap.size<j->j<w2.heap.size->(w5.setCell ⟨W.heap.size,x,none⟩ (.slice (some ⟨g5,0,none⟩) (ts.length+1) c5)).heap[j]? = w2.heap[j]?):=qh (fun j h1 h2=>by
     rw [Below.heap_setCell _ _ _ _ (show j≠(⟨W.heap.size,x,none⟩:Addr).block from by show j≠W.heap.size;omega)]
     rw [hR5.grown.block j (by simp;omega) (fun e=>by have:=hlp j e.symm;omega)]
     rw [hXX.block j om]
     exact HNR.out j h1 h2)
    have x9:IntKind.i64.wrap ((k:Int)+1)=k+1:=IntWalk.i64_in _ om
    clear hR5 hR6 q3 f3 d0 d1 k0 k1 k3 k4
    go_wp2_with fail
    go_roundw
    case measure=>simp [intOf,x9];omega
    case rel=>exact ⟨k+1,_,by omega,by go_num,hb5,hl5,hO,hP5,hN5⟩
  ·obtain rfl:k=M:=by omega
   have hR:=HR.out
   have hC:=HC2.out.near (w':=wr) (fun b off e=>by
    have:=HLO.out b off k c2 (by rw [e])
    exact HNR.out b this.1 this.2)
   have i1:decide (k<k)=false:=decide_eq_false (Nat.lt_irrefl k)
   have hbw2:=hbw.trans (hb.mono hbw.size)
   have hR':=hR.base' hbw.size
   have HQ:=qh (And.intro hR' hC)
   have HBD:Hid (∀ b off n' c,Value.slice a2 k c2=.slice (some ⟨b,off,none⟩) n' c->w.heap.size<=b/\b<wr.heap.size):=qh (fun b off n' c e=>by
    have:=HLO.out b off n' c e
    have:=hbw.size
    omega)
   clear HR hR hR' hC
   go_wp2_with fail
   go_ret2
   exact ⟨⟨_,vs,_,rfl,HQ.out.1,⟨a2,c2,by rw [HEL.out];rfl,HCP.out.1,HCP.out.2,HQ.out.2⟩,fun b off n' c e=>HBD.out b off n' c e⟩,hbw2⟩
theorem IsC.nat {w:World} {a:Option Addr} {xs:List Nat} (h:IsC eNat 1 w a xs) (i:Nat) (hi:i<xs.length) :
  ∃ b off,a=some ⟨b,off,none⟩/\w.cell? ⟨b,off+i,none⟩=some (.int .i64 (xs[i]:Int)):=by
 obtain ⟨b,off,e,hc⟩:=h i hi
 exact ⟨b,off,e,by simpa using hc 0 om⟩
theorem mapsum_bd {l:List Nat} {f:Nat->Int} {m:Nat} {B:Int} (hB:0<=B) (hl:∀ x∈l,x<m) (hf:∀ k,k<m->0<=f k/\f k<=B):0<=(l.map f).sum/\(l.map f).sum<=l.length*B:=by
 induction l with
 | nil=>simp
 | cons a r ih=>
  have h1:=ih (fun x hx=>hl x (List.mem_cons_of_mem _ hx))
  have h2:=hf a (hl a List.mem_cons_self)
  rw [List.map_cons,List.sum_cons,List.length_cons,show ((r.length+1:Nat):Int)*B=r.length*B+B by rw [Int.natCast_add,Int.add_mul];simp]
  omega
theorem Own.blk {α:Type} {base:Nat} {e:TypeId} {enc:α->List Value} {k:Nat} {w:World} {a:Option Addr} {n c:Nat} {xs:List α} (h:Own base e enc k w (.slice a n c) xs):∀ b off,a=some ⟨b,off,none⟩->base<=b/\b<w.heap.size:=by
 intro b off hab
 subst hab
 rcases h.2 with ⟨e1,-⟩|⟨g,cap,cur,e1,hg,hgg,-⟩
 ·cases e1
 ·simp only [Value.slice.injEq,Option.some.injEq,Addr.mk.injEq] at e1
  exact h.lt b (by rw [e1.1.2.1];simp [Value.ownBlock])
theorem map_take_succ (f:Nat->Int) (l:List Nat) (j:Nat) (hj:j<l.length):((l.take (j+1)).map f).sum=((l.take j).map f).sum+f l[j]:=by
 rw [List.take_succ_eq_append_getElem hj,List.map_append,List.sum_append];simp
theorem map_take_le {l:List Nat} {f:Nat->Int} (hf:∀ x∈l,0<=f x) (j:Nat):((l.take j).map f).sum<=(l.map f).sum:=by
 have e2:(l.map f).sum=((l.take j).map f).sum+((l.drop j).map f).sum:=by rw [<-List.sum_append,<-List.map_append,List.take_append_drop]
 have e3:∀ r:List Nat,(∀ x∈r,0<=f x)->0<=(r.map f).sum:=by
  intro r
  induction r with
  | nil=>intro _;simp
  | cons a r ih=>
   intro hr
   have:=ih (fun x hx=>hr x (List.mem_cons_of_mem _ hx))
   have:=hr a List.mem_cons_self
   simp;omega
 have:=e3 (l.drop j) (fun x hx=>hf x (List.mem_of_mem_drop hx))
 omega
theorem part_ok1 {h b s:Nat} (hb:b<=s) (hh:h<18446744073709551616) (hs:h<s):h*b / 18446744073709551616<s:=by
 rw [Nat.div_lt_iff_lt_mul (by decide)]
 have h1:h*b<=h*s:=Nat.mul_le_mul (Nat.le_refl h) hb
 have h2:h*s<18446744073709551616*s:=Nat.mul_lt_mul_of_lt_of_le hh (Nat.le_refl s) om
 rw [Nat.mul_comm s];omega
theorem part_ok2 {h b s:Nat} (hb:b<=s) (hs:h<s):h*b / s<=h:=by
 rw [Nat.div_le_iff_le_mul_add_pred om,Nat.mul_comm s h]
 have:=Nat.mul_le_mul (Nat.le_refl h) hb
 omega
theorem rlimited_any (n:Net) (held ws:List Int) (vH vW:Value) (w:World) (hg:gNet w n) (hn:netB n=true) (hH:IsInts w vH held) (hlH:held.length=n.Ns.xs.length) (hbH:∀ i,i<n.Ns.xs.length->0<=held.getD i 0/\held.getD i 0<=4503599627370496)
  (hW:IsInts w vW ws) (hlW:ws.length=n.Ls.xs.length) (hbW:∀ k,k<n.Ls.xs.length->0<=ws.getD k 0/\ws.getD k 0<=1125899906842624) :
  Calls Tryz.prog 172 #[vNet n,vH,vW] w fun e w'=>(∃ u ps,e=.returned u/\Own w.heap.size 3 eInt 1 w' u ps/\LimI (frmN n) (fun k=>ws.getD k 0) (fun i=>held.getD i 0) n.Ls.xs.length n.Ns.xs.length ps)/\Below w.heap.size w w':=by
 obtain ⟨W,hWe⟩:∃ W,W=allocs w [((eNet n).toArray,25)]:=⟨_,rfl⟩
 have hbw:Below w.heap.size w W:=by rw [hWe];exact allocs_below _ _
 have t0:W.heap[w.heap.size]? = some (.cells (eNet n).toArray 25 (0,0)):=by rw [hWe];exact allocs_at [((eNet n).toArray,25)] w 0 (by simp)
 have HW:Hid (W=w.alloc (.cells (eNet n).toArray 25)):=qh hWe
 have q0:W.cell? ⟨w.heap.size,0,none⟩=some (.slice n.Ns.a n.Ns.xs.length n.Ns.cap):=(tank_blk t0 0).trans rfl
 have q1:W.cell? ⟨w.heap.size,1,none⟩=some (.slice n.Ls.a n.Ls.xs.length n.Ls.cap):=(tank_blk t0 1).trans rfl
 have hgW:=rdNet.mono hg hbw
 have HG:=qh hgW
 have HH:=qh (hH.mono hbw)
 have HWS:=qh (hW.mono hbw)
 have HBH:=qh hbH
 have HBW:=qh hbW
 have HNB:=qh hn
 have hsz:=netB_size hn
 have hcl:=cloneInt_any ws vW W HWS.out om
 obtain ⟨N,hN⟩:∃ N,N=n.Ns.xs.length:=⟨_,rfl⟩
 obtain ⟨M,hM⟩:∃ M,M=n.Ls.xs.length:=⟨_,rfl⟩
 have HN:=qh hN
 have HM:=qh hM
 have hFN:Hid (∀ k,k<M->frmN n k<N):=qh (fun k hk=>by rw [hM] at hk;rw [hN];exact (ends_lt hn hk).1)
 obtain ⟨aH,cH,rfl,-,-,-⟩:=hH
 obtain ⟨aW,cW,rfl,-,-,-⟩:=hW
 rw [<-hN] at hlH q0 hsz
 rw [<-hM] at hlW q1 hsz
 rw [hlW] at hcl
 rw [hlH,hlW,<-hN,<-hM]
 have HLH:=qh hlH
 have HLW:=qh hlW
 have HCH:Hid (IsC eInt 1 W aH held):=qh (by obtain ⟨a',c',e,-,-,h⟩:=HH.out;cases e;exact h)
 have HCW:Hid (IsC eInt 1 W aW ws):=qh (by obtain ⟨a',c',e,-,-,h⟩:=HWS.out;cases e;exact h)
 clear hWe t0 hg hn hbH hbW hgW hN hM hlH hlW
 simp only [vNet,vSl] at hcl ⊢
 go_enter Tryz.func172,Tryz.ntmps172
 go_upto_region 1 with (fail)
 rw [HN.out,HM.out,<-HW.out,<-HN.out,<-HM.out]
 clear HW
 go_wp2_with fail
 refine Calls.to hcl ?_
 rintro e w1 ⟨uO,rfl,hO1⟩ hb1
 have q0:=cel_lt q0 hb1
 have q1:=cel_lt q1 hb1
 have hou:=routs_any n w1 (rdNet.mono HG.out hb1) HNB.out
 simp only [vNet,vSl] at hou
 rw [<-HN.out,<-HM.out] at hou
 clear hcl
 go_wp2_with fail
 refine Calls.to hou ?_
 rintro e w2 ⟨uR,vs,v2,rfl,hR2,-⟩ hb2
 have hO2:=hO1.below hb2
 have hvl:vs.length=N:=by have:=hR2.len;simpa using this
 have HVL:=qh hvl
 have hOL:Hid (∀ g,uO.ownBlock=some g->W.heap.size<=g/\g<w1.heap.size):=qh hO1.lt
 obtain ⟨aR,cR,rfl,-,-,hRC⟩:=hR2.out.isL (fun _=>rfl)
 have HRB:=qh hR2.out.blk
 have HRC:=qh hRC
 have HRow:Hid (∀ i (h:i<vs.length),∃ a c,vs[i]=.slice a (rowN (frmN n) M i).length c/\IsC eNat 1 w2 a (rowN (frmN n) M i)/\∀ b off,a=some ⟨b,off,none⟩->w1.heap.size<=b/\b<w2.heap.size):=qh (fun i hi=>by
  have h:=hR2.row i hi (by rw [<-hR2.len];exact hi)
  rw [List.getElem_map,List.getElem_range] at h
  obtain ⟨a,c,e,-,-,hc⟩:=h.isL (fun _=>rfl)
  rw [e] at h
  exact ⟨a,c,e,hc,h.blk⟩)
 have hbb:=hb1.trans (hb2.mono hb1.size)
 have hs1:=hb1.size
 have hs2:=hb2.size
 have HO2:=qh hO2
 have HI0:Hid (LimI (frmN n) (fun k=>ws.getD k 0) (fun i=>held.getD i 0) M 0 ws):=qh (LimI.start HLW.out (fun _ _=>rfl) (fun k hk=>by have:=HBW.out k (by rw [<-HM.out];exact hk);omega))
 rw [hvl]
 clear hou hR2 hO1 hO2 hb1 hb2 hRC q0 q1 hvl
 go_wp2_with fail
 go_loopw [29] (fun s29 wr=>∃ (i:Nat) (xs:List Int),i<=N/\s29=.int .i64 i/\Below W.heap.size W wr/\w2.heap.size<=wr.heap.size/\Hid (Own W.heap.size 3 eInt 1 wr uO xs) /\
  Hid (∀ j,w1.heap.size<=j->j<w2.heap.size->wr.heap[j]? = w2.heap[j]?)/\Hid (LimI (frmN n) (fun k=>ws.getD k 0) (fun i=>held.getD i 0) M i xs)) (fun i _=>N-(intOf i).toNat)
 case atStart=>exact ⟨0,ws,Nat.zero_le _,rfl,hbb,Nat.le_refl _,HO2,qh (fun _ _ _=>rfl),HI0⟩
 clear HO2 HI0 hbb
 case round=>
  obtain ⟨i,xs,hi,rfl,hb,hsz,HO,HNR,HI⟩:=hrel
  obtain ⟨wo,hwo⟩:∃ wo,wo=wr:=⟨_,rfl⟩
  subst hwo
  by_cases hiN:i<N
  ·have hiv:i<vs.length:=by rw [HVL.out];exact hiN
   obtain ⟨bR,oR,eaR,hcR⟩:=(HRC.out.near (w':=wo) (fun b off e=>by
    have:=HRB.out b off e
    exact HNR.out b this.1 this.2)) i hiv
   have r0:=hcR 0 om
   simp only [List.getD,List.getElem?_cons_zero,Option.getD_some,Nat.mul_one,Nat.add_zero] at r0
   obtain ⟨ra,rc,hre,hrC,hrB⟩:=HRow.out i hiv
   have HR1:=qh hre
   rw [hre] at r0
   have HrC:Hid (IsC eNat 1 wo ra (rowN (frmN n) M i)):=qh (hrC.near (fun b off e=>by
    have:=hrB b off e
    exact HNR.out b this.1 this.2))
   have HrM:Hid (∀ x∈rowN (frmN n) M i,x<M/\frmN n x=i):=qh (fun x hx=>rowN_mem.1 hx)
   obtain ⟨row,hrow⟩:∃ row,row=rowN (frmN n) M i:=⟨_,rfl⟩
   have HROW:=qh hrow
   have hrl:row.length<=400:=by have:=rowN_len (frmN n) i M;rw [hrow];omega
   rw [<-hrow] at r0 HrC HrM
   obtain ⟨bH,oH,eaH,h0⟩:=(HCH.out.mono hb).int i (by rw [HLH.out];exact hiN)
   have hbh:=HBH.out i (by rw [<-HN.out];exact hiN)
   have hhd:held.getD i 0=held[i]'(by rw [HLH.out];exact hiN):=by simp [List.getD,show i<held.length from by rw [HLH.out];exact hiN]
   rw [<-hhd] at h0
   obtain ⟨hh,hhh⟩:∃ hh:Nat,held.getD i 0=hh:=⟨(held.getD i 0).toNat,by omega⟩
   have HHH:=qh hhh
   rw [hhh] at h0 hbh
   obtain ⟨sm,hsm⟩:∃ sm:Nat,(sm:Int)=(row.map fun k=>ws.getD k 0).sum:=by
    have:=mapsum_bd (l:=row) (f:=fun k=>ws.getD k 0) (m:=M) (B:=1125899906842624) (by decide) (fun x hx=>(HrM.out x hx).1) (fun k hk=>HBW.out k (by rw [<-HM.out];exact hk))
    exact ⟨((row.map fun k=>ws.getD k 0).sum).toNat,by omega⟩
   have HSM:=qh hsm
   have HTB:Hid (∀ j,j<=row.length->0<=((row.take j).map fun k=>ws.getD k 0).sum/\((row.take j).map fun k=>ws.getD k 0).sum<=450359962737049600):=qh (fun j hj=>by
    have:=mapsum_bd (l:=row.take j) (f:=fun k=>ws.getD k 0) (m:=M) (B:=1125899906842624) (by decide) (fun x hx=>(HrM.out x (List.mem_of_mem_take hx)).1) (fun k hk=>HBW.out k (by rw [<-HM.out];exact hk))
    rw [List.length_take,Nat.min_eq_left hj] at this
    omega)
   have hsb:sm<=450359962737049600:=by have:=HTB.out row.length (Nat.le_refl _);rw [List.take_length] at this;omega
   have i1:decide (i<N)=true:=decide_eq_true hiN
   have x7:IntKind.i64.wrap ((i:Int)+1)=i+1:=IntWalk.i64_in _ om
   have i4:(0:Int)<=i:=by omega
   have i5:(i:Int)<N:=by omega
   clear hcR hre hrC hrB hrow hhd hhh hsm
   subst eaR
   subst eaH
   go_wp2_with fail
   go_loopw [12,36] (fun s12 s36 wr=>∃ j:Nat,j<=row.length/\s36=.int .i64 j/\s12=.int .i64 ((row.take j).map fun k=>ws.getD k 0).sum/\wr=wo) (fun _ s36 _=>row.length-(intOf s36).toNat)
   case atStart=>exact ⟨0,Nat.zero_le _,rfl,by simp,rfl⟩
   case round=>
    obtain ⟨j,hj,rfl,rfl,rfl⟩:=hrel
    by_cases hjr:j<row.length
    ·obtain ⟨b1,o1,ea1,d1⟩:=HrC.out.nat j hjr
     have hkM:=(HrM.out _ (List.getElem_mem hjr)).1
     have hst:=map_take_succ (fun k=>ws.getD k 0) row j hjr
     have ht0:=HTB.out j hj
     have ht1:=HTB.out (j+1) om
     rw [hst] at ht1
     obtain ⟨k,hk⟩:∃ k,k=row[j]'hjr:=⟨_,rfl⟩
     simp only [<-hk] at d1 hkM hst ht1
     obtain ⟨b2,o2,ea2,d2⟩:=(HCW.out.mono hb).int k (by rw [HLW.out];exact hkM)
     have hwd:ws[k]'(by rw [HLW.out];exact hkM)=ws.getD k 0:=by simp [List.getD,show k<ws.length from by rw [HLW.out];exact hkM]
     rw [hwd] at d2
     obtain ⟨y,hy⟩:∃ y,y=ws.getD k 0:=⟨_,rfl⟩
     rw [<-hy] at d2 hst ht1
     obtain ⟨t,ht⟩:∃ t,t=((row.take j).map fun k=>ws.getD k 0).sum:=⟨_,rfl⟩
     rw [<-ht] at ht0 ht1 hst ⊢
     have HST:=qh hst
     have j1:decide (j<row.length)=true:=decide_eq_true hjr
     have y7:IntKind.i64.wrap ((j:Int)+1)=j+1:=IntWalk.i64_in _ om
     have y8:IntKind.i64.wrap (t+y)=t+y:=IntWalk.i64_in _ om
     have j4:(0:Int)<=j:=by omega
     have j5:(j:Int)<row.length:=by omega
     have k4:(0:Int)<=k:=by omega
     have k5:(k:Int)<M:=by omega
     subst ea1
     subst ea2
     clear hst hk hy ht hwd
     go_wp2_with fail
     go_roundw
     case measure=>simp [intOf,y7];omega
     case rel=>exact ⟨j+1,hjr,by go_num,by rw [HST.out];exact ⟨rfl,trivial⟩⟩
    ·have j1:decide (j<row.length)=false:=decide_eq_false hjr
     have hE:Hid (((row.take j).map fun k=>ws.getD k 0).sum=(sm:Int)):=qh (by rw [List.take_of_length_le om,<-HSM.out])
     rw [hE.out]
     by_cases hle:sm<=hh
     ·have s1:decide (sm<=hh)=true:=decide_eq_true hle
      have s2:decide ((sm:Int)<=hh)=true:=decide_eq_true om
      have HI':=qh (HI.out.easy (by rw [<-HROW.out,<-HSM.out];show (sm:Int)<=held.getD i 0;rw [HHH.out];omega))
      clear hle
      go_wp2_with fail
      go_roundw
      case measure=>simp [intOf,x7];omega
      case rel=>exact ⟨i+1,xs,hiN,by go_num,hb,hsz,HO,HNR,HI'⟩
     ·have s1:decide (sm<=hh)=false:=decide_eq_false hle
      have s2:decide ((sm:Int)<=hh)=false:=decide_eq_false om
      have HLT:=qh (show hh<sm by omega)
      have HJ0:=qh (HI.out.deal (i:=i) (hh:=hh) (s:=sm) HHH.out (by rw [<-HROW.out];exact HSM.out))
      clear hle
      go_wp2_with fail
      go_loopw [15,16,55] (fun s15 s16 s55 wr=>∃ (j:Nat) (xs:List Int) (b d:Nat),j<=row.length/\s15=.int .i64 (b:Int)/\s16=.int .i64 (d:Int)/\s55=.int .i64 j/\Below W.heap.size W wr/\w2.heap.size<=wr.heap.size/\Hid (Own W.heap.size 3 eInt 1 wr uO xs) /\
       Hid (∀ j,w1.heap.size<=j->j<w2.heap.size->wr.heap[j]? = w2.heap[j]?)/\Hid (LimJ (frmN n) (fun k=>ws.getD k 0) (fun i=>held.getD i 0) M i j xs hh b d sm)) (fun _ _ s55 _=>row.length-(intOf s55).toNat)
      case atStart=>exact ⟨0,xs,0,0,Nat.zero_le _,rfl,rfl,rfl,hb,hsz,HO,HNR,HJ0⟩
      clear HO HNR HI HJ0
      case round=>
       obtain ⟨j,xs,b,d,hj,rfl,rfl,rfl,hb2,hsz2,HO,HNR,HJ⟩:=hrel
       obtain ⟨wz,hwz⟩:∃ wz,wz=wr:=⟨_,rfl⟩
       subst hwz
       by_cases hjr:j<row.length
       ·have hC:=HrC.out
        have HrC2:IsC eNat 1 wz ra row:=by
         obtain ⟨a',c',he,hc',hB'⟩:=HRow.out i hiv
         rw [HROW.out]
         have hrr:=HR1.out
         rw [hrr] at he
         simp only [Value.slice.injEq] at he
         obtain ⟨rfl,-,-⟩:=he
         exact hc'.near (fun b off e=>by
          have:=hB' b off e
          exact HNR.out b this.1 this.2)
        obtain ⟨b1,o1,ea1,d1⟩:=HrC2.nat j hjr
        have hkM:=(HrM.out _ (List.getElem_mem hjr)).1
        have hst:=map_take_succ (fun k=>ws.getD k 0) row j hjr
        have hle:=map_take_le (l:=row) (f:=fun k=>ws.getD k 0) (fun x hx=>(HBW.out x (by rw [<-HM.out];exact (HrM.out x hx).1)).1) (j+1)
        rw [hst,<-HSM.out] at hle
        have hbf:=HJ.out.before
        rw [<-HROW.out] at hbf
        rw [<-hbf] at hle
        have hwb:=HBW.out (row[j]'hjr) (by rw [<-HM.out];exact hkM)
        have hnx:=fun (b':Nat) (hb':(b':Int)=b+(fun k=>ws.getD k 0) ((rowN (frmN n) M i)[j]'(by rw [<-HROW.out];exact hjr)))=>HJ.out.next HLT.out om (fun k hk=>(HBW.out k (by rw [<-HM.out];exact hk)).1) (by rw [<-HROW.out];exact hjr) hb'
        have hrk:(rowN (frmN n) M i)[j]'(by rw [<-HROW.out];exact hjr)=row[j]'hjr:=by simp only [HROW.out]
        simp only [hrk] at hnx
        obtain ⟨k,hk⟩:∃ k,k=row[j]'hjr:=⟨_,rfl⟩
        simp only [<-hk] at d1 hkM hle hwb hnx
        obtain ⟨b2,o2,ea2,d2⟩:=(HCW.out.mono hb2).int k (by rw [HLW.out];exact hkM)
        have hwd:ws[k]'(by rw [HLW.out];exact hkM)=ws.getD k 0:=by simp [List.getD,show k<ws.length from by rw [HLW.out];exact hkM]
        rw [hwd] at d2
        obtain ⟨y,hy⟩:∃ y:Nat,ws.getD k 0=y:=⟨(ws.getD k 0).toNat,by omega⟩
        simp only [hy] at d2 hle hwb hnx
        obtain ⟨b',hb'⟩:∃ b',b'=b+y:=⟨_,rfl⟩
        have HJ':=qh (hnx b' (by rw [hb'];push_cast;rfl))
        have hxl:=HJ.out.len
        have hdq:=HJ.out.dq
        have hdle:d<=hh*b' / sm:=by rw [hdq];exact Nat.div_le_div_right (Nat.mul_le_mul (Nat.le_refl hh) om)
        have hlt:=HLT.out
        have hp1:=part_ok1 (h:=hh) (b:=b') (s:=sm) om om hlt
        have hp2:=part_ok2 (h:=hh) (b:=b') (s:=sm) om hlt
        obtain ⟨q,hq⟩:∃ q,q=hh*b' / sm:=⟨_,rfl⟩
        rw [<-hq] at hdle hp2
        have hpc:∀ W,Calls Tryz.prog 232 #[.int .i64 (hh:Int),.int .i64 (b':Int),.int .i64 (sm:Int)] W fun e w'=>e=.returned (.int .i64 (q:Int))/\Below W.heap.size W w':=fun W=>by rw [hq];exact rpart_any hh b' sm W om om om hp1 om
        have HHQ:=qh hq
        have HJ2:Hid (LimJ (frmN n) (fun k=>ws.getD k 0) (fun i=>held.getD i 0) M i (j+1) (xs.set k ((q:Int)-(d:Int))) hh b' q sm):=by rw [hq];exact HJ'
        clear hq
        obtain ⟨gO,cO,hu,hgO,hgl,-,-⟩:=HO.out.place om
        rw [hxl] at hu
        subst hu
        have f0:=HO.out.free k
        obtain ⟨z0,e0⟩:∃ z0,wz.cell? ⟨gO,k,none⟩=some (.int .i64 z0):=⟨_,HO.out.int1 (k:=k) om rfl⟩
        have hg1:=(hOL.out gO rfl).2
        have j1:decide (j<row.length)=true:=decide_eq_true hjr
        have y7:IntKind.i64.wrap ((j:Int)+1)=j+1:=IntWalk.i64_in _ om
        have y8:IntKind.i64.wrap ((b:Int)+y)=b':=(IntWalk.i64_in _ om).trans (by rw [hb'];push_cast;rfl)
        have y9:IntKind.i64.wrap ((q:Int)-d)=q-d:=IntWalk.i64_in _ om
        have j4:(0:Int)<=j:=by omega
        have j5:(j:Int)<row.length:=by omega
        have k4:(0:Int)<=k:=by omega
        have k5:(k:Int)<M:=by omega
        obtain ⟨b3,o3,e3,h3⟩:=(HCH.out.mono hb2).int i (by rw [HLH.out];exact hiN)
        have hhd3:held[i]'(by rw [HLH.out];exact hiN)=held.getD i 0:=by simp [List.getD,show i<held.length from by rw [HLH.out];exact hiN]
        rw [hhd3,HHH.out] at h3
        simp only [Option.some.injEq,Addr.mk.injEq] at e3
        obtain ⟨rfl,rfl,-⟩:=e3
        have HKM:=qh hkM
        have HJR:=qh hjr
        subst ea1
        subst ea2
        clear hst hbf hnx hrk hwd hC HrC2 hxl hdq hle hp1 hwb hk hb' hhd3 hkM hjr
        go_wp2_with fail
        refine Calls.to (hpc _) ?_
        rintro e w6 rfl hb6
        have hO6:=HO.out.below hb6
        have f0:=hO6.free k
        have e0:=cel_lt e0 hb6
        have hb7:=hb2.trans (hb6.mono hb2.size)
        have hsz6:=hb6.size
        have hO7:=qh (hO6.put1 (k:=k) (by rw [HJ.out.len];exact HKM.out) ((q:Int)-d))
        have hb8:=hb7.setCell (p:=⟨gO,k,none⟩) hgO (.int .i64 ((q:Int)-d))
        have hN7:Hid (∀ j,w1.heap.size<=j->j<w2.heap.size->(w6.setCell ⟨gO,k,none⟩ (.int .i64 ((q:Int)-d))).heap[j]? = w2.heap[j]?):=qh (fun j h1 h2=>by
         rw [Below.heap_setCell _ _ _ _ (show j≠(⟨gO,k,none⟩:Addr).block from by show j≠gO;omega),hb6.block j om]
         exact HNR.out j h1 h2)
        have hsz8:w2.heap.size<=(w6.setCell ⟨gO,k,none⟩ (.int .i64 ((q:Int)-d))).heap.size:=by simp [World.setCell];omega
        clear hpc hO6 hb7 d1 d2 h3
        go_wp2_with fail
        go_roundw
        case measure=>have:=HJR.out;simp [intOf,y7];omega
        case rel=>exact ⟨j+1,_,b',q,HJR.out,rfl,rfl,by go_num,hb8,hsz8,hO7,hN7,HJ2⟩
       ·have j1:decide (j<row.length)=false:=decide_eq_false hjr
        have HI':=qh (HJ.out.done HLT.out (by rw [<-HROW.out];omega))
        go_wp2_with fail
        go_roundw
        case measure=>simp [intOf,x7];omega
        case rel=>exact ⟨i+1,xs,hiN,by go_num,hb2,hsz2,HO,HNR,HI'⟩
  ·have hiE:i=N:=by omega
   subst hiE
   have i1:decide (i<i)=false:=decide_eq_false (Nat.lt_irrefl i)
   have hbr:=hbw.trans (hb.mono hbw.size)
   have HQ:=qh (HO.out.base hbw.size)
   clear HO
   go_wp2_with fail
   go_ret
   exact ⟨⟨_,xs,rfl,HQ.out,HI.out⟩,hbr⟩
end Go.Proofs.YtoiakijmbghhlaaGreat
