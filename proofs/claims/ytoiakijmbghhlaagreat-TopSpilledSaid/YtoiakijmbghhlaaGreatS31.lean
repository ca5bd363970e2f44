/- edges and Edges of a network: the pairs of indices of all links. Conditions: the network reads as data. | routing.outs: the links out of each node. Conditions: the network is right. -/
import Derived.Test.YtoiakijmbghhlaaGreatS30
import Derived.Test.YtoiakijmbghhlaaGreatS17
import Derived.Test.YtoiakijmbghhlaaGreatS14
import Derived.Test.YtoiakijmbghhlaaGreatS05
import Derived.WalkSpells
import Derived.Test.YtoiakijmbghhlaaGreatS26
import Derived.Test.YtoiakijmbghhlaaGreatS25
set_option linter.unusedVariables false
set_option linter.unusedSimpArgs false
set_option maxRecDepth 100000
set_option maxHeartbeats 32000000
namespace Go.Proofs.YtoiakijmbghhlaaGreat
open Go.RowKit
abbrev IsPrs (w:World) (v:Value) (xs:List (Int×Int)):Prop:=IsL ePr 2 w v xs
section
variable {α : Type} {P : Program} {o : Oper} {a : Act} {Q : Exit → Act → World → Prop}
theorem wp_pushK {K:Act->World->Prop} (s x:Operand) (t:TypeId)
  (hop:o.op=.call { callee:=.builtin .append,args:=#[s,x],argTypes:=#[t,t] }) (e:TypeId) (z:Value) (size bytes:Nat) (ht:P.underlying t=some (.slice e))
  (hinfo:(P.info? e).map (fun i=>(i.zero,i.size,i.bytes))=some (some z,size,bytes)) (hzs:z.cells.size=size) (hsz:0<size)
  {w:World} {base:Nat} {enc:α->List Value} (y:α) (hk:∀ x,(enc x).length=size) (h1:∀ u∈enc y,u.oneCell'=true) (v:Value) (xs:List α) (hs:a.eval s=v) (hown0:Own base e enc size w v xs)
  (hx:a.eval x=.slice (some ⟨w.heap.size,0,none⟩) 1 1) (hlen:xs.length<2147483648) (hby:bytes<=4096) (hbase0:base<=w.heap.size) (cs:Array Value) (hcs:cs=(enc y).toArray)
  (h:∀ g cap w',Own base e enc size w' (.slice (some ⟨g,0,none⟩) (xs.length+1) cap) (xs ++ [y])->base<=g->g<w'.heap.size->Below base w w'->xs.length+1<=cap->cap<=9223372036854775807 ->
   (∀ (p:Addr) (u:Value),w.cell? p=some u->some p.block≠v.ownBlock->w'.cell? p=some u)->K (a.put o.dst (.slice (some ⟨g,0,none⟩) (xs.length+1) cap)) w') :
  Oper.wp P o a (w.alloc (.cells cs e)) K Q:=by
 subst hcs
 obtain ⟨i,hi,hz0,hz1,hz2⟩:=info_parts hinfo
 have hb32:(xs.length+1)*bytes<=2147483648*4096:=Nat.mul_le_mul om hby
 have hown:=hown0.below (qr.alloc (Nat.le_refl _) (.cells (enc y).toArray e))
 have hbase:base<=(w.alloc (.cells (enc y).toArray e)).heap.size:=by simp;omega
 refine wp_append_own _ s x t hop base e i z size bytes ht hi hz0 hz1 hz2 hzs hsz v xs.length (xs.flatMap enc) hs hown ⟨w.heap.size,0,none⟩ 1 1 (enc y) hx (by rw [hk];omega) ?_ h1 (by simp only [maxLen];omega) om hbase ?_
 ·intro j u hu
  have hadd:(⟨w.heap.size,0,none⟩:Addr).add j=⟨w.heap.size,j,none⟩:=by unfold Addr.add;split <;> simp_all
  rw [hadd]
  have hbk:(w.alloc (.cells (enc y).toArray e)).heap[w.heap.size]? = some (.cells (enc y).toArray e (0,0)):=heap_alloc_new w _
  simp only [World.cell?,hbk]
  simpa using hu
 ·intro v' w' hown' hgr _
  have hown2:Own base e enc size w' v' (xs ++ [y]):=by
   unfold Own
   simpa using hown'
  obtain ⟨g,cap,rfl,hbg,hlt,hc1,hc2⟩:=hown2.place (by simp)
  have hbl:Below base w w':=((Below.refl base w).alloc hbase0 _).grown hgr hbase fun k hk'=>(hown.lt k hk').1
  simp only [List.length_append,List.length_cons,List.length_nil,Nat.zero_add] at hown2 hc1 ⊢
  refine h g cap w' hown2 hbg hlt hbl hc1 hc2 fun p u hp hne=>hgr.cell ?_ hne
  exact (World.cell?_alloc_lt w _ p (World.block_lt_of_cell? w p hp)).trans hp
end
theorem edges_len (ns:List Nd) (ls:List Lk):(edgesM ns ls).length=ls.length:=by simp [edgesM]
theorem edges_any (n:Net) (w:World) (hg:gNet w n) (hlx:n.Ls.xs.length<2147483648):Calls Tryz.prog 175 #[vNet n] w fun e w'=>(∃ v,e=.returned v/\Own w.heap.size 183 ePr 2 w' v (edgesM n.Ns.xs n.Ls.xs))/\Below w.heap.size w w':=by
 obtain ⟨⟨na,nc,nxs⟩,⟨la,lc,lxs⟩⟩:=n
 have hsL:=hg.2.2.2.1
 have isN:IsNds w (vSl (⟨na,nc,nxs⟩:Sl Nd)) nxs:=hg.1.isL
 have hlc:lxs.length<=9223372036854775807:=by
  have h1:lxs.length<=lc:=hg.2.1
  have h2:lc<=9223372036854775807:=hg.2.2.1
  omega
 simp only at hlx
 clear hg
 simp only at hsL
 simp only [vNet,vSl]
 have hb0:Below w.heap.size w (w.alloc (.cells #[.slice na nxs.length nc,.slice la lxs.length lc] 25)):=qr.alloc (Nat.le_refl _) _
 go_enter Tryz.func175,Tryz.ntmps175
 go_wp2_with fail
 go_loopw [3,9] (fun s3 s9 wr=>∃ k:Nat,k<=lxs.length/\s9=.int .i64 k/\Own (w.heap.size+1) 183 ePr 2 wr s3 ((edgesM nxs lxs).take k)/\Below (w.heap.size+1) (w.alloc (.cells #[.slice na nxs.length nc,.slice la lxs.length lc] 25)) wr) (fun _ i _=>lxs.length-(intOf i).toNat)
 case atStart=>exact ⟨0,Nat.zero_le _,rfl,by rw [List.take_zero];exact World.ownsRow_nil _ _ _ _,qr⟩
 case round=>
  obtain ⟨k,hk,rfl,hown,hb⟩:=hrel
  have hbw:Below w.heap.size w wr:=hb0.trans (hb.mono om)
  obtain ⟨e0,e1⟩:=boxNet w wr 25 ⟨⟨na,nc,nxs⟩,⟨la,lc,lxs⟩⟩ _ rfl _ rfl hb
  simp only [vSl] at e0 e1
  have hol:((edgesM nxs lxs).take k).length=k:=by rw [List.length_take,edges_len];omega
  by_cases hlt:k<lxs.length
  ·obtain ⟨b,off,rfl,c0,c1,c2,c3,c4,c5,c6,c7,c8,c9,c10⟩:=(hsL.mono hbw).lk k hlt
   have HT:Hid ((edgesM nxs lxs).take (k+1)=(edgesM nxs lxs).take k ++ [(findNd nxs lxs[k].From,findNd nxs lxs[k].To)]):=by
    show _=_
    rw [List.take_succ_eq_append_getElem (by rw [edges_len];exact hlt)]
    simp [edgesM]
   have isNr:=isN.mono hbw
   have hlkr:=hown.lt
   have HOL:=qh hol
   clear hsL hol isNr
   generalize lxs[k]=x at *
   generalize (edgesM nxs lxs).take k=ys at *
   obtain ⟨aO,cO,rfl⟩:=hown.isSlice
   go_wp2_with fail
   obtain ⟨d0,d1,d2,_⟩:=boxLk wr (wr.alloc (.cells (eLk x).toArray 61)) 61 x _ rfl _ rfl qr
   have hbX:Below wr.heap.size wr (wr.alloc (.cells (eLk x).toArray 61)):=qr.alloc (Nat.le_refl _) _
   have e0:=box_lt e0 hbX
   have e1:=box_lt e1 hbX
   have hown2:=hown.below hbX
   have hb2:=hb.trans (hbX.mono (by simpa using hb.size))
   have ne0:some w.heap.size≠(Value.slice aO ys.length cO).ownBlock:=fun h=>by have:=(hlkr _ h.symm).1;omega
   have neL:some wr.heap.size≠(Value.slice aO ys.length cO).ownBlock:=fun h=>by have:=(hlkr _ h.symm).2;omega
   clear hbX c0 c1 c2 c3 c4 c5 c6 c7 c8 c9 c10 hown hlkr d0
   have hs1:w.heap.size+1<=(wr.alloc (.cells (eLk x).toArray 61)).heap.size:=by have h:=hb.size;simp at h ⊢;omega
   have hlo:ys.length<2147483648:=by have h:=HOL.out;omega
   (go_region_held3 (fun w'=>Below (w.heap.size+1) (w.alloc (.cells #[.slice na nxs.length nc,.slice (some ⟨b,off,none⟩) lxs.length lc] 25)) w'/\w'.cell? ⟨w.heap.size,0,none⟩=some (.slice na nxs.length nc)/\w'.cell? ⟨w.heap.size,1,none⟩=some (.slice (some ⟨b,off,none⟩) lxs.length lc)/\w'.cell? ⟨wr.heap.size,1,none⟩=some (.string x.From)/\w'.cell? ⟨wr.heap.size,2,none⟩=some (.string x.To)) (first|((try dsimp only at *);(try go_split_ands);(refine ⟨?_,?_,?_,?_,?_⟩ <;> (first|(exact (hb2.trans (hbX1.mono hs1)).trans hb5)|(exact hk5 _ _ (box_lt (by assumption) hbX1) (by assumption))|(exact box_lt (by assumption) hb1)|(exact Below.drew (by assumption))|(exact Below.alloc (by assumption) (Nat.le_trans hs1 hbX1.size) _)|(exact hb2.trans (hbX1.mono hs1))|(simp [*,go_sem];done))))|go_keep) ((first|(go_at_call 127;(try dsimp only at *);(try go_split_ands);refine (node_any ⟨⟨na,nc,nxs⟩,⟨some ⟨b,off,none⟩,lc,lxs⟩⟩ _ _ (isN.mono (hb0.trans (Below.mono (by assumption) om)))).mono ?_;rintro e w1 ⟨rfl,hb1⟩;have hbX1:Below (wr.alloc (.cells (eLk x).toArray 61)).heap.size (wr.alloc (.cells (eLk x).toArray 61)) w1:=(by first|exact Below.trans (by assumption) (hb1.mono (Below.size (by assumption)))|exact (qr.drew).trans hb1))|((try dsimp only at *);(try go_split_ands);rw [if_pos (by rfl)];(refine wp_pushK _ _ 179 rfl 183 _ 2 16 undPrs infPr rfl (by decide) (findNd nxs x.From,findNd nxs x.To) ePr_len (by simp [Value.oneCell']) _ ys rfl (hown2.below hbX1) rfl hlo (by decide) (Nat.le_trans hs1 hbX1.size) _ rfl ?_);intro g3 cap3 w5 hown5 hbg5 hgl5 hb5 hc51 hc52 hk5))))
   have hb5':=(hb2.trans (hbX1.mono hs1)).trans hb5
   have HK:Hid (k<9223372036854775807):=by show _<_;omega
   have hwk:IntKind.i64.wrap ((k:Int)+1)=k+1:=IntWalk.i64_in _ om
   go_wp2_with fail
   go_roundw
   case measure=>simp [intOf];omega
   case rel=>exact ⟨k+1,by omega,by go_num,by rw [HT.out];exact hown5,hb5'⟩
  ·obtain rfl:k=lxs.length:=by omega
   rw [List.take_of_length_le (by rw [edges_len];exact Nat.le_refl _)] at hown
   have is:=hown.base (Nat.le_succ w.heap.size)
   obtain ⟨aO,cO,rfl⟩:=hown.isSlice
   clear hol hown
   go_wp2_with fail
   go_ret
   exact ⟨⟨_,rfl,is⟩,hbw⟩
theorem edgesX_any (n:Net) (w:World) (hg:gNet w n) (h:netB n=true):Calls Tryz.prog 99 #[vNet n] w fun e w'=>(∃ v,e=.returned (.tuple #[v,.int .i64 0])/\Own w.heap.size 183 ePr 2 w' v (edgesM n.Ns.xs n.Ls.xs))/\Below w.heap.size w w':=by
 have hb0:Below w.heap.size w (w.alloc (.cells (eNet n).toArray 25)):=qr.alloc (Nat.le_refl _) _
 go_enter Tryz.func99,Tryz.ntmps99
 go_wp2_with fail
 refine Calls.to (nvalid_any n _ (rdNet.mono hg hb0)) ?_
 rintro e w1 rfl hb1
 have hbw:=hb0.trans (hb1.mono hb0.size)
 obtain ⟨e0,e1⟩:=boxNet w w1 25 n _ rfl _ rfl (hb1.mono (by simp))
 clear hb1
 rw [h]
 go_wp2_with fail
 refine Calls.to (edges_any n _ (rdNet.mono hg hbw) (by simp [netB] at h;omega)) ?_
 rintro e w2 ⟨v,rfl,hv⟩ hb2
 go_wp2_with fail
 go_ret2
 exact ⟨⟨v,rfl,hv.base hbw.size⟩,hbw.trans (hb2.mono hbw.size)⟩
abbrev eNat (x:Nat):List Value:=[.int .i64 (x:Int)]
theorem undRowsN:Tryz.prog.underlying 70=some (.slice 28):=by kernel_rfl
theorem infRowN:(Tryz.prog.info? 28).map (fun i=>(i.zero,i.size,i.bytes))=some (some (.slice none 0 0),1,24):=by kernel_rfl
theorem heap_new2N (w:World) (o o2:Obj):((w.alloc o).alloc o2).drew.heap[w.heap.size+1]? = some o2:=by
 have h:=heap_alloc_new (w.alloc o) o2
 rw [show (w.alloc o).heap.size=w.heap.size+1 from by simp] at h
 exact h
theorem IsC.near {α:Type} {enc:α->List Value} {k:Nat} {w w':World} {a:Option Addr} {xs:List α} (h:IsC enc k w a xs) (hb:∀ b off,a=some ⟨b,off,none⟩->w'.heap[b]? = w.heap[b]?):IsC enc k w' a xs:=by
 intro i hi
 obtain ⟨b,off,e,hc⟩:=h i hi
 exact ⟨b,off,e,fun j hj=>(World.cell?_of_block (hb b off e)).trans (hc j hj)⟩
theorem row_rows {frm:Nat->Nat} {n k:Nat} (h:frm k<n) :
  ((List.range n).map (rowN frm k)).set (frm k) (rowN frm k (frm k) ++ [k])=(List.range n).map (rowN frm (k+1)):=by
 apply List.ext_getElem
 ·simp
 ·intro i h1 h2
  have hi:i<n:=by simpa using h2
  by_cases hia:frm k=i
  ·subst hia
   rw [List.getElem_set_self,List.getElem_map,List.getElem_range,rowN,if_pos rfl]
  ·rw [List.getElem_set_ne hia,List.getElem_map,List.getElem_map,List.getElem_range,rowN,if_neg hia]
theorem routs_any (n:Net) (w:World) (hg:gNet w n) (hn:netB n=true) :
  Calls Tryz.prog 173 #[vNet n] w fun e w'=>(∃ u vs v2,e=.returned (.tuple #[u,v2])/\OwnR w.heap.size 28 3 eNat 1 w' u vs ((List.range n.Ns.xs.length).map (rowN (frmN n) n.Ls.xs.length))/\IsPrs w' v2 (edgesM n.Ns.xs n.Ls.xs)/\∀ b off n' c,v2=.slice (some ⟨b,off,none⟩) n' c->w.heap.size<=b/\b<w'.heap.size)/\Below w.heap.size w w':=by
 obtain ⟨W,hW⟩:∃ W,W=allocs w [((eNet n).toArray,25)]:=⟨_,rfl⟩
 have hbw:Below w.heap.size w W:=by rw [hW];exact allocs_below _ _
 have t0:W.heap[w.heap.size]? = some (.cells (eNet n).toArray 25 (0,0)):=by rw [hW];exact allocs_at [((eNet n).toArray,25)] w 0 (by simp)
 have HW:Hid (W=w.alloc (.cells (eNet n).toArray 25)):=qh hW
 have q0:W.cell? ⟨w.heap.size,0,none⟩=some (.slice n.Ns.a n.Ns.xs.length n.Ns.cap):=(tank_blk t0 0).trans rfl
 have q1:W.cell? ⟨w.heap.size,1,none⟩=some (.slice n.Ls.a n.Ls.xs.length n.Ls.cap):=(tank_blk t0 1).trans rfl
 have hgW:=rdNet.mono hg hbw
 have HG:=qh hgW
 have hsz:=netB_size hn
 have HED:=qh (fun k (hk:k<n.Ls.xs.length) (h2:k<(edgesM n.Ns.xs n.Ls.xs).length)=>ends_edge hn hk h2)
 have HLT:=qh (fun k (hk:k<n.Ls.xs.length)=>ends_lt hn hk)
 obtain ⟨N,hN⟩:∃ N,N=n.Ns.xs.length:=⟨_,rfl⟩
 have HN:=qh hN
 rw [<-hN] at q0 hsz ⊢
 have hel:(edgesM n.Ns.xs n.Ls.xs).length=n.Ls.xs.length:=edges_len _ _
 obtain ⟨M,hM⟩:∃ M,M=n.Ls.xs.length:=⟨_,rfl⟩
 have HM:=qh hM
 rw [<-hM] at q1 hsz hel ⊢
 have HEL:=qh hel
 have HNB:=qh hn
 clear hW t0 hg hn hel hM hN hgW
 simp only [vNet,vSl]
 have hll:N<2147483648:=by omega
 go_enter Tryz.func173,Tryz.ntmps173
 go_upto_region 1 with (fail)
 first|rw [HN.out,HM.out,<-HW.out]|rw [<-HN.out,<-HM.out,<-HW.out]|rw [<-HW.out]
 clear HW
 go_upto_region 2 with (refine wpList_mk _ rfl _ _ 70 rfl W.heap.size 28 _ 24 undRowsN infRowN eV (.slice none 0 0) rfl rfl _ _ N rfl rfl rfl rfl hll om (Nat.le_refl _) ?_;intro w1 hown1 hb1 hlt1)
 have hR1:OwnR W.heap.size 28 3 eNat 1 w1 (.slice (some ⟨W.heap.size,0,none⟩) N N) (List.replicate N (.slice none 0 0)) ((List.range N).map (rowN (frmN n) 0)):=by
  have h:=OwnR.start (α:=Nat) (e:=3) (enc:=eNat) (k:=1) hown1
  rw [show (List.range N).map (rowN (frmN n) 0)=List.replicate N [] from by
   apply List.ext_getElem
   ·simp
   ·intro i h1 h2;simp [rowN]]
  exact h
 have q0:=cel_lt q0 hb1
 have q1:=cel_lt q1 hb1
 have hed:=edgesX_any n w1 (rdNet.mono HG.out hb1) HNB.out
 simp only [vNet,vSl] at hed
 rw [<-HN.out,<-HM.out] at hed
 clear hown1
 go_wp2_with fail
 refine Calls.to hed ?_
 rintro e w2 ⟨v2,rfl,hO2⟩ hb2
 have hR2:=hR1.below hb2
 have hbb:=hb1.trans (hb2.mono (Nat.le_of_lt hlt1))
 have hlt2:W.heap.size<w2.heap.size:=by have:=hb2.size;omega
 have HO2:=qh hO2
 have HLO:Hid (∀ b off n' c,v2=.slice (some ⟨b,off,none⟩) n' c->W.heap.size<b/\b<w2.heap.size):=qh (fun b off n' c e=>by
  rcases hO2.2 with ⟨e1,-⟩|⟨g,cap,cur,e1,hg,hgg,-⟩
  ·rw [e] at e1;cases e1
  ·rw [e] at e1
   simp only [Value.slice.injEq,Option.some.injEq,Addr.mk.injEq] at e1
   have:=(hO2.lt b (by rw [e,e1.1.1];first|rfl|simp [Value.ownBlock])).2
   omega)
 have hIs:=hO2.isL ePr_len
 obtain ⟨a2,c2,rfl,hc1,hc2,hC2⟩:=hIs
 have HCP:=qh (And.intro hc1 hc2)
 have HC2:=qh hC2
 rw [HEL.out] at HLO ⊢
 have HR2:Hid (OwnR W.heap.size 28 3 eNat 1 w2 (.slice (some ⟨W.heap.size,0,none⟩) N N) (List.replicate N (.slice none 0 0)) ((List.range N).map (rowN (frmN n) 0))):=qh hR2
 have HP2:Hid (∀ (i:Nat) (hi:i<(List.replicate N (Value.slice none 0 0)).length) (g:Nat),(List.replicate N (Value.slice none 0 0))[i].ownBlock=some g->w2.heap.size<=g):=qh (fun i hi g h=>by simp [Value.ownBlock] at h)
 clear hR1 hR2 hed hb1 hlt1 hb2 hO2 hC2 q0 q1 hc1 hc2
 go_wp2_with fail
 go_loopw [20] (fun s20 wr=>∃ (k:Nat) (vs:List Value),k<=M/\s20=.int .i64 k/\Below W.heap.size W wr/\w2.heap.size<=wr.heap.size/\Hid (OwnR W.heap.size 28 3 eNat 1 wr (.slice (some ⟨W.heap.size,0,none⟩) N N) vs ((List.range N).map (rowN (frmN n) k))) /\
  Hid (∀ (i:Nat) (hi:i<vs.length) (g:Nat),vs[i].ownBlock=some g->w2.heap.size<=g)/\Hid (∀ j,W.heap.size<j->j<w2.heap.size->wr.heap[j]? = w2.heap[j]?)) (fun i _=>M-(intOf i).toNat)
 case atStart=>exact ⟨0,_,Nat.zero_le _,rfl,hbb,Nat.le_refl _,HR2,HP2,qh (fun _ _ _=>rfl)⟩
 clear HR2 HP2 hbb
 case round=>
  obtain ⟨k,vs,hk,rfl,hb,hsz,HR,HP,HNR⟩:=hrel
  by_cases hkl:k<M
  ·have hke:k<(edgesM n.Ns.xs n.Ls.xs).length:=by rw [HEL.out];exact hkl
   have hC:=HC2.out.near (w':=wr) (fun b off e=>by
    have:=HLO.out b off M c2 (by rw [e])
    exact HNR.out b this.1 this.2)
   obtain ⟨b,off,ea,d1,d2⟩:=hC.prs k hke
   have hE:=HED.out k (by rw [<-HM.out];exact hkl) hke
   have ha:=(HLT.out k (by rw [<-HM.out];exact hkl)).1
   rw [<-HN.out] at ha
   rw [hE] at d1 d2
   have hvl:vs.length=N:=by have:=HR.out.len;simpa using this
   have hav:frmN n k<vs.length:=by omega
   have q3:=OwnR.cellv HR.out (frmN n k) hav
   have hrow:=HR.out.row (frmN n k) hav (by simpa using ha)
   rw [List.getElem_map,List.getElem_range] at hrow
   have hfar:vs[frmN n k].ownBlock≠some W.heap.size:=fun e=>HR.out.off _ hav _ e rfl
   have hlo:∀ g,vs[frmN n k].ownBlock=some g->g<wr.heap.size:=fun g hg=>(hrow.lt g hg).2
   have hlp:∀ g,vs[frmN n k].ownBlock=some g->w2.heap.size<=g:=fun g hg=>HP.out _ hav g hg
   have f3:wr.frozen? ⟨W.heap.size,frmN n k,none⟩=false:=Own.free HR.out.out _
   have HT:=qh (row_rows (n:=N) ha)
   have htl:(rowN (frmN n) k (frmN n k)).length<2147483648:=by
    have:=rowN_len (frmN n) (frmN n k) k
    omega
   have HRR:=HR
   have HPP:=HP
   clear HR HP hC hE
   obtain ⟨u,hu⟩:∃ u,u=vs[frmN n k]:=⟨_,rfl⟩
   rw [<-hu] at q3 hrow hfar hlo hlp
   have HU:=qh hu
   clear hu
   obtain ⟨x,hx⟩:∃ x,frmN n k=x:=⟨_,rfl⟩
   obtain ⟨y,hy⟩:∃ y,toN n k=y:=⟨_,rfl⟩
   have hav2:x<vs.length:=hx ▸ hav
   simp only [hx,hy] at *
   clear hx hy
   generalize rowN (frmN n) k x=ts at *
   obtain ⟨ua,uc,rfl⟩:=hrow.isSlice
   have i1:decide (k<M)=true:=decide_eq_true hkl
   have i4:(0:Int)<=k:=by omega
   have i5:(k:Int)<M:=by omega
   subst ea
   go_wp2_with fail
   have n0:(Value.slice ua ts.length uc).ownBlock≠some wr.heap.size:=fun e=>Nat.lt_irrefl _ (hlo _ e)
   have hX:Below wr.heap.size wr (wr.alloc (.cells #[.int .i64 (x:Int),.int .i64 (y:Int)] 183)):=alloc_below _ _
   have hsz1:W.heap.size<=wr.heap.size:=by omega
   have d0:(wr.alloc (.cells #[.int .i64 (x:Int),.int .i64 (y:Int)] 183)).cell? ⟨wr.heap.size,0,none⟩=some (.int .i64 (x:Int)):=by simp [go_sem]
   have d1:(wr.alloc (.cells #[.int .i64 (x:Int),.int .i64 (y:Int)] 183)).cell? ⟨wr.heap.size,1,none⟩=some (.int .i64 (y:Int)):=by simp [go_sem]
   have hXX:Below wr.heap.size wr ((wr.alloc (.cells #[.int .i64 (x:Int),.int .i64 (y:Int)] 183)).alloc (.cells #[.int .i64 (k:Int)] 3)).drew:=bl
   go_region_law ((first|((try dsimp only at *);(try go_split_ands);rw [if_pos (by rfl)];go_must (refine wp_pushR _ _ 28 rfl 3 _ 1 8 undInts infInt rfl (by decide) k (fun _=>rfl) (by simp [Value.oneCell']) (.slice ua ts.length uc) ts rfl (hrow.below (bl)) _ rfl htl (by decide) (by simp;omega) (heap_new2N _ _ _) ?_);intro g5 c5 w5 hR5;have k0:w5.cell? ⟨wr.heap.size,0,none⟩=some (.int .i64 (x:Int)):=hR5.cell (by simp [go_sem]) n0;have k1:w5.cell? ⟨wr.heap.size,1,none⟩=some (.int .i64 (y:Int)):=hR5.cell (by simp [go_sem]) n0;have k3:w5.cell? ⟨W.heap.size,x,none⟩=some (.slice ua ts.length uc):=hR5.cell (by simp [go_sem,q3]) hfar;have k4:w5.frozen? ⟨W.heap.size,x,none⟩=false:=(hR5.frozen (by simp;omega) hfar).trans ((Below.frozen (B:=wr.heap.size) (w:=wr) (bl) (p:=⟨W.heap.size,x,none⟩) (by show W.heap.size<wr.heap.size;omega)).trans f3))))
   all_goals
    have hR6:=hR5
    rw [HU.out] at hR6
    have hO:=(HRR.out.below hXX).put x hav2 hR6 rfl
    rw [HT.out] at hO
    have hO:=qh hO
    have hb5:=((hb.trans (hXX.mono hsz1)).trans (hR5.below (hrow.below hXX) (by simp;omega))).setCell (p:=⟨W.heap.size,x,none⟩) (Nat.le_refl W.heap.size) (.slice (some ⟨g5,0,none⟩) (ts.length+1) c5)
    have hl5:w2.heap.size<=(w5.setCell ⟨W.heap.size,x,none⟩ (.slice (some ⟨g5,0,none⟩) (ts.length+1) c5)).heap.size:=by
     have:=hR5.grown.size
     simp [World.setCell] at this ⊢;omega
    have hP5:Hid (∀ (i:Nat) (hi:i<(vs.set x (.slice (some ⟨g5,0,none⟩) (ts.length+1) c5)).length) (g:Nat),(vs.set x (.slice (some ⟨g5,0,none⟩) (ts.length+1) c5))[i].ownBlock=some g->w2.heap.size<=g):=qh (fun i hi g hg=>by
     have hi':i<vs.length:=by simpa using hi
     by_cases e:x=i
     ·subst e
      rw [List.getElem_set_self] at hg
      rcases hR5.place g hg with h|h
      ·exact hlp g h
      ·simp at h;omega
     ·rw [List.getElem_set_ne e] at hg
      exact HPP.out i hi' g hg)
    have hN5:Hid (∀ j,W.heap.size<j->j<w2.heap.size->(w5.setCell ⟨W.heap.size,x,none⟩ (.slice (some ⟨g5,0,none⟩) (ts.length+1) c5)).heap[j]? = w2.heap[j]?):=qh (fun j h1 h2=>by
     rw [Below.heap_setCell _ _ _ _ (show j≠(⟨W.heap.size,x,none⟩:Addr).block from by show j≠W.heap.size;omega)]
     rw [hR5.grown.block j (by simp;omega) (fun e=>by have:=hlp j e.symm;omega)]
     rw [hXX.block j om]
     exact HNR.out j h1 h2)
    have x9:IntKind.i64.wrap ((k:Int)+1)=k+1:=IntWalk.i64_in _ om
    clear hR5 hR6 q3 f3 d0 d1 k0 k1 k3 k4
    go_wp2_with fail
    go_roundw
    case measure=>simp [intOf,x9];omega
    case rel=>exact ⟨k+1,_,by omega,by go_num,hb5,hl5,hO,hP5,hN5⟩
  ·obtain rfl:k=M:=by omega
   have hR:=HR.out
   have hC:=HC2.out.near (w':=wr) (fun b off e=>by
    have:=HLO.out b off k c2 (by rw [e])
    exact HNR.out b this.1 this.2)
   have i1:decide (k<k)=false:=decide_eq_false (Nat.lt_irrefl k)
   have hbw2:=hbw.trans (hb.mono hbw.size)
   have hR':=hR.base' hbw.size
   have HQ:=qh (And.intro hR' hC)
   have HBD:Hid (∀ b off n' c,Value.slice a2 k c2=.slice (some ⟨b,off,none⟩) n' c->w.heap.size<=b/\b<wr.heap.size):=qh (fun b off n' c e=>by
    have:=HLO.out b off n' c e
    have:=hbw.size
    omega)
   clear HR hR hR' hC
   go_wp2_with fail
   go_ret2
   exact ⟨⟨_,vs,_,rfl,HQ.out.1,⟨a2,c2,by rw [HEL.out];rfl,HCP.out.1,HCP.out.2,HQ.out.2⟩,fun b off n' c e=>HBD.out b off n' c e⟩,hbw2⟩
end Go.Proofs.YtoiakijmbghhlaaGreat
