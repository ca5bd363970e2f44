/- planner's values from the first step on. Conditions: a right plan, rows as reach makes them. -/
import Derived.Test.YtoiakijmbghhlaaGreatS10
import Derived.Test.YtoiakijmbghhlaaGreatS11
set_option linter.unusedVariables false
set_option linter.unusedSimpArgs false
set_option maxRecDepth 100000
set_option maxHeartbeats 32000000
namespace Go.Proofs.YtoiakijmbghhlaaGreat
open Go.RowKit
theorem bestK_congr {p:Pn.Pl} {nx nx':Int->Option Int} {v i:Int}:∀ (n:Nat),(∀ k,k<n->∀ w c,Pn.stepP p v i k=some (w,c)->nx w=nx' w)->Pn.bestK p nx v i n=Pn.bestK p nx' v i n
 | 0,_=>rfl
 | n+1,h=>by
  have ih:=bestK_congr n (fun k hk=>h k om)
  simp only [Pn.bestK,Pn.bst,ih]
  cases hs:Pn.stepP p v i n with
  | none=>rfl
  | some x=>
   obtain ⟨w,c⟩:=x
   simp only [h n om w c hs]
noncomputable def valF (p:PlD) (i:Nat) (row:List Int):Int->Option Int:=fun x=>if x∈row then Pn.V (plOf p) (p.I.xs.drop i) x else none
theorem valF_small {p:PlD} (hp:PlOk p) {i:Nat} {row:List Int} (hb:∀ v∈row,p.Rs<=v/\v<=p.Cp):SmallF (valF p i row):=by
 intro u y h
 unfold valF at h
 split at h
 ·rename_i hu
  have h1:=Pn.V_bd hp.pn (p.I.xs.drop i) u y (fun x hx=>hp.inf x (List.mem_of_mem_drop hx)) (hb u hu).2 h
  have h2:(p.I.xs.drop i).length<=200:=by rw [List.length_drop];have:=hp.il;omega
  have h3:((p.I.xs.drop i).length:Int)*Pn.K<=200*Pn.K:=Int.mul_le_mul_of_nonneg_right om (by decide)
  have h4:(200:Int)*Pn.K<=1152921504606846976:=by decide
  omega
 ·cases h
theorem best_val {p:PlD} {R:List (List Int)} (hc:ChainI p R) {i:Nat} (hi:i<p.I.xs.length) (hr:i+1<R.length) {v:Int} (hv:v∈R.getD i []) :
  (Pn.best (plOf p) (valF p (i+1) (R.getD (i+1) [])) v p.I.xs[i]).map (·.2)=Pn.V (plOf p) (p.I.xs.drop i) v:=by
 rw [List.drop_eq_getElem_cons hi,Pn.V,Pn.best,Pn.best]
 rw [bestK_congr (nx':=Pn.V (plOf p) (p.I.xs.drop (i+1)))]
 intro k hk w c hs
 unfold valF
 rw [if_pos]
 refine ((hc.next i hr).2 w).2 ⟨v,hv,k,hk,c,?_⟩
 rw [show p.I.xs.getD i 0=p.I.xs[i] from by simp [List.getD,List.getElem?_eq_getElem hi]]
 exact hs
theorem cell_grown {w w':World} {b off M:Nat} {v:Value} (h:w.cell? ⟨b,off,none⟩=some v) (hg:w.grownBy w' (some M)) (hne:b≠M):w'.cell? ⟨b,off,none⟩=some v:=
 (World.cell?_of_block (hg.block b (World.block_lt_of_cell? _ _ h) (fun e=>hne (Option.some.inj e)))).trans h
theorem undMaps:Tryz.prog.underlying 145=some (.slice 65):=by kernel_rfl
theorem infMapE:(Tryz.prog.info? 65).map (fun i=>(i.zero,i.size,i.bytes))=some (some (.map none),1,8):=by kernel_rfl
abbrev mapsV (t:Nat) (bs:List Nat):List Value:=List.replicate t (.map none) ++ bs.map fun b=>.map (some b)
theorem mapsV_len (t:Nat) (bs:List Nat):(mapsV t bs).length=t+bs.length:=by simp [mapsV]
theorem mapsV_set (t M:Nat) (bs:List Nat):(mapsV (t+1) bs).set t (.map (some M))=mapsV t (M :: bs):=by
 apply List.ext_getElem
 ·simp [mapsV];omega
 ·intro i h1 h2
  by_cases hi:i=t
  ·subst hi
   rw [List.getElem_set_self]
   simp [mapsV,List.getElem_append]
  ·rw [List.getElem_set_ne (Ne.symm hi)]
   simp only [mapsV,List.getElem_append,List.length_replicate,List.getElem_replicate,List.getElem_map]
   by_cases h:i<t
   ·rw [dif_pos om,dif_pos h]
   ·rw [dif_neg om,dif_neg h]
    have e:i-t=(i-(t+1))+1:=by omega
    simp only [e,List.getElem_cons_succ]
theorem mapsV_at {t:Nat} {bs:List Nat} {q:Nat} (h:q<bs.length):(mapsV t bs)[t+q]'(by rw [mapsV_len];omega)=.map (some bs[q]):=by
 simp [mapsV,List.getElem_append]
structure ValR (p:PlD) (w:World) (B G m:Nat) (R:List (List Int)) (t:Nat) (bs:List Nat):Prop where
 len:t+bs.length=R.length
 maps:∀ q (h:q<bs.length),MapI w bs[q] 4000 (valF p (t+q) (R.getD (t+q) []))
 far:∀ b∈bs,G<b
 out:Own B 65 eV 1 w (.slice (some ⟨G,0,none⟩) m m) (mapsV t bs)
theorem ValR.kept {p:PlD} {w w':World} {B G m:Nat} {R:List (List Int)} {t:Nat} {bs:List Nat} (h:ValR p w B G m R t bs) {row:Option Nat} (hg:w.grownBy w' row) (h1:row≠some G) (h2:∀ b∈bs,row≠some b):ValR p w' B G m R t bs:=
 ⟨h.len,fun q hq=>(h.maps q hq).kept hg (fun e=>h2 _ (List.getElem_mem hq) e.symm),h.far,Own.kept h.out hg (fun g hg' e=>h1 (by rw [e];simp [Value.ownBlock] at hg';rw [hg']))⟩
abbrev laid (w:World) (G t:Nat):World:=(w.setCell ⟨G,t,none⟩ (.map (some w.heap.size))).alloc (.map #[] 0)
theorem laid_own {B G m t:Nat} {bs:List Nat} {w:World} (h:Own B 65 eV 1 w (.slice (some ⟨G,0,none⟩) m m) (mapsV (t+1) bs)):Own B 65 eV 1 (laid w G t) (.slice (some ⟨G,0,none⟩) m m) (mapsV t (w.heap.size :: bs)):=by
 have h1:=Own.store (enc:=eV) (k:=1) (fun _=>rfl) h t 0 (by rw [mapsV_len];omega) Nat.zero_lt_one (.map (some w.heap.size)) (.map (some w.heap.size)) rfl
 rw [mapsV_set] at h1
 have h2:Own B 65 eV 1 (w.setCell ⟨G,t,none⟩ (.map (some w.heap.size))) (.slice (some ⟨G,0,none⟩) m m) (mapsV t (w.heap.size :: bs)):=by simpa using h1
 exact h2.below (qr.alloc (Nat.le_refl _) _)
theorem laid_map (w:World) (G t:Nat):MapI (laid w G t) w.heap.size 0 (fun _=>none):=by
 have:=MapI.made (w.setCell ⟨G,t,none⟩ (.map (some w.heap.size)))
 rwa [World.size_setCell] at this
theorem laid_size (w:World) (G t:Nat):(laid w G t).heap.size=w.heap.size+1:=by simp
theorem laid_below {B G t:Nat} {w0 w:World} (h:Below B w0 w) (hG:B<=G) (hB:B<=w.heap.size):Below B w0 (laid w G t):=
 (h.setCell (p:=⟨G,t,none⟩) hG _).alloc (by rw [World.size_setCell];exact hB) _
theorem laid_grown (w:World) (G t:Nat):w.grownBy (laid w G t) (some G):=
 World.grownBy.trans (grownBy_set w ⟨G,t,none⟩ _) ((World.grownBy_alloc _ _ none).but _)
theorem maps_cell {B G m t:Nat} {bs:List Nat} {w:World} (h:Own B 65 eV 1 w (.slice (some ⟨G,0,none⟩) m m) (mapsV t bs)) {q:Nat} (hq:q<bs.length):w.cell? ⟨G,t+q,none⟩=some (.map (some bs[q])):=by
 have:=Own.cellAt' (enc:=eV) (k:=1) (fun _=>rfl) h (t+q) 0 (by rw [mapsV_len];omega) Nat.zero_lt_one
 rw [mapsV_at hq] at this
 simpa using this
theorem maps_cell0 {B G m t:Nat} {bs:List Nat} {w:World} (h:Own B 65 eV 1 w (.slice (some ⟨G,0,none⟩) m m) (mapsV (t+1) bs)):w.cell? ⟨G,t,none⟩=some (.map none):=by
 have:=Own.cellAt' (enc:=eV) (k:=1) (fun _=>rfl) h t 0 (by rw [mapsV_len];omega) Nat.zero_lt_one
 rw [show (mapsV (t+1) bs)[t]'(by rw [mapsV_len];omega)=.map none from by simp [mapsV,List.getElem_append]] at this
 simpa using this
theorem rowsAt {B0 rg m oc:Nat} {us:List Value} {R:List (List Int)} {w:World} (hR:OwnR B0 28 3 eInt 1 w (.slice (some ⟨rg,0,none⟩) m oc) us R) (i:Nat) (hi:i<R.length) :
  ∃ la lc,∀ W,Below w.heap.size w W->W.cell? ⟨rg,i,none⟩=some (.slice la (R.getD i []).length lc)/\IsC eInt 1 W la (R.getD i []):=by
 have hui:i<us.length:=by rw [hR.len];exact hi
 have hgd:R.getD i []=R[i]:=by simp [List.getD,List.getElem?_eq_getElem hi]
 have hrow:=hR.row i hui hi
 obtain ⟨la,lc,hle⟩:=hrow.isSlice
 refine ⟨la,lc,fun W hW=>?_⟩
 rw [hgd]
 refine ⟨?_,?_⟩
 ·rw [<-hle];exact (hR.below hW).cellv i hui
 ·obtain ⟨a,c,hv,_,_,h⟩:=((hR.below hW).row i hui hi).isL (fun _=>rfl)
  rw [hle] at hv
  simp only [Value.slice.injEq] at hv
  obtain ⟨rfl,_,_⟩:=hv
  exact h
theorem getD_mem {R:List (List Int)} {i:Nat} (hi:i<R.length):R.getD i []∈R:=by
 simp [List.getD,List.getElem?_eq_getElem hi]
theorem MapI.mono {w:World} {b n n':Nat} {f:Int->Option Int} (h:MapI w b n f) (hn:n<=n'):MapI w b n' f:=by
 obtain ⟨D,h1,h2⟩:=h
 exact ⟨D,h1.mono hn,h2⟩
theorem valF_nil (p:PlD) (i:Nat):valF p i []=fun _=>none:=by funext x;simp [valF]
theorem valF_some {p:PlD} {i:Nat} {vs:List Int} {v y:Int} (h:Pn.V (plOf p) (p.I.xs.drop i) v=some y):setF (valF p i vs) v y=valF p i (vs ++ [v]):=by
 funext x
 unfold setF valF
 by_cases hx:x=v
 ·subst hx;simp [h]
 ·simp [hx]
theorem valF_none {p:PlD} {i:Nat} {vs:List Int} {v:Int} (h:Pn.V (plOf p) (p.I.xs.drop i) v=none):valF p i vs=valF p i (vs ++ [v]):=by
 funext x
 unfold valF
 by_cases hx:x=v
 ·subst hx;simp [h]
 ·simp [hx]
theorem pvalues_any (p:PlD) (g B0:Nat) (u:Value) (us:List Value) (R:List (List Int)) (w:World) (ht:IsTank w g p) (hp:PlOk p) (hR:OwnR B0 28 3 eInt 1 w u us R) (hc:ChainI p R) (hl:R.length=p.I.xs.length+1) :
  Calls Tryz.prog 71 #[.pointer (some ⟨g,0,none⟩),.int .i64 0,u] w fun e w'=>(∃ bs,e=.returned (.slice (some ⟨w.heap.size,0,none⟩) R.length R.length)/\ValR p w' w.heap.size w.heap.size R.length R 0 bs)/\Below w.heap.size w w':=by
 have hmm:=@run_makeMap Tryz.prog
 obtain ⟨n,hn⟩:∃ n,n=p.I.xs.length:=⟨_,rfl⟩
 have HN:=qh hn
 have hn2:n<=200:=by rw [hn];exact hp.il
 obtain ⟨m,hm⟩:∃ m,m=R.length:=⟨_,rfl⟩
 have hmn:m=n+1:=by omega
 have HM:=qh hm
 have hus:us.length=m:=by rw [hm];exact hR.len
 obtain ⟨oa,oc,hoe⟩:=hR.out.isSlice
 rw [hus] at hoe
 subst hoe
 obtain ⟨rg,rc,hv,_⟩:=hR.out.place om
 simp only [Value.slice.injEq] at hv
 obtain ⟨rfl,-,-⟩:=hv
 have HR:=qh hR
 have HT:=qh ht
 have HC:=qh hc
 have HUS:=qh hus
 have hcz:(⟨rg,0,none⟩:Addr).block<w.heap.size:=(hR.out.lt rg rfl).2
 rw [<-hm]
 have HL:=qh hl
 have HMN:=qh hmn
 have hmi:(m:Int)=n+1:=by omega
 have HMI:=qh hmi
 have hm2:m<2147483648:=by omega
 clear hn hm hus hR ht hc hl hmn hmi
 have x1:IntKind.i64.wrap ((m:Int)-1)=n:=by have:=HMI.out;rw [IntWalk.i64_in _ om];omega
 go_enter Tryz.func71,Tryz.ntmps71
 go_upto_region 3 with (refine wpList_mk _ rfl _ _ 145 rfl w.heap.size 65 _ 8 undMaps infMapE eV (.map none) rfl rfl _ _ m rfl rfl rfl rfl hm2 om (Nat.le_refl _) ?_;intro w1 hown1 hb1 hlt1)
 have hnm:n<m:=by have:=HMI.out;omega
 have hown0:Own w.heap.size 65 eV 1 w1 (.slice (some ⟨w.heap.size,0,none⟩) m m) (mapsV (n+1) []):=by
  rw [show mapsV (n+1) []=List.replicate m (.map none) from by simp [mapsV,HMN.out]];exact hown1
 have hbA:Below w1.heap.size w1 (w1.alloc (.map #[] 0)):=qr.alloc (Nat.le_refl _) _
 have cA:(w1.alloc (.map #[] 0)).cell? ⟨w.heap.size,n,none⟩=some (.map none):=cel_lt (maps_cell0 hown0) hbA
 have fA:(w1.alloc (.map #[] 0)).frozen? ⟨w.heap.size,n,none⟩=false:=Own.free (hown0.below hbA) _
 obtain ⟨la,lc,hrow⟩:=rowsAt HR.out n (by rw [<-HM.out];exact hnm)
 have hbW:=laid_below (t:=n) hb1 (Nat.le_refl _) hb1.size
 have hownW:=laid_own hown0
 have hmapW:=laid_map w1 w.heap.size n
 have hszW:=laid_size w1 w.heap.size n
 have cR2:=(hrow _ hbW).1
 have HW0:=qh hown0
 have HWW:=qh hownW
 clear hown1 hown0 hownW
 go_upto_region 4 with fail
 clear cA fA hbA
 obtain ⟨V,hV⟩:∃ V,V=laid w1 w.heap.size n:=⟨_,rfl⟩
 obtain ⟨M,hMM⟩:∃ M,M=w1.heap.size:=⟨_,rfl⟩
 have HWV:Hid (Own w.heap.size 65 eV 1 V (.slice (some ⟨w.heap.size,0,none⟩) m m) (mapsV n [M])):=by rw [hV,hMM];exact HWW
 rw [show ((w1.setCell ⟨w.heap.size,n,none⟩ (.map (some w1.heap.size))).alloc (.map #[] 0))=V from hV.symm]
 rw [<-hV] at hbW hmapW hszW cR2
 rw [<-hMM] at hmapW hszW ⊢
 have hGM:w.heap.size<M:=by rw [hMM];exact hlt1
 clear hV hMM HWW HW0 hb1 hlt1
 obtain ⟨row,hrw⟩:∃ row,row=R.getD n []:=⟨_,rfl⟩
 have hsh:=HC.out.short _ (getD_mem (R:=R) (i:=n) (by rw [<-HM.out];exact hnm))
 have hbd:=HC.out.bd _ (getD_mem (R:=R) (i:=n) (by rw [<-HM.out];exact hnm))
 rw [<-hrw] at hrow cR2 hsh hbd
 have HRW:=qh hrw
 have HBD:=qh hbd
 have HROW:=qh hrow
 clear hrw hbd hrow
 go_wp2_with fail
 clear cR2
 go_loopw [32] (fun s32 wx=>∃ j:Nat,j<=row.length/\s32=.int .i64 j/\V.grownBy wx (some M)/\Hid (MapI wx M j (valF p n (row.take j)))) (fun s32 _=>row.length-(RowKit.intOf s32).toNat)
 case atStart=>exact ⟨0,Nat.zero_le _,rfl,⟨rfl,rfl,rfl,Nat.le_refl _,fun _ _ _=>rfl⟩,qh (by rw [List.take_zero,valF_nil];exact hmapW)⟩
 case round=>
  obtain ⟨j,hj,rfl,hgx,hmx⟩:=hrel
  have hbx:=hbW.grown hgx hbW.size (fun q hq=>by cases hq;omega)
  by_cases hjl:j<row.length
  ·obtain ⟨rb,ro,rfl,dv⟩:=(HROW.out wr hbx).2.int j hjl
   have hvb:=HBD.out _ (List.getElem_mem hjl)
   have hst:row.take (j+1)=row.take j ++ [row[j]]:=List.take_succ_eq_append_getElem hjl
   obtain ⟨v,hvv⟩:∃ v,v=row[j]:=⟨_,rfl⟩
   rw [<-hvv] at dv hvb hst
   have HST:=qh hst
   clear hvv hst
   have cG:wr.cell? ⟨w.heap.size,n,none⟩=some (.map (some M)):=cell_grown (by simpa using maps_cell HWV.out (q:=0) (by simp)) hgx om
   have hwb:0<=v/\v<=1099511627776:=by
    have h3:=hp.cp
    have h4:=hp.rs
    omega
   have hkey:=keyI (k:=v) (wfI om)
   have i1:decide (j<row.length)=true:=decide_eq_true hjl
   have x7:IntKind.i64.wrap ((j:Int)+1)=j+1:=IntWalk.i64_in _ om
   obtain ⟨D,hD,hf⟩:=hmx.out
   have hjm:j<maxLen:=by simp only [maxLen];omega
   have HV0:Hid (Pn.V (plOf p) (p.I.xs.drop n) v=some 0):=qh (by rw [HN.out,List.drop_length];rfl)
   go_wp2_with (at_mapUpdate;refine wpList_mapUpdate_own _ rfl _ _ _ 65 rfl 3 3 kInt undMII elI M j D rfl hD hjm _ _ _ rfl rfl hkey (.lit (.int .i64 0)) [] (plainElem_int undI (by decide)) ?_;intro w5 hown5 hgrow5)
   have hg5:=World.grownBy.trans hgx hgrow5
   have hm5:=MapI.put hD.isMap hf hown5
   rw [valF_some HV0.out] at hm5
   clear hown5 hgrow5 hD hf hkey hmx cG dv
   go_wp2_with fail
   go_roundw
   case measure=>simp [RowKit.intOf,x7];omega
   case rel=>exact ⟨j+1,by omega,by go_num,hg5,qh (by rw [HST.out];exact hm5)⟩
  ·have i1:decide (j<row.length)=false:=decide_eq_false hjl
   have hjj:row.take j=row:=List.take_of_length_le om
   have hm1:=hmx.out
   rw [hjj] at hm1
   have y1:IntKind.i64.wrap ((n:Int)-1)=(n:Int)-1:=IntWalk.i64_in _ om
   have hVR:ValR p wr w.heap.size w.heap.size m R n [M]:=by
    refine ⟨by rw [<-HM.out,HMN.out];rfl,fun q hq=>?_,fun b hb=>by rw [List.mem_singleton] at hb;subst hb;exact hGM,Own.kept HWV.out hgx (fun g' hg' e=>by simp [Value.ownBlock] at hg';cases e;omega)⟩
    have:q=0:=by simp at hq;omega
    subst this
    simp only [Nat.add_zero,List.getElem_cons_zero]
    rw [<-HRW.out]
    exact hm1.mono om
   have HVR:=qh hVR
   clear hjj hm1 hVR hmx hmapW hszW hgx hbW
   go_wp2_with fail
   clear y1
   go_loopw [11] (fun s11 wz=>∃ (t:Nat) (bs:List Nat),t<=n/\((t=0/\s11=.int .i64 (-1))\/∃ i0:Nat,t=i0+1/\s11=.int .i64 i0)/\Below w.heap.size w wz/\Hid (ValR p wz w.heap.size w.heap.size m R t bs)/\Hid (0<bs.length)) (fun s11 _=>(RowKit.intOf s11+1).toNat)
   case atStart=>
    refine ⟨n,[M],Nat.le_refl _,?_,hbx,HVR,qh (by simp)⟩
    by_cases hn0:n=0
    ·left;exact ⟨hn0,by rw [hn0];rfl⟩
    ·right;exact ⟨n-1,by omega,by congr 1;omega⟩
   case round=>
    obtain ⟨t,bs,htn,hcase,hbz,hVR,hbs⟩:=hrel
    obtain ⟨wo,hwo⟩:∃ wo,wo=wr:=⟨_,rfl⟩
    subst hwo
    rcases hcase with ⟨rfl,rfl⟩|⟨i0,rfl,rfl⟩
    ·go_wp2_with fail
     go_ret
     exact ⟨⟨bs,rfl,hVR.out⟩,hbz⟩
    ·have hin:i0<p.I.xs.length:=by rw [<-HN.out];omega
     have hir:i0+1<R.length:=by rw [<-HM.out,HMN.out];omega
     have hbA:Below wo.heap.size wo (wo.alloc (.map #[] 0)):=qr.alloc (Nat.le_refl _) _
     have cA:(wo.alloc (.map #[] 0)).cell? ⟨w.heap.size,i0,none⟩=some (.map none):=cel_lt (maps_cell0 hVR.out.out) hbA
     have fA:(wo.alloc (.map #[] 0)).frozen? ⟨w.heap.size,i0,none⟩=false:=Own.free (hVR.out.out.below hbA) _
     obtain ⟨la,lc,hrow⟩:=rowsAt HR.out i0 om
     have hbW:=laid_below (t:=i0) hbz (Nat.le_refl _) hbz.size
     have hmapW:=laid_map wo w.heap.size i0
     have hgW:=laid_grown wo w.heap.size i0
     have cR2:=(hrow _ hbW).1
     have hGM:w.heap.size<wo.heap.size:=(hVR.out.out.lt w.heap.size rfl).2
     have i1:(0:Int)<=i0:=by omega
     have i2:decide ((0:Int)<=i0)=true:=decide_eq_true i1
     have i3:(i0:Int)<m:=by have:=HMI.out;omega
     have HVW:Hid (Own w.heap.size 65 eV 1 (laid wo w.heap.size i0) (.slice (some ⟨w.heap.size,0,none⟩) m m) (mapsV i0 (wo.heap.size :: bs))):=qh (laid_own hVR.out.out)
     go_upto_region 13 with fail
     clear cA fA hbA
     obtain ⟨V,hV⟩:∃ V,V=laid wo w.heap.size i0:=⟨_,rfl⟩
     obtain ⟨M,hMM⟩:∃ M,M=wo.heap.size:=⟨_,rfl⟩
     rw [show ((wo.setCell ⟨w.heap.size,i0,none⟩ (.map (some wo.heap.size))).alloc (.map #[] 0))=V from hV.symm]
     rw [<-hV] at hbW hmapW cR2 HVW hgW
     rw [<-hMM] at hmapW HVW hGM ⊢
     have hlow:∀ b∈bs,w.heap.size<b/\b<M:=fun b hb=>by
      obtain ⟨q,hq,rfl⟩:=List.mem_iff_getElem.1 hb
      exact ⟨hVR.out.far _ hb,by rw [hMM];exact (hVR.out.maps q hq).lt⟩
     have hmaps:∀ q (h:q<bs.length),MapI V bs[q] 4000 (valF p (i0+1+q) (R.getD (i0+1+q) [])):=fun q hq=>(hVR.out.maps q hq).kept hgW (fun e=>by have:=Option.some.inj e;have:=(hlow _ (List.getElem_mem hq)).1;omega)
     have hlen:=hVR.out.len
     have HLOW:=qh hlow
     have HMAPS:=qh hmaps
     have HLEN:=qh hlen
     obtain ⟨row,hrw⟩:∃ row,row=R.getD i0 []:=⟨_,rfl⟩
     have hsh:=HC.out.short _ (getD_mem (R:=R) (i:=i0) om)
     have hbd:=HC.out.bd _ (getD_mem (R:=R) (i:=i0) om)
     rw [<-hrw] at hrow cR2 hsh hbd
     have HRW:=qh hrw
     have HBD:=qh hbd
     have HROW:=qh hrow
     have HHIR:=qh hir
     clear hV hMM hVR hbz hgW hlow hmaps hlen hrw hbd hrow hir
     go_wp2_with fail
     clear cR2
     go_loopw [57] (fun s57 wx=>∃ j:Nat,j<=row.length/\s57=.int .i64 j/\V.grownBy wx (some M)/\Hid (MapI wx M j (valF p i0 (row.take j)))) (fun s57 _=>row.length-(RowKit.intOf s57).toNat)
     case atStart=>exact ⟨0,Nat.zero_le _,rfl,⟨rfl,rfl,rfl,Nat.le_refl _,fun _ _ _=>rfl⟩,qh (by rw [List.take_zero,valF_nil];exact hmapW)⟩
     case round=>
      obtain ⟨j,hj,rfl,hgx,hmx⟩:=hrel
      obtain ⟨wx,hwx⟩:∃ wx,wx=wr:=⟨_,rfl⟩
      subst hwx
      have hbx:=hbW.grown hgx hbW.size (fun q hq=>by cases hq;omega)
      by_cases hjl:j<row.length
      ·obtain ⟨rb,ro,rfl,dv⟩:=(HROW.out wx hbx).2.int j hjl
       have hvb:=HBD.out _ (List.getElem_mem hjl)
       have hst:row.take (j+1)=row.take j ++ [row[j]]:=List.take_succ_eq_append_getElem hjl
       have hvin:row[j]∈R.getD i0 []:=by rw [<-HRW.out];exact List.getElem_mem hjl
       obtain ⟨v,hvv⟩:∃ v,v=row[j]:=⟨_,rfl⟩
       rw [<-hvv] at dv hvb hst hvin
       have HST:=qh hst
       clear hvv hst
       have hb0:0<bs.length:=hbs.out
       obtain ⟨nb,hnb⟩:∃ nb,nb=bs[0]'hb0:=⟨_,rfl⟩
       have hl0:=HLOW.out _ (List.getElem_mem hb0)
       have hm0:=HMAPS.out 0 hb0
       have cN:V.cell? ⟨w.heap.size,i0+1,none⟩=some (.map (some (bs[0]'hb0))):=maps_cell HVW.out (q:=1) (by simp;omega)
       have cM:V.cell? ⟨w.heap.size,i0,none⟩=some (.map (some M)):=maps_cell HVW.out (q:=0) (by simp)
       rw [<-hnb] at hl0 hm0 cN
       rw [Nat.add_zero] at hm0
       have hmN:=hm0.kept hgx (fun e=>by have:=Option.some.inj e;omega)
       have cNx:=cell_grown cN hgx om
       have cMx:=cell_grown cM hgx om
       have hbest:=pbest_any p g nb 4000 _ i0 v wx (HT.out.mono hbx) hp hvb hin hmN (valF_small hp (HC.out.bd _ (getD_mem HHIR.out)))
       have hbv:=best_val HC.out hin HHIR.out hvin
       have i1:decide (j<row.length)=true:=decide_eq_true hjl
       have x7:IntKind.i64.wrap ((j:Int)+1)=j+1:=IntWalk.i64_in _ om
       have x5:IntKind.i64.wrap (i0:Int)=i0:=IntWalk.i64_in _ om
       have x6:IntKind.i64.wrap ((i0:Int)+1)=i0+1:=IntWalk.i64_in _ om
       have i2:(0:Int)<=i0:=by omega
       have i3:(i0:Int)<m:=by have:=HMI.out;omega
       have i4:(i0:Int)+1<m:=by have:=HMI.out;omega
       have i5:(0:Int)<=(i0:Int)+1:=by omega
       cases hbb:Pn.best (plOf p) (valF p (i0+1) (R.getD (i0+1) [])) v p.I.xs[i0] with
       | none=>
        rw [hbb] at hbest hbv
        simp only [bsV,Option.map_none] at hbest hbv
        have HBV:=qh hbv
        clear hbb hbv hl0 hm0 cN cM hnb hmN
        go_wp2_with fail
        refine Calls.to hbest ?_
        rintro e w1 rfl hb1
        have hg1:=World.grownBy.trans hgx (grown_none hb1 (some M))
        have hm1:=hmx.out.below hb1
        clear hbest hb1 hgx hmx
        go_wp2_with fail
        go_roundw
        case measure=>simp [RowKit.intOf,x7];omega
        case rel=>exact ⟨j+1,by omega,by go_num,hg1,qh (by rw [HST.out,<-valF_none HBV.out.symm];exact hm1.mono om)⟩
       | some z=>
        obtain ⟨kb,cb⟩:=z
        rw [hbb] at hbest hbv
        simp only [bsV,Option.map_some] at hbest hbv
        have hvs:=Pn.V_bd hp.pn (p.I.xs.drop i0) v cb (fun x hx=>hp.inf x (List.mem_of_mem_drop hx)) hvb.2 hbv.symm
        have hcb:0<=cb/\cb<=1152921504606846976:=by
         have h2:(p.I.xs.drop i0).length<=200:=by rw [List.length_drop];have:=hp.il;omega
         have h3:((p.I.xs.drop i0).length:Int)*Pn.K<=200*Pn.K:=Int.mul_le_mul_of_nonneg_right om (by decide)
         have h4:(200:Int)*Pn.K<=1152921504606846976:=by decide
         omega
        have HBV:=qh hbv
        have hwb:0<=v/\v<=1099511627776:=by
         have h3:=hp.cp
         have h4:=hp.rs
         omega
        have hkey:=keyI (k:=v) (wfI om)
        have hwc:=wfI (k:=cb) om
        have hjm:j<maxLen:=by simp only [maxLen];omega
        clear hbb hbv hl0 hm0 cN cM hnb hmN hvs
        go_wp2_with fail
        refine Calls.to hbest ?_
        rintro e w1 rfl hb1
        have hg1:=World.grownBy.trans hgx (grown_none hb1 (some M))
        have cM1:=cel_lt cMx hb1
        obtain ⟨D,hD,hf⟩:=hmx.out.below hb1
        clear hbest hb1 hgx hmx cNx cMx
        go_wp2_with (at_mapUpdate;refine wpList_mapUpdate_own _ rfl _ _ _ 65 rfl 3 3 kInt undMII elI M j D rfl hD hjm _ _ _ rfl rfl hkey (.lit (.int .i64 cb)) [] (plainElem_int undI hwc) ?_;intro w5 hown5 hgrow5)
        have hg5:=World.grownBy.trans hg1 hgrow5
        have hm5:=MapI.put hD.isMap hf hown5
        rw [valF_some HBV.out.symm] at hm5
        clear hown5 hgrow5 hD hf hkey cM1 hg1
        go_wp2_with fail
        go_roundw
        case measure=>simp [RowKit.intOf,x7];omega
        case rel=>exact ⟨j+1,by omega,by go_num,hg5,qh (by rw [HST.out];exact hm5)⟩
      ·have i1:decide (j<row.length)=false:=decide_eq_false hjl
       have hjj:row.take j=row:=List.take_of_length_le om
       have hm1:=hmx.out
       rw [hjj] at hm1
       have y1:IntKind.i64.wrap ((i0:Int)-1)=(i0:Int)-1:=IntWalk.i64_in _ om
       have hVR:ValR p wx w.heap.size w.heap.size m R i0 (M :: bs):=by
        refine ⟨by have:=HLEN.out;rw [List.length_cons];omega,fun q hq=>?_,fun b hb=>?_,Own.kept HVW.out hgx (fun g' hg' e=>by simp [Value.ownBlock] at hg';cases e;omega)⟩
        ·cases q with
         | zero=>
          simp only [Nat.add_zero,List.getElem_cons_zero]
          rw [<-HRW.out]
          exact hm1.mono om
         | succ q=>
          simp only [List.getElem_cons_succ]
          have hq':q<bs.length:=by simpa using hq
          have:=(HMAPS.out q hq').kept hgx (fun e=>by have:=Option.some.inj e;have:=(HLOW.out _ (List.getElem_mem hq')).2;omega)
          rw [show i0+(q+1)=i0+1+q from by omega]
          exact this
        ·rcases List.mem_cons.1 hb with rfl|hb
         ·exact hGM
         ·exact (HLOW.out _ hb).1
       have HVR:=qh hVR
       clear hjj hm1 hVR hmx hgx
       go_wp2_with fail
       go_roundw
       case measure=>(simp [RowKit.intOf,y1];try omega)
       case rel=>
        refine ⟨i0,M :: bs,by omega,?_,hbx,HVR,qh (by simp)⟩
        by_cases hn0:i0=0
        ·left;exact ⟨hn0,by rw [hn0];rfl⟩
        ·right;exact ⟨i0-1,by omega,by congr 1;omega⟩
end Go.Proofs.YtoiakijmbghhlaaGreat
