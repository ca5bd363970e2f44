/- planner's reach from the first step on. Conditions: a right plan. -/
import Derived.Test.YtoiakijmbghhlaaGreatS10
set_option linter.unusedVariables false
set_option linter.unusedSimpArgs false
set_option maxRecDepth 100000
set_option maxHeartbeats 32000000
namespace Go.Proofs.YtoiakijmbghhlaaGreat
open Go.RowKit
def RchK (p:PlD) (iv v:Int) (kk:Nat) (x:Int):Prop:=∃ k,k<kk/\∃ c,Pn.stepP (plOf p) v iv k=some (x,c)
def RchS (p:PlD) (iv:Int) (vs:List Int) (x:Int):Prop:=∃ v∈vs,RchK p iv v p.L.xs.length x
theorem RchK_zero (p:PlD) (iv v x:Int):¬ RchK p iv v 0 x:=by rintro ⟨k,hk,_⟩;omega
theorem RchK_none {p:PlD} {iv v:Int} {k:Nat} (h:Pn.stepP (plOf p) v iv k=none) (x:Int):RchK p iv v k x↔RchK p iv v (k+1) x:=by
 constructor
 ·rintro ⟨j,hj,c,e⟩;exact ⟨j,by omega,c,e⟩
 ·rintro ⟨j,hj,c,e⟩
  refine ⟨j,?_,c,e⟩
  by_cases hjk:j=k
  ·subst hjk;rw [h] at e;cases e
  ·omega
theorem RchK_some {p:PlD} {iv v w0 c0:Int} {k:Nat} (h:Pn.stepP (plOf p) v iv k=some (w0,c0)) (x:Int):(RchK p iv v k x\/x=w0)↔RchK p iv v (k+1) x:=by
 constructor
 ·rintro (⟨j,hj,c,e⟩|rfl)
  ·exact ⟨j,by omega,c,e⟩
  ·exact ⟨k,by omega,c0,h⟩
 ·rintro ⟨j,hj,c,e⟩
  by_cases hjk:j=k
  ·subst hjk;rw [h] at e;right;cases e;rfl
  ·left;exact ⟨j,by omega,c,e⟩
theorem RchS_nil (p:PlD) (iv x:Int):¬ RchS p iv [] x:=by rintro ⟨v,hv,_⟩;cases hv
theorem RchS_snoc {p:PlD} {iv:Int} {vs:List Int} {v x:Int}:(RchS p iv vs x\/RchK p iv v p.L.xs.length x)↔RchS p iv (vs ++ [v]) x:=by
 constructor
 ·rintro (⟨u,hu,h⟩|h)
  ·exact ⟨u,List.mem_append_left _ hu,h⟩
  ·exact ⟨v,List.mem_append_right _ (by simp),h⟩
 ·rintro ⟨u,hu,h⟩
  rcases List.mem_append.1 hu with hu|hu
  ·exact .inl ⟨u,hu,h⟩
  ·rw [List.mem_singleton] at hu;subst hu;exact .inr h
structure ChainI (p:PlD) (R:List (List Int)):Prop where
 ne:0<R.length
 first:R.getD 0 [] = [p.St]
 next:∀ j,j+1<R.length->(R.getD (j+1) []).Pairwise (· < ·)/\∀ x,x∈R.getD (j+1) []↔RchS p (p.I.xs.getD j 0) (R.getD j []) x
 short:∀ r∈R,r.length<=4000
 bd:∀ r∈R,∀ v∈r,p.Rs<=v/\v<=p.Cp
theorem RchS_bd {p:PlD} (hp:PlOk p) {iv:Int} {vs:List Int} {x:Int} (h:RchS p iv vs x):p.Rs<=x/\x<=p.Cp:=by
 obtain ⟨v,_,k,_,c,e⟩:=h
 exact Pn.step_bd hp.pn.rc e
theorem ChainI.start {p:PlD} (hp:PlOk p):ChainI p [[p.St]]:=
 ⟨by simp,rfl,fun j hj=>by simp at hj,fun r hr=>by rw [List.mem_singleton] at hr;subst hr;simp,fun r hr v hv=>by
  rw [List.mem_singleton] at hr;subst hr
  rw [List.mem_singleton] at hv;subst hv
  exact hp.st⟩
theorem getD_app_l {α:Type} {R:List α} {r d:α} {j:Nat} (h:j<R.length):(R ++ [r]).getD j d=R.getD j d:=by
 simp [List.getD,List.getElem?_append_left h]
theorem getD_app_e {α:Type} {R:List α} {r d:α}:(R ++ [r]).getD R.length d=r:=by
 simp [List.getD]
theorem ChainI.push {p:PlD} (hp:PlOk p) {R:List (List Int)} (h:ChainI p R) {r:List Int} {i:Nat} (hi:R.length=i+1) (h1:r.Pairwise (· < ·)) (h2:∀ x,x∈r↔RchS p (p.I.xs.getD i 0) (R.getD i []) x) (h3:r.length<=4000):ChainI p (R ++ [r]):=by
 refine ⟨by simp,?_,?_,?_,?_⟩
 ·rw [getD_app_l h.ne];exact h.first
 ·intro j hj
  rw [List.length_append,List.length_singleton] at hj
  by_cases hjl:j+1<R.length
  ·rw [getD_app_l hjl,getD_app_l om]
   exact h.next j hjl
  ·have hji:j=i:=by omega
   subst hji
   rw [<-hi,getD_app_e,getD_app_l om]
   exact ⟨h1,h2⟩
 ·intro q hq
  rcases List.mem_append.1 hq with hq|hq
  ·exact h.short q hq
  ·rw [List.mem_singleton] at hq;subst hq;exact h3
 ·intro q hq v hv
  rcases List.mem_append.1 hq with hq|hq
  ·exact h.bd q hq v hv
  ·rw [List.mem_singleton] at hq;subst hq
   exact RchS_bd hp ((h2 v).1 hv)
def Fits (p:PlD):Prop:=∃ R,ChainI p R/\R.length=p.I.xs.length+1
theorem RchS_iff {p:PlD} {iv:Int} {a b:List Int} (h:∀ x,x∈a↔x∈b) (x:Int):RchS p iv a x↔RchS p iv b x:=by
 constructor
 ·rintro ⟨v,hv,r⟩;exact ⟨v,(h v).1 hv,r⟩
 ·rintro ⟨v,hv,r⟩;exact ⟨v,(h v).2 hv,r⟩
theorem ChainI.same {p:PlD} {R R':List (List Int)} (h:ChainI p R) (h':ChainI p R'):∀ j,j<R.length->j<R'.length->∀ x,x∈R.getD j []↔x∈R'.getD j []
 | 0,_,_=>fun x=>by rw [h.first,h'.first]
 | j+1,h1,h2=>fun x=>by
  rw [(h.next j h1).2 x,(h'.next j h2).2 x]
  exact RchS_iff (ChainI.same h h' j om om) x
theorem nodup_le:∀ {a b:List Int},a.Nodup->(∀ x∈a,x∈b)->a.length<=b.length
 | [],_,_,_=>Nat.zero_le _
 | x :: a,b,hn,hs=>by
  have hx:=hs x (by simp)
  have hn':=List.nodup_cons.1 hn
  have h1:=nodup_le (a:=a) (b:=b.erase x) hn'.2 (fun y hy=>(List.mem_erase_of_ne (fun e=>hn'.1 (by rw [<-e];exact hy))).2 (hs y (List.mem_cons_of_mem _ hy)))
  rw [List.length_erase_of_mem hx] at h1
  have:=List.length_pos_of_mem hx
  simp;omega
theorem not_fits {p:PlD} {R:List (List Int)} {i:Nat} (h:ChainI p R) (hl:R.length=i+1) (hi:i<p.I.xs.length) {xs:List Int} (hn:xs.Nodup) (hb:4000<xs.length) (hx:∀ x∈xs,RchS p (p.I.xs.getD i 0) (R.getD i []) x):¬ Fits p:=by
 rintro ⟨R',h',hl'⟩
 have h1:i+1<R'.length:=by omega
 have hm:R'.getD (i+1) []∈R':=by simp [List.getD,List.getElem?_eq_getElem h1]
 have h2:=h'.short _ hm
 have h3:=nodup_le hn (fun x hx'=>((h'.next i h1).2 x).2 ((RchS_iff (h.same h' i om om) x).1 (hx x hx')))
 omega
theorem undRws:Tryz.prog.underlying 70=some (.slice 28):=by kernel_rfl
theorem infRw:(Tryz.prog.info? 28).map (fun i=>(i.zero,i.size,i.bytes))=some (some (.slice none 0 0),1,24):=by kernel_rfl
theorem preach_any (p:PlD) (g:Nat) (w:World) (ht:IsTank w g p) (hp:PlOk p) :
  Calls Tryz.prog 70 #[.pointer (some ⟨g,0,none⟩),.int .i64 0,.int .i64 p.St] w fun e w'=>
   ((∃ u us R,e=.returned (.tuple #[u,.bool true])/\OwnR w.heap.size 28 3 eInt 1 w' u us R/\ChainI p R/\R.length=p.I.xs.length+1)\/(e=.returned (.tuple #[.slice none 0 0,.bool false])/\¬ Fits p))/\Below w.heap.size w w':=by
 have hmm:=@run_makeMap Tryz.prog
 obtain ⟨n,hn⟩:∃ n,n=p.I.xs.length:=⟨_,rfl⟩
 obtain ⟨ls,hls⟩:∃ x,x=p.L.xs.length:=⟨_,rfl⟩
 have HN:=qh hn
 have HLS:=qh hls
 have HT:=qh ht
 have c3:=ht.c3
 have c4:=ht.c4
 rw [<-hn] at c3
 rw [<-hls] at c4
 have hn2:n<=200:=by rw [hn];exact hp.il
 have hl2:ls<=20:=by rw [hls];exact hp.ll.2
 clear hn hls ht
 have hbA:Below w.heap.size w ((w.alloc (.cells #[.int .i64 p.St] 3)).alloc (.cells #[.slice (some ⟨w.heap.size,0,none⟩) 1 1] 28)):=(qr.alloc (Nat.le_refl _) _).alloc (by simp) _
 have hO1:OwnR w.heap.size 28 3 eInt 1 ((w.alloc (.cells #[.int .i64 p.St] 3)).alloc (.cells #[.slice (some ⟨w.heap.size,0,none⟩) 1 1] 28)) (.slice (some ⟨w.heap.size+1,0,none⟩) 1 1) [.slice (some ⟨w.heap.size,0,none⟩) 1 1] [[p.St]]:=by
  have h1:=Own.fresh (enc:=eInt) (k:=1) (fun _=>rfl) w w.heap.size (Nat.le_refl _) 3 p.St _ rfl
  have h2:=Own.fresh (enc:=eV) (k:=1) (fun _=>rfl) (w.alloc (.cells #[.int .i64 p.St] 3)) w.heap.size (by simp) 28 (.slice (some ⟨w.heap.size,0,none⟩) 1 1) _ rfl
  rw [show (w.alloc (.cells #[.int .i64 p.St] 3)).heap.size=w.heap.size+1 from by simp] at h2
  refine ⟨h2,rfl,?_,?_,?_⟩
  ·intro i hi hi'
   have:i=0:=by simp at hi;omega
   subst this
   exact h1.below (qr.alloc (Nat.le_refl _) _)
  ·intro i j hi hj hij
   simp at hi hj;omega
  ·intro i hi g' hg'
   have:i=0:=by simp at hi;omega
   subst this
   simp [Value.ownBlock] at hg' ⊢
   omega
 have HO1:=qh hO1
 clear hO1
 go_enter Tryz.func70,Tryz.ntmps70
 go_wp2_with fail
 go_loopw [8,9] (fun s8 s9 wr=>∃ (i:Nat) (us:List Value) (R:List (List Int)),i<=n/\s9=.int .i64 i/\Below w.heap.size w wr/\OwnR w.heap.size 28 3 eInt 1 wr s8 us R/\Hid (ChainI p R)/\Hid (R.length=i+1)) (fun _ s9 _=>n-(RowKit.intOf s9).toNat)
 case atStart=>exact ⟨0,_,_,Nat.zero_le _,rfl,hbA,HO1.out,qh (ChainI.start hp),qh rfl⟩
 case round=>
  obtain ⟨i,us,R,hi,rfl,hb,HC,HCh,HRl⟩:=hrel
  have hus:us.length=i+1:=HC.len.trans HRl.out
  obtain ⟨oa,oc,hoe⟩:=HC.out.isSlice
  obtain ⟨m,hm⟩:∃ m,m=us.length:=⟨_,rfl⟩
  rw [<-hm] at hoe hus
  subst hoe
  have HMU:=qh hm
  have hmi:(m:Int)=i+1:=by omega
  have HMI:=qh hus
  clear hm
  obtain ⟨wo,hwo⟩:∃ wo,wo=wr:=⟨_,rfl⟩
  subst hwo
  have c3o:=cel_lt c3 hb
  have c4o:=cel_lt c4 hb
  have HTo:=qh (HT.out.mono hb)
  by_cases hin:i<n
  ·have hiN:i<p.I.xs.length:=by rw [<-HN.out];exact hin
   obtain ⟨iv,hiv⟩:∃ iv,iv=p.I.xs[i]:=⟨_,rfl⟩
   have HIV:=qh hiv
   have hui:i<us.length:=by have:=HMU.out;omega
   have hri:i<R.length:=by have:=HRl.out;omega
   obtain ⟨rg,rc,hv,_⟩:=HC.out.place (by have:=HMU.out;omega)
   simp only [Value.slice.injEq] at hv
   obtain ⟨rfl,-,-⟩:=hv
   have hcl:=HC.cellv i hui
   have hrow:=HC.row i hui hri
   obtain ⟨la,lc,hle⟩:=hrow.isSlice
   have hbd:=HCh.out.bd _ (List.getElem_mem hri)
   have hsh:=HCh.out.short _ (List.getElem_mem hri)
   have hgd:R.getD i []=R[i]:=by simp [List.getD,List.getElem?_eq_getElem hri]
   obtain ⟨row,hrw⟩:∃ row,row=R[i]:=⟨_,rfl⟩
   rw [<-hrw] at hrow hle hbd hsh hgd
   have hrI:IsC eInt 1 wo la row:=by
    obtain ⟨a,c,hv,_,_,h⟩:=hrow.isL (fun _=>rfl)
    rw [hle] at hv
    simp only [Value.slice.injEq] at hv
    obtain ⟨rfl,_,_⟩:=hv
    exact h
   rw [hle] at hcl
   have HRI:=qh hrI
   have HBD:=qh hbd
   have HGD:=qh hgd
   have HCO:=qh HC
   have hbM:Below wo.heap.size wo (wo.alloc (.map #[] 0)):=qr.alloc (Nat.le_refl _) _
   have hcl1:(wo.alloc (.map #[] 0)).cell? ⟨rg,i,none⟩=some (.slice la row.length lc):=cel_lt hcl hbM
   have x8:IntKind.i64.wrap ((i:Int)+1)=i+1:=IntWalk.i64_in _ om
   have x9:IntKind.i64.wrap ((m:Int)-1)=i:=by rw [IntWalk.i64_in _ om];omega
   have i1:decide (i<n)=true:=decide_eq_true hin
   have i2:(0:Int)<=i:=by omega
   have i3:(i:Int)<m:=by omega
   have HS0:Hid (SetI (wo.alloc (.map #[] 0)) wo.heap.size 0 (RchS p iv (row.take 0))):=qh ((SetI.made wo).iff (fun x=>⟨fun h=>h.elim,fun h=>RchS_nil p iv x (by simpa using h)⟩))
   clear hiv hrow hle hbd hgd hrw HC hcl hrI hus hmi hui hri
   go_wp2_with fail
   clear hcl1 x9 i2 i3 i1
   go_loopw [39] (fun s39 wx=>∃ j:Nat,j<=row.length/\s39=.int .i64 j/\Below wo.heap.size wo wx/\Hid (SetI wx wo.heap.size (j*20) (RchS p iv (row.take j)))) (fun s39 _=>row.length-(RowKit.intOf s39).toNat)
   case atStart=>exact ⟨0,Nat.zero_le _,rfl,hbM,by simpa using HS0⟩
   case round=>
    obtain ⟨j,hj,rfl,hbx,hS⟩:=hrel
    obtain ⟨wx,hwx⟩:∃ wx,wx=wr:=⟨_,rfl⟩
    subst hwx
    have hbxw:=hb.trans (hbx.mono hb.size)
    by_cases hjl:j<row.length
    ·obtain ⟨rb,ro,rfl,dv⟩:=(HRI.out.mono hbx).int j hjl
     have hvb:=HBD.out _ (List.getElem_mem hjl)
     have hst:row.take (j+1)=row.take j ++ [row[j]]:=List.take_succ_eq_append_getElem hjl
     obtain ⟨v,hvv⟩:∃ v,v=row[j]:=⟨_,rfl⟩
     rw [<-hvv] at dv hvb hst
     have HST:=qh hst
     clear hvv hst
     have c4x:=cel_lt c4o hbx
     have i1:decide (j<row.length)=true:=decide_eq_true hjl
     have x7:IntKind.i64.wrap ((j:Int)+1)=j+1:=IntWalk.i64_in _ om
     go_wp2_with fail
     clear dv c4x i1
     go_loopw [49] (fun s49 wy=>∃ k:Nat,k<=ls/\s49=.int .i64 k/\Below wo.heap.size wo wy/\Hid (SetI wy wo.heap.size (j*20+k) (fun x=>RchS p iv (row.take j) x\/RchK p iv v k x))) (fun s49 _=>ls-(RowKit.intOf s49).toNat)
     case atStart=>exact ⟨0,Nat.zero_le _,rfl,hbx,qh (hS.out.iff (fun x=>⟨.inl,fun h=>h.elim id (fun h=>(RchK_zero p iv v x h).elim)⟩))⟩
     case round=>
      obtain ⟨k,hk,rfl,hby,hSy⟩:=hrel
      by_cases hkl:k<ls
      ·have hstep:=pstep_any p g v i k wr (HTo.out.mono hby) hp hvb hiN (by rw [<-HLS.out];exact hkl)
       rw [<-HIV.out] at hstep
       have i1:decide (k<ls)=true:=decide_eq_true hkl
       have x6:IntKind.i64.wrap ((k:Int)+1)=k+1:=IntWalk.i64_in _ om
       cases hs:Pn.stepP (plOf p) v iv k with
       | none=>
        rw [hs] at hstep
        simp only [stV] at hstep
        have HSS:=qh hs
        clear hs
        go_wp2_with fail
        refine Calls.to hstep ?_
        rintro e w1 rfl hb1
        have hby1:=hby.trans (hb1.mono hby.size)
        have hS1:=hSy.out.below hb1
        clear hstep hb1
        go_wp2_with fail
        go_roundw
        case measure=>simp [RowKit.intOf,x6];omega
        case rel=>exact ⟨k+1,by omega,by go_num,hby1,qh (by
         obtain ⟨D,h1,h2⟩:=hS1
         exact ⟨D,h1.mono om,fun x=>(h2 x).trans (or_congr Iff.rfl (RchK_none HSS.out x))⟩)⟩
       | some z=>
        obtain ⟨w0,c0⟩:=z
        have hw0:=Pn.step_bd hp.pn.rc hs
        have hwb:0<=w0/\w0<=1099511627776:=by
         have h1:p.Rs<=w0:=hw0.1
         have h2:w0<=p.Cp:=hw0.2
         have h3:=hp.cp
         have h4:=hp.rs
         omega
        have hkey:=keyI (k:=w0) (wfI om)
        rw [hs] at hstep
        simp only [stV] at hstep
        have HSS:=qh hs
        clear hs hw0
        go_wp2_with fail
        refine Calls.to hstep ?_
        rintro e w1 rfl hb1
        have hby1:=hby.trans (hb1.mono hby.size)
        obtain ⟨D,hD,hDs⟩:=hSy.out.below hb1
        have hjb:j<=4000:=by omega
        have hnm:j*20+k<maxLen:=by simp only [maxLen];omega
        clear hstep hb1 hby
        go_wp2_with (at_mapUpdate;refine wpList_mapUpdate_own _ rfl _ _ _ 223 rfl 3 4 kInt undMIB elB wo.heap.size (j*20+k) D rfl hD hnm _ _ _ rfl rfl hkey (.lit (.bool true)) [] (plainElem_bool undB true) ?_;intro w5 hown5 hgrow5)
        have hb5:=hby1.grown hgrow5 hby1.size (fun q hq=>by cases hq;exact Nat.le_refl _)
        have hS5:=SetI.put hD.isMap hDs hown5
        clear hown5 hgrow5 hD hDs hkey
        go_wp2_with fail
        go_roundw
        case measure=>simp [RowKit.intOf,x6];omega
        case rel=>exact ⟨k+1,by omega,by go_num,hb5,qh (by
         have e:j*20+(k+1)=j*20+k+1:=by omega
         rw [e]
         exact hS5.iff (fun x=>or_assoc.trans (or_congr Iff.rfl (RchK_some HSS.out x))))⟩
      ·have i1:decide (k<ls)=false:=decide_eq_false hkl
       have hkk:k=ls:=by omega
       have hSE:Hid (SetI wr wo.heap.size ((j+1)*20) (RchS p iv (row.take (j+1)))):=qh (by
        rw [HST.out]
        obtain ⟨D,h1,h2⟩:=hSy.out
        exact ⟨D,h1.mono om,fun x=>(h2 x).trans (by rw [hkk,HLS.out];exact RchS_snoc)⟩)
       have HKK:=qh hkk
       clear hkk
       go_wp2_with fail
       go_roundw
       case measure=>simp [RowKit.intOf,x7];omega
       case rel=>exact ⟨j+1,by omega,by go_num,hby,hSE⟩
    ·have i1:decide (j<row.length)=false:=decide_eq_false hjl
     have hjj:row.take j=row:=List.take_of_length_le om
     obtain ⟨D,hD,hDs⟩:=hS.out
     rw [hjj] at hDs
     have HDS:=qh hDs
     have hjb:j*20<=1000000:=by omega
     clear hjj hDs hS
     obtain ⟨NN,hNN⟩:∃ NN,NN=j*20:=⟨_,rfl⟩
     rw [<-hNN] at hD hjb
     clear hNN
     by_cases hbig:4000<Maps.size D
     ·have q1:decide (4000<Maps.size D)=true:=decide_eq_true hbig
      have q2:decide ((4000:Int)<(Maps.size D:Int))=true:=decide_eq_true om
      have HNF:Hid (¬ Fits p):=qh (by
       obtain ⟨k1,k2,k3⟩:=own_keys hD
       refine not_fits HCh.out HRl.out hiN k1 (by rw [k3];exact hbig) (fun x hx=>?_)
       have:=(HDS.out x).1 ((k2 x).1 hx)
       rw [HGD.out,show p.I.xs.getD i 0=iv from by rw [HIV.out];simp [List.getD,List.getElem?_eq_getElem hiN]]
       exact this)
      go_wp2_with (at_len;refine wpList_len_own _ rfl _ 223 rfl 3 4 undMIB elB wo.heap.size NN D rfl hD ?_)
      go_ret2
      exact ⟨.inr ⟨rfl,HNF.out⟩,hbxw⟩
     ·have q1:decide (4000<Maps.size D)=false:=decide_eq_false hbig
      have q2:decide ((4000:Int)<(Maps.size D:Int))=false:=decide_eq_false om
      have HBG:=qh hbig
      clear hbig
      go_wp2_with (at_len;refine wpList_len_own _ rfl _ 223 rfl 3 4 undMIB elB wo.heap.size NN D rfl hD ?_)
      clear q1 q2 i1
      refine (keysM _ _).mono ?_
      rintro e w1 ⟨rfl,rfl⟩
      have hbK:Below wx.heap.size wx (wx.alloc (.cells #[.map (some wo.heap.size)] 223)):=qr.alloc (Nat.le_refl _) _
      have hkc:(wx.alloc (.cells #[.map (some wo.heap.size)] 223)).cell? ⟨wx.heap.size,0,none⟩=some (.map (some wo.heap.size)):=by simp [go_sem]
      have hso:=sorted_own wx.heap.size wo.heap.size NN D _ hkc (hD.alloc _) hjb
      have hsz1:=hbK.size
      go_wp2_with fail
      refine Calls.to hso ?_
      rintro e w2 ⟨v,xs,rfl,hO,hasc,hmem,hlen⟩ hb2
      have hbo2:Below wo.heap.size wo w2:=hbx.trans ((hbK.trans (hb2.mono hsz1)).mono hbx.size)
      have hbw2:=hb.trans (hbo2.mono hb.size)
      have HC2:=HCO.out.below hbo2
      have hO2:=hO.base (base':=w.heap.size) (by have:=hb.size;have:=hbx.size;omega)
      have hfar:∀ g,v.ownBlock=some g->(Value.slice (some ⟨rg,0,none⟩) m oc).ownBlock≠some g/\∀ (q:Nat) (hq:q<us.length),us[q].ownBlock≠some g:=fun g hg=>by
       have h1:=(hO.lt g hg).1
       have h2:=hbx.size
       refine ⟨fun e=>?_,fun q hq e=>?_⟩
       ·have:=(HCO.out.out.lt g e).2;omega
       ·have:=((HCO.out.row q hq (by rw [<-HCO.out.len];exact hq)).lt g e).2;omega
      obtain ⟨va,vc,rfl⟩:=hO.isSlice
      have hchain:ChainI p (R ++ [xs]):=HCh.out.push hp HRl.out hasc (fun x=>by
       rw [hmem,HDS.out x,HGD.out,HIV.out]
       simp [List.getD,List.getElem?_eq_getElem hiN]) (by have:=HBG.out;omega)
      have HCHN:=qh hchain
      obtain ⟨xl,hxl⟩:∃ xl,xl=xs.length:=⟨_,rfl⟩
      rw [<-hxl] at hO2 hfar hO ⊢
      have hone:∀ u∈eV (Value.slice va xl vc),u.oneCell'=true:=by
       intro u hu;rw [List.mem_singleton] at hu;subst hu;rfl
      have hul:us.length<2147483648:=by have:=HMU.out;have:=HMI.out;omega
      have hs2:w.heap.size<=w2.heap.size:=hbw2.size
      have HO2:=qh hO2
      have HC3:=HC2.out
      have HC2:=qh HC2
      have HFAR:=qh hfar
      clear hchain hxl hO hO2 hfar hmem hasc hlen hb2 hso hkc hbK hD hsz1
      go_wp2_with (at_builtin;go_must (refine wpList_pushR rfl _ _ 70 rfl 28 _ 1 24 undRws infRw rfl (by decide) (.slice va xl vc) (fun _=>rfl) hone _ us rfl HC3 w2.heap.size rfl rfl hul (by decide) hs2 _ rfl ?_);intro g7 cap7 w7 hR7)
      have HC7:=HC2.out.push HO2.out HFAR.out hR7
      have hb7:=hbw2.trans (hR7.below HC3 hs2)
      clear HC3 hR7
      go_wp2_with fail
      go_roundw
      case measure=>simp [RowKit.intOf,x8];omega
      case rel=>exact ⟨i+1,_,_,by omega,by go_num,hb7,HC7,HCHN,qh (by rw [List.length_append,HRl.out];rfl)⟩
  ·have i1:decide (i<n)=false:=decide_eq_false hin
   have hni:R.length=p.I.xs.length+1:=by have:=HRl.out;have:=HN.out;omega
   have HNI:=qh hni
   clear hni
   go_wp2_with fail
   go_ret2
   exact ⟨.inl ⟨_,us,R,rfl,HC,HCh.out,HNI.out⟩,hb⟩
end Go.Proofs.YtoiakijmbghhlaaGreat
