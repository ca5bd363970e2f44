/- A tank in memory: planner.tankOf and step. Conditions: the plan reads as data. | Plans of releases, in plain words: the least cost of a way to the end, certificates, a looser bound. No program is named. Conditions: none. -/
import Derived.Test.YtoiakijmbghhlaaGreatS03
import Derived.Test.YtoiakijmbghhlaaGreatS04
import Derived.Test.YtoiakijmbghhlaaGreatS08
import Derived.WalkKit
set_option linter.unusedVariables false
set_option linter.unusedSimpArgs false
set_option maxRecDepth 100000
set_option maxHeartbeats 32000000
namespace Go.Proofs.YtoiakijmbghhlaaGreat
open Go.RowKit
def prices (p:PlD):List Int:=p.L.xs.map (tabV p.T.xs)
theorem prices_len (p:PlD):(prices p).length=p.L.xs.length:=by simp [prices]
structure IsTank (w:World) (g:Nat) (p:PlD):Prop where
 c0:w.cell? ⟨g,0,none⟩=some (.int .i64 p.St)
 c1:w.cell? ⟨g,1,none⟩=some (.int .i64 p.Cp)
 c2:w.cell? ⟨g,2,none⟩=some (.int .i64 p.Rs)
 c3:w.cell? ⟨g,3,none⟩=some (.slice p.I.a p.I.xs.length p.I.cap)
 c4:w.cell? ⟨g,4,none⟩=some (.slice p.L.a p.L.xs.length p.L.cap)
 c5:w.cell? ⟨g,5,none⟩=some (.slice p.T.a p.T.xs.length p.T.cap)
 c6:w.cell? ⟨g,6,none⟩=some (.int .i64 p.W)
 pr:∃ pa pc,w.cell? ⟨g,7,none⟩=some (.slice pa p.L.xs.length pc)/\IsC eInt 1 w pa (prices p)/\p.L.xs.length<=pc/\pc<=9223372036854775807
 li:IsC eInt 1 w p.I.a p.I.xs
 ll:IsC eInt 1 w p.L.a p.L.xs
theorem IsTank.mono {w w':World} {g:Nat} {p:PlD} (h:IsTank w g p) (hb:Below w.heap.size w w'):IsTank w' g p:=by
 obtain ⟨pa,pc,h7,hp,hq⟩:=h.pr
 exact ⟨cel_lt h.c0 hb,cel_lt h.c1 hb,cel_lt h.c2 hb,cel_lt h.c3 hb,cel_lt h.c4 hb,cel_lt h.c5 hb,cel_lt h.c6 hb,⟨pa,pc,cel_lt h7 hb,hp.mono hb,hq⟩,h.li.mono hb,h.ll.mono hb⟩
abbrev tkC (p:PlD) (u:Value):Array Value:=#[.int .i64 p.St,.int .i64 p.Cp,.int .i64 p.Rs,.slice p.I.a p.I.xs.length p.I.cap,.slice p.L.a p.L.xs.length p.L.cap,.slice p.T.a p.T.xs.length p.T.cap,.int .i64 p.W,u]
theorem tank_blk {w:World} {g:Nat} {L:Array Value} {T:TypeId} (hg:w.heap[g]? = some (.cells L T (0,0))) (j:Nat):w.cell? ⟨g,j,none⟩=L[j]?:=by
 simp [World.cell?,hg]
theorem tank_free {w:World} {g:Nat} {L:Array Value} {T:TypeId} (hg:w.heap[g]? = some (.cells L T (0,0))) (j:Nat):w.frozen? ⟨g,j,none⟩=false:=by
 simp [World.frozen?,hg]
theorem tankOf_bad (p:PlD) (w:World) (hg:gPl w p) (hP:planB p=false):Calls Tryz.prog 69 #[vPl p] w fun e w'=>e=.returned (.tuple #[.pointer none,.bool false])/\Below w.heap.size w w':=by
 have hb0:Below w.heap.size w (w.alloc (.cells (ePl p).toArray 68)):=qr.alloc (Nat.le_refl _) _
 have hv:=pvalid_any p _ (rdPl.mono hg hb0)
 rw [hP] at hv
 go_enter Tryz.func69,Tryz.ntmps69
 go_wp2_with fail
 refine Calls.to hv ?_
 rintro e w1 rfl hb1
 go_wp2_with fail
 go_ret2
 exact ⟨rfl,hb0.trans (hb1.mono hb0.size)⟩
theorem tankOf_ok (p:PlD) (w:World) (hg:gPl w p) (hP:planB p=true) (hT:tabB p.T.xs=true) (hL:p.L.xs.length<=20):Calls Tryz.prog 69 #[vPl p] w fun e w'=>(∃ g,e=.returned (.tuple #[.pointer (some ⟨g,0,none⟩),.bool true])/\IsTank w' g p)/\Below w.heap.size w w':=by
 have hb0:Below w.heap.size w (w.alloc (.cells (ePl p).toArray 68)):=qr.alloc (Nat.le_refl _) _
 have hv:=pvalid_any p _ (rdPl.mono hg hb0)
 rw [hP] at hv
 have hI:=qh hg.i.2.2.1
 have hLs:=qh hg.l.2.2.1
 have hTl:=qh hg.t.isL
 have HLL:=qh hL
 clear hL hg
 go_enter Tryz.func69,Tryz.ntmps69
 go_wp2_with fail
 refine Calls.to hv ?_
 rintro e w1 rfl hb1
 have hbw:=hb0.trans (hb1.mono hb0.size)
 obtain ⟨c0,c1,c2,c3,c4,c5,c6⟩:=boxPl w w1 68 p _ rfl _ rfl (hb1.mono (by simp))
 clear hb1 hb0 hv hP
 go_wp2_with fail
 go_loopw [18] (fun s18 wr=>∃ (k:Nat) (pa:Option Addr) (pc:Nat),k<=p.L.xs.length/\s18=.int .i64 k/\Below w1.heap.size w1 wr/\wr.heap[w1.heap.size]? = some (.cells (tkC p (.slice pa k pc)) 158 (0,0))/\Own (w1.heap.size+1) 3 eInt 1 wr (.slice pa k pc) ((prices p).take k)) (fun s18 _=>p.L.xs.length-(intOf s18).toNat)
 case atStart=>exact ⟨0,none,0,Nat.zero_le _,rfl,qr.alloc (Nat.le_refl _) _,heap_alloc_new w1 _,by rw [List.take_zero];exact World.ownsRow_nil _ _ _ _⟩
 case round=>
  obtain ⟨k,pa,pc,hk,rfl,hb,hB,hown⟩:=hrel
  have hbr:=hbw.trans (hb.mono hbw.size)
  have hsz:=hb.size
  have hGl:w1.heap.size<wr.heap.size:=(Array.getElem?_eq_some_iff.1 hB).1
  by_cases hkl:k<p.L.xs.length
  ·have c5:=cel_lt c5 hb
   obtain ⟨b,off,ea,d0⟩:=(hLs.out.mono hbr).int k hkl
   have i1:decide (k<p.L.xs.length)=true:=decide_eq_true hkl
   have x8:IntKind.i64.wrap ((k:Int)+1)=k+1:=IntWalk.i64_in _ (by have:=HLL.out;omega)
   have hfl:=tfloor_any p.T.xs p.L.xs[k] _ wr (hTl.out.mono hbr) hT
   have hst:(prices p).take (k+1)=(prices p).take k ++ [tabV p.T.xs p.L.xs[k]]:=by
    rw [List.take_succ_eq_append_getElem (by rw [prices_len];exact hkl)];simp [prices]
   have HST:=qh hst
   have hyl:((prices p).take k).length=k:=by rw [List.length_take,prices_len];omega
   have HYL:=qh hyl
   clear hst hyl
   obtain ⟨x,hx⟩:∃ x,x=p.L.xs[k]:=⟨_,rfl⟩
   rw [<-hx] at d0 hfl HST
   clear hx
   obtain ⟨pv,hpv⟩:∃ pv,pv=tabV p.T.xs x:=⟨_,rfl⟩
   rw [<-hpv] at hfl HST
   clear hpv
   obtain ⟨ys,hys⟩:∃ ys,ys=(prices p).take k:=⟨_,rfl⟩
   rw [<-hys] at hown HST HYL
   clear hys
   go_wp2_with fail
   refine Calls.to hfl ?_
   rintro e w3 rfl hb3
   have hB3:=(hb3.block w1.heap.size hGl).trans hB
   have hown3:=hown.below hb3
   have hb3':=hb.trans (hb3.mono om)
   have hG3:w1.heap.size<w3.heap.size:=by have:=hb3.size;omega
   have d7:w3.cell? ⟨w1.heap.size,7,none⟩=some (.slice pa k pc):=(tank_blk hB3 7).trans rfl
   have f7:w3.frozen? ⟨w1.heap.size,7,none⟩=false:=tank_free hB3 7
   have h1c:∀ u∈eInt pv,u.oneCell'=true:=by simp [Value.oneCell']
   have hyl2:ys.length<2147483648:=by have:=HYL.out;have:=HLL.out;omega
   have hs3:w1.heap.size+1<=w3.heap.size:=hG3
   have hne:(Value.slice pa k pc).ownBlock≠some w1.heap.size:=fun h=>by have:=(hown3.lt _ h).1;omega
   clear hb hB hown hbr hGl hsz hfl hb3 ea d0 c5 i1
   go_wp2_with (at_builtin;go_must (refine wpList_pushR rfl _ _ 28 rfl 3 _ 1 8 undInts infInt rfl (by decide) pv (fun _=>rfl) h1c _ ys rfl hown3 w3.heap.size rfl rfl hyl2 (by decide) hs3 _ rfl ?_);intro g5 k5 w5 hR5;have hB5:w5.heap[w1.heap.size]? = some (.cells (tkC p (.slice pa k pc)) 158 (0,0)):=(hR5.grown.block _ hG3 (fun e=>hne e.symm)).trans hB3;have d75:w5.cell? ⟨w1.heap.size,7,none⟩=some (.slice pa k pc):=(tank_blk hB5 7).trans rfl;have f75:w5.frozen? ⟨w1.heap.size,7,none⟩=false:=tank_free hB5 7)
   have hb5:=(hb3'.trans ((hR5.below hown3 hs3).mono om)).setCell (p:=⟨w1.heap.size,7,none⟩) (Nat.le_refl _) (.slice (some ⟨g5,0,none⟩) (ys.length+1) k5)
   have hB6:(w5.setCell ⟨w1.heap.size,7,none⟩ (.slice (some ⟨g5,0,none⟩) (ys.length+1) k5)).heap[w1.heap.size]? = some (.cells (tkC p (.slice (some ⟨g5,0,none⟩) (ys.length+1) k5)) 158 (0,0)):=heap_setCell_same w5 _ 7 _ _ _ hB5
   have hown5:=hR5.own.set' ⟨w1.heap.size,7,none⟩ (.slice (some ⟨g5,0,none⟩) (ys.length+1) k5) (fun h=>Nat.not_succ_le_self _ (hR5.own.lt _ h).1)
   clear hR5 hB5 d75 f75 hB3 d7 f7 hown3
   go_roundw
   case measure=>simp [intOf];omega
   case rel=>
    rw [HYL.out] at hb5 hB6 hown5 ⊢
    exact ⟨k+1,_,_,by omega,by go_num,hb5,hB6,by rw [HST.out];exact hown5⟩
  ·have i1:decide (k<p.L.xs.length)=false:=decide_eq_false hkl
   have hkk:k=p.L.xs.length:=by omega
   have hpl:(prices p).take k=prices p:=List.take_of_length_le (by rw [prices_len];omega)
   rw [hpl] at hown
   have hC:IsC eInt 1 wr pa (prices p)/\p.L.xs.length<=pc/\pc<=9223372036854775807:=by
    obtain ⟨a,c,hv,h1,h2,h⟩:=hown.isL (fun _=>rfl)
    simp only [Value.slice.injEq] at hv
    obtain ⟨rfl,-,rfl⟩:=hv
    rw [prices_len] at h1
    exact ⟨h,h1,h2⟩
   have hT:IsTank wr w1.heap.size p:=⟨(tank_blk hB 0).trans rfl,(tank_blk hB 1).trans rfl,(tank_blk hB 2).trans rfl,(tank_blk hB 3).trans rfl,(tank_blk hB 4).trans rfl,(tank_blk hB 5).trans rfl,(tank_blk hB 6).trans rfl,⟨pa,pc,by rw [<-hkk];exact (tank_blk hB 7).trans rfl,hC⟩,hI.out.mono hbr,hLs.out.mono hbr⟩
   clear hB hown hpl hkk hC
   go_wp2_with fail
   go_ret2
   exact ⟨⟨_,rfl,hT⟩,hbr⟩
end Go.Proofs.YtoiakijmbghhlaaGreat
namespace Go.Proofs.YtoiakijmbghhlaaGreat
namespace Pn
structure Pl where
 C:Int
 R:Int
 L:List Int
 Pr:List Int
 W:Int
def lft (v i r:Int):Int:=v+i-r
def stepP (p:Pl) (v i:Int) (k:Nat):Option (Int×Int):=
 if lft v i (p.L.getD k 0)<p.R then none
 else some (min (lft v i (p.L.getD k 0)) p.C,p.Pr.getD k 0+p.W*max 0 (lft v i (p.L.getD k 0)-p.C))
def bst (p:Pl) (nx:Int->Option Int) (v i:Int) (acc:Option (Nat×Int)) (k:Nat):Option (Nat×Int):=
 match stepP p v i k with
 | none=>acc
 | some (w,c)=>
  match nx w with
  | none=>acc
  | some y=>
   match acc with
   | none=>some (k,c+y)
   | some (r,l)=>if c+y<l then some (k,c+y) else some (r,l)
def bestK (p:Pl) (nx:Int->Option Int) (v i:Int):Nat->Option (Nat×Int)
 | 0=>none
 | k+1=>bst p nx v i (bestK p nx v i k) k
def best (p:Pl) (nx:Int->Option Int) (v i:Int):Option (Nat×Int):=bestK p nx v i p.L.length
theorem bestK_some {p:Pl} {nx:Int->Option Int} {v i:Int}:∀ (n:Nat) (r:Nat) (m:Int),bestK p nx v i n=some (r,m) ->
  (r<n/\∃ w c y,stepP p v i r=some (w,c)/\nx w=some y/\m=c+y)/\∀ k,k<n->∀ w c y,stepP p v i k=some (w,c)->nx w=some y->m<=c+y
 | 0,r,m,h=>by simp [bestK] at h
 | n+1,r,m,h=>by
  rw [bestK,bst] at h
  split at h
  ·rename_i hs
   obtain ⟨⟨h1,h2⟩,h3⟩:=bestK_some n r m h
   refine ⟨⟨by omega,h2⟩,fun k hk w c y e1 e2=>?_⟩
   by_cases hkn:k=n
   ·subst hkn;rw [hs] at e1;cases e1
   ·exact h3 k om w c y e1 e2
  ·rename_i w0 c0 hs
   split at h
   ·rename_i hn
    obtain ⟨⟨h1,h2⟩,h3⟩:=bestK_some n r m h
    refine ⟨⟨by omega,h2⟩,fun k hk w c y e1 e2=>?_⟩
    by_cases hkn:k=n
    ·subst hkn;rw [hs] at e1;cases e1;rw [hn] at e2;cases e2
    ·exact h3 k om w c y e1 e2
   ·rename_i y0 hn
    split at h
    ·rename_i hb
     simp only [Option.some.injEq,Prod.mk.injEq] at h
     obtain ⟨rfl,rfl⟩:=h
     refine ⟨⟨by omega,w0,c0,y0,hs,hn,rfl⟩,fun k hk w c y e1 e2=>?_⟩
     by_cases hkn:k=n
     ·subst hkn;rw [hs] at e1;cases e1;rw [hn] at e2;cases e2;omega
     ·have:=bestK_none n hb k om w c e1
      rw [this] at e2;cases e2
    ·rename_i r1 l1 hb
     obtain ⟨⟨h1,h2⟩,h3⟩:=bestK_some n r1 l1 hb
     split at h
     ·rename_i hlt
      simp only [Option.some.injEq,Prod.mk.injEq] at h
      obtain ⟨rfl,rfl⟩:=h
      refine ⟨⟨by omega,w0,c0,y0,hs,hn,rfl⟩,fun k hk w c y e1 e2=>?_⟩
      by_cases hkn:k=n
      ·subst hkn;rw [hs] at e1;cases e1;rw [hn] at e2;cases e2;omega
      ·have:=h3 k om w c y e1 e2
       omega
     ·rename_i hge
      simp only [Option.some.injEq,Prod.mk.injEq] at h
      obtain ⟨rfl,rfl⟩:=h
      refine ⟨⟨by omega,h2⟩,fun k hk w c y e1 e2=>?_⟩
      by_cases hkn:k=n
      ·subst hkn;rw [hs] at e1;cases e1;rw [hn] at e2;cases e2;omega
      ·exact h3 k om w c y e1 e2
where
 bestK_none {p:Pl} {nx:Int->Option Int} {v i:Int}:∀ (n:Nat),bestK p nx v i n=none->∀ k,k<n->∀ w c,stepP p v i k=some (w,c)->nx w=none
 | 0,_,k,hk=>by omega
 | n+1,h,k,hk=>by
  intro w c e1
  rw [bestK,bst] at h
  split at h
  ·rename_i hs
   by_cases hkn:k=n
   ·subst hkn;rw [hs] at e1;cases e1
   ·exact bestK_none n h k om w c e1
  ·rename_i w0 c0 hs
   split at h
   ·rename_i hn
    by_cases hkn:k=n
    ·subst hkn;rw [hs] at e1;cases e1;exact hn
    ·exact bestK_none n h k om w c e1
   ·split at h
    ·cases h
    ·split at h <;> cases h
theorem bestK_none {p:Pl} {nx:Int->Option Int} {v i:Int} (n:Nat) (h:bestK p nx v i n=none):∀ k,k<n->∀ w c,stepP p v i k=some (w,c)->nx w=none:=
 bestK_some.bestK_none n h
def V (p:Pl):List Int->Int->Option Int
 | [],_=>some 0
 | i :: r,v=>(best p (V p r) v i).map (·.2)
def costK (p:Pl):List Int->List Nat->Int->Option (Int×List Int)
 | i :: r,k :: ks,v=>
  match stepP p v i k with
  | none=>none
  | some (w,c)=>(costK p r ks w).map fun x=>(c+x.1,w :: x.2)
 | _,_,_=>some (0,[])
theorem V_le {p:Pl}:∀ (I:List Int) (ks:List Nat) (v m:Int) (vs:List Int),I.length=ks.length->(∀ k∈ks,k<p.L.length)->costK p I ks v=some (m,vs)->∃ x,V p I v=some x/\x<=m
 | [],ks,v,m,vs,hl,_,h=>by
  cases ks with
  | nil=>simp [costK] at h;exact ⟨0,rfl,by omega⟩
  | cons k ks=>simp at hl
 | i :: I,[],v,m,vs,hl,_,h=>by simp at hl
 | i :: I,k :: ks,v,m,vs,hl,hk,h=>by
  rw [costK] at h
  split at h
  ·cases h
  ·rename_i w c hs
   cases hc:costK p I ks w with
   | none=>rw [hc] at h;cases h
   | some z=>
    obtain ⟨m',vs'⟩:=z
    rw [hc] at h
    simp only [Option.map_some,Option.some.injEq,Prod.mk.injEq] at h
    obtain ⟨rfl,rfl⟩:=h
    obtain ⟨x,hx,hle⟩:=V_le I ks w m' vs' (by simpa using hl) (fun k hk'=>hk k (List.mem_cons_of_mem _ hk')) hc
    have hkl:=hk k (List.mem_cons_self ..)
    rw [V]
    cases hb:best p (V p I) v i with
    | none=>
     have:=bestK_none _ hb k hkl w c hs
     rw [hx] at this;cases this
    | some q=>
     obtain ⟨r,l⟩:=q
     obtain ⟨_,h3⟩:=bestK_some _ r l hb
     refine ⟨l,rfl,?_⟩
     have:=h3 k hkl w c x hs hx
     omega
def plan (p:Pl):List Int->Int->List Nat
 | [],_=>[]
 | i :: r,v=>
  match best p (V p r) v i with
  | none=>[]
  | some (k,_)=>k :: plan p r ((stepP p v i k).getD (0,0)).1
theorem plan_cost {p:Pl}:∀ (I:List Int) (v m:Int),V p I v=some m->(plan p I v).length=I.length/\(∀ k∈plan p I v,k<p.L.length)/\∃ vs,costK p I (plan p I v) v=some (m,vs)
 | [],v,m,h=>by
  simp [V] at h
  exact ⟨rfl,by simp [plan],[],by rw [plan,costK,h];simp⟩
 | i :: I,v,m,h=>by
  rw [V] at h
  rw [plan]
  cases hb:best p (V p I) v i with
  | none=>rw [hb] at h;cases h
  | some q=>
   obtain ⟨k,l⟩:=q
   rw [hb] at h
   simp only [Option.map_some,Option.some.injEq] at h
   subst h
   obtain ⟨⟨h1,w,c,y,hs,hn,rfl⟩,_⟩:=bestK_some _ k l hb
   obtain ⟨g1,g2,vs,g3⟩:=plan_cost I w y hn
   simp only [hs,Option.getD_some]
   refine ⟨by simp [g1],?_,w :: vs,?_⟩
   ·intro k' hk'
    rcases List.mem_cons.1 hk' with rfl|hk'
    ·exact h1
    ·exact g2 k' hk'
   ·rw [costK,hs];simp [g3]
theorem step_bd {p:Pl} {v i:Int} {k:Nat} {w c:Int} (hRC:p.R<=p.C) (h:stepP p v i k=some (w,c)):p.R<=w/\w<=p.C:=by
 unfold stepP at h
 split at h
 ·cases h
 ·simp only [Option.some.injEq,Prod.mk.injEq] at h
  omega
theorem cost_vols {p:Pl} (hRC:p.R<=p.C):∀ (I:List Int) (ks:List Nat) (v m:Int) (vs:List Int),I.length=ks.length->costK p I ks v=some (m,vs)->vs.length=I.length/\∀ x∈vs,p.R<=x/\x<=p.C
 | [],ks,v,m,vs,hl,h=>by
  cases ks <;> simp [costK] at h <;> (obtain ⟨_,rfl⟩:=h;simp)
 | i :: I,[],v,m,vs,hl,h=>by simp at hl
 | i :: I,k :: ks,v,m,vs,hl,h=>by
  rw [costK] at h
  split at h
  ·cases h
  ·rename_i w c hs
   cases hc:costK p I ks w with
   | none=>rw [hc] at h;cases h
   | some z=>
    obtain ⟨m',vs'⟩:=z
    rw [hc] at h
    simp only [Option.map_some,Option.some.injEq,Prod.mk.injEq] at h
    obtain ⟨rfl,rfl⟩:=h
    obtain ⟨g1,g2⟩:=cost_vols hRC I ks w m' vs' (by simpa using hl) hc
    refine ⟨by simp [g1],fun x hx=>?_⟩
    rcases List.mem_cons.1 hx with rfl|hx
    ·exact step_bd hRC hs
    ·exact g2 x hx
structure Ok (p:Pl):Prop where
 rc:p.R<=p.C
 len:p.Pr.length=p.L.length
 w0:0<=p.W
 w1:p.W<=1000
 pr:∀ x∈p.Pr,0<=x/\x<=1099511627776
 rl:∀ x∈p.L,0<=x/\x<=1099511627776
def inflOk (I:List Int):Prop:=∀ i∈I,0<=i/\i<=1099511627776
def K:Int:=1099511627776*1001
theorem step_cost {p:Pl} (hp:Ok p) {v i:Int} {k:Nat} {w c:Int} (hv:v<=p.C) (hi:0<=i/\i<=1099511627776) (hk:k<p.L.length) (h:stepP p v i k=some (w,c)):0<=c/\c<=K:=by
 unfold stepP at h
 split at h
 ·cases h
 ·simp only [Option.some.injEq,Prod.mk.injEq] at h
  obtain ⟨_,rfl⟩:=h
  have hr:=hp.rl _ (List.getElem_mem hk)
  have hq:=hp.pr _ (List.getElem_mem (l:=p.Pr) (n:=k) (by rw [hp.len];exact hk))
  have e1:p.L.getD k 0=p.L[k]:=by simp [List.getD,List.getElem?_eq_getElem hk]
  have e2:p.Pr.getD k 0=p.Pr[k]'(by rw [hp.len];exact hk):=by simp [List.getD,List.getElem?_eq_getElem (l:=p.Pr) (i:=k) (by rw [hp.len];exact hk)]
  rw [e1,e2]
  generalize p.L[k]=r at *
  generalize p.Pr[k]'(by rw [hp.len];exact hk)=q at *
  have hm:0<=max 0 (lft v i r-p.C)/\max 0 (lft v i r-p.C)<=1099511627776:=by unfold lft;omega
  generalize max 0 (lft v i r-p.C)=s at *
  have h1:=Int.mul_nonneg hp.w0 hm.1
  have h2:p.W*s<=1000*1099511627776:=Int.mul_le_mul hp.w1 hm.2 hm.1 (by decide)
  unfold K
  omega
theorem V_bd {p:Pl} (hp:Ok p):∀ (I:List Int) (v m:Int),inflOk I->v<=p.C->V p I v=some m->0<=m/\m<=I.length*K
 | [],v,m,_,_,h=>by simp [V] at h;subst h;simp
 | i :: I,v,m,hI,hv,h=>by
  rw [V] at h
  cases hb:best p (V p I) v i with
  | none=>rw [hb] at h;cases h
  | some q=>
   obtain ⟨k,l⟩:=q
   rw [hb] at h
   simp only [Option.map_some,Option.some.injEq] at h
   subst h
   obtain ⟨⟨h1,w,c,y,hs,hn,rfl⟩,_⟩:=bestK_some _ k l hb
   have g1:=step_cost hp hv (hI i (List.mem_cons_self ..)) h1 hs
   have g2:=V_bd hp I w y (fun x hx=>hI x (List.mem_cons_of_mem _ hx)) (step_bd hp.rc hs).2 hn
   have e:((i :: I).length:Int)*K=I.length*K+K:=by
    rw [List.length_cons,Int.natCast_add,Int.add_mul];simp
   omega
def fnd (row:List (Int×Int)) (v:Int):Option Int:=(row.find? fun x=>x.1==v).map (·.2)
def rowH (p:Pl) (i:Int) (row nxt:List (Int×Int)):Prop:=
 ∀ x∈row,∀ k,k<p.L.length->∀ w c,stepP p x.1 i k=some (w,c)->∃ y,fnd nxt w=some y/\(y = -1\/(x.2≠-1/\x.2<=c+y))
def holdsC (p:Pl):List Int->List (List (Int×Int))->Prop
 | [],[row]=>∀ x∈row,x.2=0
 | i :: I,row :: nxt :: rest=>rowH p i row nxt/\holdsC p I (nxt :: rest)
 | _,_=>False
theorem fnd_mem {row:List (Int×Int)} {v y:Int} (h:fnd row v=some y):(v,y)∈row:=by
 unfold fnd at h
 cases hf:row.find? fun x=>x.1==v with
 | none=>rw [hf] at h;cases h
 | some x=>
  rw [hf] at h
  simp only [Option.map_some,Option.some.injEq] at h
  have h1:=List.mem_of_find?_eq_some hf
  have h2:=List.find?_some hf
  have h3:x.1=v:=by simpa using h2
  rw [<-h3,<-h];exact h1
theorem duality {p:Pl}:∀ (I:List Int) (rows:List (List (Int×Int))) (ks:List Nat) (v x m:Int) (vs:List Int),holdsC p I rows->I.length=ks.length->(∀ k∈ks,k<p.L.length) ->
  (∃ row,rows.head? = some row/\(v,x)∈row)->costK p I ks v=some (m,vs)->x≠-1/\x<=m
 | [],rows,ks,v,x,m,vs,hH,hl,hk,⟨row,hr,hm⟩,hc=>by
  match rows,hH with
  | [r0],hH=>
   simp only [List.head?_cons,Option.some.injEq] at hr
   subst hr
   have:=hH _ hm
   simp only at this
   cases ks with
   | nil=>simp [costK] at hc;omega
   | cons k ks=>simp at hl
 | i :: I,rows,ks,v,x,m,vs,hH,hl,hk,⟨row,hr,hm⟩,hc=>by
  match rows,hH with
  | r0 :: r1 :: rest,⟨hR,hN⟩=>
   simp only [List.head?_cons,Option.some.injEq] at hr
   subst hr
   match ks,hl with
   | k :: ks,hl=>
    rw [costK] at hc
    split at hc
    ·cases hc
    ·rename_i w c hs
     cases hcc:costK p I ks w with
     | none=>rw [hcc] at hc;cases hc
     | some z=>
      obtain ⟨m',vs'⟩:=z
      rw [hcc] at hc
      simp only [Option.map_some,Option.some.injEq,Prod.mk.injEq] at hc
      obtain ⟨rfl,rfl⟩:=hc
      obtain ⟨y,hy,hyx⟩:=hR _ hm k (hk k (List.mem_cons_self ..)) w c hs
      obtain ⟨g1,g2⟩:=duality I (r1 :: rest) ks w y m' vs' hN (by simpa using hl) (fun k' hk'=>hk k' (List.mem_cons_of_mem _ hk')) ⟨r1,rfl,fnd_mem hy⟩ hcc
      rcases hyx with h|⟨h1,h2⟩
      ·exact absurd h g1
      ·exact ⟨h1,by simp only at h2;omega⟩
def sumL:List Int->Int:=fun l=>l.foldr (· + ·) 0
theorem relax {p:Pl} (hp:Ok p) (mn mx:Int) (hmn:∀ x∈p.Pr,mn<=x) (hmx:∀ x∈p.L,x<=mx):∀ (I:List Int) (ks:List Nat) (v m:Int) (vs:List Int),I.length=ks.length->(∀ k∈ks,k<p.L.length)->costK p I ks v=some (m,vs) ->
  ∃ S,0<=S/\(v<=p.C->v+sumL I-I.length*mx-p.C<=S)/\I.length*mn+p.W*S<=m
 | [],ks,v,m,vs,hl,_,h=>by
  cases ks with
  | nil=>
   simp [costK] at h
   refine ⟨0,by omega,fun hv=>?_,by simp;omega⟩
   simp [sumL];omega
  | cons k ks=>simp at hl
 | i :: I,[],v,m,vs,hl,_,h=>by simp at hl
 | i :: I,k :: ks,v,m,vs,hl,hk,h=>by
  rw [costK] at h
  split at h
  ·cases h
  ·rename_i w c hs
   cases hc:costK p I ks w with
   | none=>rw [hc] at h;cases h
   | some z=>
    obtain ⟨m',vs'⟩:=z
    rw [hc] at h
    simp only [Option.map_some,Option.some.injEq,Prod.mk.injEq] at h
    obtain ⟨rfl,rfl⟩:=h
    obtain ⟨S,hS0,hS1,hS2⟩:=relax hp mn mx hmn hmx I ks w m' vs' (by simpa using hl) (fun k hk'=>hk k (List.mem_cons_of_mem _ hk')) hc
    have hkl:=hk k (List.mem_cons_self ..)
    have hw:=step_bd hp.rc hs
    unfold stepP at hs
    split at hs
    ·cases hs
    simp only [Option.some.injEq,Prod.mk.injEq] at hs
    obtain ⟨rfl,rfl⟩:=hs
    have e1:p.L.getD k 0=p.L[k]:=by simp [List.getD,List.getElem?_eq_getElem hkl]
    have e2:p.Pr.getD k 0=p.Pr[k]'(by rw [hp.len];exact hkl):=by simp [List.getD,List.getElem?_eq_getElem (l:=p.Pr) (i:=k) (by rw [hp.len];exact hkl)]
    have hr:=hmx _ (List.getElem_mem hkl)
    have hq:=hmn _ (List.getElem_mem (l:=p.Pr) (n:=k) (by rw [hp.len];exact hkl))
    rw [e1] at hS1 hw ⊢
    rw [e2]
    generalize p.L[k]=r at *
    generalize p.Pr[k]'(by rw [hp.len];exact hkl)=q at *
    have hm:0<=max 0 (lft v i r-p.C):=by omega
    have hmw:min (lft v i r) p.C=lft v i r-max 0 (lft v i r-p.C):=by omega
    rw [hmw] at hS1 hw
    have hl1:((i :: I).length:Int)=I.length+1:=by simp
    have hs1:sumL (i :: I)=i+sumL I:=rfl
    generalize max 0 (lft v i r-p.C)=s at *
    refine ⟨s+S,by omega,fun hv=>?_,?_⟩
    ·have:=hS1 hw.2
     rw [hs1,hl1,Int.add_mul]
     unfold lft at this
     omega
    ·rw [hl1,Int.add_mul,Int.mul_add]
     omega
def RowsOk (p:Pl):List Int->List Int->List (List Int)->Prop
 | [],_,[]=>True
 | i :: I,row,r1 :: rest=>r1.Pairwise (· < ·)/\(∀ w,w∈r1↔∃ v∈row,∃ k,k<p.L.length/\∃ c,stepP p v i k=some (w,c))/\RowsOk p I r1 rest
 | _,_,_=>False
def valR (p:Pl) (I:List Int) (row:List Int):List (Int×Int):=row.map fun v=>(v,(V p I v).getD (-1))
def certR (p:Pl):List Int->List (List Int)->List (List (Int×Int))
 | _,[]=>[]
 | I,row :: rest=>valR p I row :: certR p I.tail rest
theorem fnd_valR {p:Pl} {I:List Int}:∀ {row:List Int} {w:Int},w∈row->fnd (valR p I row) w=some ((V p I w).getD (-1))
 | v :: row,w,h=>by
  unfold fnd valR
  rw [List.map_cons,List.find?_cons]
  by_cases hvw:v=w
  ·subst hvw;simp
  ·have h1:((v,(V p I v).getD (-1)).1==w)=false:=by simp [hvw]
   rw [h1]
   rcases List.mem_cons.1 h with h|h
   ·exact absurd h.symm hvw
   ·exact fnd_valR h
theorem cert_holds {p:Pl} (hp:Ok p):∀ (I:List Int) (row:List Int) (rest:List (List Int)),inflOk I->(∀ v∈row,v<=p.C)->RowsOk p I row rest->holdsC p I (certR p I (row :: rest))
 | [],row,[],_,_,_=>by
  intro x hx
  obtain ⟨v,_,rfl⟩:=List.mem_map.1 hx
  rfl
 | [],row,r1 :: rest,_,_,h=>by simp [RowsOk] at h
 | i :: I,row,[],_,_,h=>by simp [RowsOk] at h
 | i :: I,row,r1 :: rest,hI,hv,⟨h1,h2,h3⟩=>by
  have hI2:inflOk I:=fun x hx=>hI x (List.mem_cons_of_mem _ hx)
  have hv2:∀ w∈r1,w<=p.C:=fun w hw=>by
   obtain ⟨v,_,k,_,c,hs⟩:=(h2 w).1 hw
   exact (step_bd hp.rc hs).2
  refine ⟨?_,cert_holds hp I r1 rest hI2 hv2 h3⟩
  intro x hx k hk w c hs
  obtain ⟨v,hvr,rfl⟩:=List.mem_map.1 hx
  simp only at hs ⊢
  have hw:w∈r1:=(h2 w).2 ⟨v,hvr,k,hk,c,hs⟩
  refine ⟨_,fnd_valR hw,?_⟩
  show (V p I w).getD (-1) = -1\/_
  cases hV:V p I w with
  | none=>left;rfl
  | some y=>
   right
   show (V p (i :: I) v).getD (-1)≠-1/\(V p (i :: I) v).getD (-1)<=c+(V p I w).getD (-1)
   rw [hV]
   show _/\_<=c+y
   cases hb:best p (V p I) v i with
   | none=>
    have:=bestK_none _ hb k hk w c hs
    rw [hV] at this;cases this
   | some q=>
    obtain ⟨r,l⟩:=q
    have hVv:V p (i :: I) v=some l:=by rw [V,hb];rfl
    rw [hVv,Option.getD_some]
    have h4:=V_bd hp (i :: I) v l hI (hv v hvr) hVv
    have h5:=(bestK_some _ r l hb).2 k hk w c y hs hV
    exact ⟨by omega,h5⟩
theorem rows_len {p:Pl}:∀ (I row:List Int) (rest:List (List Int)),RowsOk p I row rest->rest.length=I.length
 | [],_,[],_=>rfl
 | [],_,_ :: _,h=>by simp [RowsOk] at h
 | _ :: _,_,[],h=>by simp [RowsOk] at h
 | i :: I,row,r1 :: rest,⟨_,_,h3⟩=>by simp [rows_len I r1 rest h3]
end Pn
end Go.Proofs.YtoiakijmbghhlaaGreat
