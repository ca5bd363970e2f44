/- routing, ground: slices.Clone at numbers and truth values; a state's four slices cloned, and behind stores into them. Conditions: a slice has at most a million  | rules: holds, Settings. Conditions: the arguments read as data. -/
import Derived.OwnWalk
import Derived.WalkLawsBesides
import Derived.Deep.DeepMust
import Derived.Lib.LazyBuf
import Derived.Test.YtoiakijmbghhlaaGreatS24
import Derived.Test.YtoiakijmbghhlaaGreatS18
import Derived.Test.YtoiakijmbghhlaaGreatS16
set_option linter.unusedVariables false
set_option linter.unusedSimpArgs false
set_option maxRecDepth 100000
set_option maxHeartbeats 32000000
namespace Go.Proofs.YtoiakijmbghhlaaGreat
open Go.RowKit
theorem undBools:Tryz.prog.underlying 29=some (.slice 4):=by kernel_rfl
theorem infBool:(Tryz.prog.info? 4).map (fun i=>(i.zero,i.size,i.bytes))=some (some (.bool false),1,1):=by kernel_rfl
theorem IsC.newsK {α:Type} {enc:α->List Value} {k:Nat} (hk:∀ x,(enc x).length=k) {w:World} {ad:Addr} {xs:List α} (h:IsC enc k w (some ad) xs):∀ j u,(xs.flatMap enc)[j]? = some u->w.cell? (ad.add j)=some u:=by
 intro j u hu
 have hjl:j<xs.length*k:=by
  have:=(List.getElem?_eq_some_iff.1 hu).1
  rwa [flat_len enc k hk] at this
 have hk0:0<k:=by
  rcases Nat.eq_zero_or_pos k with rfl|q
  ·simp at hjl
  ·exact q
 have hq:j / k<xs.length:=by rw [Nat.div_lt_iff_lt_mul hk0];exact hjl
 have hr:j % k<k:=Nat.mod_lt _ hk0
 obtain ⟨b,off,e,hc⟩:=h (j / k) hq
 simp only [Option.some.injEq] at e
 subst e
 have hjk:j=j / k*k+j % k:=by rw [Nat.mul_comm];exact (Nat.div_add_mod j k).symm
 have h1:=flat_get enc k hk xs (j / k) (j % k) hq hr
 rw [<-hjk,hu] at h1
 have h2:=hc (j % k) hr
 rw [Nat.add_assoc,<-hjk,<-h1] at h2
 rw [Addr.add_lit];exact h2
theorem infcloneInt:(Tryz.prog.info? 3).map (fun i=>(i.zero,i.size,i.bytes))=some (some (.int .i64 0),1,8):=infInt
theorem infcloneBool:(Tryz.prog.info? 4).map (fun i=>(i.zero,i.size,i.bytes))=some (some (.bool false),1,1):=infBool
theorem cloneInt_any (xs:List Int) (v:Value) (w:World) (hv:IsL eInt 1 w v xs) (hlen:xs.length<=1000000) :
  Calls Tryz.prog 161 #[v] w fun e w'=>(∃ v',e=.returned v'/\Own w.heap.size 3 eInt 1 w' v' xs)/\Below w.heap.size w w':=by
 obtain ⟨a,cap,rfl,hcap,hbig,hs⟩:=hv
 have hnil:=fun (w:World) a n c=>Lib.run_eql_slice_nil (P:=Tryz.prog) w 28 3 a n c 0 0 undInts
 cases a with
 | none=>
  have h0:xs = []:=by
   cases xs with
   | nil=>rfl
   | cons x r=>obtain ⟨b,off,e,_⟩:=hs 0 (by simp);cases e
  subst h0
  go_enter Tryz.func161,Tryz.ntmps161
  go_wp2
  go_ret
  exact ⟨⟨_,rfl,World.ownsRow_nil _ _ _ _⟩,qr⟩
 | some ad=>
  obtain ⟨i0,hi,hz0,hz1,hz2⟩:=info_parts infcloneInt
  have hb0:Below w.heap.size w (w.alloc (.cells #[] 3)):=qr.alloc (Nat.le_refl _) _
  have hs0:=hs.mono hb0
  have hn0:=IsC.newsK (enc:=eInt) (k:=1) (fun _=>rfl) hs0
  have hl0:(xs.flatMap eInt).length=xs.length*1:=flat_len eInt 1 (fun _=>rfl) xs
  have hone:∀ u∈xs.flatMap eInt,u.oneCell'=true:=by
   intro u hu
   rw [List.mem_flatMap] at hu
   obtain ⟨x,_,hx⟩:=hu
   simp at hx
   first|(subst hx;rfl)|(rcases hx with rfl|rfl <;> rfl)
  have hm1:0+xs.length<=maxLen:=by simp only [maxLen];omega
  have hm2:(0+xs.length)*8<=140737488355328:=by omega
  have hown:=World.ownsRow_made (base:=w.heap.size) (e:=3) (size:=1) w #[] 0 (Nat.le_refl _) (Nat.zero_le _) rfl
  go_enter Tryz.func161,Tryz.ntmps161
  go_wp2_with (at_builtin;go_must (refine wpList_append_own _ rfl _ _ 28 rfl w.heap.size 3 i0 _ 1 8 undInts hi hz0 hz1 hz2 rfl (by decide) _ 0 [] rfl hown ad xs.length cap (xs.flatMap eInt) rfl hl0 hn0 hone hm1 hm2 hb0.size ?_);intro v' w1 hown1 hgr1 hnn)
  simp only [Nat.zero_add,List.nil_append] at hown1
  have hbl:Below w.heap.size w w1:=hb0.grown hgr1 hb0.size (fun k hk=>(hown.lt k hk).1)
  go_wp2
  go_ret
  exact ⟨⟨_,rfl,hown1⟩,hbl⟩
theorem cloneBool_any (xs:List Bool) (v:Value) (w:World) (hv:IsL eBool 1 w v xs) (hlen:xs.length<=1000000) :
  Calls Tryz.prog 162 #[v] w fun e w'=>(∃ v',e=.returned v'/\Own w.heap.size 4 eBool 1 w' v' xs)/\Below w.heap.size w w':=by
 obtain ⟨a,cap,rfl,hcap,hbig,hs⟩:=hv
 have hnil:=fun (w:World) a n c=>Lib.run_eql_slice_nil (P:=Tryz.prog) w 29 4 a n c 0 0 undBools
 cases a with
 | none=>
  have h0:xs = []:=by
   cases xs with
   | nil=>rfl
   | cons x r=>obtain ⟨b,off,e,_⟩:=hs 0 (by simp);cases e
  subst h0
  go_enter Tryz.func162,Tryz.ntmps162
  go_wp2
  go_ret
  exact ⟨⟨_,rfl,World.ownsRow_nil _ _ _ _⟩,qr⟩
 | some ad=>
  obtain ⟨i0,hi,hz0,hz1,hz2⟩:=info_parts infcloneBool
  have hb0:Below w.heap.size w (w.alloc (.cells #[] 4)):=qr.alloc (Nat.le_refl _) _
  have hs0:=hs.mono hb0
  have hn0:=IsC.newsK (enc:=eBool) (k:=1) (fun _=>rfl) hs0
  have hl0:(xs.flatMap eBool).length=xs.length*1:=flat_len eBool 1 (fun _=>rfl) xs
  have hone:∀ u∈xs.flatMap eBool,u.oneCell'=true:=by
   intro u hu
   rw [List.mem_flatMap] at hu
   obtain ⟨x,_,hx⟩:=hu
   simp at hx
   first|(subst hx;rfl)|(rcases hx with rfl|rfl <;> rfl)
  have hm1:0+xs.length<=maxLen:=by simp only [maxLen];omega
  have hm2:(0+xs.length)*1<=140737488355328:=by omega
  have hown:=World.ownsRow_made (base:=w.heap.size) (e:=4) (size:=1) w #[] 0 (Nat.le_refl _) (Nat.zero_le _) rfl
  go_enter Tryz.func162,Tryz.ntmps162
  go_wp2_with (at_builtin;go_must (refine wpList_append_own _ rfl _ _ 29 rfl w.heap.size 4 i0 _ 1 1 undBools hi hz0 hz1 hz2 rfl (by decide) _ 0 [] rfl hown ad xs.length cap (xs.flatMap eBool) rfl hl0 hn0 hone hm1 hm2 hb0.size ?_);intro v' w1 hown1 hgr1 hnn)
  simp only [Nat.zero_add,List.nil_append] at hown1
  have hbl:Below w.heap.size w w1:=hb0.grown hgr1 hb0.size (fun k hk=>(hown.lt k hk).1)
  go_wp2
  go_ret
  exact ⟨⟨_,rfl,hown1⟩,hbl⟩
def RowAt {α:Type} (W:World) (lo hi:Nat) (e:TypeId) (enc:α->List Value) (k:Nat) (v:Value) (xs:List α):Prop:=
 Own lo e enc k W v xs/\hi<=W.heap.size/\∀ g,v.ownBlock=some g->lo<=g/\g<hi
theorem RowAt.of {α:Type} {W W':World} {e:TypeId} {enc:α->List Value} {k:Nat} {v:Value} {xs:List α} (h:Own W.heap.size e enc k W' v xs):RowAt W' W.heap.size W'.heap.size e enc k v xs:=
 ⟨h,Nat.le_refl _,h.lt⟩
theorem RowAt.below {α:Type} {W W':World} {lo hi:Nat} {e:TypeId} {enc:α->List Value} {k:Nat} {v:Value} {xs:List α} (h:RowAt W lo hi e enc k v xs) (hb:Below W.heap.size W W'):RowAt W' lo hi e enc k v xs:=
 ⟨h.1.below hb,Nat.le_trans h.2.1 hb.size,h.2.2⟩
theorem RowAt.set {α:Type} {W:World} {lo hi:Nat} {e:TypeId} {enc:α->List Value} {k:Nat} {v:Value} {xs:List α} (h:RowAt W lo hi e enc k v xs) (a:Addr) (u:Value) (ha:a.block<lo\/hi<=a.block):RowAt (W.setCell a u) lo hi e enc k v xs:=by
 refine ⟨World.ownsRow.kept (row:=some a.block) h.1 ⟨rfl,rfl,rfl,by simp [World.setCell],fun j _ hne=>Below.heap_setCell _ _ _ _ (fun e=>hne (by rw [e]))⟩ ?_,by simpa [World.setCell] using h.2.1,h.2.2⟩
 cases hv:v.ownBlock with
 | none=>exact .inl rfl
 | some g=>
  right
  have:=h.2.2 g hv
  intro he
  simp only [Option.some.injEq] at he
  omega
theorem RowAt.set4 {α:Type} {W:World} {lo hi:Nat} {e:TypeId} {enc:α->List Value} {k:Nat} {v:Value} {xs:List α} (h:RowAt W lo hi e enc k v xs) {B:Nat} (hB:B<lo\/hi<=B) (u0 u1 u2 u3:Value) :
  RowAt ((((W.setCell ⟨B,0,none⟩ u0).setCell ⟨B,1,none⟩ u1).setCell ⟨B,2,none⟩ u2).setCell ⟨B,3,none⟩ u3) lo hi e enc k v xs:=
 (((h.set ⟨B,0,none⟩ u0 hB).set ⟨B,1,none⟩ u1 hB).set ⟨B,2,none⟩ u2 hB).set ⟨B,3,none⟩ u3 hB
theorem RowAt.alloc {α:Type} {W:World} {lo hi:Nat} {e:TypeId} {enc:α->List Value} {k:Nat} {v:Value} {xs:List α} (h:RowAt W lo hi e enc k v xs) (o:Obj):RowAt (W.alloc o) lo hi e enc k v xs:=
 ⟨h.1.below (alloc_below _ _),by have:=h.2.1;simp;omega,h.2.2⟩
theorem RowAt.drew {α:Type} {W:World} {lo hi:Nat} {e:TypeId} {enc:α->List Value} {k:Nat} {v:Value} {xs:List α} (h:RowAt W lo hi e enc k v xs):RowAt W.drew lo hi e enc k v xs:=h
structure Cloned (w W:World) (B:Nat) (uV uP uS uO:Value) (vs ps ss:List Int) (os:List Bool):Prop where
 bel:Below w.heap.size w W
 base:w.heap.size<=B
 c0:W.cell? ⟨B,0,none⟩=some uV
 c1:W.cell? ⟨B,1,none⟩=some uP
 c2:W.cell? ⟨B,2,none⟩=some uS
 c3:W.cell? ⟨B,3,none⟩=some uO
 V:Own w.heap.size 3 eInt 1 W uV vs
 P:Own w.heap.size 3 eInt 1 W uP ps
 S:Own w.heap.size 3 eInt 1 W uS ss
 O:Own w.heap.size 4 eBool 1 W uO os
 aV:∀ g,uV.ownBlock=some g->g≠B/\uP.ownBlock≠some g/\uS.ownBlock≠some g/\uO.ownBlock≠some g
 aP:∀ g,uP.ownBlock=some g->g≠B/\uV.ownBlock≠some g/\uS.ownBlock≠some g/\uO.ownBlock≠some g
theorem Cloned.of {w W:World} {B:Nat} {uV uP uS uO:Value} {vs ps ss:List Int} {os:List Bool} {lV hV lP hP lS hS lO hO:Nat} (bel:Below w.heap.size w W) (hB:w.heap.size<=B)
  (c0:W.cell? ⟨B,0,none⟩=some uV) (c1:W.cell? ⟨B,1,none⟩=some uP) (c2:W.cell? ⟨B,2,none⟩=some uS) (c3:W.cell? ⟨B,3,none⟩=some uO)
  (rV:RowAt W lV hV 3 eInt 1 uV vs) (rP:RowAt W lP hP 3 eInt 1 uP ps) (rS:RowAt W lS hS 3 eInt 1 uS ss) (rO:RowAt W lO hO 4 eBool 1 uO os)
  (h1:w.heap.size<=lV) (h2:hV<=lP) (h3:hP<=lS) (h4:hS<=lO) (k1:lV<=hV) (k2:lP<=hP) (k3:lS<=hS) (b1:B<lV\/hV<=B) (b2:B<lP\/hP<=B):Cloned w W B uV uP uS uO vs ps ss os:=by
 refine ⟨bel,hB,c0,c1,c2,c3,rV.1.base h1,rP.1.base om,rS.1.base om,rO.1.base om,?_,?_⟩
 ·intro g hg
  have q:=rV.2.2 g hg
  refine ⟨by omega,fun h=>?_,fun h=>?_,fun h=>?_⟩
  ·have:=rP.2.2 g h;omega
  ·have:=rS.2.2 g h;omega
  ·have:=rO.2.2 g h;omega
 ·intro g hg
  have q:=rP.2.2 g hg
  refine ⟨by omega,fun h=>?_,fun h=>?_,fun h=>?_⟩
  ·have:=rV.2.2 g h;omega
  ·have:=rS.2.2 g h;omega
  ·have:=rO.2.2 g h;omega
theorem Own.far {α:Type} {W:World} {base:Nat} {e:TypeId} {enc:α->List Value} {k:Nat} {v:Value} {xs:List α} (h:Own base e enc k W v xs) (a:Addr) (u:Value) (ha:v.ownBlock≠some a.block):Own base e enc k (W.setCell a u) v xs:=
 World.ownsRow.kept (row:=some a.block) h ⟨rfl,rfl,rfl,by simp [World.setCell],fun j _ hne=>Below.heap_setCell _ _ _ _ (fun e=>hne (by rw [e]))⟩ (.inr ha)
theorem cell_far {W:World} {B j:Nat} {v:Value} (h:W.cell? ⟨B,j,none⟩=some v) (a:Addr) (u:Value) (ha:B≠a.block):(W.setCell a u).cell? ⟨B,j,none⟩=some v:=
 (World.cell?_of_block (w:=W) (Below.heap_setCell _ _ _ _ ha)).trans h
theorem Own.put1 {W:World} {base:Nat} {e:TypeId} {g n c k:Nat} {xs:List Int} (h:Own base e eInt 1 W (.slice (some ⟨g,0,none⟩) n c) xs) (hk:k<xs.length) (y:Int):Own base e eInt 1 (W.setCell ⟨g,k,none⟩ (.int .i64 y)) (.slice (some ⟨g,0,none⟩) n c) (xs.set k y):=by
 have:=Own.store (k:=1) (enc:=eInt) (fun _=>rfl) h k 0 hk Nat.zero_lt_one (.int .i64 y) y rfl
 simpa using this
theorem Cloned.storeV {w W:World} {B g n c k:Nat} {uP uS uO:Value} {vs ps ss:List Int} {os:List Bool} (h:Cloned w W B (.slice (some ⟨g,0,none⟩) n c) uP uS uO vs ps ss os) (hk:k<vs.length) (y:Int) :
  Cloned w (W.setCell ⟨g,k,none⟩ (.int .i64 y)) B (.slice (some ⟨g,0,none⟩) n c) uP uS uO (vs.set k y) ps ss os:=by
 obtain ⟨d0,d1,d2,d3⟩:=h.aV g rfl
 have hg:=(h.V.lt g rfl).1
 exact ⟨h.bel.setCell (p:=⟨g,k,none⟩) hg _,h.base,cell_far h.c0 _ _ (Ne.symm d0),cell_far h.c1 _ _ (Ne.symm d0),cell_far h.c2 _ _ (Ne.symm d0),cell_far h.c3 _ _ (Ne.symm d0),h.V.put1 hk y,h.P.far _ _ d1,h.S.far _ _ d2,h.O.far _ _ d3,h.aV,h.aP⟩
theorem Cloned.storeP {w W:World} {B g n c k:Nat} {uV uS uO:Value} {vs ps ss:List Int} {os:List Bool} (h:Cloned w W B uV (.slice (some ⟨g,0,none⟩) n c) uS uO vs ps ss os) (hk:k<ps.length) (y:Int) :
  Cloned w (W.setCell ⟨g,k,none⟩ (.int .i64 y)) B uV (.slice (some ⟨g,0,none⟩) n c) uS uO vs (ps.set k y) ss os:=by
 obtain ⟨d0,d1,d2,d3⟩:=h.aP g rfl
 have hg:=(h.P.lt g rfl).1
 exact ⟨h.bel.setCell (p:=⟨g,k,none⟩) hg _,h.base,cell_far h.c0 _ _ (Ne.symm d0),cell_far h.c1 _ _ (Ne.symm d0),cell_far h.c2 _ _ (Ne.symm d0),cell_far h.c3 _ _ (Ne.symm d0),h.V.far _ _ d1,h.P.put1 hk y,h.S.far _ _ d2,h.O.far _ _ d3,h.aV,h.aP⟩
theorem Own.int1 {W:World} {base:Nat} {e:TypeId} {g n c k:Nat} {xs:List Int} (h:Own base e eInt 1 W (.slice (some ⟨g,0,none⟩) n c) xs) (hk:k<xs.length) {x:Int} (hx:xs[k]=x):W.cell? ⟨g,k,none⟩=some (.int .i64 x):=by
 have:=Own.cellAt' (k:=1) (enc:=eInt) (fun _=>rfl) h k 0 hk Nat.zero_lt_one
 rw [hx] at this
 simpa using this
theorem Own.under {α:Type} {W:World} {base:Nat} {e:TypeId} {enc:α->List Value} {k:Nat} {v:Value} {xs:List α} (h:Own base e enc k W v xs) {a:Addr} (ha:a.block<base) (u:Value):Own base e enc k (W.setCell a u) v xs:=
 ownsRow_setCell_below h ha u
theorem gI64_of {w:World} {n:Int} (h1 : -9223372036854775808<=n) (h2:n<=9223372036854775807):gI64 w n:=by
 simp [gI64,Lit.wf,IntKind.min,IntKind.max,IntKind.signed,IntKind.bits];omega
theorem Own.gSl {α:Type} {W:World} {base:Nat} {e:TypeId} {enc:α->List Value} {k:Nat} {v:Value} {xs:List α} {good:World->α->Prop} (h:Own base e enc k W v xs) (hk:∀ x,(enc x).length=k) (hg:∀ x∈xs,good W x) :
  ∃ s:Sl α,v=vSl s/\s.xs=xs/\gSl enc k good W s:=by
 obtain ⟨a,c,rfl,h1,h2,h3⟩:=h.isL hk
 exact ⟨⟨a,c,xs⟩,rfl,rfl,h1,h2,h3,hg⟩
theorem gSt_of {W:World} {base:Nat} {uV uP uS uO:Value} {vs ps ss:List Int} {os:List Bool} (hV:Own base 3 eInt 1 W uV vs) (hP:Own base 3 eInt 1 W uP ps) (hS:Own base 3 eInt 1 W uS ss) (hO:Own base 4 eBool 1 W uO os)
  (gV:∀ x∈vs,gI64 W x) (gP:∀ x∈ps,gI64 W x) (gS:∀ x∈ss,gI64 W x):∃ s:St,vSt s=.agg #[uV,uP,uS,uO]/\gSt W s/\s.V.xs=vs/\s.P.xs=ps/\s.S.xs=ss/\s.O.xs=os:=by
 obtain ⟨s0,rfl,rfl,h0⟩:=hV.gSl (good:=gI64) (fun _=>rfl) gV
 obtain ⟨s1,rfl,rfl,h1⟩:=hP.gSl (good:=gI64) (fun _=>rfl) gP
 obtain ⟨s2,rfl,rfl,h2⟩:=hS.gSl (good:=gI64) (fun _=>rfl) gS
 obtain ⟨s3,rfl,rfl,h3⟩:=hO.gSl (good:=gTrue) (fun _=>rfl) (fun _ _=>trivial)
 exact ⟨⟨s0,s1,s2,s3⟩,rfl,⟨h0,h1,h2,h3⟩,rfl,rfl,rfl,rfl⟩
end Go.Proofs.YtoiakijmbghhlaaGreat
