/- routing, ground: slices.Clone at numbers and truth values; a state's four slices cloned, and behind stores into them. Conditions: a slice has at most a million  | rules: holds, Settings. Conditions: the arguments read as data. | routing, plain: sums over numbers, the links out of a node, what is dealt out to links, and the account of a set of nodes. Conditions: none. -/
import Derived.OwnWalk
import Derived.WalkLawsBesides
import Derived.Deep.DeepMust
import Derived.Lib.LazyBuf
import Derived.Test.YtoiakijmbghhlaaGreatS22
import Derived.Test.YtoiakijmbghhlaaGreatS17
import Derived.Test.YtoiakijmbghhlaaGreatS16
import Derived.Test.YtoiakijmbghhlaaGreatS00
set_option linter.unusedVariables false
set_option linter.unusedSimpArgs false
set_option maxRecDepth 100000
set_option maxHeartbeats 32000000
namespace Go.Proofs.YtoiakijmbghhlaaGreat
open Go.RowKit
theorem undBools:Tryz.prog.underlying 29=some (.slice 4):=by kernel_rfl
theorem infBool:(Tryz.prog.info? 4).map (fun i=>(i.zero,i.size,i.bytes))=some (some (.bool false),1,1):=by kernel_rfl
theorem IsC.newsK {α:Type} {enc:α->List Value} {k:Nat} (hk:∀ x,(enc x).length=k) {w:World} {ad:Addr} {xs:List α} (h:IsC enc k w (some ad) xs):∀ j u,(xs.flatMap enc)[j]? = some u->w.cell? (ad.add j)=some u:=by
 intro j u hu
 have hjl:j<xs.length*k:=by
  have:=(List.getElem?_eq_some_iff.1 hu).1
  rwa [flat_len enc k hk] at this
 have hk0:0<k:=by
  rcases Nat.eq_zero_or_pos k with rfl|q
  ·simp at hjl
  ·exact q
 have hq:j / k<xs.length:=by rw [Nat.div_lt_iff_lt_mul hk0];exact hjl
 have hr:j % k<k:=Nat.mod_lt _ hk0
 obtain ⟨b,off,e,hc⟩:=h (j / k) hq
 simp only [Option.some.injEq] at e
 subst e
 have hjk:j=j / k*k+j % k:=by rw [Nat.mul_comm];exact (Nat.div_add_mod j k).symm
 have h1:=flat_get enc k hk xs (j / k) (j % k) hq hr
 rw [<-hjk,hu] at h1
 have h2:=hc (j % k) hr
 rw [Nat.add_assoc,<-hjk,<-h1] at h2
 rw [Addr.add_lit];exact h2
theorem infcloneInt:(Tryz.prog.info? 3).map (fun i=>(i.zero,i.size,i.bytes))=some (some (.int .i64 0),1,8):=infInt
theorem infcloneBool:(Tryz.prog.info? 4).map (fun i=>(i.zero,i.size,i.bytes))=some (some (.bool false),1,1):=infBool
theorem cloneInt_any (xs:List Int) (v:Value) (w:World) (hv:IsL eInt 1 w v xs) (hlen:xs.length<=1000000) :
  Calls Tryz.prog 161 #[v] w fun e w'=>(∃ v',e=.returned v'/\Own w.heap.size 3 eInt 1 w' v' xs)/\Below w.heap.size w w':=by
 obtain ⟨a,cap,rfl,hcap,hbig,hs⟩:=hv
 have hnil:=fun (w:World) a n c=>Lib.run_eql_slice_nil (P:=Tryz.prog) w 28 3 a n c 0 0 undInts
 cases a with
 | none=>
  have h0:xs = []:=by
   cases xs with
   | nil=>rfl
   | cons x r=>obtain ⟨b,off,e,_⟩:=hs 0 (by simp);cases e
  subst h0
  go_enter Tryz.func161,Tryz.ntmps161
  go_wp2
  go_ret
  exact ⟨⟨_,rfl,World.ownsRow_nil _ _ _ _⟩,qr⟩
 | some ad=>
  obtain ⟨i0,hi,hz0,hz1,hz2⟩:=info_parts infcloneInt
  have hb0:Below w.heap.size w (w.alloc (.cells #[] 3)):=qr.alloc (Nat.le_refl _) _
  have hs0:=hs.mono hb0
  have hn0:=IsC.newsK (enc:=eInt) (k:=1) (fun _=>rfl) hs0
  have hl0:(xs.flatMap eInt).length=xs.length*1:=flat_len eInt 1 (fun _=>rfl) xs
  have hone:∀ u∈xs.flatMap eInt,u.oneCell'=true:=by
   intro u hu
   rw [List.mem_flatMap] at hu
   obtain ⟨x,_,hx⟩:=hu
   simp at hx
   first|(subst hx;rfl)|(rcases hx with rfl|rfl <;> rfl)
  have hm1:0+xs.length<=maxLen:=by simp only [maxLen];omega
  have hm2:(0+xs.length)*8<=140737488355328:=by omega
  have hown:=World.ownsRow_made (base:=w.heap.size) (e:=3) (size:=1) w #[] 0 (Nat.le_refl _) (Nat.zero_le _) rfl
  go_enter Tryz.func161,Tryz.ntmps161
  go_wp2_with (at_builtin;go_must (refine wpList_append_own _ rfl _ _ 28 rfl w.heap.size 3 i0 _ 1 8 undInts hi hz0 hz1 hz2 rfl (by decide) _ 0 [] rfl hown ad xs.length cap (xs.flatMap eInt) rfl hl0 hn0 hone hm1 hm2 hb0.size ?_);intro v' w1 hown1 hgr1 hnn)
  simp only [Nat.zero_add,List.nil_append] at hown1
  have hbl:Below w.heap.size w w1:=hb0.grown hgr1 hb0.size (fun k hk=>(hown.lt k hk).1)
  go_wp2
  go_ret
  exact ⟨⟨_,rfl,hown1⟩,hbl⟩
theorem cloneBool_any (xs:List Bool) (v:Value) (w:World) (hv:IsL eBool 1 w v xs) (hlen:xs.length<=1000000) :
  Calls Tryz.prog 162 #[v] w fun e w'=>(∃ v',e=.returned v'/\Own w.heap.size 4 eBool 1 w' v' xs)/\Below w.heap.size w w':=by
 obtain ⟨a,cap,rfl,hcap,hbig,hs⟩:=hv
 have hnil:=fun (w:World) a n c=>Lib.run_eql_slice_nil (P:=Tryz.prog) w 29 4 a n c 0 0 undBools
 cases a with
 | none=>
  have h0:xs = []:=by
   cases xs with
   | nil=>rfl
   | cons x r=>obtain ⟨b,off,e,_⟩:=hs 0 (by simp);cases e
  subst h0
  go_enter Tryz.func162,Tryz.ntmps162
  go_wp2
  go_ret
  exact ⟨⟨_,rfl,World.ownsRow_nil _ _ _ _⟩,qr⟩
 | some ad=>
  obtain ⟨i0,hi,hz0,hz1,hz2⟩:=info_parts infcloneBool
  have hb0:Below w.heap.size w (w.alloc (.cells #[] 4)):=qr.alloc (Nat.le_refl _) _
  have hs0:=hs.mono hb0
  have hn0:=IsC.newsK (enc:=eBool) (k:=1) (fun _=>rfl) hs0
  have hl0:(xs.flatMap eBool).length=xs.length*1:=flat_len eBool 1 (fun _=>rfl) xs
  have hone:∀ u∈xs.flatMap eBool,u.oneCell'=true:=by
   intro u hu
   rw [List.mem_flatMap] at hu
   obtain ⟨x,_,hx⟩:=hu
   simp at hx
   first|(subst hx;rfl)|(rcases hx with rfl|rfl <;> rfl)
  have hm1:0+xs.length<=maxLen:=by simp only [maxLen];omega
  have hm2:(0+xs.length)*1<=140737488355328:=by omega
  have hown:=World.ownsRow_made (base:=w.heap.size) (e:=4) (size:=1) w #[] 0 (Nat.le_refl _) (Nat.zero_le _) rfl
  go_enter Tryz.func162,Tryz.ntmps162
  go_wp2_with (at_builtin;go_must (refine wpList_append_own _ rfl _ _ 29 rfl w.heap.size 4 i0 _ 1 1 undBools hi hz0 hz1 hz2 rfl (by decide) _ 0 [] rfl hown ad xs.length cap (xs.flatMap eBool) rfl hl0 hn0 hone hm1 hm2 hb0.size ?_);intro v' w1 hown1 hgr1 hnn)
  simp only [Nat.zero_add,List.nil_append] at hown1
  have hbl:Below w.heap.size w w1:=hb0.grown hgr1 hb0.size (fun k hk=>(hown.lt k hk).1)
  go_wp2
  go_ret
  exact ⟨⟨_,rfl,hown1⟩,hbl⟩
def RowAt {α:Type} (W:World) (lo hi:Nat) (e:TypeId) (enc:α->List Value) (k:Nat) (v:Value) (xs:List α):Prop:=
 Own lo e enc k W v xs/\hi<=W.heap.size/\∀ g,v.ownBlock=some g->lo<=g/\g<hi
theorem RowAt.of {α:Type} {W W':World} {e:TypeId} {enc:α->List Value} {k:Nat} {v:Value} {xs:List α} (h:Own W.heap.size e enc k W' v xs):RowAt W' W.heap.size W'.heap.size e enc k v xs:=
 ⟨h,Nat.le_refl _,h.lt⟩
theorem RowAt.below {α:Type} {W W':World} {lo hi:Nat} {e:TypeId} {enc:α->List Value} {k:Nat} {v:Value} {xs:List α} (h:RowAt W lo hi e enc k v xs) (hb:Below W.heap.size W W'):RowAt W' lo hi e enc k v xs:=
 ⟨h.1.below hb,Nat.le_trans h.2.1 hb.size,h.2.2⟩
theorem RowAt.set {α:Type} {W:World} {lo hi:Nat} {e:TypeId} {enc:α->List Value} {k:Nat} {v:Value} {xs:List α} (h:RowAt W lo hi e enc k v xs) (a:Addr) (u:Value) (ha:a.block<lo\/hi<=a.block):RowAt (W.setCell a u) lo hi e enc k v xs:=by
 refine ⟨World.ownsRow.kept (row:=some a.block) h.1 ⟨rfl,rfl,rfl,by simp [World.setCell],fun j _ hne=>Below.heap_setCell _ _ _ _ (fun e=>hne (by rw [e]))⟩ ?_,by simpa [World.setCell] using h.2.1,h.2.2⟩
 cases hv:v.ownBlock with
 | none=>exact .inl rfl
 | some g=>
  right
  have:=h.2.2 g hv
  intro he
  simp only [Option.some.injEq] at he
  omega
theorem RowAt.set4 {α:Type} {W:World} {lo hi:Nat} {e:TypeId} {enc:α->List Value} {k:Nat} {v:Value} {xs:List α} (h:RowAt W lo hi e enc k v xs) {B:Nat} (hB:B<lo\/hi<=B) (u0 u1 u2 u3:Value) :
  RowAt ((((W.setCell ⟨B,0,none⟩ u0).setCell ⟨B,1,none⟩ u1).setCell ⟨B,2,none⟩ u2).setCell ⟨B,3,none⟩ u3) lo hi e enc k v xs:=
 (((h.set ⟨B,0,none⟩ u0 hB).set ⟨B,1,none⟩ u1 hB).set ⟨B,2,none⟩ u2 hB).set ⟨B,3,none⟩ u3 hB
theorem RowAt.alloc {α:Type} {W:World} {lo hi:Nat} {e:TypeId} {enc:α->List Value} {k:Nat} {v:Value} {xs:List α} (h:RowAt W lo hi e enc k v xs) (o:Obj):RowAt (W.alloc o) lo hi e enc k v xs:=
 ⟨h.1.below (alloc_below _ _),by have:=h.2.1;simp;omega,h.2.2⟩
theorem RowAt.drew {α:Type} {W:World} {lo hi:Nat} {e:TypeId} {enc:α->List Value} {k:Nat} {v:Value} {xs:List α} (h:RowAt W lo hi e enc k v xs):RowAt W.drew lo hi e enc k v xs:=h
structure Cloned (w W:World) (B:Nat) (uV uP uS uO:Value) (vs ps ss:List Int) (os:List Bool):Prop where
 bel:Below w.heap.size w W
 base:w.heap.size<=B
 c0:W.cell? ⟨B,0,none⟩=some uV
 c1:W.cell? ⟨B,1,none⟩=some uP
 c2:W.cell? ⟨B,2,none⟩=some uS
 c3:W.cell? ⟨B,3,none⟩=some uO
 V:Own w.heap.size 3 eInt 1 W uV vs
 P:Own w.heap.size 3 eInt 1 W uP ps
 S:Own w.heap.size 3 eInt 1 W uS ss
 O:Own w.heap.size 4 eBool 1 W uO os
 aV:∀ g,uV.ownBlock=some g->g≠B/\uP.ownBlock≠some g/\uS.ownBlock≠some g/\uO.ownBlock≠some g
 aP:∀ g,uP.ownBlock=some g->g≠B/\uV.ownBlock≠some g/\uS.ownBlock≠some g/\uO.ownBlock≠some g
theorem Cloned.of {w W:World} {B:Nat} {uV uP uS uO:Value} {vs ps ss:List Int} {os:List Bool} {lV hV lP hP lS hS lO hO:Nat} (bel:Below w.heap.size w W) (hB:w.heap.size<=B)
  (c0:W.cell? ⟨B,0,none⟩=some uV) (c1:W.cell? ⟨B,1,none⟩=some uP) (c2:W.cell? ⟨B,2,none⟩=some uS) (c3:W.cell? ⟨B,3,none⟩=some uO)
  (rV:RowAt W lV hV 3 eInt 1 uV vs) (rP:RowAt W lP hP 3 eInt 1 uP ps) (rS:RowAt W lS hS 3 eInt 1 uS ss) (rO:RowAt W lO hO 4 eBool 1 uO os)
  (h1:w.heap.size<=lV) (h2:hV<=lP) (h3:hP<=lS) (h4:hS<=lO) (k1:lV<=hV) (k2:lP<=hP) (k3:lS<=hS) (b1:B<lV\/hV<=B) (b2:B<lP\/hP<=B):Cloned w W B uV uP uS uO vs ps ss os:=by
 refine ⟨bel,hB,c0,c1,c2,c3,rV.1.base h1,rP.1.base om,rS.1.base om,rO.1.base om,?_,?_⟩
 ·intro g hg
  have q:=rV.2.2 g hg
  refine ⟨by omega,fun h=>?_,fun h=>?_,fun h=>?_⟩
  ·have:=rP.2.2 g h;omega
  ·have:=rS.2.2 g h;omega
  ·have:=rO.2.2 g h;omega
 ·intro g hg
  have q:=rP.2.2 g hg
  refine ⟨by omega,fun h=>?_,fun h=>?_,fun h=>?_⟩
  ·have:=rV.2.2 g h;omega
  ·have:=rS.2.2 g h;omega
  ·have:=rO.2.2 g h;omega
theorem Own.far {α:Type} {W:World} {base:Nat} {e:TypeId} {enc:α->List Value} {k:Nat} {v:Value} {xs:List α} (h:Own base e enc k W v xs) (a:Addr) (u:Value) (ha:v.ownBlock≠some a.block):Own base e enc k (W.setCell a u) v xs:=
 World.ownsRow.kept (row:=some a.block) h ⟨rfl,rfl,rfl,by simp [World.setCell],fun j _ hne=>Below.heap_setCell _ _ _ _ (fun e=>hne (by rw [e]))⟩ (.inr ha)
theorem cell_far {W:World} {B j:Nat} {v:Value} (h:W.cell? ⟨B,j,none⟩=some v) (a:Addr) (u:Value) (ha:B≠a.block):(W.setCell a u).cell? ⟨B,j,none⟩=some v:=
 (World.cell?_of_block (w:=W) (Below.heap_setCell _ _ _ _ ha)).trans h
theorem Own.put1 {W:World} {base:Nat} {e:TypeId} {g n c k:Nat} {xs:List Int} (h:Own base e eInt 1 W (.slice (some ⟨g,0,none⟩) n c) xs) (hk:k<xs.length) (y:Int):Own base e eInt 1 (W.setCell ⟨g,k,none⟩ (.int .i64 y)) (.slice (some ⟨g,0,none⟩) n c) (xs.set k y):=by
 have:=Own.store (k:=1) (enc:=eInt) (fun _=>rfl) h k 0 hk Nat.zero_lt_one (.int .i64 y) y rfl
 simpa using this
theorem Cloned.storeV {w W:World} {B g n c k:Nat} {uP uS uO:Value} {vs ps ss:List Int} {os:List Bool} (h:Cloned w W B (.slice (some ⟨g,0,none⟩) n c) uP uS uO vs ps ss os) (hk:k<vs.length) (y:Int) :
  Cloned w (W.setCell ⟨g,k,none⟩ (.int .i64 y)) B (.slice (some ⟨g,0,none⟩) n c) uP uS uO (vs.set k y) ps ss os:=by
 obtain ⟨d0,d1,d2,d3⟩:=h.aV g rfl
 have hg:=(h.V.lt g rfl).1
 exact ⟨h.bel.setCell (p:=⟨g,k,none⟩) hg _,h.base,cell_far h.c0 _ _ (Ne.symm d0),cell_far h.c1 _ _ (Ne.symm d0),cell_far h.c2 _ _ (Ne.symm d0),cell_far h.c3 _ _ (Ne.symm d0),h.V.put1 hk y,h.P.far _ _ d1,h.S.far _ _ d2,h.O.far _ _ d3,h.aV,h.aP⟩
theorem Cloned.storeP {w W:World} {B g n c k:Nat} {uV uS uO:Value} {vs ps ss:List Int} {os:List Bool} (h:Cloned w W B uV (.slice (some ⟨g,0,none⟩) n c) uS uO vs ps ss os) (hk:k<ps.length) (y:Int) :
  Cloned w (W.setCell ⟨g,k,none⟩ (.int .i64 y)) B uV (.slice (some ⟨g,0,none⟩) n c) uS uO vs (ps.set k y) ss os:=by
 obtain ⟨d0,d1,d2,d3⟩:=h.aP g rfl
 have hg:=(h.P.lt g rfl).1
 exact ⟨h.bel.setCell (p:=⟨g,k,none⟩) hg _,h.base,cell_far h.c0 _ _ (Ne.symm d0),cell_far h.c1 _ _ (Ne.symm d0),cell_far h.c2 _ _ (Ne.symm d0),cell_far h.c3 _ _ (Ne.symm d0),h.V.far _ _ d1,h.P.put1 hk y,h.S.far _ _ d2,h.O.far _ _ d3,h.aV,h.aP⟩
theorem Own.int1 {W:World} {base:Nat} {e:TypeId} {g n c k:Nat} {xs:List Int} (h:Own base e eInt 1 W (.slice (some ⟨g,0,none⟩) n c) xs) (hk:k<xs.length) {x:Int} (hx:xs[k]=x):W.cell? ⟨g,k,none⟩=some (.int .i64 x):=by
 have:=Own.cellAt' (k:=1) (enc:=eInt) (fun _=>rfl) h k 0 hk Nat.zero_lt_one
 rw [hx] at this
 simpa using this
theorem Own.under {α:Type} {W:World} {base:Nat} {e:TypeId} {enc:α->List Value} {k:Nat} {v:Value} {xs:List α} (h:Own base e enc k W v xs) {a:Addr} (ha:a.block<base) (u:Value):Own base e enc k (W.setCell a u) v xs:=
 ownsRow_setCell_below h ha u
theorem Own.first {α:Type} {W:World} {base:Nat} {e:TypeId} {enc:α->List Value} {v:Value} {xs:List α} (h:Own base e enc 1 W v xs) (k:Nat) (hk:k<xs.length) :
  ∃ g c,v=.slice (some ⟨g,0,none⟩) xs.length c/\base<=g/\(∀ j,W.frozen? ⟨g,j,none⟩=false):=by
 obtain ⟨g,c,rfl,hg,_⟩:=h.place om
 exact ⟨g,c,rfl,hg,fun j=>h.free j⟩
theorem gI64_of {w:World} {n:Int} (h1 : -9223372036854775808<=n) (h2:n<=9223372036854775807):gI64 w n:=by
 simp [gI64,Lit.wf,IntKind.min,IntKind.max,IntKind.signed,IntKind.bits];omega
theorem Own.gSl {α:Type} {W:World} {base:Nat} {e:TypeId} {enc:α->List Value} {k:Nat} {v:Value} {xs:List α} {good:World->α->Prop} (h:Own base e enc k W v xs) (hk:∀ x,(enc x).length=k) (hg:∀ x∈xs,good W x) :
  ∃ s:Sl α,v=vSl s/\s.xs=xs/\gSl enc k good W s:=by
 obtain ⟨a,c,rfl,h1,h2,h3⟩:=h.isL hk
 exact ⟨⟨a,c,xs⟩,rfl,rfl,h1,h2,h3,hg⟩
theorem gSt_of {W:World} {base:Nat} {uV uP uS uO:Value} {vs ps ss:List Int} {os:List Bool} (hV:Own base 3 eInt 1 W uV vs) (hP:Own base 3 eInt 1 W uP ps) (hS:Own base 3 eInt 1 W uS ss) (hO:Own base 4 eBool 1 W uO os)
  (gV:∀ x∈vs,gI64 W x) (gP:∀ x∈ps,gI64 W x) (gS:∀ x∈ss,gI64 W x):∃ s:St,vSt s=.agg #[uV,uP,uS,uO]/\gSt W s/\s.V.xs=vs/\s.P.xs=ps/\s.S.xs=ss/\s.O.xs=os:=by
 obtain ⟨s0,rfl,rfl,h0⟩:=hV.gSl (good:=gI64) (fun _=>rfl) gV
 obtain ⟨s1,rfl,rfl,h1⟩:=hP.gSl (good:=gI64) (fun _=>rfl) gP
 obtain ⟨s2,rfl,rfl,h2⟩:=hS.gSl (good:=gI64) (fun _=>rfl) gS
 obtain ⟨s3,rfl,rfl,h3⟩:=hO.gSl (good:=gTrue) (fun _=>rfl) (fun _ _=>trivial)
 exact ⟨⟨s0,s1,s2,s3⟩,rfl,⟨h0,h1,h2,h3⟩,rfl,rfl,rfl,rfl⟩
end Go.Proofs.YtoiakijmbghhlaaGreat
namespace Go.Proofs.YtoiakijmbghhlaaGreat
open Go.RowKit Go.Maps
abbrev IsCos (w:World) (v:Value) (xs:List CoD):Prop:=IsL eCo 3 w v xs
theorem indexCos (g:Nat) (lb:Array Value) (eg:∀ args w,(callFunc g args).run Tryz.prog w=.ok (.enter g args) w) (p:CoD->Bool) (xs:List CoD) (v:Value) (w:World)
  (hv:IsCos w v xs) (hp:PredOn Tryz.prog g lb vCo p xs w) :
  Calls Tryz.prog 282 #[v,.func (.func g) #[] lb] w fun e w'=>e=.returned (.int .i64 (idxFrom p xs 0))/\Below w.heap.size w w':=by
 obtain ⟨a,cap,rfl,hcap,hbig,hs⟩:=hv
 go_enter Tryz.func282,Tryz.ntmps282
 go_wp2
 go_loopw [5,8] (fun _ s8 wr=>∃ k:Nat,k<=xs.length/\s8=.int .i64 k/\Below w.heap.size w wr/\Hid (idxFrom p xs 0=idxFrom p (xs.drop k) k)) (fun _ i _=>xs.length-(RowKit.intOf i).toNat)
 case atStart=>exact ⟨0,Nat.zero_le _,rfl,qr,rfl⟩
 case round=>
  obtain ⟨k,hk,rfl,hb,hm⟩:=hrel
  by_cases hlt:k<xs.length
  ·obtain ⟨b,off,rfl,c0,c1,c2⟩:=(hs.mono hb).co k hlt
   have hx:=hp wr hb xs[k] (List.getElem_mem hlt)
   have hstep:Hid (idxFrom p (xs.drop k) k=if p xs[k] then (k:Int) else idxFrom p (xs.drop (k+1)) (k+1)):=by
    rw [List.drop_eq_getElem_cons hlt];rfl
   clear hs hp
   generalize xs[k]=y at *
   cases hpy:p y
   all_goals
    rw [hpy] at hx hstep
    clear hpy
    go_wp2_with fail
    refine (Calls.to hx ?_)
    rintro e w1 rfl hb1
    have hbb:=hb.trans (hb1.mono hb.size)
    go_wp2_with fail
   ·go_roundw
    case rel=>exact ⟨k+1,by omega,by go_num,bl,hm.out.trans (hstep.out.trans (by simp))⟩
    case measure=>simp [RowKit.intOf];omega
   ·go_ret
    exact ⟨ret_int (hm.out.trans (hstep.out.trans (by simp))).symm,bl⟩
  ·go_wp2
   go_ret
   refine ⟨ret_int ?_,bl⟩
   rw [hm.out,List.drop_eq_nil_of_le om];rfl
theorem containsCos (g:Nat) (lb:Array Value) (eg:∀ args w,(callFunc g args).run Tryz.prog w=.ok (.enter g args) w) (p:CoD->Bool) (xs:List CoD) (v:Value) (w:World)
  (hv:IsCos w v xs) (hp:PredOn Tryz.prog g lb vCo p xs w) :
  Calls Tryz.prog 237 #[v,.func (.func g) #[] lb] w fun e w'=>e=.returned (.bool (xs.any p))/\Below w.heap.size w w':=by
 go_enter Tryz.func237,Tryz.ntmps237
 go_wp2_with fail
 refine Calls.to (indexCos g lb eg p xs v w hv hp) ?_
 rintro e w1 rfl hb
 go_wp2_with fail
 go_ret
 exact ⟨ret_bool (idxFrom_any p xs 0),hb⟩
theorem ent238:∀ args w,(callFunc 238 args).run Tryz.prog w=.ok (.enter 238 args) w:=by
 intro args w
 simp [go_sem]
theorem ent189:∀ args w,(callFunc 189 args).run Tryz.prog w=.ok (.enter 189 args) w:=by
 intro args w
 simp [go_sem]
def hoP (f:ByteArray->Option Int) (c:CoD):Bool:=decide (c.L<=(f c.N).getD 0)==c.B
theorem ruholds1_any (c:CoD) (B b nn:Nat) (f:ByteArray->Option Int) (w:World) (hc:w.cell? ⟨B,0,none⟩=some (.map (some b))) (hm:MapS w b nn f) (hk:c.N.size<=maxLen) :
  Calls Tryz.prog 238 #[vCo c,.pointer (some ⟨B,0,none⟩)] w fun e w'=>e=.returned (.bool (hoP f c))/\Below w.heap.size w w':=by
 obtain ⟨W,hW⟩:∃ W,W=allocs w [((eCo c).toArray,270)]:=⟨_,rfl⟩
 have hbw:Below w.heap.size w W:=by rw [hW];exact allocs_below _ _
 have t0:W.heap[w.heap.size]? = some (.cells (eCo c).toArray 270 (0,0)):=by rw [hW];exact allocs_at _ w 0 (by simp)
 have HW:Hid (W=w.alloc (.cells (eCo c).toArray 270)):=qh hW
 have q0:W.cell? ⟨w.heap.size,0,none⟩=some (.string c.N):=(tank_blk t0 0).trans rfl
 have q1:W.cell? ⟨w.heap.size,1,none⟩=some (.bool c.B):=(tank_blk t0 1).trans rfl
 have q2:W.cell? ⟨w.heap.size,2,none⟩=some (.int .i64 c.L):=(tank_blk t0 2).trans rfl
 have hc2:=cel_lt hc hbw
 have hlk:=(hm.below hbw).look hk
 obtain ⟨res,hres⟩:∃ r,r=hoP f c:=⟨_,rfl⟩
 rw [<-hres]
 unfold hoP at hres
 obtain ⟨x,hx⟩:∃ x,x=(f c.N).getD 0:=⟨_,rfl⟩
 rw [<-hx] at hlk hres
 have HR:=qh hres
 obtain ⟨cn,cb,cl⟩:=c
 simp only at HR q0 q1 q2 hlk
 clear hres hx hW t0 hc hm hk
 by_cases hxl:cl<=x
 ·have i1:decide (cl<=x)=true:=decide_eq_true hxl
  rw [i1] at HR
  clear hxl
  cases cb
  all_goals
   go_enter Tryz.func238,Tryz.ntmps238
   go_upto_region 1 with (fail)
   rw [<-HW.out]
   clear HW
   go_wp2_with fail
   go_ret
   exact ⟨ret_bool HR.out.symm,hbw⟩
 ·have i1:decide (cl<=x)=false:=decide_eq_false hxl
  rw [i1] at HR
  clear hxl
  cases cb
  all_goals
   go_enter Tryz.func238,Tryz.ntmps238
   go_upto_region 1 with (fail)
   rw [<-HW.out]
   clear HW
   go_wp2_with fail
   go_ret
   exact ⟨ret_bool HR.out.symm,hbw⟩
theorem ruholds_any (r:RuD) (b nn:Nat) (f:ByteArray->Option Int) (w:World) (hg:gRu w r) (hm:MapS w b nn f) :
  Calls Tryz.prog 190 #[vRu r,.map (some b)] w fun e w'=>(∃ bo:Bool,e=.returned (.bool bo))/\Below w.heap.size w w':=by
 obtain ⟨L,hL⟩:∃ L:List (Array Value×TypeId),L = [((eRu r).toArray,117),(#[.map (some b)],216)]:=⟨_,rfl⟩
 obtain ⟨W,hW⟩:∃ W,W=allocs w L:=⟨_,rfl⟩
 have hbw:Below w.heap.size w W:=by rw [hW];exact allocs_below _ _
 have t0:W.heap[w.heap.size]? = some (.cells (eRu r).toArray 117 (0,0)):=by rw [hW,hL];exact allocs_at _ w 0 (by simp)
 have t1:W.heap[w.heap.size+1]? = some (.cells #[.map (some b)] 216 (0,0)):=by rw [hW,hL];exact allocs_at _ w 1 (by simp)
 have HW:Hid (W=(w.alloc (.cells (eRu r).toArray 117)).alloc (.cells #[.map (some b)] 216)):=qh (by rw [hW,hL];rfl)
 have q1:W.cell? ⟨w.heap.size,1,none⟩=some (.slice r.W.a r.W.xs.length r.W.cap):=(tank_blk t0 1).trans rfl
 have c1:W.cell? ⟨w.heap.size+1,0,none⟩=some (.map (some b)):=(tank_blk t1 0).trans rfl
 have gW:=rdRu.mono hg hbw
 have hmW:=hm.below hbw
 have hco:=containsCos 238 #[.pointer (some ⟨w.heap.size+1,0,none⟩)] ent238 (hoP f) r.W.xs (vSl r.W) W gW.w.isL (fun W2 hW2 x hx=>ruholds1_any x _ b nn f W2 (cel_lt c1 hW2) (hmW.below hW2) (gW.w.2.2.2 x hx).n)
 obtain ⟨cb,hcb⟩:∃ cb,r.W.xs.any (hoP f)=cb:=⟨_,rfl⟩
 rw [hcb] at hco
 simp only [vSl] at hco
 clear hL hW t0 t1 hg hm gW hmW hcb
 simp only [vRu,vSl]
 go_enter Tryz.func190,Tryz.ntmps190
 go_upto_region 1 with (fail)
 rw [<-HW.out]
 clear HW
 cases cb
 all_goals
  go_wp2_with fail
  refine Calls.to hco ?_
  rintro e w1 rfl hb1
  have hbb:=hbw.trans (hb1.mono hbw.size)
  clear hco
  go_wp2_with fail
  go_ret
  exact ⟨⟨_,rfl⟩,hbb⟩
end Go.Proofs.YtoiakijmbghhlaaGreat
namespace Go.Proofs.YtoiakijmbghhlaaGreat
open Go.RowKit
def sg (f:Nat->Int):Nat->Int
 | 0=>0
 | n+1=>sg f n+f n
theorem sg_succ (f:Nat->Int) (n:Nat):sg f (n+1)=sg f n+f n:=rfl
theorem sg_congr {f g:Nat->Int}:∀ {n:Nat},(∀ i,i<n->f i=g i)->sg f n=sg g n
 | 0,_=>rfl
 | n+1,h=>by
  rw [sg_succ,sg_succ,sg_congr (fun i hi=>h i om),h n om]
theorem sg_add (f g:Nat->Int):∀ n,sg (fun i=>f i+g i) n=sg f n+sg g n
 | 0=>rfl
 | n+1=>by rw [sg_succ,sg_succ,sg_succ,sg_add f g n];omega
theorem sg_sub (f g:Nat->Int):∀ n,sg (fun i=>f i-g i) n=sg f n-sg g n
 | 0=>rfl
 | n+1=>by rw [sg_succ,sg_succ,sg_succ,sg_sub f g n];omega
theorem sg_zero:∀ n,sg (fun _=>0) n=0
 | 0=>rfl
 | n+1=>by rw [sg_succ,sg_zero n];rfl
theorem sg_all0 {f:Nat->Int} {n:Nat} (h:∀ i,i<n->f i=0):sg f n=0:=(sg_congr h).trans (sg_zero n)
theorem sg_swap (F:Nat->Nat->Int) (m:Nat):∀ n,sg (fun i=>sg (F i) m) n=sg (fun k=>sg (fun i=>F i k) n) m
 | 0=>(sg_zero m).symm
 | n+1=>by
  rw [sg_succ,sg_swap F m n,<-sg_add]
  exact sg_congr (fun k _=>(sg_succ (fun i=>F i k) n).symm)
theorem sg_nonneg {f:Nat->Int}:∀ {n:Nat},(∀ i,i<n->0<=f i)->0<=sg f n
 | 0,_=>Int.le_refl 0
 | n+1,h=>by
  have h1:=sg_nonneg (n:=n) (fun i hi=>h i om)
  have h2:=h n om
  rw [sg_succ];omega
theorem sg_bd {f:Nat->Int} {b:Int}:∀ {n:Nat},(∀ i,i<n->0<=f i/\f i<=b)->0<=sg f n/\sg f n<=n*b
 | 0,_=>⟨Int.le_refl 0,by simp [sg]⟩
 | n+1,h=>by
  have h1:=sg_bd (n:=n) (fun i hi=>h i om)
  have h2:=h n om
  rw [sg_succ]
  rw [show ((n+1:Nat):Int)*b=n*b+b by rw [Int.natCast_add,Int.add_mul];simp]
  omega
theorem sg_pick {n j:Nat} (hj:j<n) (x:Int):sg (fun i=>if i=j then x else 0) n=x:=by
 induction n with
 | zero=>omega
 | succ n ih=>
  rw [sg_succ]
  by_cases h:j=n
  ·subst h
   rw [if_pos rfl,sg_all0 (fun i hi=>if_neg om)];omega
  ·rw [ih om,if_neg om];omega
theorem sg_take (l:List Int):∀ k,k<=l.length->sg (fun i=>l.getD i 0) k=(l.take k).sum
 | 0,_=>rfl
 | k+1,h=>by
  rw [sg_succ,sg_take l k om,List.take_succ_eq_append_getElem om,List.sum_append]
  simp [List.getD,List.getElem?_eq_getElem (show k<l.length by omega)]
theorem sg_list (l:List Int):sg (fun i=>l.getD i 0) l.length=l.sum:=by
 rw [sg_take l _ (Nat.le_refl _),List.take_length]
theorem account {n m:Nat} {frm dst:Nat->Nat} (hf:∀ k,k<m->frm k<n) (ht:∀ k,k<m->dst k<n) (out ins:Nat->Bool) (d q p:Nat->Int)
  (h1:∀ i,i<n->out i=false->d i=sg (fun k=>if frm k=i then p k else 0) m-sg (fun k=>if dst k=i then p k else 0) m)
  (h2:∀ i,i<n->out i=true->d i=q i/\sg (fun k=>if frm k=i then p k else 0) m=0) :
  sg (fun i=>if ins i then d i else 0) n+sg (fun k=>if ins (dst k) then p k else 0) m-sg (fun k=>if ins (frm k) then p k else 0) m
   = sg (fun i=>if ins i&&out i then q i else 0) n+sg (fun k=>if ins (dst k)&&out (dst k) then p k else 0) m:=by
 have a1:∀ (g:Nat->Nat),(∀ k,k<m->g k<n)->∀ c:Nat->Bool,sg (fun i=>if c i then sg (fun k=>if g k=i then p k else 0) m else 0) n=sg (fun k=>if c (g k) then p k else 0) m:=by
  intro g hg c
  rw [show sg (fun i=>if c i then sg (fun k=>if g k=i then p k else 0) m else 0) n=sg (fun i=>sg (fun k=>if c i then (if g k=i then p k else 0) else 0) m) n from sg_congr (fun i _=>by
   cases c i
   ·simp only [Bool.false_eq_true,if_false];exact (sg_zero m).symm
   ·simp)]
  rw [sg_swap]
  refine sg_congr (fun k hk=>?_)
  rw [<-sg_pick (hg k hk) (if c (g k) then p k else 0)]
  refine sg_congr (fun i _=>?_)
  by_cases e:g k=i
  ·subst e;simp
  ·rw [if_neg e,if_neg (show ¬ i=g k from fun h=>e h.symm)];simp
 have a2:=a1 frm hf ins
 have a3:=a1 dst ht ins
 have a4:=a1 dst ht (fun i=>ins i&&out i)
 rw [<-a2,<-a3,<-a4,<-sg_add,<-sg_sub,<-sg_add]
 refine sg_congr (fun i hi=>?_)
 cases hi1:ins i
 ·simp
 ·cases ho:out i
  ·have:=h1 i hi ho
   simp;omega
  ·have:=h2 i hi ho
   simp;omega
def rowN (frm:Nat->Nat):Nat->Nat->List Nat
 | 0,_=>[]
 | k+1,i=>if frm k=i then rowN frm k i ++ [k] else rowN frm k i
theorem rowN_mem {frm:Nat->Nat} {i x:Nat}:∀ {m:Nat},x∈rowN frm m i↔x<m/\frm x=i
 | 0=>by simp [rowN]
 | m+1=>by
  unfold rowN
  by_cases h:frm m=i
  ·rw [if_pos h,List.mem_append,rowN_mem (m:=m),List.mem_singleton]
   constructor
   ·rintro (⟨h1,h2⟩|rfl)
    ·exact ⟨by omega,h2⟩
    ·exact ⟨by omega,h⟩
   ·rintro ⟨h1,h2⟩
    by_cases e:x=m
    ·exact .inr e
    ·exact .inl ⟨by omega,h2⟩
  ·rw [if_neg h,rowN_mem (m:=m)]
   constructor
   ·rintro ⟨h1,h2⟩;exact ⟨by omega,h2⟩
   ·rintro ⟨h1,h2⟩
    refine ⟨?_,h2⟩
    by_cases e:x=m
    ·subst e;exact absurd h2 h
    ·omega
theorem rowN_nodup {frm:Nat->Nat} {i:Nat}:∀ m,(rowN frm m i).Nodup
 | 0=>by simp [rowN]
 | m+1=>by
  unfold rowN
  split
  ·rw [List.nodup_append]
   refine ⟨rowN_nodup m,by simp,fun a ha b hb=>?_⟩
   rw [List.mem_singleton] at hb
   have:=(rowN_mem.1 ha).1
   omega
  ·exact rowN_nodup m
theorem rowN_sum (frm:Nat->Nat) (i:Nat) (f:Nat->Int):∀ m,((rowN frm m i).map f).sum=sg (fun k=>if frm k=i then f k else 0) m
 | 0=>rfl
 | m+1=>by
  rw [sg_succ,<-rowN_sum frm i f m]
  show ((if frm m=i then rowN frm m i ++ [m] else rowN frm m i).map f).sum=_
  split
  ·simp
  ·simp
theorem rowN_len (frm:Nat->Nat) (i:Nat):∀ m,(rowN frm m i).length<=m
 | 0=>by simp [rowN]
 | m+1=>by
  have:=rowN_len frm i m
  unfold rowN
  split
  ·simp;omega
  ·omega
structure LimI (frm:Nat->Nat) (w held:Nat->Int) (m i:Nat) (xs:List Int):Prop where
 len:xs.length=m
 bd:∀ k,k<m->0<=xs.getD k 0/\xs.getD k 0<=4503599627370496
 sum:∀ j,j<i->sg (fun k=>if frm k=j then xs.getD k 0 else 0) m<=held j
 rest:∀ k,k<m->i<=frm k->xs.getD k 0=w k
structure LimJ (frm:Nat->Nat) (w held:Nat->Int) (m i j:Nat) (xs:List Int) (h b d s:Nat):Prop where
 len:xs.length=m
 bd:∀ k,k<m->0<=xs.getD k 0/\xs.getD k 0<=4503599627370496
 sum:∀ j,j<i->sg (fun k=>if frm k=j then xs.getD k 0 else 0) m<=held j
 rest:∀ k,k<m->i<frm k->xs.getD k 0=w k
 held:held i=h
 before:(b:Int)=(((rowN frm m i).take j).map w).sum
 all:(s:Int)=((rowN frm m i).map w).sum
 dn:(((rowN frm m i).take j).map fun k=>xs.getD k 0).sum=d
 dq:d=h*b / s
theorem LimI.start {frm:Nat->Nat} {w held:Nat->Int} {m:Nat} {xs:List Int} (hl:xs.length=m) (hw:∀ k,k<m->xs.getD k 0=w k) (hb:∀ k,k<m->0<=w k/\w k<=4503599627370496):LimI frm w held m 0 xs:=
 ⟨hl,fun k hk=>by rw [hw k hk];exact hb k hk,fun j hj=>absurd hj (Nat.not_lt_zero j),fun k hk _=>hw k hk⟩
theorem LimI.easy {frm:Nat->Nat} {w held:Nat->Int} {m i:Nat} {xs:List Int} (h:LimI frm w held m i xs) (hs:((rowN frm m i).map w).sum<=held i):LimI frm w held m (i+1) xs:=by
 refine ⟨h.len,h.bd,fun j hj=>?_,fun k hk hf=>h.rest k hk om⟩
 by_cases e:j=i
 ·subst e
  rw [rowN_sum] at hs
  refine Int.le_trans (Int.le_of_eq (sg_congr fun k hk=>?_)) hs
  by_cases e:frm k=j
  ·rw [if_pos e,if_pos e];exact h.rest k hk om
  ·rw [if_neg e,if_neg e]
 ·exact h.sum j om
theorem LimI.deal {frm:Nat->Nat} {w held:Nat->Int} {m i:Nat} {xs:List Int} (h:LimI frm w held m i xs) {hh s:Nat} (h1:held i=hh) (h2:(s:Int)=((rowN frm m i).map w).sum):LimJ frm w held m i 0 xs hh 0 0 s:=
 ⟨h.len,h.bd,h.sum,fun k hk hf=>h.rest k hk om,h1,by simp,h2,by simp,by simp⟩
theorem getD_set (xs:List Int) (k i:Nat) (y:Int) (hk:k<xs.length):(xs.set k y).getD i 0=if i=k then y else xs.getD i 0:=by
 by_cases e:i=k
 ·subst e;simp [List.getD,hk]
 ·rw [if_neg e];simp [List.getD,Ne.symm e]
theorem LimJ.next {frm:Nat->Nat} {w held:Nat->Int} {m i j:Nat} {xs:List Int} {h b d s:Nat} (H:LimJ frm w held m i j xs h b d s) (hs:h<s) (hb:h<=4503599627370496) (hw:∀ k,k<m->0<=w k)
  (hj:j<(rowN frm m i).length) {b':Nat} (hb':(b':Int)=b+w ((rowN frm m i)[j])):LimJ frm w held m i (j+1) (xs.set ((rowN frm m i)[j]) (((h*b' / s:Nat):Int)-(d:Int))) h b' (h*b' / s) s:=by
 have hm:=rowN_mem.1 (List.getElem_mem hj)
 have hnd:=rowN_nodup (frm:=frm) (i:=i) m
 obtain ⟨k,hk⟩:∃ k,k=(rowN frm m i)[j]:=⟨_,rfl⟩
 rw [<-hk] at hm hb' ⊢
 have hl:=H.len
 have hwk:=hw k hm.1
 have hkl:k<xs.length:=by omega
 have hle:d<=h*b' / s:=by rw [H.dq];exact Nat.div_le_div_right (Nat.mul_le_mul (Nat.le_refl h) om)
 have hts:(rowN frm m i).take (j+1)=(rowN frm m i).take j ++ [k]:=by rw [List.take_succ_eq_append_getElem hj,<-hk]
 have hbs:b'<=s:=by
  have e1:(b':Int)=(((rowN frm m i).take (j+1)).map w).sum:=by
   rw [hts,List.map_append,List.sum_append,hb',H.before];simp
  have e2:((rowN frm m i).map w).sum=(((rowN frm m i).take (j+1)).map w).sum+(((rowN frm m i).drop (j+1)).map w).sum:=by
   rw [<-List.sum_append,<-List.map_append,List.take_append_drop]
  have e3:∀ l:List Nat,(∀ x∈l,x<m)->0<=(l.map w).sum:=by
   intro l
   induction l with
   | nil=>intro _;simp
   | cons a r ih=>
    intro hr
    have:=ih (fun x hx=>hr x (List.mem_cons_of_mem _ hx))
    have:=hw a (hr a List.mem_cons_self)
    simp;omega
  have:=e3 ((rowN frm m i).drop (j+1)) (fun x hx=>(rowN_mem.1 (List.mem_of_mem_drop hx)).1)
  have:=H.all
  omega
 have hqb:h*b' / s<=h:=by
  rw [Nat.div_le_iff_le_mul_add_pred om,Nat.mul_comm s h]
  have:=Nat.mul_le_mul (Nat.le_refl h) hbs
  omega
 have hnot:∀ x∈(rowN frm m i).take j,x≠k:=by
  intro x hx e
  subst e
  obtain ⟨a,ha,hxa⟩:=List.mem_iff_getElem.1 hx
  rw [List.getElem_take] at hxa
  have ha':a<j:=by rw [List.length_take] at ha;omega
  have:=(List.pairwise_iff_getElem.1 hnd) a j om hj ha'
  exact this (hxa.trans hk)
 refine ⟨by rw [List.length_set];exact hl,fun a ha=>?_,fun a ha=>?_,fun a ha hf=>?_,H.held,?_,H.all,?_,rfl⟩
 ·rw [getD_set _ _ _ _ hkl]
  split
  ·omega
  ·exact H.bd a ha
 ·refine Int.le_trans (Int.le_of_eq (sg_congr fun c hc=>?_)) (H.sum a ha)
  by_cases e:frm c=a
  ·rw [if_pos e,if_pos e,getD_set _ _ _ _ hkl,if_neg (by rintro rfl;omega)]
  ·rw [if_neg e,if_neg e]
 ·rw [getD_set _ _ _ _ hkl,if_neg (by rintro rfl;omega)]
  exact H.rest a ha hf
 ·rw [hts,List.map_append,List.sum_append,hb',H.before];simp
 ·rw [hts,List.map_append,List.sum_append]
  have:((rowN frm m i).take j).map (fun c=>(xs.set k (((h*b' / s:Nat):Int)-(d:Int))).getD c 0)=((rowN frm m i).take j).map fun c=>xs.getD c 0:=by
   refine List.map_congr_left (fun c hc=>?_)
   rw [getD_set _ _ _ _ hkl,if_neg (hnot c hc)]
  rw [this,H.dn]
  simp only [List.map_cons,List.map_nil,List.sum_cons,List.sum_nil,getD_set _ _ _ _ hkl,if_true]
  omega
theorem LimJ.done {frm:Nat->Nat} {w held:Nat->Int} {m i j:Nat} {xs:List Int} {h b d s:Nat} (H:LimJ frm w held m i j xs h b d s) (hs:h<s) (hj:(rowN frm m i).length<=j):LimI frm w held m (i+1) xs:=by
 refine ⟨H.len,H.bd,fun a ha=>?_,fun k hk hf=>H.rest k hk om⟩
 by_cases e:a=i
 ·subst e
  have h1:=H.dn
  have h2:=H.before
  rw [List.take_of_length_le hj] at h1 h2
  rw [rowN_sum] at h1
  have h3:=H.all
  have h4:=H.held
  have hbs:b=s:=by omega
  have hd:=H.dq
  rw [hbs,Nat.mul_div_cancel _ om] at hd
  rw [h1,hd,h4]
  exact Int.le_refl _
 ·exact H.sum a om
end Go.Proofs.YtoiakijmbghhlaaGreat
