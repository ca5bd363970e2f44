/- The capacity of a node, what a volume is, on both sides. Conditions: the node is an outfall or has a knot. | Plans as data; planner.within and Valid. Conditions: the plan reads as data. | Rows of rows, all of the call's own: an outer row whose cells hold slices, each in a block of its own. No function is named. Conditions: none. -/
import Derived.Test.YtoiakijmbghhlaaGreatS04
import Derived.Test.YtoiakijmbghhlaaGreatS02
import Derived.Maps.AppendAt
import Derived.Test.YtoiakijmbghhlaaGreatS01
set_option linter.unusedVariables false
set_option linter.unusedSimpArgs false
set_option maxRecDepth 100000
set_option maxHeartbeats 32000000
namespace Go.Proofs.YtoiakijmbghhlaaGreat
open Go.RowKit
theorem swithin_any (n lo hi:Int) (w:World):Calls Tryz.prog 95 #[.int .i64 n,.int .i64 lo,.int .i64 hi] w fun e w'=>e=.returned (.bool (btwB n lo hi))/\w'=w:=by
 by_cases h1:lo<=n <;> by_cases h2:n<=hi
 all_goals
  go_enter Tryz.func95,Tryz.ntmps95
  go_wp2_with fail
  go_ret
  exact ⟨ret_bool (by simp [btwB,h1,h2]),rfl⟩
def volB (n:Int):Bool:=btwB n 0 1125899906842624
theorem sholds_any (n:Int) (w:World):Calls Tryz.prog 97 #[.int .i64 n] w fun e w'=>e=.returned (.bool (volB n))/\w'=w:=by
 have H:Hid (volB n=btwB n 0 1125899906842624):=rfl
 generalize volB n=r at *
 go_enter Tryz.func97,Tryz.ntmps97
 go_wp2_with (go_at_call 95;refine (swithin_any _ _ _ _).mono ?_;rintro e w' ⟨rfl,rfl⟩)
 go_ret
 exact ⟨ret_bool H.out.symm,rfl⟩
theorem slast_any (xs:List Kn) (v:Value) (w:World) (hv:IsKns w v xs) (h1:1<=xs.length):Calls Tryz.prog 174 #[v] w fun e w'=>e=.returned (vKn (lastK xs))/\Below w.heap.size w w':=by
 obtain ⟨a,cap,rfl,hcap,hbig,hs⟩:=hv
 have hs1:=hs.mono (qr.alloc (Nat.le_refl _) (.cells #[.int .i64 0,.int .i64 0] 100))
 obtain ⟨b,off,rfl,d1,d2⟩:=hs1.kn (xs.length-1) om
 have HL:=qh (lastK_eq h1)
 clear hs hs1
 rw [HL.out]
 clear HL
 generalize xs[xs.length-1]=xl at *
 obtain ⟨x,y⟩:=xl
 simp only at d1 d2
 go_enter Tryz.func174,Tryz.ntmps174
 go_wp2_with fail
 refine bodyPost_ret (v:=.agg #[.int .i64 x,.int .i64 y]) (by simp (maxDischargeDepth:=9) [results,Tryz.results174,go_sem]) rfl ⟨rfl,bl⟩
def capB (x:Nd):Int:=if x.Kind=3 then 0 else (lastK x.Sh.xs).Y
theorem scap_any (x:Nd) (w:World) (hg:gNd w x) (hok:x.Kind=3\/1<=x.Sh.xs.length):Calls Tryz.prog 96 #[vNd x] w fun e w'=>e=.returned (.int .i64 (capB x))/\Below w.heap.size w w':=by
 obtain ⟨nm,kd,ax,ay,iv,gr,⟨sa,scap,sxs⟩,pr,rs⟩:=x
 have hsh:IsKns w (.slice sa sxs.length scap) sxs:=hg.sh.isL
 clear hg
 simp only at hok
 simp only [vNd,vSl]
 by_cases k3:kd=3
 ·subst k3
  have HC:Hid (capB ⟨nm,3,ax,ay,iv,gr,⟨sa,scap,sxs⟩,pr,rs⟩=0):=by show _=_;simp [capB]
  rw [HC.out]
  go_enter Tryz.func96,Tryz.ntmps96
  go_wp2_with fail
  go_ret
  exact ⟨rfl,bl⟩
 ·have hlen:1<=sxs.length:=by rcases hok with h|h;exact absurd h k3;exact h
  have HC:Hid (capB ⟨nm,kd,ax,ay,iv,gr,⟨sa,scap,sxs⟩,pr,rs⟩=(lastK sxs).Y):=by show _=_;simp [capB,k3]
  rw [HC.out]
  have n3:=beqF k3
  have hlast:=fun W h=>slast_any sxs (.slice sa sxs.length scap) W h hlen
  clear k3 hok HC
  generalize lastK sxs=lk at *
  obtain ⟨lx,ly⟩:=lk
  simp only [vKn] at hlast
  have hfd:∀ w:World,(Instr.field 100 (.agg #[.int .i64 lx,.int .i64 ly]) 1).run Tryz.prog w=.ok (.int .i64 ly) w:=fun _=>by kernel_rfl
  go_enter Tryz.func96,Tryz.ntmps96
  go_wp2_with fail
  refine Calls.to (hlast _ (hsh.mono (qr.alloc (Nat.le_refl _) _))) ?_
  rintro e w1 rfl hb1
  have hbb:Below w.heap.size w w1:=(qr.alloc (Nat.le_refl _) _).trans (hb1.mono (by simp))
  clear hb1 hsh hlast
  go_wp2_with fail
  go_ret
  exact ⟨rfl,hbb⟩
theorem cel_lt {w w':World} {b off:Nat} {v:Value} (h:w.cell? ⟨b,off,none⟩=some v) (hb:Below w.heap.size w w'):w'.cell? ⟨b,off,none⟩=some v:=by
 rw [hb.cell (World.block_lt_of_cell? _ _ h)];exact h
abbrev eV (x:Value):List Value:=[x]
structure OwnR {α:Type} (base:Nat) (et e:TypeId) (enc:α->List Value) (k:Nat) (w:World) (v:Value) (vs:List Value) (xss:List (List α)):Prop where
 out:Own base et eV 1 w v vs
 len:vs.length=xss.length
 row:∀ (i:Nat) (h:i<vs.length) (h':i<xss.length),Own base e enc k w vs[i] xss[i]
 apart:∀ (i j:Nat) (hi:i<vs.length) (hj:j<vs.length),i≠j->∀ g,vs[i].ownBlock=some g->vs[j].ownBlock≠some g
 off:∀ (i:Nat) (hi:i<vs.length) (g:Nat),vs[i].ownBlock=some g->v.ownBlock≠some g
section
variable {α : Type} {base : Nat} {et e : TypeId} {enc : α → List Value} {k : Nat} {w w' : World} {v : Value} {vs : List Value} {xss : List (List α)}
theorem Own.kept {xs:List α} (h:Own base e enc k w v xs) {row:Option Nat} (hg:w.grownBy w' row) (hne:∀ g,v.ownBlock=some g->row≠some g):Own base e enc k w' v xs:=by
 refine World.ownsRow.kept h hg ?_
 cases hv:v.ownBlock with
 | none=>exact .inl rfl
 | some g=>exact .inr (fun e=>hne g hv e.symm)
theorem OwnR.below (h:OwnR base et e enc k w v vs xss) (hb:Below w.heap.size w w'):OwnR base et e enc k w' v vs xss:=
 ⟨h.out.below hb,h.len,fun i h1 h2=>(h.row i h1 h2).below hb,h.apart,h.off⟩
theorem OwnR.base' {base':Nat} (h:OwnR base et e enc k w v vs xss) (hb:base'<=base):OwnR base' et e enc k w v vs xss:=
 ⟨h.out.base hb,h.len,fun i h1 h2=>(h.row i h1 h2).base hb,h.apart,h.off⟩
structure RowStep (base:Nat) (e:TypeId) (enc:α->List Value) (k:Nat) (w w':World) (old new:Value) (ys:List α):Prop where
 own:Own base e enc k w' new ys
 grown:w.grownBy w' old.ownBlock
 place:∀ g,new.ownBlock=some g->old.ownBlock=some g\/w.heap.size<=g
theorem grownBy_set (w:World) (a:Addr) (u:Value):w.grownBy (w.setCell a u) (some a.block):=
 ⟨rfl,rfl,rfl,by simp [World.setCell],fun j _ hne=>Below.heap_setCell _ _ _ _ (fun e=>hne (by rw [e]))⟩
theorem OwnR.put (h:OwnR base et e enc k w v vs xss) (i:Nat) (hi:i<vs.length) {u:Value} {ys:List α} (hs:RowStep base e enc k w w' vs[i] u ys) {g n c:Nat} (hv:v=.slice (some ⟨g,0,none⟩) n c) :
  OwnR base et e enc k (w'.setCell ⟨g,i,none⟩ u) v (vs.set i u) (xss.set i ys):=by
 have hix:i<xss.length:=by rw [<-h.len];exact hi
 have hvg:v.ownBlock=some g:=by rw [hv];rfl
 have hgl:=(h.out.lt g hvg).2
 have ho1:Own base et eV 1 w' v vs:=h.out.kept hs.grown (fun g' h1 h2=>h.off i hi g' h2 h1)
 have hug:∀ g',u.ownBlock=some g'->g'≠g:=fun g' h1 h2=>by
  subst h2
  rcases hs.place g' h1 with h3|h3
  ·exact h.off i hi g' h3 hvg
  ·omega
 have hst:Own base et eV 1 (w'.setCell ⟨g,i,none⟩ u) v (vs.set i u):=by
  subst hv
  have:=Own.store (k:=1) (enc:=eV) (fun _=>rfl) ho1 i 0 hi Nat.zero_lt_one u u rfl
  simpa using this
 have hg2:=grownBy_set w' ⟨g,i,none⟩ u
 refine ⟨hst,by simp [h.len],?_,?_,?_⟩
 ·intro j hj hjx
  by_cases hij:i=j
  ·subst hij
   rw [List.getElem_set_self,List.getElem_set_self]
   exact hs.own.kept hg2 (fun g' h1 h2=>hug g' h1 (by simpa using h2.symm))
  ·rw [List.getElem_set_ne hij,List.getElem_set_ne hij]
   have hj':j<vs.length:=by simpa using hj
   have h1:=(h.row j hj' (by rw [<-h.len];exact hj')).kept hs.grown (fun g h1 h2=>h.apart j i hj' hi (Ne.symm hij) g h1 h2)
   exact h1.kept hg2 (fun g' h1 h2=>h.off j hj' g' h1 (by rw [hvg];exact h2))
 ·intro a b ha hb hab g' h1 h2
  have ha':a<vs.length:=by simpa using ha
  have hb':b<vs.length:=by simpa using hb
  by_cases hia:i=a
  ·subst hia
   rw [List.getElem_set_self] at h1
   rw [List.getElem_set_ne hab] at h2
   rcases hs.place g' h1 with h3|h3
   ·exact h.apart i b ha' hb' hab g' h3 h2
   ·have:=((h.row b hb' (by rw [<-h.len];exact hb')).lt g' h2).2;omega
  ·rw [List.getElem_set_ne hia] at h1
   by_cases hib:i=b
   ·subst hib
    rw [List.getElem_set_self] at h2
    rcases hs.place g' h2 with h3|h3
    ·exact h.apart a i ha' hb' hab g' h1 h3
    ·have:=((h.row a ha' (by rw [<-h.len];exact ha')).lt g' h1).2;omega
   ·rw [List.getElem_set_ne hib] at h2
    exact h.apart a b ha' hb' hab g' h1 h2
 ·intro a ha g' h1 h2
  have ha':a<vs.length:=by simpa using ha
  by_cases hia:i=a
  ·subst hia
   rw [List.getElem_set_self] at h1
   exact hug g' h1 (by rw [hvg] at h2;simpa using h2.symm)
  ·rw [List.getElem_set_ne hia] at h1
   exact h.off a ha' g' h1 h2
end
theorem RowStep.below {α:Type} {base:Nat} {e:TypeId} {enc:α->List Value} {k:Nat} {w w':World} {old new:Value} {ys xs:List α} (h:RowStep base e enc k w w' old new ys) (ho:Own base e enc k w old xs) (hb:base<=w.heap.size):Below base w w':=
 (Below.refl base w).grown h.grown hb (fun j hj=>(ho.lt j hj).1)
theorem RowStep.other {α β:Type} {base b2:Nat} {e e2:TypeId} {enc:α->List Value} {enc2:β->List Value} {k k2:Nat} {w w':World} {old new:Value} {ys:List α} (h:RowStep base e enc k w w' old new ys) {v:Value} {xs:List β} (ho:Own b2 e2 enc2 k2 w v xs)
  (hne:∀ g,v.ownBlock=some g->old.ownBlock≠some g):Own b2 e2 enc2 k2 w' v xs:=ho.kept h.grown hne
theorem RowStep.apart {α β:Type} {base b2:Nat} {e e2:TypeId} {enc:α->List Value} {enc2:β->List Value} {k k2:Nat} {w w':World} {old new:Value} {ys:List α} (h:RowStep base e enc k w w' old new ys) {v:Value} {xs:List β} (ho:Own b2 e2 enc2 k2 w v xs)
  (hne:∀ g,v.ownBlock=some g->old.ownBlock≠some g):∀ g,v.ownBlock=some g->new.ownBlock≠some g:=by
 intro g hg hn
 rcases h.place g hn with h1|h1
 ·exact hne g hg h1
 ·have:=(ho.lt g hg).2;omega
theorem RowStep.cell {α:Type} {base:Nat} {e:TypeId} {enc:α->List Value} {k:Nat} {w w':World} {old new:Value} {ys:List α} (h:RowStep base e enc k w w' old new ys) {p:Addr} {v:Value} (hc:w.cell? p=some v) (hne:old.ownBlock≠some p.block):w'.cell? p=some v:=
 (World.cell?_of_block (h.grown.block p.block (lt_of_isSome (by rw [hc];rfl)) (fun e=>hne e.symm))).trans hc
theorem RowStep.frozen {α:Type} {base:Nat} {e:TypeId} {enc:α->List Value} {k:Nat} {w w':World} {old new:Value} {ys:List α} (h:RowStep base e enc k w w' old new ys) {p:Addr} (hp:p.block<w.heap.size) (hne:old.ownBlock≠some p.block):w'.frozen? p=w.frozen? p:=
 World.frozen?_of_block (h.grown.block p.block hp (fun e=>hne e.symm))
theorem OwnR.start {α:Type} {base:Nat} {et e:TypeId} {enc:α->List Value} {k:Nat} {w:World} {v:Value} {n:Nat} (h:Own base et eV 1 w v (List.replicate n (.slice none 0 0))):OwnR base et e enc k w v (List.replicate n (.slice none 0 0)) (List.replicate n ([]:List α)):=
 ⟨h,by simp,fun i h1 h2=>by simp only [List.getElem_replicate];exact World.ownsRow_nil _ _ _ _,fun i j h1 h2 _ g hg=>by simp [Value.ownBlock] at hg,fun i h1 g hg=>by simp [Value.ownBlock] at hg⟩
theorem OwnR.cellv {α:Type} {base:Nat} {et e:TypeId} {enc:α->List Value} {k:Nat} {w:World} {g n c:Nat} {vs:List Value} {xss:List (List α)} (h:OwnR base et e enc k w (.slice (some ⟨g,0,none⟩) n c) vs xss) (i:Nat) (hi:i<vs.length):w.cell? ⟨g,i,none⟩=some vs[i]:=by
 have:=Own.cellAt' (enc:=eV) (k:=1) (fun _=>rfl) h.out i 0 hi Nat.zero_lt_one
 simpa using this
theorem Own.set' {α:Type} {base:Nat} {e:TypeId} {enc:α->List Value} {k:Nat} {w:World} {v:Value} {xs:List α} (h:Own base e enc k w v xs) (a:Addr) (u:Value) (hne:v.ownBlock≠some a.block):Own base e enc k (w.setCell a u) v xs:=
 h.kept (grownBy_set w a u) (fun g hg e=>hne (by rw [hg,<-e]))
section
variable {α : Type} {P : Program} {ops : Array Oper} {rest : List Oper} {o : Oper} {a : Act} {Q : Exit → Act → World → Prop}
theorem wp_pushR {K:Act->World->Prop} (s x:Operand) (t:TypeId)
  (hop:o.op=.call { callee:=.builtin .append,args:=#[s,x],argTypes:=#[t,t] }) (e:TypeId) (z:Value) (size bytes:Nat) (ht:P.underlying t=some (.slice e))
  (hinfo:(P.info? e).map (fun i=>(i.zero,i.size,i.bytes))=some (some z,size,bytes)) (hzs:z.cells.size=size) (hsz:0<size)
  {w:World} {base:Nat} {enc:α->List Value} (y:α) (hk:∀ x,(enc x).length=size) (h1:∀ u∈enc y,u.oneCell'=true) (v:Value) (xs:List α) (hs:a.eval s=v) (hown:Own base e enc size w v xs)
  (B:Nat) (hx:a.eval x=.slice (some ⟨B,0,none⟩) 1 1) (hlen:xs.length<2147483648) (hby:bytes<=4096) (hbase:base<=w.heap.size) (hbox:w.heap[B]? = some (.cells (enc y).toArray e (0,0)))
  (h:∀ g cap w',RowStep base e enc size w w' v (.slice (some ⟨g,0,none⟩) (xs.length+1) cap) (xs ++ [y])->K (a.put o.dst (.slice (some ⟨g,0,none⟩) (xs.length+1) cap)) w'):o.wp P a w K Q:=by
 obtain ⟨i,hi,hz0,hz1,hz2⟩:=info_parts hinfo
 have hb32:(xs.length+1)*bytes<=2147483648*4096:=Nat.mul_le_mul om hby
 obtain ⟨v',w',hr,h2,h3,h4,h5⟩:=run_append_own_at (P:=P) w base t o.type e i z size bytes ht hi hz0 hz1 hz2 hzs hsz v xs.length (xs.flatMap enc) hown ⟨B,0,none⟩ 1 1 (enc y) (by rw [hk];omega) (by
  intro j u hu
  have hadd:(⟨B,0,none⟩:Addr).add j=⟨B,j,none⟩:=by unfold Addr.add;split <;> simp_all
  rw [hadd]
  simp only [World.cell?,hbox]
  simpa using hu) h1 (by simp only [maxLen];omega) om hbase
 have hown2:Own base e enc size w' v' (xs ++ [y]):=by
  unfold Own
  simpa using h2
 obtain ⟨g,cap,rfl,hbg,hlt,hc1,hc2⟩:=hown2.place (by simp)
 simp only [List.length_append,List.length_cons,List.length_nil,Nat.zero_add] at hown2 hr h5
 unfold Oper.wp execOp
 simp only [hop,resolve,invoke,builtin,Sem.run_bind,Sem.run_pure,Result.andThen_ok,List.map_toArray,List.map_cons,List.map_nil,hs,hx,hr]
 refine h g cap w' ⟨hown2,h3,fun g' hg'=>?_⟩
 rcases h5 with h5|h5
 ·left;rw [<-h5];exact hg'
 ·right
  rw [h5] at hg'
  simp only [Option.some.injEq] at hg'
  omega
theorem RowStep.alloc {β:Type} {base:Nat} {e:TypeId} {enc:β->List Value} {k:Nat} {w w':World} {ob:Obj} {old new:Value} {ys:List β} (h:RowStep base e enc k (w.alloc ob) w' old new ys):RowStep base e enc k w w' old new ys:=
 ⟨h.own,World.grownBy.trans (b:=w.alloc ob) ⟨rfl,rfl,rfl,by simp,fun j hj _=>heap_alloc_old w _ hj⟩ h.grown,fun g hg=>by
  rcases h.place g hg with h1|h1
  ·exact .inl h1
  ·right;simp at h1;omega⟩
theorem wpList_pushR (hg:o.guard=none) (s x:Operand) (t:TypeId)
  (hop:o.op=.call { callee:=.builtin .append,args:=#[s,x],argTypes:=#[t,t] }) (e:TypeId) (z:Value) (size bytes:Nat) (ht:P.underlying t=some (.slice e))
  (hinfo:(P.info? e).map (fun i=>(i.zero,i.size,i.bytes))=some (some z,size,bytes)) (hzs:z.cells.size=size) (hsz:0<size)
  {w:World} {base:Nat} {enc:α->List Value} (y:α) (hk:∀ x,(enc x).length=size) (h1:∀ u∈enc y,u.oneCell'=true) (v:Value) (xs:List α) (hs:a.eval s=v) (hown:Own base e enc size w v xs)
  (B:Nat) (hx:a.eval x=.slice (some ⟨B,0,none⟩) 1 1) (hB:w.heap.size=B) (hlen:xs.length<2147483648) (hby:bytes<=4096) (hbase:base<=w.heap.size) (cs:Array Value) (hcs:cs=(enc y).toArray)
  (h:∀ g cap w',RowStep base e enc size w w' v (.slice (some ⟨g,0,none⟩) (xs.length+1) cap) (xs ++ [y])->wpList P ops Q rest (a.put o.dst (.slice (some ⟨g,0,none⟩) (xs.length+1) cap)) w') :
  wpList P ops Q (o :: rest) a (w.alloc (.cells cs e)):=by
 subst hcs
 subst hB
 refine wpList_plain hg fun K hK=>wp_pushR s x t hop e z size bytes ht hinfo hzs hsz y hk h1 v xs hs (hown.below (qr.alloc (Nat.le_refl _) _)) w.heap.size hx hlen hby (by simp;omega) (heap_alloc_new w _) ?_
 intro g cap w' hR
 exact hK _ _ (h g cap w' hR.alloc)
theorem wpList_appR (hg:o.guard=none) (s x:Operand) (t:TypeId)
  (hop:o.op=.call { callee:=.builtin .append,args:=#[s,x],argTypes:=#[t,t] }) (e:TypeId) (z:Value) (size bytes:Nat) (ht:P.underlying t=some (.slice e))
  (hinfo:(P.info? e).map (fun i=>(i.zero,i.size,i.bytes))=some (some z,size,bytes)) (hzs:z.cells.size=size) (hsz:0<size)
  {w:World} {base:Nat} {enc:α->List Value} (hk:∀ x,(enc x).length=size) (h1:∀ y,∀ u∈enc y,u.oneCell'=true) (v:Value) (xs ys:List α) (hs:a.eval s=v) (hown:Own base e enc size w v xs)
  (ao:Option Addr) (c:Nat) (hx:a.eval x=.slice ao ys.length c) (hc:IsC enc size w ao ys) (hlen:xs.length<1073741824) (hlen2:ys.length<1073741824) (hby:bytes<=4096) (hbase:base<=w.heap.size)
  (h:∀ v' w',RowStep base e enc size w w' v v' (xs ++ ys)->wpList P ops Q rest (a.put o.dst v') w') :
  wpList P ops Q (o :: rest) a w:=by
 obtain ⟨i,hi,hz0,hz1,hz2⟩:=info_parts hinfo
 cases ys with
 | nil=>
  refine wpList_plain hg fun K hK=>?_
  obtain ⟨v',w',hr,h2⟩:∃ v' w',(Builtin.append_ #[t,t] o.type #[v,.slice ao 0 c]).run P w=.ok v' w'/\RowStep base e enc size w w' v v' xs:=by
   cases ao with
   | some ad=>
    obtain ⟨v',w',hr,q2,q3,q4,q5⟩:=run_append_own_at (P:=P) w base t o.type e i z size bytes ht hi hz0 hz1 hz2 hzs hsz v xs.length (xs.flatMap enc) hown ad 0 c [] (by simp) (fun j u hu=>by simp at hu) (fun u hu=>by cases hu) (by simp only [maxLen];omega) (by
     have:xs.length*bytes<=1073741824*4096:=Nat.mul_le_mul om hby
     simpa using (by omega:xs.length*bytes<=140737488355328)) hbase
    refine ⟨v',w',hr,by unfold Own;simpa using q2,q3,fun g hg'=>?_⟩
    rcases q5 with h5|h5
    ·left;rw [<-h5];exact hg'
    ·right;rw [h5] at hg';simp only [Option.some.injEq] at hg';omega
   | none=>
    rcases hown.2 with ⟨rfl,hn⟩|⟨g,cap,cur,rfl,hbg,hgg,hnc,hcm,hcs,htake⟩
    ·refine ⟨.slice none 0 0,w,?_,hown,World.grownBy.refl _ _,fun g hg'=>.inl hg'⟩
     simp [Builtin.append_,run_underlying ht,sizeOf,typeInfo,hi,Builtin.lenOf,Builtin.firstCells,loadCells,loadCellsFrom]
    ·refine ⟨.slice (some ⟨g,0,none⟩) xs.length cap,w,?_,hown,World.grownBy.refl _ _,fun g hg'=>.inl hg'⟩
     simp [Builtin.append_,run_underlying ht,sizeOf,typeInfo,hi,Builtin.lenOf,Builtin.firstCells,storeCells,hnc]
  unfold Oper.wp execOp
  simp only [hop,resolve,invoke,builtin,Sem.run_bind,Sem.run_pure,Result.andThen_ok,List.map_toArray,List.map_cons,List.map_nil,hs,hx,List.length_nil,hr]
  exact hK _ _ (h v' w' (by rw [List.append_nil];exact h2))
 | cons y0 yr=>
  obtain ⟨b,off,rfl,_⟩:=hc 0 (by simp)
  have hn:=hc
  refine wpList_append_own_at w hg s x t hop base e i z size bytes ht hi hz0 hz1 hz2 hzs hsz v xs.length (xs.flatMap enc) hs hown ⟨b,off,none⟩ (y0 :: yr).length c ((y0 :: yr).flatMap enc) hx (flat_len enc size hk _) ?_ ?_ (by simp only [maxLen];omega) ?_ hbase ?_
  ·intro j u hu
   have hj:j<(y0 :: yr).length*size:=by
    have:=(List.getElem?_eq_some_iff.1 hu).1
    rwa [flat_len enc size hk] at this
   have hq:j / size<(y0 :: yr).length:=by rw [Nat.div_lt_iff_lt_mul hsz];exact hj
   have hr:j % size<size:=Nat.mod_lt _ hsz
   have hmk:j=j / size*size+j % size:=by rw [Nat.mul_comm];exact (Nat.div_add_mod j size).symm
   rw [Addr.add_lit]
   obtain ⟨b',off',e1,e2⟩:=hc (j / size) hq
   simp only [Option.some.injEq,Addr.mk.injEq] at e1
   obtain ⟨rfl,rfl,_⟩:=e1
   have h3:=e2 (j % size) hr
   rw [show off+j / size*size+j % size=off+j by omega] at h3
   rw [h3]
   have h4:=flat_get enc size hk (y0 :: yr) (j / size) (j % size) hq hr
   rw [<-hmk,hu] at h4
   exact h4.symm
  ·intro u hu
   rw [List.mem_flatMap] at hu
   obtain ⟨q,_,hq⟩:=hu
   exact h1 q u hq
  ·have:(xs.length+(y0 :: yr).length)*bytes<=2147483648*4096:=Nat.mul_le_mul om hby
   omega
  ·intro v' w' q2 q3 q4 q5
   refine h v' w' ⟨by unfold Own;simpa using q2,q3,fun g hg'=>?_⟩
   rcases q5 with h5|h5
   ·left;rw [<-h5];exact hg'
   ·right;rw [h5] at hg';simp only [Option.some.injEq] at hg';omega
end
end Go.Proofs.YtoiakijmbghhlaaGreat
