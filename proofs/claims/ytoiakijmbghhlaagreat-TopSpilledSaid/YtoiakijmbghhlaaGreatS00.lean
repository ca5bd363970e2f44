/- Small plain facts that the walks of this seat share: a world that has grown by new blocks and draws ('more'), a slice of numbers that reads as a list. No progra -/
import Derived.WalkKit
import Derived.WalkSpells
import Derived.WalkLawsBesides
import Derived.Lib.Hide
import Derived.Deep.QuietTactic
import Derived.BigQuiet
set_option linter.unusedVariables false
set_option linter.unusedSimpArgs false
set_option maxRecDepth 100000
set_option maxHeartbeats 32000000
namespace Go.Proofs.YtoiakijmbghhlaaGreat
open Go.RowKit
theorem om {p : Prop} (h : p := by omega) : p := h
theorem qh {p : Prop} (h : p) : Go.RowKit.Hid p := h
theorem qr {B : Nat} {w : World} : Below B w w := Below.refl _ _
structure Ext where
 objs:Array Obj
 drawn:Nat
def more (w:World) (x:Ext):World:={ w with heap:=w.heap ++ x.objs,drawn:=x.drawn }
theorem more_heap (w:World) (x:Ext) (k:Nat) (h:k<w.heap.size):(more w x).heap[k]? = w.heap[k]?:=by
 simp only [more]
 rw [Array.getElem?_append_left h]
theorem below_more (w:World) (x:Ext):Below w.heap.size w (more w x):=
 ⟨rfl,rfl,rfl,by simp [more],fun k hk=>more_heap w x k hk⟩
theorem Below.more {B:Nat} {a w:World} (h:Below B a w) (hB:B<=w.heap.size) (x:Ext):Below B a (more w x):=
 h.trans ((below_more w x).mono hB)
theorem more_of_below {w w':World} (h:Below w.heap.size w w'):∃ x,w'=more w x:=by
 refine ⟨⟨w'.heap.extract w.heap.size w'.heap.size,w'.drawn⟩,?_⟩
 cases w' with
 | mk heap tape drawn os output=>
  obtain ⟨h1,h2,h3,h4,h5⟩:=h
  simp only at h1 h2 h3 h4 h5
  subst h1;subst h2;subst h3
  simp only [more]
  congr 1
  apply Array.ext_getElem?
  intro i
  by_cases hi:i<w.heap.size
  ·rw [Array.getElem?_append_left hi,<-h5 i hi]
  ·rw [Array.getElem?_append_right om]
   simp only [Array.getElem?_extract]
   rw [show w.heap.size+(i-w.heap.size)=i from by omega]
   split
   ·rfl
   ·rw [Array.getElem?_eq_none om]
theorem size_more (w:World) (x:Ext):(more w x).heap.size=w.heap.size+x.objs.size:=by simp [more]
theorem bl {B : Nat} {w w' : World} (h : Below B w w' := by repeat' (first | exact Below.refl _ _ | assumption | refine Below.more ?_ ?_ _ | refine Below.alloc ?_ ?_ _ | refine Below.drew ?_ | refine below_drewN ?_ _ | refine Below.setCell ?_ ?_ _ | exact Below.size (by assumption) | (simp [go_sem, size_more]; done) | (simp [go_sem, size_more]; omega))) : Below B w w' := h
@[go_sem] theorem tape_more (w:World) (x:Ext):(more w x).tape=w.tape:=rfl
theorem lt_of_isSome {w:World} {a:Addr} (h:(w.cell? a).isSome=true):a.block<w.heap.size:=by
 obtain ⟨v,hv⟩:=Option.isSome_iff_exists.1 h
 exact World.block_lt_of_cell? w a hv
@[go_sem] theorem cell_more (w:World) (x:Ext) (a:Addr) (h:(w.cell? a).isSome=true):(more w x).cell? a=w.cell? a:=
 World.cell?_of_block (w:=w) (more_heap w x a.block (lt_of_isSome h))
@[go_sem] theorem cell_alloc_some (w:World) (o:Obj) (a:Addr) (h:(w.cell? a).isSome=true):(w.alloc o).cell? a=w.cell? a:=
 World.cell?_alloc_lt w o a (lt_of_isSome h)
theorem Calls.on {P:Program} {f:FuncId} {args:Array Value} {w:World} {R:Ending->World->Prop} {Q:Ending->World->Prop}
  (h:Calls P f args w fun e w'=>R e w'/\Below w.heap.size w w') (hq:∀ e x,R e (more w x)->Q e (more w x)):Calls P f args w Q:=
 h.mono fun e w' ⟨hr,hb⟩=>by obtain ⟨x,rfl⟩:=more_of_below hb;exact hq e x hr
theorem Calls.to {P:Program} {f:FuncId} {args:Array Value} {w:World} {R:Ending->World->Prop} {Q:Ending->World->Prop}
  (h:Calls P f args w fun e w'=>R e w'/\Below w.heap.size w w') (hq:∀ e w',R e w'->Below w.heap.size w w'->Q e w'):Calls P f args w Q:=
 h.mono fun e w' ⟨hr,hb⟩=>hq e w' hr hb
def IsC {α:Type} (enc:α->List Value) (k:Nat) (w:World) (a:Option Addr) (xs:List α):Prop:=
 ∀ i (h:i<xs.length),∃ b off,a=some ⟨b,off,none⟩/\∀ j (_:j<k),w.cell? ⟨b,off+i*k+j,none⟩=some ((enc xs[i]).getD j undef)
theorem IsC.mono {α:Type} {enc:α->List Value} {k:Nat} {w w':World} {a:Option Addr} {xs:List α} (h:IsC enc k w a xs) (hb:Below w.heap.size w w'):IsC enc k w' a xs:=by
 intro i hi
 obtain ⟨b,off,ea,hc⟩:=h i hi
 refine ⟨b,off,ea,fun j hj=>?_⟩
 have hcj:=hc j hj
 rw [hb.cell (World.block_lt_of_cell? w _ hcj)]
 exact hcj
def IsL {α:Type} (enc:α->List Value) (k:Nat) (w:World) (v:Value) (xs:List α):Prop:=
 ∃ a cap,v=.slice a xs.length cap/\xs.length<=cap/\cap<=9223372036854775807/\IsC enc k w a xs
theorem IsL.mono {α:Type} {enc:α->List Value} {k:Nat} {w w':World} {v:Value} {xs:List α} (h:IsL enc k w v xs) (hb:Below w.heap.size w w'):IsL enc k w' v xs:=by
 obtain ⟨a,cap,e,h1,h2,h3⟩:=h
 exact ⟨a,cap,e,h1,h2,h3.mono hb⟩
theorem IsL.nil {α:Type} (enc:α->List Value) (k:Nat) (w:World):IsL enc k w (.slice none 0 0) []:=
 ⟨none,0,rfl,Nat.le_refl _,by omega,fun i h=>absurd h (Nat.not_lt_zero _)⟩
abbrev eInt (x:Int):List Value:=[.int .i64 x]
abbrev IsInts (w:World) (v:Value) (xs:List Int):Prop:=IsL eInt 1 w v xs
theorem IsC.int {w:World} {a:Option Addr} {xs:List Int} (h:IsC eInt 1 w a xs) (i:Nat) (hi:i<xs.length) :
  ∃ b off,a=some ⟨b,off,none⟩/\w.cell? ⟨b,off+i,none⟩=some (.int .i64 xs[i]):=by
 obtain ⟨b,off,e,hc⟩:=h i hi
 refine ⟨b,off,e,?_⟩
 have:=hc 0 om
 simpa using this
def PredOn {α:Type} (P:Program) (g:Nat) (lb:Array Value) (arg:α->Value) (p:α->Bool) (xs:List α) (w:World):Prop:=
 ∀ W,Below w.heap.size w W->∀ x,x∈xs->Calls P g (#[arg x] ++ lb) W fun e w'=>e=.returned (.bool (p x))/\Below W.heap.size W w'
def idxFrom {α:Type} (p:α->Bool):List α->Nat->Int
 | [],_=>-1
 | x :: r,i=>if p x then (i:Int) else idxFrom p r (i+1)
theorem idxFrom_any {α:Type} (p:α->Bool):∀ (xs:List α) (i:Nat),decide (0<=idxFrom p xs i)=xs.any p
 | [],i=>by simp [idxFrom]
 | x :: r,i=>by
  by_cases h:p x=true
  ·simp [idxFrom,h]
  ·simp [idxFrom,h,idxFrom_any p r (i+1)]
theorem ret_int {k:IntKind} {a b:Int} (h:a=b):Ending.returned (.int k a)=.returned (.int k b):=by rw [h]
theorem ret_bool {a b:Bool} (h:a=b):Ending.returned (.bool a)=.returned (.bool b):=by rw [h]
theorem flat_len {α:Type} (enc:α->List Value) (k:Nat) (hk:∀ x,(enc x).length=k):∀ xs:List α,(xs.flatMap enc).length=xs.length*k
 | []=>by simp
 | x :: r=>by simp only [List.flatMap_cons,List.length_append,List.length_cons,hk,flat_len enc k hk r,Nat.add_mul];omega
theorem flat_get {α:Type} (enc:α->List Value) (k:Nat) (hk:∀ x,(enc x).length=k):∀ (xs:List α) (i j:Nat) (hi:i<xs.length),j<k->(xs.flatMap enc)[i*k+j]? = some ((enc xs[i]).getD j undef)
 | x :: r,0,j,hi,hj=>by
  simp only [List.flatMap_cons,Nat.zero_mul,Nat.zero_add,List.getElem_cons_zero]
  rw [List.getElem?_append_left (by rw [hk];exact hj)]
  rw [List.getElem?_eq_getElem (by rw [hk];exact hj)]
  simp [List.getD,List.getElem?_eq_getElem (show j<(enc x).length by rw [hk];exact hj)]
 | x :: r,i+1,j,hi,hj=>by
  simp only [List.flatMap_cons,List.getElem_cons_succ]
  rw [List.getElem?_append_right (by rw [hk,Nat.add_mul];omega),hk]
  rw [show (i+1)*k+j-k=i*k+j from by rw [Nat.add_mul];omega]
  exact flat_get enc k hk r i j (by simpa using hi) hj
def Own {α:Type} (base:Nat) (e:TypeId) (enc:α->List Value) (k:Nat) (w:World) (v:Value) (xs:List α):Prop:=
 w.ownsRow base e k v xs.length (xs.flatMap enc)
theorem Own.isL {α:Type} {base:Nat} {e:TypeId} {enc:α->List Value} {k:Nat} {w:World} {v:Value} {xs:List α} (h:Own base e enc k w v xs) (hk:∀ x,(enc x).length=k):IsL enc k w v xs:=by
 rcases h.2 with ⟨rfl,hn⟩|⟨g,cap,cur,rfl,hb,hg,hnc,hcm,hcs,htake⟩
 ·obtain rfl:xs = []:=List.eq_nil_of_length_eq_zero hn
  exact IsL.nil enc k w
 ·refine ⟨some ⟨g,0,none⟩,cap,rfl,hnc,by simpa [maxLen] using hcm,fun i hi=>⟨g,0,rfl,fun j hj=>?_⟩⟩
  have h1:=World.ownsRow.cellAt (w:=w) (base:=base) (e:=e) (size:=k) (g:=g) (cap:=cap) h (i*k+j) (by have:(i+1)*k<=xs.length*k:=Nat.mul_le_mul_right _ hi;rw [Nat.add_mul] at this;omega)
  rw [Nat.zero_add,h1,flat_get enc k hk xs i j hi hj]
theorem Own.below {α:Type} {base:Nat} {e:TypeId} {enc:α->List Value} {k:Nat} {w w':World} {v:Value} {xs:List α} (h:Own base e enc k w v xs) (hb:Below w.heap.size w w'):Own base e enc k w' v xs:=
 World.ownsRow.kept (row:=none) h ⟨hb.os,hb.tape,hb.output,hb.size,fun j hj _=>hb.block j hj⟩ (by cases v.ownBlock <;> simp)
theorem Own.base {α:Type} {base base':Nat} {e:TypeId} {enc:α->List Value} {k:Nat} {w:World} {v:Value} {xs:List α} (h:Own base e enc k w v xs) (hb:base'<=base):Own base' e enc k w v xs:=by
 refine ⟨h.1,?_⟩
 rcases h.2 with h0|⟨g,cap,cur,hv,hg,r⟩
 ·exact .inl h0
 ·exact .inr ⟨g,cap,cur,hv,by omega,r⟩
theorem Own.place {α:Type} {base:Nat} {e:TypeId} {enc:α->List Value} {k:Nat} {w:World} {v:Value} {xs:List α} (h:Own base e enc k w v xs) (hne:0<xs.length) :
  ∃ g cap,v=.slice (some ⟨g,0,none⟩) xs.length cap/\base<=g/\g<w.heap.size/\xs.length<=cap/\cap<=9223372036854775807:=by
 rcases h.2 with ⟨rfl,hn⟩|⟨g,cap,cur,rfl,hb,hg,hnc,hcm,hcs,htake⟩
 ·omega
 ·exact ⟨g,cap,rfl,hb,(Array.getElem?_eq_some_iff.1 hg).1,hnc,by simpa [maxLen] using hcm⟩
theorem Own.isSlice {α:Type} {base:Nat} {e:TypeId} {enc:α->List Value} {k:Nat} {w:World} {v:Value} {xs:List α} (h:Own base e enc k w v xs) :
  ∃ a cap,v=.slice a xs.length cap:=by
 rcases h.2 with ⟨rfl,hn⟩|⟨g,cap,cur,rfl,hb,hg,hnc,hcm,hcs,htake⟩
 ·exact ⟨_,_,by rw [hn]⟩
 ·exact ⟨_,cap,rfl⟩
theorem Own.cellAt {α:Type} {base:Nat} {e:TypeId} {enc:α->List Value} {k:Nat} {w:World} {g cap:Nat} {xs:List α} (hk:∀ x,(enc x).length=k) (h:Own base e enc k w (.slice (some ⟨g,0,none⟩) xs.length cap) xs)
  (i j:Nat) (hi:i<xs.length) (hj:j<k):w.cell? ⟨g,i*k+j,none⟩=some ((enc xs[i]).getD j undef):=by
 have h1:=World.ownsRow.cellAt (w:=w) (base:=base) (e:=e) (size:=k) (g:=g) (cap:=cap) h (i*k+j) (by have:(i+1)*k<=xs.length*k:=Nat.mul_le_mul_right _ hi;rw [Nat.add_mul] at this;omega)
 rw [h1,flat_get enc k hk xs i j hi hj]
theorem Own.cellAt' {α:Type} {base:Nat} {e:TypeId} {enc:α->List Value} {k:Nat} {w:World} {g n cap:Nat} {xs:List α} (hk:∀ x,(enc x).length=k) (h:Own base e enc k w (.slice (some ⟨g,0,none⟩) n cap) xs)
  (i j:Nat) (hi:i<xs.length) (hj:j<k):w.cell? ⟨g,i*k+j,none⟩=some ((enc xs[i]).getD j undef):=by
 obtain ⟨a,c,e⟩:=h.isSlice
 simp only [Value.slice.injEq] at e
 obtain ⟨_,rfl,_⟩:=e
 exact h.cellAt hk i j hi hj
theorem Own.free {α:Type} {base:Nat} {e:TypeId} {enc:α->List Value} {k:Nat} {w:World} {g n cap:Nat} {xs:List α} (h:Own base e enc k w (.slice (some ⟨g,0,none⟩) n cap) xs) (j:Nat):w.frozen? ⟨g,j,none⟩=false:=by
 rcases h.2 with ⟨h0,hn⟩|⟨g',cap',cur,h0,hb,hg,hnc,hcm,hcs,htake⟩
 ·simp at h0
 ·simp only [Value.slice.injEq,Option.some.injEq,Addr.mk.injEq] at h0
  obtain ⟨⟨rfl,_⟩,rfl,rfl⟩:=h0
  exact World.ownsRow.frozenAt (w:=w) (base:=base) (e:=e) (size:=k) (cap:=cap) h j
theorem flat_set_cell {α:Type} (enc:α->List Value) (k:Nat) (hk:∀ x,(enc x).length=k) (y:α) (u:Value) (xs:List α) (i j:Nat) (hi:i<xs.length) (hj:j<k) (hy:enc y=(enc xs[i]).set j u) :
  (xs.set i y).flatMap enc=(xs.flatMap enc).set (i*k+j) u:=by
 apply List.ext_getElem?
 intro m
 have hL:((xs.set i y).flatMap enc).length=xs.length*k:=by rw [flat_len enc k hk];simp
 have hL2:((xs.flatMap enc).set (i*k+j) u).length=xs.length*k:=by rw [List.length_set,flat_len enc k hk]
 by_cases hm:m<xs.length*k
 ·have hk0:0<k:=by omega
  have hq:m / k<xs.length:=by rw [Nat.div_lt_iff_lt_mul hk0];exact hm
  have hr:m % k<k:=Nat.mod_lt _ hk0
  have hmk:m=m / k*k+m % k:=by rw [Nat.mul_comm];exact (Nat.div_add_mod m k).symm
  generalize m / k=q at *
  generalize m % k=r at *
  subst hmk
  rw [flat_get enc k hk _ q r (by simpa using hq) hr]
  by_cases hqi:i=q
  ·subst hqi
   rw [List.getElem_set_self,hy]
   by_cases hrj:j=r
   ·subst hrj
    rw [List.getElem?_set_self (by rw [flat_len enc k hk];exact hm)]
    simp [List.getD,List.getElem?_set_self (show j<(enc xs[i]).length by rw [hk];exact hj)]
   ·rw [List.getElem?_set_ne om,flat_get enc k hk xs i r hi hr]
    simp [List.getD,List.getElem?_set_ne hrj]
  ·rw [List.getElem_set_ne hqi,List.getElem?_set_ne,flat_get enc k hk xs q r hq hr]
   intro he
   have:i=q:=by
    have h1:(i*k+j) / k=i:=by rw [Nat.mul_comm,Nat.mul_add_div hk0,Nat.div_eq_of_lt hj,Nat.add_zero]
    have h2:(q*k+r) / k=q:=by rw [Nat.mul_comm,Nat.mul_add_div hk0,Nat.div_eq_of_lt hr,Nat.add_zero]
    rw [he] at h1;omega
   exact hqi this
 ·rw [List.getElem?_eq_none om,List.getElem?_eq_none om]
theorem Own.store {α:Type} {base:Nat} {e:TypeId} {enc:α->List Value} {k:Nat} {w:World} {g n cap:Nat} {xs:List α} (hk:∀ x,(enc x).length=k) (h:Own base e enc k w (.slice (some ⟨g,0,none⟩) n cap) xs)
  (i j:Nat) (hi:i<xs.length) (hj:j<k) (u:Value) (y:α) (hy:enc y=(enc xs[i]).set j u):Own base e enc k (w.setCell ⟨g,i*k+j,none⟩ u) (.slice (some ⟨g,0,none⟩) n cap) (xs.set i y):=by
 obtain ⟨a,c,e'⟩:=h.isSlice
 simp only [Value.slice.injEq] at e'
 obtain ⟨_,rfl,_⟩:=e'
 unfold Own at h ⊢
 rw [flat_set_cell enc k hk y u xs i j hi hj hy,List.length_set]
 exact (World.ownsRow.stored h (i*k+j) u).1
section
variable {α : Type} {P : Program} {o : Oper} {a : Act} {Q : Exit → Act → World → Prop}
theorem wp_pushAt {K:Act->World->Prop} (s x:Operand) (t:TypeId)
  (hop:o.op=.call { callee:=.builtin .append,args:=#[s,x],argTypes:=#[t,t] }) (e:TypeId) (z:Value) (size bytes:Nat) (ht:P.underlying t=some (.slice e))
  (hinfo:(P.info? e).map (fun i=>(i.zero,i.size,i.bytes))=some (some z,size,bytes)) (hzs:z.cells.size=size) (hsz:0<size)
  {w:World} {base:Nat} {enc:α->List Value} (y:α) (hk:∀ x,(enc x).length=size) (h1:∀ u∈enc y,u.oneCell'=true) (v:Value) (xs:List α) (hs:a.eval s=v) (hown:Own base e enc size w v xs)
  (B:Nat) (hx:a.eval x=.slice (some ⟨B,0,none⟩) 1 1) (hlen:xs.length<2147483648) (hby:bytes<=4096) (hbase:base<=w.heap.size) (hbox:w.heap[B]? = some (.cells (enc y).toArray e (0,0)))
  (h:∀ g cap w',Own base e enc size w' (.slice (some ⟨g,0,none⟩) (xs.length+1) cap) (xs ++ [y])->base<=g->g<w'.heap.size->Below base w w'->xs.length+1<=cap->cap<=9223372036854775807 ->
   K (a.put o.dst (.slice (some ⟨g,0,none⟩) (xs.length+1) cap)) w'):o.wp P a w K Q:=by
 obtain ⟨i,hi,hz0,hz1,hz2⟩:=info_parts hinfo
 have hb32:(xs.length+1)*bytes<=2147483648*4096:=Nat.mul_le_mul om hby
 refine wp_append_own w s x t hop base e i z size bytes ht hi hz0 hz1 hz2 hzs hsz v xs.length (xs.flatMap enc) hs hown ⟨B,0,none⟩ 1 1 (enc y) hx (by rw [hk];omega) ?_ h1 (by simp only [maxLen];omega) om hbase ?_
 ·intro j u hu
  have hadd:(⟨B,0,none⟩:Addr).add j=⟨B,j,none⟩:=by unfold Addr.add;split <;> simp_all
  rw [hadd]
  simp only [World.cell?,hbox]
  simpa using hu
 ·intro v' w' hown' hgr _
  have hown2:Own base e enc size w' v' (xs ++ [y]):=by
   unfold Own
   simpa using hown'
  obtain ⟨g,cap,rfl,hbg,hlt,hc1,hc2⟩:=hown2.place (by simp)
  have hbl:Below base w w':=(Below.refl base w).grown hgr hbase fun k hk'=>(hown.lt k hk').1
  simp only [List.length_append,List.length_cons,List.length_nil,Nat.zero_add] at hown2 hc1 ⊢
  exact h g cap w' hown2 hbg hlt hbl hc1 hc2
theorem wpList_push {ops:Array Oper} {rest:List Oper} (hg:o.guard=none) (s x:Operand) (t:TypeId)
  (hop:o.op=.call { callee:=.builtin .append,args:=#[s,x],argTypes:=#[t,t] }) (e:TypeId) (z:Value) (size bytes:Nat) (ht:P.underlying t=some (.slice e))
  (hinfo:(P.info? e).map (fun i=>(i.zero,i.size,i.bytes))=some (some z,size,bytes)) (hzs:z.cells.size=size) (hsz:0<size)
  {w:World} {base:Nat} {enc:α->List Value} (y:α) (hk:∀ x,(enc x).length=size) (h1:∀ u∈enc y,u.oneCell'=true) (v:Value) (xs:List α) (hs:a.eval s=v) (hown:Own base e enc size w v xs)
  (hx:a.eval x=.slice (some ⟨w.heap.size,0,none⟩) 1 1) (hlen:xs.length<2147483648) (hby:bytes<=4096) (hbase:base<=w.heap.size) (cs:Array Value) (hcs:cs=(enc y).toArray)
  (h:∀ g cap w',Own base e enc size w' (.slice (some ⟨g,0,none⟩) (xs.length+1) cap) (xs ++ [y])->base<=g->g<w'.heap.size->Below base w w'->xs.length+1<=cap->cap<=9223372036854775807 ->
   wpList P ops Q rest (a.put o.dst (.slice (some ⟨g,0,none⟩) (xs.length+1) cap)) w') :
  wpList P ops Q (o :: rest) a (w.alloc (.cells cs e)):=by
 subst hcs
 refine wpList_plain hg fun K hK=>wp_pushAt s x t hop e z size bytes ht hinfo hzs hsz y hk h1 v xs hs (hown.below (qr.alloc (Nat.le_refl _) _)) w.heap.size hx hlen hby (by simp;omega) (heap_alloc_new w _) ?_
 intro g cap w' q1 q2 q3 q4 q5 q6
 exact hK _ _ (h g cap w' q1 q2 q3 (((Below.refl base w).alloc hbase _).trans q4) q5 q6)
end
section
variable {α : Type} {P : Program} {ops : Array Oper} {rest : List Oper} {o : Oper} {a : Act} {Q : Exit → Act → World → Prop}
theorem wpList_mk (w:World) (hg:o.guard=none) (l c:Operand) (t:TypeId) (hop:o.op=Op.makeSlice t l c) (base:Nat) (e:TypeId) (z:Value) (bytes:Nat) (ht:P.underlying t=some (.slice e))
  (hinfo:(P.info? e).map (fun i=>(i.zero,i.size,i.bytes))=some (some z,1,bytes)) (enc:α->List Value) (z0:α) (hz0:enc z0 = [z]) (hzc:z.cells=#[z])
  (L C:Int) (n:Nat) (hl:a.eval l=.int .i64 L) (hc:a.eval c=.int .i64 C) (hL:L=(n:Int)) (hC:C=(n:Int)) (hn:n<2147483648) (hby:bytes<=4096) (hbase:base<=w.heap.size)
  (hK:∀ w',Own base e enc 1 w' (.slice (some ⟨w.heap.size,0,none⟩) n n) (List.replicate n z0)->Below w.heap.size w w'->w.heap.size<w'.heap.size->wpList P ops Q rest (a.put o.dst (.slice (some ⟨w.heap.size,0,none⟩) n n)) w') :
  wpList P ops Q (o :: rest) a w:=by
 obtain ⟨i,hi,hi0,hi1,hi2⟩:=info_parts hinfo
 have hb32:bytes*n<=4096*2147483648:=Nat.mul_le_mul hby om
 refine wpList_make_full w hg l c t hop base e i z 1 ht hi hi0 hi1 .i64 .i64 L C n hl hc hL hC (by rw [hi2];omega) (by simp only [maxLen];omega) hbase ?_
 intro w' hown hgr
 rw [hzc,Nat.mul_one,toList_madeCells_one] at hown
 have hflat:(List.replicate n z0).flatMap enc=List.replicate n z:=by
  clear hown hgr hK hl hc hL hC hn hb32
  induction n with
  | zero=>rfl
  | succ n ih=>simp only [List.replicate_succ,List.flatMap_cons,hz0,ih];rfl
 have hO:Own base e enc 1 w' (.slice (some ⟨w.heap.size,0,none⟩) n n) (List.replicate n z0):=by
  unfold Own
  rw [hflat,List.length_replicate]
  exact hown
 refine hK w' hO (qr.grown hgr (Nat.le_refl _) (fun k hk=>by cases hk)) ?_
 rcases hown.2 with ⟨h0,_⟩|⟨g,cap,cur,h0,_,hg',_⟩
 ·simp at h0
 ·simp only [Value.slice.injEq,Option.some.injEq,Addr.mk.injEq] at h0
  obtain ⟨⟨rfl,_⟩,_⟩:=h0
  exact (Array.getElem?_eq_some_iff.1 hg').1
theorem wpList_mk0 (w:World) (hg:o.guard=none) (l c:Operand) (t:TypeId) (hop:o.op=Op.makeSlice t l c) (base:Nat) (e:TypeId) (z:Value) (size bytes:Nat) (ht:P.underlying t=some (.slice e))
  (hinfo:(P.info? e).map (fun i=>(i.zero,i.size,i.bytes))=some (some z,size,bytes)) (enc:α->List Value)
  (C:Int) (n:Nat) (hl:a.eval l=.int .i64 0) (hc:a.eval c=.int .i64 C) (hC:C=(n:Int)) (hn:n<2147483648) (hby:bytes<=4096) (hbase:base<=w.heap.size)
  (hK:∀ w',Own base e enc size w' (.slice (some ⟨w.heap.size,0,none⟩) 0 n) []->Below w.heap.size w w'->wpList P ops Q rest (a.put o.dst (.slice (some ⟨w.heap.size,0,none⟩) 0 n)) w') :
  wpList P ops Q (o :: rest) a w:=by
 obtain ⟨i,hi,hi0,hi1,hi2⟩:=info_parts hinfo
 have hb32:bytes*n<=4096*2147483648:=Nat.mul_le_mul hby om
 refine wpList_make_own w hg l c t hop base e i z size ht hi hi0 hi1 .i64 .i64 C n hl hc hC (by rw [hi2];omega) (by simp only [maxLen];omega) hbase ?_
 intro w' hown hgr
 exact hK w' hown (qr.grown hgr (Nat.le_refl _) (fun k hk=>by cases hk))
end
structure Ev where
 From:Int
 To:Int
 Total:Int
 Peak:Int
deriving DecidableEq,Repr
instance:Inhabited Ev:=⟨⟨0,0,0,0⟩⟩
abbrev eEv (e:Ev):List Value:=[.int .i64 e.From,.int .i64 e.To,.int .i64 e.Total,.int .i64 e.Peak]
abbrev IsEvs (w:World) (v:Value) (xs:List Ev):Prop:=IsL eEv 4 w v xs
theorem eEv_len (x:Ev):(eEv x).length=4:=rfl
theorem IsC.ev {w:World} {a:Option Addr} {xs:List Ev} (h:IsC eEv 4 w a xs) (i:Nat) (hi:i<xs.length) :
  ∃ b off,a=some ⟨b,off,none⟩/\w.cell? ⟨b,off+i*4,none⟩=some (.int .i64 xs[i].From)/\w.cell? ⟨b,off+i*4+1,none⟩=some (.int .i64 xs[i].To) /\
   w.cell? ⟨b,off+i*4+2,none⟩=some (.int .i64 xs[i].Total)/\w.cell? ⟨b,off+i*4+3,none⟩=some (.int .i64 xs[i].Peak):=by
 obtain ⟨b,off,e,hc⟩:=h i hi
 refine ⟨b,off,e,?_,?_,?_,?_⟩
 ·simpa using hc 0 om
 ·simpa using hc 1 om
 ·simpa using hc 2 om
 ·simpa using hc 3 om
theorem results_tmp4 {fn:Func} {t u v x:Tmp} (h:fn.results=#[.tmp t,.tmp u,.tmp v,.tmp x]) (tmps:Array Value) (P:Program) (w:World) :
  (results fn tmps).run P w=.ok (.tuple #[tmps.getD t undef,tmps.getD u undef,tmps.getD v undef,tmps.getD x undef]) w:=by
 simp [results,h]
theorem Calls.go {P:Program} {f:FuncId} {args:Array Value} {w0 w:World} {R:Ending->World->Prop} {Q:Ending->World->Prop} (hbb:Below w0.heap.size w0 w)
  (h:Calls P f args w fun e w'=>R e w'/\Below w.heap.size w w') (hq:∀ e w',R e w'->Below w.heap.size w w'->Below w0.heap.size w0 w'->Q e w'):Calls P f args w Q:=
 h.mono fun e w' ⟨hr,hb⟩=>hq e w' hr hb (hbb.trans (hb.mono hbb.size))
section
variable {α : Type} {P : Program} {o : Oper} {a : Act} {Q : Exit → Act → World → Prop}
theorem wpList_pushB {ops:Array Oper} {rest:List Oper} (hg:o.guard=none) (s x:Operand) (t:TypeId)
  (hop:o.op=.call { callee:=.builtin .append,args:=#[s,x],argTypes:=#[t,t] }) (e:TypeId) (z:Value) (size bytes:Nat) (ht:P.underlying t=some (.slice e))
  (hinfo:(P.info? e).map (fun i=>(i.zero,i.size,i.bytes))=some (some z,size,bytes)) (hzs:z.cells.size=size) (hsz:0<size)
  {w:World} {base:Nat} {enc:α->List Value} (y:α) (hk:∀ x,(enc x).length=size) (h1:∀ u∈enc y,u.oneCell'=true) (v:Value) (xs:List α) (hs:a.eval s=v) (hown:Own base e enc size w v xs)
  (B:Nat) (hx:a.eval x=.slice (some ⟨B,0,none⟩) 1 1) (hB:w.heap.size=B) (hlen:xs.length<2147483648) (hby:bytes<=4096) (hbase:base<=w.heap.size) (cs:Array Value) (hcs:cs=(enc y).toArray)
  (h:∀ g cap w',Own base e enc size w' (.slice (some ⟨g,0,none⟩) (xs.length+1) cap) (xs ++ [y])->base<=g->g<w'.heap.size->Below base w w'->xs.length+1<=cap->cap<=9223372036854775807 ->
   wpList P ops Q rest (a.put o.dst (.slice (some ⟨g,0,none⟩) (xs.length+1) cap)) w') :
  wpList P ops Q (o :: rest) a (w.alloc (.cells cs e)):=by
 subst hB
 exact wpList_push hg s x t hop e z size bytes ht hinfo hzs hsz y hk h1 v xs hs hown hx hlen hby hbase cs hcs h
end
theorem Own.fresh {α:Type} {enc:α->List Value} {k:Nat} (hk:∀ x,(enc x).length=k) (w:World) (base:Nat) (hb:base<=w.heap.size) (e:TypeId) (x:α) (cs:Array Value) (hcs:cs=(enc x).toArray) :
  Own base e enc k (w.alloc (.cells cs e)) (.slice (some ⟨w.heap.size,0,none⟩) 1 1) [x]:=by
 subst hcs
 refine ⟨by simp [hk],.inr ⟨w.heap.size,1,_,rfl,hb,heap_alloc_new w _,Nat.le_refl _,by decide,by simp [hk],?_⟩⟩
 simp only [Nat.one_mul,List.flatMap_cons,List.flatMap_nil,List.append_nil]
 exact List.take_of_length_le (by simp [hk])
section
variable {α : Type} {enc : α → List Value} {k : Nat} {P : Program} {t : TypeId}
end
instance:Inhabited Ext:=⟨⟨#[],0⟩⟩
theorem wp_region_more_lit {P:Program} {id:Nat} {Q:Exit->Act->World->Prop} {a:Act} {w:World} {l:List Oper} (hm:P.follows .mixedOrders=true) (hB:Region.lexB .any l.toArray=true)
  (h:wpQuiet P l.toArray (fun w'=>∃ x,w'=more w x) (fun a'=>∀ w',(∃ x,w'=more w x)->Q .normal a' w') l a):(Code.region id l.toArray true).wp P Q a w:=
 wp_region_quiet (C:=fun w'=>∃ x,w'=more w x) hm hB ⟨⟨#[],w.drawn+1⟩,by simp [more]⟩ (by simpa using h)
theorem Calls.more_of {P:Program} {f:FuncId} {args:Array Value} {w:World} {x:Ext} {v:Value}
  (h:Calls P f args (more w x) fun e w'=>e=.returned v/\Below (more w x).heap.size (more w x) w'):Calls P f args (more w x) fun e w''=>e=.returned v/\∃ y,w''=more w y:=
 h.mono fun _ w' ⟨he,hb⟩=>⟨he,more_of_below ((below_more w x).trans (hb.mono (by rw [size_more];omega)))⟩
theorem Calls.more_same {P:Program} {f:FuncId} {args:Array Value} {w:World} {x:Ext} {v:Value}
  (h:Calls P f args (more w x) fun e w'=>e=.returned v/\w'=more w x):Calls P f args (more w x) fun e w''=>e=.returned v/\∃ y,w''=more w y:=
 h.mono fun _ _ ⟨he,hb⟩=>⟨he,x,hb⟩
end Go.Proofs.YtoiakijmbghhlaaGreat
