/- copy of elements of several cells, as a law for the walk. No function is named. Conditions: the row that is written is known whole. | slices.Repeat of one truth value. Conditions: at most 300 times. | A region that draws its order: reads, calls, allocs, and one store at its end, walked by an invariant. What each operation leaves is a fact that stays true in g -/
import Derived.Laws.CopyOwn
import Derived.Deep.RegionLaw
import Derived.Test.YtoiakijmbghhlaaGreatS00
import Derived.StillTailTactics
import Derived.Test.YtoiakijmbghhlaaGreatS23
import Derived.Test.YtoiakijmbghhlaaGreatS05
import Derived.Test.YtoiakijmbghhlaaGreatS25
set_option linter.unusedVariables false
set_option linter.unusedSimpArgs false
set_option maxRecDepth 100000
set_option maxHeartbeats 32000000
namespace Go.Proofs.YtoiakijmbghhlaaGreat
open Go.RowKit
section
variable {P : Program} {w : World} {o : Oper} {a : Act} {Q : Exit → Act → World → Prop}
theorem run_copy_k (w:World) (dT sT ty elem:TypeId) (g off dLen dCap:Nat) (ad:Addr) (sLen sCap k:Nat) (cur:List Value) (t:TypeId) (cs:List Value)
  (hu:P.underlying dT=some (.slice elem)) (hs:(P.info? elem).map (·.size)=some k)
  (hg:w.heap[g]? = some (.cells cur.toArray t (0,0))) (hn:cs.length=Nat.min sLen dLen*k)
  (hsrc:∀ j v,cs[j]? = some v->w.cell? (ad.add j)=some v) (hfit:off+cs.length<=cur.length) (h1:∀ v∈cs,v.oneCell'=true) :
  (Builtin.copy_ #[dT,sT] ty #[.slice (some ⟨g,off,none⟩) dLen dCap,.slice (some ad) sLen sCap]).run P w =
   .ok (goInt (Nat.min sLen dLen)) (w.setRow g (splice cur off cs).toArray):=by
 have hl:=run_loadCells_list (P:=P) w ad cs hsrc
 have hst:=run_storeCells_at P g off t cs 0 cur.toArray w hg (by simpa using hfit) h1
 cases hq:P.info? elem with
 | none=>simp [hq] at hs
 | some i=>
  have hi:i.size=k:=by simpa [hq] using hs
  simp [Builtin.copy_,run_underlying hu,Builtin.lenOf,Builtin.firstCells,sizeOf,typeInfo,hq,hi,<-hn,hl,hst,splice]
theorem wpList_copy_k {ops:Array Oper} {rest:List Oper} (hgd:o.guard=none) (d s:Operand) (dT sT:TypeId)
  (ho:o.op=.call { callee:=.builtin .copy,args:=#[d,s],argTypes:=#[dT,sT] }) (elem:TypeId) (hu:P.underlying dT=some (.slice elem)) (k:Nat) (hsz:(P.info? elem).map (·.size)=some k)
  (g off dLen dCap:Nat) (ad:Addr) (sLen sCap:Nat) (hd:a.eval d=.slice (some ⟨g,off,none⟩) dLen dCap) (hs:a.eval s=.slice (some ad) sLen sCap)
  (cur:List Value) (t:TypeId) (hg:w.heap[g]? = some (.cells cur.toArray t (0,0))) (cs:List Value) (n:Nat) (hm:Nat.min sLen dLen=n) (hn:cs.length=n*k)
  (hsrc:∀ j v,cs[j]? = some v->w.cell? (ad.add j)=some v) (hfit:off+cs.length<=cur.length) (h1:∀ v∈cs,v.oneCell'=true) (B:Nat) (w0:World) (hb:Below B w0 w) (hBg:B<=g)
  (h:∀ w',Hid (w'.heap[g]? = some (.cells (splice cur off cs).toArray t (0,0)))->(∀ j,j≠g->w'.heap[j]? = w.heap[j]?)->Below B w0 w'->wpList P ops Q rest (a.put o.dst (goInt n)) w') :
  wpList P ops Q (o :: rest) a w:=by
 refine wpList_plain hgd fun K hK=>?_
 subst hm
 have hrun:=run_copy_k (P:=P) w dT sT o.type elem g off dLen dCap ad sLen sCap k cur t cs hu hsz hg hn hsrc hfit h1
 unfold Oper.wp
 simp [execOp,ho,resolve,invoke,builtin,hd,hs,hrun,Result.andThen]
 exact hK _ _ (h _ (setRow_heap w g _ _ t _ hg) (fun j hj=>setRow_other w g j _ hj) (below_setRow hb hBg _))
end
theorem bitsmul_one (N:Nat) (w:World) (hN:N<=300) :
  Calls Tryz.prog 133 #[.int .u64 1,.int .u64 (N:Int)] w fun e w'=>e=.returned (.tuple #[.int .u64 0,.int .u64 (N:Int)])/\w'=w:=by
 have hm:=mul64_any 1 N w om om
 rw [Nat.one_mul,show N / 18446744073709551616=0 from by omega,show N % 18446744073709551616=N from by omega,show ((1:Nat):Int)=1 from rfl,show ((0:Nat):Int)=0 from rfl] at hm
 have x1:IntKind.u64.wrap (N:Int)=N:=IntWalk.u64_in _ om
 go_enter Tryz.func133,Tryz.ntmps133
 go_wp2_with fail
 refine hm.mono ?_
 rintro e w1 ⟨rfl,rfl⟩
 go_wp2_with fail
 go_ret2
 exact ⟨rfl,rfl⟩
theorem flat_bools:∀ xs:List Bool,xs.flatMap eBool=xs.map Value.bool
 | []=>rfl
 | x :: r=>by simp [List.flatMap_cons,flat_bools r]
theorem own_raw {w:World} {base g N:Nat} {e:TypeId} {xs:List Bool} (h:Own base e eBool 1 w (.slice (some ⟨g,0,none⟩) N N) xs):w.heap[g]? = some (.cells (xs.map Value.bool).toArray e (0,0)):=by
 rcases h.2 with ⟨h0,hn⟩|⟨g',cap',cur,h0,hb,hg,hnc,hcm,hcs,htake⟩
 ·simp at h0
 ·simp only [Value.slice.injEq,Option.some.injEq,Addr.mk.injEq] at h0
  obtain ⟨⟨rfl,_⟩,hNx,rfl⟩:=h0
  have hfl:=flat_bools xs
  rw [hfl] at htake
  have hcur:cur=(xs.map Value.bool).toArray:=by
   rw [<-htake]
   apply Array.ext'
   rw [List.toList_toArray,List.take_of_length_le]
   rw [Array.length_toList]
   omega
  rw [<-hcur];exact hg
theorem raw_isL {w:World} {g N:Nat} {e:TypeId} {xs:List Bool} (h:w.heap[g]? = some (.cells (xs.map Value.bool).toArray e (0,0))) (hl:xs.length=N) (hN:N<=300):IsBools w (.slice (some ⟨g,0,none⟩) N N) xs:=by
 subst hl
 refine ⟨some ⟨g,0,none⟩,xs.length,rfl,Nat.le_refl _,by omega,fun i hi=>⟨g,0,rfl,fun j hj=>?_⟩⟩
 have hj0:j=0:=by omega
 subst hj0
 rw [show 0+i*1+0=i from by omega]
 refine (tank_blk h i).trans ?_
 simp [hi]
def repL (N m:Nat):List Bool:=List.replicate m true ++ List.replicate (N-m) false
theorem repL_len {N m:Nat} (h:m<=N):(repL N m).length=N:=by simp [repL];omega
theorem repL_all (N:Nat):repL N N=List.replicate N true:=by simp [repL]
theorem repL_zero (N:Nat):repL N 0=List.replicate N false:=by simp [repL]
theorem repL_splice {N m c:Nat} (h:m+c<=N):splice ((repL N m).map Value.bool) m (List.replicate c (Value.bool true))=(repL N (m+c)).map Value.bool:=by
 unfold splice repL
 simp only [List.map_append,List.map_replicate,List.length_replicate]
 rw [List.take_append_of_le_length (by simp),List.take_of_length_le (by simp)]
 rw [List.drop_append,List.drop_eq_nil_of_le (by simp),List.nil_append]
 simp only [List.length_replicate,List.drop_replicate]
 rw [<-List.append_assoc,List.replicate_append_replicate]
 congr 2
 omega
theorem repL_at {w:World} {g N m:Nat} {e:TypeId} (h:w.heap[g]? = some (.cells ((repL N m).map Value.bool).toArray e (0,0))) (c:Nat) (hc:c<=m) (j:Nat) (v:Value) (hj:(List.replicate c (Value.bool true))[j]? = some v):w.cell? ((⟨g,0,none⟩:Addr).add j)=some v:=by
 rw [List.getElem?_replicate] at hj
 split at hj
 ·rename_i hjc
  cases hj
  rw [Addr.add_lit,Nat.zero_add,tank_blk h j]
  unfold repL
  simp only [List.map_append,List.map_replicate]
  rw [List.getElem?_toArray,List.getElem?_append_left (by simp;omega),List.getElem?_replicate,if_pos om]
 ·cases hj
theorem subB_l (g N m:Nat) (hm:m<N) (W:World):(Instr.sliceAt 29 (.slice (some ⟨g,0,none⟩) N N) (some (.int .i64 (m:Int))) none none).run Tryz.prog W=.ok (.slice (some ⟨g,m,none⟩) (N-m) (N-m)) W:=by
 have hel:Tryz.prog.elem 29=4:=by kernel_rfl
 have ht:Tryz.prog.underlying 29=some (.slice (Tryz.prog.elem 29)):=by rw [hel];exact undBools
 have hsz:∀ W,(sizeOf (Tryz.prog.elem 29)).run Tryz.prog W=.ok 1 W:=by rw [hel];exact Tryz.sizeOf4
 rw [run_sliceAt_slice _ _ _ _ _ _ ht,run_slice_l W 29 _ _ _ ht .i64 m om om,hsz]
 simp only [Result.andThen,Int.toNat_natCast,sliced]
 rw [if_neg om]
 simp [Addr.add_lit]
theorem subB_h (g N m:Nat) (hm:m<=N) (h0:0<N) (W:World):(Instr.sliceAt 29 (.slice (some ⟨g,0,none⟩) N N) none (some (.int .i64 (m:Int))) none).run Tryz.prog W=.ok (.slice (some ⟨g,0,none⟩) m N) W:=by
 have hel:Tryz.prog.elem 29=4:=by kernel_rfl
 have ht:Tryz.prog.underlying 29=some (.slice (Tryz.prog.elem 29)):=by rw [hel];exact undBools
 have hsz:∀ W,(sizeOf (Tryz.prog.elem 29)).run Tryz.prog W=.ok 1 W:=by rw [hel];exact Tryz.sizeOf4
 rw [run_sliceAt_slice _ _ _ _ _ _ ht,run_slice_h W 29 _ _ _ ht .i64 m om om,hsz]
 simp only [Result.andThen,Int.toNat_natCast,sliced]
 rw [if_neg om]
 simp [Addr.add_lit]
theorem repeat_any (N B:Nat) (w:World) (hN:N<=300) (h0:w.cell? ⟨B,0,none⟩=some (.bool true)) :
  Calls Tryz.prog 63 #[.slice (some ⟨B,0,none⟩) 1 1,.int .i64 (N:Int)] w fun e w'=>(∃ v,e=.returned v/\IsBools w' v (List.replicate N true))/\Below w.heap.size w w':=by
 have hmu:=bitsmul_one N w hN
 have x1:IntKind.u64.wrap (N:Int)=N:=IntWalk.u64_in _ om
 have x2:IntKind.i64.wrap (N:Int)=N:=IntWalk.i64_in _ om
 have i1:decide ((N:Int)<0)=false:=decide_eq_false om
 have i2:decide ((9223372036854775807:Int)<N)=false:=decide_eq_false om
 have hll:N<2147483648:=by omega
 have HN3:=qh hN
 clear hN
 go_enter Tryz.func63,Tryz.ntmps63
 go_upto_region 3 with (fail)
 go_wp2_with (first|(at_builtin;fail)|fail)
 refine hmu.mono ?_
 rintro e w1 ⟨rfl,rfl⟩
 go_upto_region 6 with (fail)
 go_upto_region 7 with (refine wpList_mk _ rfl _ _ 29 rfl w1.heap.size 4 _ 1 undBools infBool eBool false rfl rfl _ _ N rfl rfl rfl rfl hll om (Nat.le_refl _) ?_;intro w2 hown hb2 hlt2)
 obtain ⟨g,hg⟩:∃ g,g=w1.heap.size:=⟨_,rfl⟩
 rw [<-hg] at hown hlt2 ⊢
 have hgB:w1.heap.size<=g:=by omega
 clear hg
 obtain ⟨m0,hm0⟩:∃ m,m=Nat.min 1 N:=⟨_,rfl⟩
 have hm1:m0<=N/\m0<=1/\(0<N->0<m0):=by
  have h1:m0=min 1 N:=hm0
  omega
 have HM0:=qh hm0
 clear hm0
 have hraw:w2.heap[g]? = some (.cells ((repL N 0).map Value.bool).toArray 4 (0,0)):=by rw [repL_zero];exact own_raw hown
 have hsp:splice ((repL N 0).map Value.bool) 0 (List.replicate m0 (Value.bool true))=(repL N m0).map Value.bool:=by
  have:=repL_splice (N:=N) (m:=0) (c:=m0) om
  rwa [Nat.zero_add] at this
 have h02:=cel_lt h0 hb2
 have hsrc:∀ (j:Nat) (v:Value),(List.replicate m0 (Value.bool true))[j]? = some v->w2.cell? ((⟨B,0,none⟩:Addr).add j)=some v:=by
  intro j v hj
  rw [List.getElem?_replicate] at hj
  split at hj
  ·cases hj
   have:j=0:=by omega
   subst this
   rw [Addr.add_lit];exact h02
  ·cases hj
 have hfit:0+(List.replicate m0 (Value.bool true)).length<=((repL N 0).map Value.bool).length:=by simp [repL_len (Nat.zero_le N)];exact hm1.1
 have hone:∀ v∈List.replicate m0 (Value.bool true),v.oneCell'=true:=by
  intro v hv
  rw [List.mem_replicate] at hv
  rw [hv.2];rfl
 go_wp2_with (refine wpList_copy_k rfl _ _ 29 29 rfl 4 undBools 1 (by kernel_rfl) g 0 N N ⟨B,0,none⟩ 1 1 rfl rfl ((repL N 0).map Value.bool) 4 hraw (List.replicate m0 (Value.bool true)) m0 HM0.out.symm (by simp) hsrc hfit hone w1.heap.size w1 hb2 hgB ?_;intro w3 hr3 ho3 hb3)
 rw [hsp] at hr3
 clear hraw hown hsp h02 hlt2 hb2 hsrc hfit hone
 go_wp2_with fail
 go_loopw [8] (fun s8 wr=>∃ m:Nat,m<=N/\s8=.int .i64 m/\(0<N->0<m)/\Hid (wr.heap[g]? = some (.cells ((repL N m).map Value.bool).toArray 4 (0,0)))/\Below w1.heap.size w1 wr) (fun s8 _=>N-(RowKit.intOf s8).toNat)
 case atStart=>exact ⟨m0,hm1.1,rfl,hm1.2.2,hr3,hb3⟩
 clear hr3 hb3 ho3 hm1
 case round=>
  obtain ⟨m,hmN,rfl,hm0,HR,hb⟩:=hrel
  by_cases hlt:m<N
  ·have i3:decide (m<N)=true:=decide_eq_true hlt
   obtain ⟨c,hc⟩:∃ c,c=Nat.min m (N-m):=⟨_,rfl⟩
   have hc1:0<c/\c<=m/\m+c<=N:=by
    have h1:c=min m (N-m):=hc
    have:=hm0 om
    omega
   have HC:=qh hc
   clear hc
   have hs1:=fun W=>subB_l g N m hlt W
   have hs2:=fun W=>subB_h g N m hmN om W
   have hsp:=repL_splice (N:=N) (m:=m) (c:=c) hc1.2.2
   have x3:IntKind.i64.wrap ((m:Int)+c)=((m+c:Nat):Int):=by rw [IntWalk.i64_in _ (by have:=HN3.out;omega)];omega
   have hsrc:∀ (j:Nat) (v:Value),(List.replicate c (Value.bool true))[j]? = some v->(wr.drew).cell? ((⟨g,0,none⟩:Addr).add j)=some v:=fun j v hj=>repL_at (w:=wr) HR.out c hc1.2.1 j v hj
   have hfit:m+(List.replicate c (Value.bool true)).length<=((repL N m).map Value.bool).length:=by simp [repL_len hmN];exact hc1.2.2
   have hone:∀ v∈List.replicate c (Value.bool true),v.oneCell'=true:=by
    intro v hv
    rw [List.mem_replicate] at hv
    rw [hv.2];rfl
   have hgd:(wr.drew).heap[g]? = some (.cells ((repL N m).map Value.bool).toArray 4 (0,0)):=HR.out
   have hcp:∀ ty,(Builtin.copy_ #[29,29] ty #[.slice (some ⟨g,m,none⟩) (N-m) (N-m),.slice (some ⟨g,0,none⟩) m N]).run Tryz.prog wr.drew=.ok (.int .i64 (c:Int)) ((wr.drew).setRow g ((repL N (m+c)).map Value.bool).toArray):=fun ty=>by
    have h:=run_copy_k (P:=Tryz.prog) wr.drew 29 29 ty 4 g m (N-m) (N-m) ⟨g,0,none⟩ m N 1 ((repL N m).map Value.bool) 4 (List.replicate c (Value.bool true)) undBools (by kernel_rfl) hgd (by rw [List.length_replicate,HC.out];simp) hsrc hfit hone
    rw [hsp,<-HC.out] at h
    exact h
   have hr4:Hid ((((wr.drew).setRow g ((repL N (m+c)).map Value.bool).toArray)).heap[g]? = some (.cells ((repL N (m+c)).map Value.bool).toArray 4 (0,0))):=setRow_heap wr.drew g _ _ _ _ hgd
   have hb4:Below w1.heap.size w1 ((wr.drew).setRow g ((repL N (m+c)).map Value.bool).toArray):=below_setRow (Below.drew hb) hgB _
   clear hsrc hfit hone hgd hsp
   go_upto_region 9 with (fail)
   go_region
   go_wp2_with fail
   go_roundw
   case measure=>simp [RowKit.intOf];omega
   case rel=>exact ⟨m+c,hc1.2.2,by go_num,fun _=>by omega,hr4,hb4⟩
  ·have i3:decide (m<N)=false:=decide_eq_false hlt
   obtain rfl:m=N:=by omega
   have hfin:IsBools wr (.slice (some ⟨g,0,none⟩) m m) (List.replicate m true):=by
    rw [<-repL_all]
    exact raw_isL HR.out (repL_len (Nat.le_refl _)) HN3.out
   go_wp2_with fail
   go_ret
   exact ⟨⟨.slice (some ⟨g,0,none⟩) m m,rfl,hfin⟩,hb⟩
def gJ (n:Nat) (fr:(Nat->Value)->Act) (F:Nat->World->Value->Prop) (R:World->(Nat->Value)->World->Prop) (w0:World) (l:Array Bool) (a:Act) (W:World):Prop:=
  l.size=n+1/\∃ y,a=fr y /\
    ((l.getD n false = false ∧ Below w0.heap.size w0 W ∧ ∀ j, j < n → l.getD j false = true → F j W (y j)) ∨
     (l.getD n false=true/\(∀ j,j<n->l.getD j false=true)/\∃ V,Below w0.heap.size w0 V/\(∀ j,j<n->F j V (y j))/\R V y W))
section
variable {n : Nat} {fr : (Nat → Value) → Act} {F : Nat → World → Value → Prop} {R : World → (Nat → Value) → World → Prop} {w0 W W' : World} {l : Array Bool} {y : Nat → Value} {i : Nat}
theorem gJ_fin {a:Act} (h:gJ n fr F R w0 l a W) (hall:l.getD n false=true):∃ y V,a=fr y/\Below w0.heap.size w0 V/\(∀ j,j<n->F j V (y j))/\R V y W:=by
 obtain ⟨hz,y,ha,h⟩:=h
 rcases h with ⟨h1,-⟩|⟨-,-,V,h2,h3,h4⟩
 ·rw [hall] at h1;cases h1
 ·exact ⟨y,V,ha,h2,h3,h4⟩
theorem gJ_start (hb:Below w0.heap.size w0 W) (y:Nat->Value):gJ n fr F R w0 (Array.replicate (n+1) false) (fr y) W:=by
 have h0:∀ j,(Array.replicate (n+1) false).getD j false=false:=fun j=>by
  simp only [Array.getD]
  split <;> simp
 refine ⟨by simp,y,rfl,.inl ⟨h0 n,hb,fun j _ h=>?_⟩⟩
 rw [h0] at h;cases h
theorem gJ_op (hF:∀ j W W' v,Below W.heap.size W W'->F j W v->F j W' v) (hz:l.size=n+1) (hn:l.getD n false=false) (hb:Below w0.heap.size w0 W) (hV:∀ j,j<n->l.getD j false=true->F j W (y j)) (hi:i<n) {v:Value} {a:Act}
  (ha:a=fr (upY y i v)) (hbW:Below W.heap.size W W') (hv:F i W' v):gJ n fr F R w0 (l.setIfInBounds i true) a W':=by
 refine ⟨by simpa using hz,upY y i v,ha,.inl ⟨by rw [gD_setF om];exact hn,hb.trans (hbW.mono hb.size),fun j hj hl=>?_⟩⟩
 unfold upY
 by_cases e:j=i
 ·rw [if_pos e,e];exact hv
 ·rw [if_neg e]
  rw [gD_setF e] at hl
  exact hF j W W' _ hbW (hV j hj hl)
theorem gJ_last (hz:l.size=n+1) (hb:Below w0.heap.size w0 W) (hV:∀ j,j<n->l.getD j false=true->F j W (y j)) (hall:∀ j,j<n->l.getD j false=true) {a:Act} (ha:a=fr y) (hR:R W y W'):gJ n fr F R w0 (l.setIfInBounds n true) a W':=
 ⟨by simpa using hz,y,ha,.inr ⟨gD_setT om,fun j hj=>by rw [gD_setF om];exact hall j hj,W,hb,fun j hj=>hV j hj (hall j hj),hR⟩⟩
theorem gJ_open {a:Act} (h:gJ n fr F R w0 l a W) (hun:l.getD i true=false) (hi:i<n+1) :
  ∃ y,a=fr y/\l.getD n false=false/\Below w0.heap.size w0 W/\∀ j,j<n->l.getD j false=true->F j W (y j):=by
 obtain ⟨hz,y,ha,h⟩:=h
 rcases h with ⟨h1,h2,h3⟩|⟨h1,hall,-⟩
 ·exact ⟨y,ha,h1,h2,h3⟩
 ·exfalso
  rw [gD_tf om] at hun
  by_cases e:i=n
  ·rw [e,h1] at hun;cases hun
  ·rw [hall i om] at hun;cases hun
end
end Go.Proofs.YtoiakijmbghhlaaGreat
