/- Readers: what the cells of an argument hold, as plain data, type by type (integers, booleans, strings, slices, structs, arrays). No function is named. Condition | States as arguments: how they read, IndexFunc and ContainsFunc at states. Conditions: none. | Knots, nodes, links, networks as plain data: how an argument of these types reads; IndexFunc and ContainsFunc at them. Conditions: none. -/
import Derived.Deep.Slices
import Derived.ChangeSame
import Derived.Test.YtoiakijmbghhlaaGreatS00
import Derived.Test.YtoiakijmbghhlaaGreatProg
import Derived.BigRegion
set_option linter.unusedVariables false
set_option linter.unusedSimpArgs false
set_option maxRecDepth 100000
set_option maxHeartbeats 32000000
namespace Go.Proofs.YtoiakijmbghhlaaGreat
open Go.RowKit Go.ChangeShapes Go.WideShapes Go.Deep
structure Rdr (P:Program) (t:TypeId) {α:Type} (enc:α->List Value) (k:Nat) (good:World->α->Prop):Prop where
 size:P.cellsOf t=k
 len:∀ a,(enc a).length=k
 read:∀ {H:Type} {e:TypeId×Value->H} {W:World} {fuel:Nat} {cs:List Value} {x:DataW H×List MemPlace},DataW.trod e P W 0 (fun _=>true) true fuel t cs=some x->∃ a,cs=enc a/\good W a
 mono:∀ {W W':World} {a:α},good W a->Below W.heap.size W W'->good W' a
section
variable {P : Program} {t : TypeId}
theorem rdInt {k:IntKind} (ht:P.underlying t=some (.int k)) (hk:P.cellsOf t=1):Rdr P t (fun n:Int=>[.int k n]) 1 (fun _ n=>(Lit.int k n).wf=true):=
 ⟨hk,fun _=>rfl,fun h=>by obtain ⟨n,h1,_,h3⟩:=DataW.trod_int ht h;exact ⟨n,h1,h3⟩,fun h _=>h⟩
theorem rdBool (ht:P.underlying t=some .bool) (hk:P.cellsOf t=1):Rdr P t (fun b:Bool=>[.bool b]) 1 (fun _ _=>True):=
 ⟨hk,fun _=>rfl,fun h=>by obtain ⟨b,h1,_⟩:=DataW.trod_bool ht h;exact ⟨b,h1,trivial⟩,fun h _=>h⟩
theorem rdString (ht:P.underlying t=some .string) (hk:P.cellsOf t=1):Rdr P t (fun s:ByteArray=>[.string s]) 1 (fun _ s=>s.size<=maxLen):=
 ⟨hk,fun _=>rfl,fun h=>by obtain ⟨s,h1,_,h3⟩:=DataW.trod_string ht h;exact ⟨s,h1,h3⟩,fun h _=>h⟩
end
structure Sl (α:Type) where
 a:Option Addr
 cap:Nat
 xs:List α
abbrev vSl {α:Type} (s:Sl α):Value:=.slice s.a s.xs.length s.cap
def gSl {α:Type} (enc:α->List Value) (k:Nat) (good:World->α->Prop) (W:World) (s:Sl α):Prop:=
 s.xs.length<=s.cap/\s.cap<=9223372036854775807/\IsC enc k W s.a s.xs/\∀ x∈s.xs,good W x
theorem gSl.isL {α:Type} {enc:α->List Value} {k:Nat} {good:World->α->Prop} {W:World} {s:Sl α} (h:gSl enc k good W s):IsL enc k W (vSl s) s.xs:=⟨s.a,s.cap,rfl,h.1,h.2.1,h.2.2.1⟩
theorem list_of {α:Type} {p:Nat->α->Prop}:∀ n,(∀ i,i<n->∃ a,p i a)->∃ xs:List α,xs.length=n/\∀ i (h:i<xs.length),p i xs[i]
 | 0,_=>⟨[],rfl,fun i h=>absurd h (Nat.not_lt_zero _)⟩
 | n+1,h=>by
  obtain ⟨xs,h1,h2⟩:=list_of n (fun i hi=>h i om)
  obtain ⟨a,ha⟩:=h n om
  refine ⟨xs ++ [a],by simp [h1],fun i hi=>?_⟩
  by_cases hl:i<xs.length
  ·rw [List.getElem_append_left hl];exact h2 i hl
  ·have:i=n:=by simp at hi;omega
   subst this
   rw [List.getElem_append_right om]
   simpa [h1] using ha
theorem spot_none {w:World} {a:Addr} {v:Value} (h:w.cell? a=some v):a.spot=none:=by
 cases hs:a.spot with
 | none=>rfl
 | some s=>
  exfalso
  simp only [World.cell?,hs] at h
  split at h <;> simp at h
theorem addr_add' (b off j:Nat):(⟨b,off,none⟩:Addr).add j=⟨b,off+j,none⟩:=by unfold Addr.add;split <;> simp_all
theorem rdSlice {P:Program} {t e:TypeId} {α:Type} {enc:α->List Value} {k:Nat} {good:World->α->Prop} (hr:Rdr P e enc k good) (hk:0<k) (ht:P.underlying t=some (.slice e)) (hc:P.cellsOf t=1) :
  Rdr P t (fun s:Sl α=>[vSl s]) 1 (gSl enc k good):=by
 refine ⟨hc,fun _=>rfl,?_,?_⟩
 ·intro H en W fuel cs x h
  rcases open_slice ht h with ⟨rfl,_⟩|⟨a,len,cap,m,n,D,Pl,rfl,_,hl,hm,hmm,_,hi⟩
  ·exact ⟨⟨none,0,[]⟩,rfl,Nat.le_refl _,by simp,fun i hi=>absurd hi (Nat.not_lt_zero _),by simp⟩
  ·simp only [if_true] at hmm
   obtain ⟨xs,h1,h2⟩:=list_of (p:=fun i x=>good W x/\W.cells? 0 (a.add (i*k)) k=some (enc x)) len (by
    intro i hil
    obtain ⟨cs',q1,q2⟩:=hi i om
    rw [hr.size] at q1
    obtain ⟨x,rfl,hg⟩:=hr.read q2
    exact ⟨x,hg,q1⟩)
   refine ⟨⟨some a,cap,xs⟩,by simp only [vSl];rw [h1],by simp only;omega,by simpa [maxLen] using hm,?_,?_⟩
   ·intro i hix
    simp only at hix
    have hcell:∀ (i:Nat) (hi:i<xs.length) (j:Nat),j<k->W.cell? ((a.add (i*k)).add j)=some ((enc xs[i]).getD j undef):=by
     intro i hi j hj
     obtain ⟨_,_,q⟩:=World.cells?_some (h2 i hi).2
     rw [q j hj]
     have hlt:j<(enc xs[i]).length:=by rw [hr.len];exact hj
     simp [List.getD,List.getElem?_eq_getElem hlt]
    have hsp:a.spot=none:=by
     have q:=hcell 0 om 0 hk
     rw [Nat.zero_mul] at q
     simp only [Addr.add,if_true] at q
     exact spot_none q
    obtain ⟨b,off,s⟩:=a
    simp only at hsp
    subst hsp
    refine ⟨b,off,rfl,fun j hj=>?_⟩
    have q:=hcell i hix j hj
    rw [addr_add',addr_add'] at q
    exact q
   ·intro x hx
    obtain ⟨i,hi',rfl⟩:=List.mem_iff_getElem.1 hx
    exact (h2 i hi').1
 ·intro W W' s h hb
  exact ⟨h.1,h.2.1,h.2.2.1.mono hb,fun x hx=>hr.mono (h.2.2.2 x hx) hb⟩
def flds (P:Program) (t:TypeId):Array Field:=match P.underlying t with|some (.struct fs)=>fs|_=>#[]
def cutAt (cs:List Value):Nat->List Nat->List (List Value)
 | _,[]=>[]
 | o,k :: ks=>(cs.drop o).take k :: cutAt cs (o+k) ks
theorem cutAt_join (cs:List Value):∀ (ks:List Nat) (o:Nat),cs.length=o+ks.sum->(cutAt cs o ks).flatten=cs.drop o
 | [],o,h=>by simp at h;simp [cutAt];omega
 | k :: ks,o,h=>by
  simp only [cutAt,List.flatten_cons]
  rw [cutAt_join cs ks (o+k) (by simp at h;omega),<-List.drop_drop,List.take_append_drop]
section
variable {P : Program} {t : TypeId} {H : Type} {en : TypeId × Value → H} {W : World} {fuel : Nat} {cs : List Value} {x : DataW H × List MemPlace}
theorem rd_fields (ht:P.underlying t=some (.struct (flds P t))) (h:DataW.trod en P W 0 (fun _=>true) true fuel t cs=some x) :
  cs.length=P.cellsOf t/\∀ (j:Nat) (t0 o:Nat) (_:((flds P t)[j]?.map fun f=>(f.type,f.offset))=some (t0,o)) {α:Type} {enc:α->List Value} {k:Nat} {good:World->α->Prop} (_:Rdr P t0 enc k good),
   ∃ a,(cs.drop o).take k=enc a/\good W a:=by
 obtain ⟨ys,n,_,_,hl,hlen,hf⟩:=DataW.trod_struct ht h
 refine ⟨hl,?_⟩
 intro j t0 o hj α enc k good hr
 cases hq:(flds P t)[j]? with
 | none=>rw [hq] at hj;cases hj
 | some f=>
  rw [hq] at hj
  simp only [Option.map_some,Option.some.injEq,Prod.mk.injEq] at hj
  obtain ⟨rfl,rfl⟩:=hj
  have h1:=hf j f hq
  have hjl:j<ys.length:=by rw [hlen];exact (Array.getElem?_eq_some_iff.1 hq).1
  rw [List.getElem?_eq_getElem hjl] at h1
  rw [hr.size] at h1
  exact hr.read h1
end
theorem arg_slice {P:Program} {t e:TypeId} {α:Type} {enc:α->List Value} {k:Nat} {good:World->α->Prop} (hr:Rdr P e enc k good) (hk:0<k) (ht:P.underlying t=some (.slice e)) (hc:P.cellsOf t=1)
  {H:Type} {en:TypeId×Value->H} {W:World} {v:Value} {d:DataW H} {ps:List MemPlace} {r:Reach} {b0:Nat} (hv:Value.okWide P W r b0 t v) (h:DataW.Trod en P W 0 (fun _=>true) true t v d ps) :
  ∃ s:Sl α,v=vSl s/\gSl enc k good W s:=by
 obtain ⟨a,len,cap,rfl⟩:=okWide_slice ht hv
 obtain ⟨fuel,hf⟩:=h
 obtain ⟨s,h1,h2⟩:=(rdSlice hr hk ht hc).read hf
 refine ⟨s,?_,h2⟩
 simpa [Value.cells] using h1
theorem arg_struct {P:Program} {t:TypeId} {fs:Array Field} {α:Type} {enc:α->List Value} {k:Nat} {good:World->α->Prop} (hr:Rdr P t enc k good) (ht:P.underlying t=some (.struct fs))
  {H:Type} {en:TypeId×Value->H} {W:World} {v:Value} {d:DataW H} {ps:List MemPlace} {r:Reach} {b0:Nat} (hv:Value.okWide P W r b0 t v) (h:DataW.Trod en P W 0 (fun _=>true) true t v d ps) :
  ∃ a:α,v=.agg (enc a).toArray/\good W a:=by
 obtain ⟨cs,rfl,_⟩:=okWide_struct ht hv
 obtain ⟨fuel,hf⟩:=h
 obtain ⟨a,h1,h2⟩:=hr.read hf
 refine ⟨a,?_,h2⟩
 simp only [Value.cells] at h1
 rw [<-h1]
end Go.Proofs.YtoiakijmbghhlaaGreat
namespace Go.Proofs.YtoiakijmbghhlaaGreat
open Go.RowKit
abbrev gI64:World->Int->Prop:=fun _ n=>(Lit.int .i64 n).wf=true
abbrev eBool (b:Bool):List Value:=[.bool b]
abbrev gTrue {α:Type}:World->α->Prop:=fun _ _=>True
theorem rdI:Rdr Tryz.prog 3 eInt 1 gI64:=rdInt (by kernel_rfl) (by kernel_rfl)
theorem rdInts:Rdr Tryz.prog 28 (fun s:Sl Int=>[vSl s]) 1 (gSl eInt 1 gI64):=rdSlice rdI Nat.zero_lt_one (by kernel_rfl) (by kernel_rfl)
theorem rdBools:Rdr Tryz.prog 29 (fun s:Sl Bool=>[vSl s]) 1 (gSl eBool 1 gTrue):=rdSlice (rdBool (t:=4) (by kernel_rfl) (by kernel_rfl)) Nat.zero_lt_one (by kernel_rfl) (by kernel_rfl)
structure St where
 V:Sl Int
 P:Sl Int
 S:Sl Int
 O:Sl Bool
abbrev eSt (s:St):List Value:=[vSl s.V,vSl s.P,vSl s.S,vSl s.O]
abbrev vSt (s:St):Value:=.agg #[vSl s.V,vSl s.P,vSl s.S,vSl s.O]
abbrev gInts:World->Sl Int->Prop:=gSl eInt 1 gI64
def gSt (W:World) (s:St):Prop:=gInts W s.V/\gInts W s.P/\gInts W s.S/\gSl eBool 1 gTrue W s.O
theorem rdSt:Rdr Tryz.prog 31 eSt 4 gSt:=by
 refine ⟨by kernel_rfl,fun _=>rfl,?_,?_⟩
 ·intro H e W fuel cs x h
  obtain ⟨hl,hf⟩:=rd_fields (by kernel_rfl) h
  rw [show Tryz.prog.cellsOf 31=4 from by kernel_rfl] at hl
  obtain ⟨a0,e0,g0⟩:=hf 0 28 0 (by kernel_rfl) rdInts
  obtain ⟨a1,e1,g1⟩:=hf 1 28 1 (by kernel_rfl) rdInts
  obtain ⟨a2,e2,g2⟩:=hf 2 28 2 (by kernel_rfl) rdInts
  obtain ⟨a3,e3,g3⟩:=hf 3 29 3 (by kernel_rfl) rdBools
  have hj:=cutAt_join cs [1,1,1,1] 0 (by rw [hl];rfl)
  simp only [cutAt,Nat.zero_add,Nat.reduceAdd] at hj
  rw [e0,e1,e2,e3] at hj
  exact ⟨⟨a0,a1,a2,a3⟩,by simpa using hj.symm,g0,g1,g2,g3⟩
 ·intro W W' a ⟨h0,h1,h2,h3⟩ hb
  exact ⟨rdInts.mono h0 hb,rdInts.mono h1 hb,rdInts.mono h2 hb,rdBools.mono h3 hb⟩
abbrev IsSts (w:World) (v:Value) (xs:List St):Prop:=IsL eSt 4 w v xs
theorem IsC.st {w:World} {a:Option Addr} {xs:List St} (h:IsC eSt 4 w a xs) (i:Nat) (hi:i<xs.length) :
  ∃ b off,a=some ⟨b,off,none⟩/\w.cell? ⟨b,off+i*4,none⟩=some (.slice xs[i].V.a xs[i].V.xs.length xs[i].V.cap)/\w.cell? ⟨b,off+i*4+1,none⟩=some (.slice xs[i].P.a xs[i].P.xs.length xs[i].P.cap) /\
   w.cell? ⟨b,off+i*4+2,none⟩=some (.slice xs[i].S.a xs[i].S.xs.length xs[i].S.cap)/\w.cell? ⟨b,off+i*4+3,none⟩=some (.slice xs[i].O.a xs[i].O.xs.length xs[i].O.cap):=by
 obtain ⟨b,off,e,hc⟩:=h i hi
 refine ⟨b,off,e,?_,?_,?_,?_⟩
 ·simpa using hc 0 om
 ·simpa using hc 1 om
 ·simpa using hc 2 om
 ·simpa using hc 3 om
theorem indexSts (g:Nat) (lb:Array Value) (eg:∀ args w,(callFunc g args).run Tryz.prog w=.ok (.enter g args) w) (p:St->Bool) (xs:List St) (v:Value) (w:World)
  (hv:IsSts w v xs) (hp:PredOn Tryz.prog g lb vSt p xs w) :
  Calls Tryz.prog 176 #[v,.func (.func g) #[] lb] w fun e w'=>e=.returned (.int .i64 (idxFrom p xs 0))/\Below w.heap.size w w':=by
 obtain ⟨a,cap,rfl,hcap,hbig,hs⟩:=hv
 go_enter Tryz.func176,Tryz.ntmps176
 go_wp2
 go_loopw [5,8] (fun _ s8 wr=>∃ k:Nat,k<=xs.length/\s8=.int .i64 k/\Below w.heap.size w wr/\Hid (idxFrom p xs 0=idxFrom p (xs.drop k) k)) (fun _ i _=>xs.length-(RowKit.intOf i).toNat)
 case atStart=>exact ⟨0,Nat.zero_le _,rfl,qr,rfl⟩
 case round=>
  obtain ⟨k,hk,rfl,hb,hm⟩:=hrel
  by_cases hlt:k<xs.length
  ·obtain ⟨b,off,rfl,c0,c1,c2,c3⟩:=(hs.mono hb).st k hlt
   have hx:=hp wr hb xs[k] (List.getElem_mem hlt)
   have hstep:Hid (idxFrom p (xs.drop k) k=if p xs[k] then (k:Int) else idxFrom p (xs.drop (k+1)) (k+1)):=by
    rw [List.drop_eq_getElem_cons hlt];rfl
   clear hs hp
   generalize xs[k]=y at *
   cases hpy:p y
   all_goals
    rw [hpy] at hx hstep
    clear hpy
    go_wp2_with fail
    refine (Calls.to hx ?_)
    rintro e w1 rfl hb1
    have hbb:=hb.trans (hb1.mono hb.size)
    go_wp2_with fail
   ·go_roundw
    case rel=>exact ⟨k+1,by omega,by go_num,bl,hm.out.trans (hstep.out.trans (by simp))⟩
    case measure=>simp [RowKit.intOf];omega
   ·go_ret
    exact ⟨ret_int (hm.out.trans (hstep.out.trans (by simp))).symm,bl⟩
  ·go_wp2
   go_ret
   refine ⟨ret_int ?_,bl⟩
   rw [hm.out,List.drop_eq_nil_of_le om];rfl
theorem containsSts (g:Nat) (lb:Array Value) (eg:∀ args w,(callFunc g args).run Tryz.prog w=.ok (.enter g args) w) (p:St->Bool) (xs:List St) (v:Value) (w:World)
  (hv:IsSts w v xs) (hp:PredOn Tryz.prog g lb vSt p xs w) :
  Calls Tryz.prog 103 #[v,.func (.func g) #[] lb] w fun e w'=>e=.returned (.bool (xs.any p))/\Below w.heap.size w w':=by
 go_enter Tryz.func103,Tryz.ntmps103
 go_wp2_with fail
 refine Calls.to (indexSts g lb eg p xs v w hv hp) ?_
 rintro e w1 rfl hb
 go_wp2_with fail
 go_ret
 exact ⟨ret_bool (idxFrom_any p xs 0),hb⟩
theorem gInts.later {W W':World} {s:Sl Int} (h:gInts W s) (hb:Below W.heap.size W W'):gInts W' s:=rdInts.mono h hb
structure Kn where
 X:Int
 Y:Int
deriving DecidableEq,Repr
instance:Inhabited Kn:=⟨⟨0,0⟩⟩
abbrev eKn (k:Kn):List Value:=[.int .i64 k.X,.int .i64 k.Y]
abbrev vKn (k:Kn):Value:=.agg #[.int .i64 k.X,.int .i64 k.Y]
theorem eKn_len (k:Kn):(eKn k).length=2:=rfl
def gKn (W:World) (k:Kn):Prop:=gI64 W k.X/\gI64 W k.Y
theorem rdKn:Rdr Tryz.prog 100 eKn 2 gKn:=by
 refine ⟨by kernel_rfl,fun _=>rfl,?_,?_⟩
 ·intro H e W fuel cs x h
  obtain ⟨hl,hf⟩:=rd_fields (by kernel_rfl) h
  rw [show Tryz.prog.cellsOf 100=2 from by kernel_rfl] at hl
  obtain ⟨a0,e0,g0⟩:=hf 0 3 0 (by kernel_rfl) rdI
  obtain ⟨a1,e1,g1⟩:=hf 1 3 1 (by kernel_rfl) rdI
  have hj:=cutAt_join cs [1,1] 0 (by rw [hl];rfl)
  simp only [cutAt,Nat.zero_add,Nat.reduceAdd] at hj
  rw [e0,e1] at hj
  exact ⟨⟨a0,a1⟩,by simpa using hj.symm,g0,g1⟩
 ·intro W W' a h hb
  exact h
abbrev gTab:World->Sl Kn->Prop:=gSl eKn 2 gKn
abbrev IsKns (w:World) (v:Value) (xs:List Kn):Prop:=IsL eKn 2 w v xs
theorem rdTab:Rdr Tryz.prog 46 (fun s:Sl Kn=>[vSl s]) 1 gTab:=rdSlice rdKn (by decide) (by kernel_rfl) (by kernel_rfl)
theorem rdPt:Rdr Tryz.prog 44 eKn 2 gKn:=by
 refine ⟨by kernel_rfl,fun _=>rfl,?_,?_⟩
 ·intro H e W fuel cs x h
  obtain ⟨hl,hf⟩:=rd_fields (by kernel_rfl) h
  rw [show Tryz.prog.cellsOf 44=2 from by kernel_rfl] at hl
  obtain ⟨a0,e0,g0⟩:=hf 0 3 0 (by kernel_rfl) rdI
  obtain ⟨a1,e1,g1⟩:=hf 1 3 1 (by kernel_rfl) rdI
  have hj:=cutAt_join cs [1,1] 0 (by rw [hl];rfl)
  simp only [cutAt,Nat.zero_add,Nat.reduceAdd] at hj
  rw [e0,e1] at hj
  exact ⟨⟨a0,a1⟩,by simpa using hj.symm,g0,g1⟩
 ·intro W W' a h hb
  exact h
structure Nd where
 Name:ByteArray
 Kind:Int
 AX:Int
 AY:Int
 Inv:Int
 Gr:Int
 Sh:Sl Kn
 Pro:Bool
 Res:Int
abbrev eNd (n:Nd):List Value:=[.string n.Name,.int .i64 n.Kind,.int .i64 n.AX,.int .i64 n.AY,.int .i64 n.Inv,.int .i64 n.Gr,vSl n.Sh,.bool n.Pro,.int .i64 n.Res]
abbrev vNd (n:Nd):Value:=.agg #[.string n.Name,.int .i64 n.Kind,.int .i64 n.AX,.int .i64 n.AY,.int .i64 n.Inv,.int .i64 n.Gr,vSl n.Sh,.bool n.Pro,.int .i64 n.Res]
theorem eNd_len (n:Nd):(eNd n).length=9:=rfl
structure gNd (W:World) (n:Nd):Prop where
 name:n.Name.size<=maxLen
 kind:gI64 W n.Kind
 ax:gI64 W n.AX
 ay:gI64 W n.AY
 inv:gI64 W n.Inv
 gr:gI64 W n.Gr
 sh:gTab W n.Sh
 res:gI64 W n.Res
theorem rdStr:Rdr Tryz.prog 9 (fun s:ByteArray=>[.string s]) 1 (fun _ s=>s.size<=maxLen):=rdString (by kernel_rfl) (by kernel_rfl)
theorem rdB:Rdr Tryz.prog 4 (fun b:Bool=>[.bool b]) 1 (fun _ _=>True):=rdBool (by kernel_rfl) (by kernel_rfl)
theorem rdNd:Rdr Tryz.prog 48 eNd 9 gNd:=by
 refine ⟨by kernel_rfl,fun _=>rfl,?_,?_⟩
 ·intro H e W fuel cs x h
  obtain ⟨hl,hf⟩:=rd_fields (by kernel_rfl) h
  rw [show Tryz.prog.cellsOf 48=9 from by kernel_rfl] at hl
  obtain ⟨a0,e0,g0⟩:=hf 0 9 0 (by kernel_rfl) rdStr
  obtain ⟨a1,e1,g1⟩:=hf 1 3 1 (by kernel_rfl) rdI
  obtain ⟨a2,e2,g2⟩:=hf 2 44 2 (by kernel_rfl) rdPt
  obtain ⟨a4,e4,g4⟩:=hf 3 3 4 (by kernel_rfl) rdI
  obtain ⟨a5,e5,g5⟩:=hf 4 3 5 (by kernel_rfl) rdI
  obtain ⟨a6,e6,g6⟩:=hf 5 46 6 (by kernel_rfl) rdTab
  obtain ⟨a7,e7,g7⟩:=hf 6 4 7 (by kernel_rfl) rdB
  obtain ⟨a8,e8,g8⟩:=hf 7 3 8 (by kernel_rfl) rdI
  have hj:=cutAt_join cs [1,1,2,1,1,1,1,1] 0 (by rw [hl];rfl)
  simp only [cutAt,Nat.zero_add,Nat.reduceAdd] at hj
  rw [e0,e1,e2,e4,e5,e6,e7,e8] at hj
  exact ⟨⟨a0,a1,a2.X,a2.Y,a4,a5,a6,a7,a8⟩,by simpa using hj.symm,⟨g0,g1,g2.1,g2.2,g4,g5,g6,g8⟩⟩
 ·intro W W' a h hb
  exact ⟨h.name,h.kind,h.ax,h.ay,h.inv,h.gr,rdTab.mono h.sh hb,h.res⟩
structure Lk where
 Name:ByteArray
 From:ByteArray
 To:ByteArray
 Kind:Int
 Len:Int
 Up:Int
 Down:Int
 Sec:ByteArray
 Wi:Int
 He:Int
 Cu:Sl Kn
abbrev eLk (l:Lk):List Value:=[.string l.Name,.string l.From,.string l.To,.int .i64 l.Kind,.int .i64 l.Len,.int .i64 l.Up,.int .i64 l.Down,.string l.Sec,.int .i64 l.Wi,.int .i64 l.He,vSl l.Cu]
abbrev vLk (l:Lk):Value:=.agg #[.string l.Name,.string l.From,.string l.To,.int .i64 l.Kind,.int .i64 l.Len,.int .i64 l.Up,.int .i64 l.Down,.string l.Sec,.int .i64 l.Wi,.int .i64 l.He,vSl l.Cu]
theorem eLk_len (l:Lk):(eLk l).length=11:=rfl
structure gLk (W:World) (l:Lk):Prop where
 name:l.Name.size<=maxLen
 src:l.From.size<=maxLen
 dst:l.To.size<=maxLen
 kind:gI64 W l.Kind
 len:gI64 W l.Len
 up:gI64 W l.Up
 down:gI64 W l.Down
 sec:l.Sec.size<=maxLen
 wi:gI64 W l.Wi
 he:gI64 W l.He
 cu:gTab W l.Cu
theorem rdLk:Rdr Tryz.prog 61 eLk 11 gLk:=by
 refine ⟨by kernel_rfl,fun _=>rfl,?_,?_⟩
 ·intro H e W fuel cs x h
  obtain ⟨hl,hf⟩:=rd_fields (by kernel_rfl) h
  rw [show Tryz.prog.cellsOf 61=11 from by kernel_rfl] at hl
  obtain ⟨a0,e0,g0⟩:=hf 0 9 0 (by kernel_rfl) rdStr
  obtain ⟨a1,e1,g1⟩:=hf 1 9 1 (by kernel_rfl) rdStr
  obtain ⟨a2,e2,g2⟩:=hf 2 9 2 (by kernel_rfl) rdStr
  obtain ⟨a3,e3,g3⟩:=hf 3 3 3 (by kernel_rfl) rdI
  obtain ⟨a4,e4,g4⟩:=hf 4 3 4 (by kernel_rfl) rdI
  obtain ⟨a5,e5,g5⟩:=hf 5 3 5 (by kernel_rfl) rdI
  obtain ⟨a6,e6,g6⟩:=hf 6 3 6 (by kernel_rfl) rdI
  obtain ⟨a7,e7,g7⟩:=hf 7 9 7 (by kernel_rfl) rdStr
  obtain ⟨a8,e8,g8⟩:=hf 8 3 8 (by kernel_rfl) rdI
  obtain ⟨a9,e9,g9⟩:=hf 9 3 9 (by kernel_rfl) rdI
  obtain ⟨a10,e10,g10⟩:=hf 10 46 10 (by kernel_rfl) rdTab
  have hj:=cutAt_join cs [1,1,1,1,1,1,1,1,1,1,1] 0 (by rw [hl];rfl)
  simp only [cutAt,Nat.zero_add,Nat.reduceAdd] at hj
  rw [e0,e1,e2,e3,e4,e5,e6,e7,e8,e9,e10] at hj
  exact ⟨⟨a0,a1,a2,a3,a4,a5,a6,a7,a8,a9,a10⟩,by simpa using hj.symm,⟨g0,g1,g2,g3,g4,g5,g6,g7,g8,g9,g10⟩⟩
 ·intro W W' a h hb
  exact ⟨h.name,h.src,h.dst,h.kind,h.len,h.up,h.down,h.sec,h.wi,h.he,rdTab.mono h.cu hb⟩
structure Net where
 Ns:Sl Nd
 Ls:Sl Lk
abbrev eNet (n:Net):List Value:=[vSl n.Ns,vSl n.Ls]
abbrev vNet (n:Net):Value:=.agg #[vSl n.Ns,vSl n.Ls]
abbrev gNds:World->Sl Nd->Prop:=gSl eNd 9 gNd
abbrev gLks:World->Sl Lk->Prop:=gSl eLk 11 gLk
def gNet (W:World) (n:Net):Prop:=gNds W n.Ns/\gLks W n.Ls
theorem rdNds:Rdr Tryz.prog 22 (fun s:Sl Nd=>[vSl s]) 1 gNds:=rdSlice rdNd (by decide) (by kernel_rfl) (by kernel_rfl)
theorem rdLks:Rdr Tryz.prog 23 (fun s:Sl Lk=>[vSl s]) 1 gLks:=rdSlice rdLk (by decide) (by kernel_rfl) (by kernel_rfl)
theorem rdNet:Rdr Tryz.prog 25 eNet 2 gNet:=by
 refine ⟨by kernel_rfl,fun _=>rfl,?_,?_⟩
 ·intro H e W fuel cs x h
  obtain ⟨hl,hf⟩:=rd_fields (by kernel_rfl) h
  rw [show Tryz.prog.cellsOf 25=2 from by kernel_rfl] at hl
  obtain ⟨a0,e0,g0⟩:=hf 0 22 0 (by kernel_rfl) rdNds
  obtain ⟨a1,e1,g1⟩:=hf 1 23 1 (by kernel_rfl) rdLks
  have hj:=cutAt_join cs [1,1] 0 (by rw [hl];rfl)
  simp only [cutAt,Nat.zero_add,Nat.reduceAdd] at hj
  rw [e0,e1] at hj
  exact ⟨⟨a0,a1⟩,by simpa using hj.symm,g0,g1⟩
 ·intro W W' a h hb
  exact ⟨rdNds.mono h.1 hb,rdLks.mono h.2 hb⟩
theorem openNet {H:Type} {en:TypeId×Value->H} {W:World} {v:Value} {d:DataW H} {ps:List MemPlace} {r:Reach} {b0:Nat} (hv:Value.okWide Tryz.prog W r b0 25 v) (h:DataW.Trod en Tryz.prog W 0 (fun _=>true) true 25 v d ps) :
  ∃ n:Net,v=vNet n/\gNet W n:=arg_struct (fs:=flds Tryz.prog 25) rdNet (by kernel_rfl) hv h
theorem openSt {H:Type} {en:TypeId×Value->H} {W:World} {v:Value} {d:DataW H} {ps:List MemPlace} {r:Reach} {b0:Nat} (hv:Value.okWide Tryz.prog W r b0 31 v) (h:DataW.Trod en Tryz.prog W 0 (fun _=>true) true 31 v d ps) :
  ∃ s:St,v=vSt s/\gSt W s:=arg_struct (fs:=flds Tryz.prog 31) rdSt (by kernel_rfl) hv h
theorem IsC.kn {w:World} {a:Option Addr} {xs:List Kn} (h:IsC eKn 2 w a xs) (i:Nat) (hi:i<xs.length) :
  ∃ b off,a=some ⟨b,off,none⟩/\w.cell? ⟨b,off+i*2,none⟩=some (.int .i64 xs[i].X)/\w.cell? ⟨b,off+i*2+1,none⟩=some (.int .i64 xs[i].Y):=by
 obtain ⟨b,off,e,hc⟩:=h i hi
 refine ⟨b,off,e,?_,?_⟩
 ·simpa using hc 0 om
 ·simpa using hc 1 om
theorem IsC.nd {w:World} {a:Option Addr} {xs:List Nd} (h:IsC eNd 9 w a xs) (i:Nat) (hi:i<xs.length) :
  ∃ b off,a=some ⟨b,off,none⟩/\w.cell? ⟨b,off+i*9,none⟩=some (.string xs[i].Name)/\w.cell? ⟨b,off+i*9+1,none⟩=some (.int .i64 xs[i].Kind) /\
   w.cell? ⟨b,off+i*9+2,none⟩=some (.int .i64 xs[i].AX)/\w.cell? ⟨b,off+i*9+3,none⟩=some (.int .i64 xs[i].AY)/\w.cell? ⟨b,off+i*9+4,none⟩=some (.int .i64 xs[i].Inv) /\
   w.cell? ⟨b,off+i*9+5,none⟩=some (.int .i64 xs[i].Gr)/\w.cell? ⟨b,off+i*9+6,none⟩=some (.slice xs[i].Sh.a xs[i].Sh.xs.length xs[i].Sh.cap)/\w.cell? ⟨b,off+i*9+7,none⟩=some (.bool xs[i].Pro) /\
   w.cell? ⟨b,off+i*9+8,none⟩=some (.int .i64 xs[i].Res):=by
 obtain ⟨b,off,e,hc⟩:=h i hi
 refine ⟨b,off,e,?_,?_,?_,?_,?_,?_,?_,?_,?_⟩
 ·simpa using hc 0 om
 ·simpa using hc 1 om
 ·simpa using hc 2 om
 ·simpa using hc 3 om
 ·simpa using hc 4 om
 ·simpa using hc 5 om
 ·simpa using hc 6 om
 ·simpa using hc 7 om
 ·simpa using hc 8 om
theorem IsC.lk {w:World} {a:Option Addr} {xs:List Lk} (h:IsC eLk 11 w a xs) (i:Nat) (hi:i<xs.length) :
  ∃ b off,a=some ⟨b,off,none⟩/\w.cell? ⟨b,off+i*11,none⟩=some (.string xs[i].Name)/\w.cell? ⟨b,off+i*11+1,none⟩=some (.string xs[i].From) /\
   w.cell? ⟨b,off+i*11+2,none⟩=some (.string xs[i].To)/\w.cell? ⟨b,off+i*11+3,none⟩=some (.int .i64 xs[i].Kind)/\w.cell? ⟨b,off+i*11+4,none⟩=some (.int .i64 xs[i].Len) /\
   w.cell? ⟨b,off+i*11+5,none⟩=some (.int .i64 xs[i].Up)/\w.cell? ⟨b,off+i*11+6,none⟩=some (.int .i64 xs[i].Down)/\w.cell? ⟨b,off+i*11+7,none⟩=some (.string xs[i].Sec) /\
   w.cell? ⟨b,off+i*11+8,none⟩=some (.int .i64 xs[i].Wi)/\w.cell? ⟨b,off+i*11+9,none⟩=some (.int .i64 xs[i].He)/\w.cell? ⟨b,off+i*11+10,none⟩=some (.slice xs[i].Cu.a xs[i].Cu.xs.length xs[i].Cu.cap):=by
 obtain ⟨b,off,e,hc⟩:=h i hi
 refine ⟨b,off,e,?_,?_,?_,?_,?_,?_,?_,?_,?_,?_,?_⟩
 ·simpa using hc 0 om
 ·simpa using hc 1 om
 ·simpa using hc 2 om
 ·simpa using hc 3 om
 ·simpa using hc 4 om
 ·simpa using hc 5 om
 ·simpa using hc 6 om
 ·simpa using hc 7 om
 ·simpa using hc 8 om
 ·simpa using hc 9 om
 ·simpa using hc 10 om
abbrev IsNds (w:World) (v:Value) (xs:List Nd):Prop:=IsL eNd 9 w v xs
abbrev IsLks (w:World) (v:Value) (xs:List Lk):Prop:=IsL eLk 11 w v xs
end Go.Proofs.YtoiakijmbghhlaaGreat
