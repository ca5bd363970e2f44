/- balance.of: the plain part and what its loops keep. No function of the program is named. Conditions: none. | reports.Rows at two short texts. Conditions: the texts lie in memory. | slices.Index, Contains, Grow, Concat at texts. Conditions: at most a million texts in all. -/
import Derived.Test.YtoiakijmbghhlaaGreatS38
import Derived.Test.YtoiakijmbghhlaaGreatS32
import Derived.Laws.IdiomStrings
import Derived.Test.YtoiakijmbghhlaaGreatS13
import Derived.Test.YtoiakijmbghhlaaGreatS04
import Derived.Lib.AppendZeros
import Derived.Lib.AppendZerosOnto
import Derived.Test.YtoiakijmbghhlaaGreatS17
set_option linter.unusedVariables false
set_option linter.unusedSimpArgs false
set_option maxRecDepth 100000
set_option maxHeartbeats 32000000
namespace Go.Proofs.YtoiakijmbghhlaaGreat
open Go.RowKit Go.Maps
def MapN (w:World) (b:Nat) (n:Net) (k:Nat):Prop:=∃ f,MapS w b k f/\∀ j (h:j<n.Ns.xs.length),j<k->f n.Ns.xs[j].Name=some (j:Int)
theorem MapN.below {w w':World} {b k:Nat} {n:Net} (h:MapN w b n k) (hb:Below w.heap.size w w'):MapN w' b n k:=by
 obtain ⟨f,h1,h2⟩:=h
 exact ⟨f,h1.below hb,h2⟩
theorem MapN.kept {w w':World} {b k:Nat} {n:Net} (h:MapN w b n k) {row:Option Nat} (hg:w.grownBy w' row) (hne:some b≠row):MapN w' b n k:=by
 obtain ⟨f,h1,h2⟩:=h
 exact ⟨f,h1.kept hg hne,h2⟩
theorem MapN.lt {w:World} {b k:Nat} {n:Net} (h:MapN w b n k):b<w.heap.size:=by
 obtain ⟨f,h1,h2⟩:=h
 exact h1.lt
theorem MapN.made (w:World) (n:Net):MapN (w.alloc (.map #[] 0)) w.heap.size n 0:=⟨_,MapS.made w,fun j _ h=>absurd h (Nat.not_lt_zero j)⟩
theorem MapN.upd {w:World} {b k:Nat} {n:Net} (h:MapN w b n k) (hn:netB n=true) (hk:k<n.Ns.xs.length) (hs:n.Ns.xs[k].Name.size<=maxLen) :
  ∃ w',(Instr.mapUpdate 216 (.map (some b)) (.string n.Ns.xs[k].Name) (.int .i64 (k:Int))).run Tryz.prog w=.ok () w'/\MapN w' b n (k+1)/\w.grownBy w' (some b):=by
 obtain ⟨f,h1,h2⟩:=h
 have hN:=(netB_size hn).1
 obtain ⟨w',k1,k2,k3⟩:=h1.upd (y:=(k:Int)) (by simp only [maxLen];omega) hs (wfI om)
 refine ⟨w',k1,⟨_,k2,fun j hj hjk=>?_⟩,k3⟩
 unfold setFS
 by_cases e:j=k
 ·subst e;rw [if_pos rfl]
 ·rw [if_neg,h2 j hj om]
  intro he
  have a:=(netB_nd hn j hj).2
  have b:=(netB_nd hn k hk).2
  rw [he,b] at a
  omega
theorem name_of {n:Net} {key:ByteArray} {i:Nat} (hf:findNd n.Ns.xs key=(i:Int)):∃ h:i<n.Ns.xs.length,n.Ns.xs[i].Name=key:=by
 obtain ⟨h,hp⟩:=idxFrom_at (fun x:Nd=>strB x.Name key) n.Ns.xs 0 i (by rw [Nat.zero_add];exact hf)
 exact ⟨h,strB_eq.1 hp⟩
theorem MapN.look {w:World} {b:Nat} {n:Net} (h:MapN w b n n.Ns.xs.length) {key:ByteArray} (hk:key.size<=maxLen) {i:Nat} (hf:findNd n.Ns.xs key=(i:Int)) :
  (Instr.lookup 216 (.map (some b)) (.string key) false).run Tryz.prog w=.ok (.int .i64 (i:Int)) w:=by
 obtain ⟨f,h1,h2⟩:=h
 obtain ⟨hi,hn⟩:=name_of hf
 have:=h1.look hk
 rw [<-hn,h2 i hi hi] at this
 rw [hn] at this
 exact this
structure AccB (n:Net) (x y:St) (q p:List Int):Prop where
 net:netB n=true
 xv:x.V.xs.length=n.Ns.xs.length
 xp:x.P.xs.length=n.Ns.xs.length
 yv:y.V.xs.length=n.Ns.xs.length
 yp:y.P.xs.length=n.Ns.xs.length
 ql:q.length=n.Ns.xs.length
 pl:p.length=n.Ls.xs.length
 bd:∀ i,i<n.Ns.xs.length->0<=x.V.xs.getD i 0/\x.V.xs.getD i 0<=1125899906842624/\0<=x.P.xs.getD i 0/\x.P.xs.getD i 0<=1125899906842624 /\
  0<=y.V.xs.getD i 0/\y.V.xs.getD i 0<=1125899906842624/\0<=y.P.xs.getD i 0/\y.P.xs.getD i 0<=1125899906842624/\0<=q.getD i 0/\q.getD i 0<=1125899906842624
 pb:∀ k,k<n.Ls.xs.length->0<=p.getD k 0/\p.getD k 0<=4503599627370496
theorem CStep.acc {n:Net} {s s':St} {q:List Int} {g:Led} (h:CStep n s q s' g):AccB n s s' q g.P.xs:=by
 have a:=stB_parts h.st
 have b:=stB_parts h.st'
 refine ⟨h.net,a.1,a.2.1,b.1,b.2.1,h.ql,h.pl,fun i hi=>?_,h.pb⟩
 have c:=h.bd i hi
 have d:=h.qb i hi
 omega
def accR (n:Net) (ins:Nat->Bool) (x y:St) (q:List Int) (k:Nat):Int:=sg (fun i=>if ins i then difF x y q i else 0) k
def accL (n:Net) (ins:Nat->Bool) (q:List Int) (k:Nat):Int:=sg (lostQ n ins q) k
theorem accR_bd {n:Net} {ins:Nat->Bool} {x y:St} {q p:List Int} (h:AccB n x y q p) {k:Nat} (hk:k<=n.Ns.xs.length) : -(1013309916158361600:Int)<=accR n ins x y q k/\accR n ins x y q k<=1013309916158361600:=by
 have a:=sg_abs (f:=fun i=>if ins i then difF x y q i else 0) (b:=3377699720527872) (n:=k) (fun i hi=>by
  have:=h.bd i om
  have e:difF x y q i=x.V.xs.getD i 0+x.P.xs.getD i 0+q.getD i 0-y.V.xs.getD i 0-y.P.xs.getD i 0:=rfl
  show _<=(if ins i then difF x y q i else 0)/\(if ins i then difF x y q i else 0)<=_
  split <;> omega)
 have hN:=(netB_size h.net).1
 have e:((k:Nat):Int)<=300:=by omega
 unfold accR
 omega
theorem accL_bd {n:Net} {ins:Nat->Bool} {x y:St} {q p:List Int} (h:AccB n x y q p) {k:Nat} (hk:k<=n.Ns.xs.length):0<=accL n ins q k/\accL n ins q k<=337769972052787200:=by
 have a:=sg_bd (f:=lostQ n ins q) (b:=1125899906842624) (n:=k) (fun i hi=>by
  have:=h.bd i om
  unfold lostQ
  split <;> omega)
 have hN:=(netB_size h.net).1
 have e:((k:Nat):Int)<=300:=by omega
 unfold accL
 omega
theorem accP_bd {n:Net} {ins:Nat->Bool} {x y:St} {q p:List Int} (h:AccB n x y q p) {j:Nat} (hj:j<=n.Ls.xs.length) : -(1801439850948198400:Int)<=sg (linkF n ins p) j/\sg (linkF n ins p) j<=1801439850948198400/\0<=sg (lostP n ins p) j/\sg (lostP n ins p) j<=1801439850948198400:=by
 have a:=sg_abs (f:=linkF n ins p) (b:=4503599627370496) (n:=j) (fun i hi=>by
  have:=h.pb i om
  unfold linkF
  split
  ·omega
  ·split <;> omega)
 have b:=sg_bd (f:=lostP n ins p) (b:=4503599627370496) (n:=j) (fun i hi=>by
  have:=h.pb i om
  unfold lostP
  split <;> omega)
 have hN:=(netB_size h.net).2
 have e:((j:Nat):Int)<=400:=by omega
 omega
structure OfI (w wr:World) (b6 b8 b9 b12 b13 bm:Nat) (n:Net) (x y:St) (k:Nat) (R L:Int):Prop where
 bel:Below w.heap.size w wr
 k6:wr.heap[b6]? = some (.cells (eNet n).toArray 25 (0,0))
 k8:wr.heap[b8]? = some (.cells (eSt x).toArray 31 (0,0))
 k9:wr.heap[b9]? = some (.cells (eSt y).toArray 31 (0,0))
 k12:wr.heap[b12]? = some (.cells #[.int .i64 0,.int .i64 0] 132 (0,0))
 k13:wr.heap[b13]? = some (.cells #[.int .i64 R,.int .i64 L] 132 (0,0))
 map:MapN wr bm n k
section
variable {w wr wr' : World} {b6 b8 b9 b12 b13 bm : Nat} {n : Net} {x y : St} {k k' : Nat} {R L : Int}
theorem OfI.grow (h:OfI w wr b6 b8 b9 b12 b13 bm n x y k R L) (hb:Below wr.heap.size wr wr'):OfI w wr' b6 b8 b9 b12 b13 bm n x y k R L:=
 ⟨h.bel.trans (hb.mono h.bel.size),blk_mono h.k6 hb,blk_mono h.k8 hb,blk_mono h.k9 hb,blk_mono h.k12 hb,blk_mono h.k13 hb,h.map.below hb⟩
theorem OfI.upd (h:OfI w wr b6 b8 b9 b12 b13 bm n x y k R L) (hg:wr.grownBy wr' (some bm)) (hm:MapN wr' bm n k') (hw:w.heap.size<=bm) (h6:b6≠bm) (h8:b8≠bm) (h9:b9≠bm) (h12:b12≠bm) (h13:b13≠bm):OfI w wr' b6 b8 b9 b12 b13 bm n x y k' R L:=by
 have f:∀ {b:Nat} {o:Obj},wr.heap[b]? = some o->b≠bm->wr'.heap[b]? = some o:=fun hb hne=>(hg.block _ (Array.getElem?_eq_some_iff.1 hb).1 (fun e=>hne (Option.some.inj e))).trans hb
 exact ⟨h.bel.grown hg h.bel.size (fun q hq=>by cases hq;exact hw),f h.k6 h6,f h.k8 h8,f h.k9 h9,f h.k12 h12,f h.k13 h13,hm⟩
theorem OfI.setR (h:OfI w wr b6 b8 b9 b12 b13 bm n x y k R L) (hw:w.heap.size<=b13) (h6:b6≠b13) (h8:b8≠b13) (h9:b9≠b13) (h12:b12≠b13) (hm:bm≠b13) (z:Int):OfI w (wr.setCell ⟨b13,0,none⟩ (.int .i64 z)) b6 b8 b9 b12 b13 bm n x y k z L:=
 ⟨h.bel.setCell (p:=⟨b13,0,none⟩) hw _,blk_far h.k6 _ _ h6,blk_far h.k8 _ _ h8,blk_far h.k9 _ _ h9,blk_far h.k12 _ _ h12,blk_set h.k13 0 _,h.map.kept (grownBy_set wr ⟨b13,0,none⟩ _) (fun e=>hm (Option.some.inj e))⟩
theorem OfI.setL (h:OfI w wr b6 b8 b9 b12 b13 bm n x y k R L) (hw:w.heap.size<=b13) (h6:b6≠b13) (h8:b8≠b13) (h9:b9≠b13) (h12:b12≠b13) (hm:bm≠b13) (z:Int):OfI w (wr.setCell ⟨b13,1,none⟩ (.int .i64 z)) b6 b8 b9 b12 b13 bm n x y k R z:=
 ⟨h.bel.setCell (p:=⟨b13,1,none⟩) hw _,blk_far h.k6 _ _ h6,blk_far h.k8 _ _ h8,blk_far h.k9 _ _ h9,blk_far h.k12 _ _ h12,blk_set h.k13 1 _,h.map.kept (grownBy_set wr ⟨b13,1,none⟩ _) (fun e=>hm (Option.some.inj e))⟩
end
end Go.Proofs.YtoiakijmbghhlaaGreat
namespace Go.Proofs.YtoiakijmbghhlaaGreat
open Go.RowKit
abbrev By:=Int
abbrev eBy (x:By):List Value:=[.int .u8 x]
abbrev vBy (x:By):Value:=.int .u8 x
abbrev IsBys (w:World) (v:Value) (xs:List By):Prop:=IsL eBy 1 w v xs
theorem IsC.by {w:World} {a:Option Addr} {xs:List By} (h:IsC eBy 1 w a xs) (i:Nat) (hi:i<xs.length) :
  ∃ b off,a=some ⟨b,off,none⟩/\w.cell? ⟨b,off+i,none⟩=some (.int .u8 xs[i]):=by
 obtain ⟨b,off,e,hc⟩:=h i hi
 exact ⟨b,off,e,by simpa using hc 0 om⟩
theorem indexBy (g:Nat) (lb:Array Value) (eg:∀ args w,(callFunc g args).run Tryz.prog w=.ok (.enter g args) w) (p:By->Bool) (xs:List By) (v:Value) (w:World)
  (hv:IsBys w v xs) (hp:PredOn Tryz.prog g lb vBy p xs w) :
  Calls Tryz.prog 181 #[v,.func (.func g) #[] lb] w fun e w'=>e=.returned (.int .i64 (idxFrom p xs 0))/\Below w.heap.size w w':=by
 obtain ⟨a,cap,rfl,hcap,hbig,hs⟩:=hv
 go_enter Tryz.func181,Tryz.ntmps181
 go_wp2
 go_loopw [5,8] (fun _ s8 wr=>∃ k:Nat,k<=xs.length/\s8=.int .i64 k/\Below w.heap.size w wr/\Hid (idxFrom p xs 0=idxFrom p (xs.drop k) k)) (fun _ i _=>xs.length-(RowKit.intOf i).toNat)
 case atStart=>exact ⟨0,Nat.zero_le _,rfl,qr,rfl⟩
 case round=>
  obtain ⟨k,hk,rfl,hb,hm⟩:=hrel
  by_cases hlt:k<xs.length
  ·obtain ⟨b,off,rfl,c0⟩:=(hs.mono hb).by k hlt
   have hx:=hp wr hb xs[k] (List.getElem_mem hlt)
   have hstep:Hid (idxFrom p (xs.drop k) k=if p xs[k] then (k:Int) else idxFrom p (xs.drop (k+1)) (k+1)):=by
    rw [List.drop_eq_getElem_cons hlt];rfl
   clear hs hp
   generalize xs[k]=y at *
   cases hpy:p y
   all_goals
    rw [hpy] at hx hstep
    clear hpy
    go_wp2_with fail
    refine (Calls.to hx ?_)
    rintro e w1 rfl hb1
    have hbb:=hb.trans (hb1.mono hb.size)
    go_wp2_with fail
   ·go_roundw
    case rel=>exact ⟨k+1,by omega,by go_num,bl,hm.out.trans (hstep.out.trans (by simp))⟩
    case measure=>simp [RowKit.intOf];omega
   ·go_ret
    exact ⟨ret_int (hm.out.trans (hstep.out.trans (by simp))).symm,bl⟩
  ·go_wp2
   go_ret
   refine ⟨ret_int ?_,bl⟩
   rw [hm.out,List.drop_eq_nil_of_le om];rfl
theorem containsBy (g:Nat) (lb:Array Value) (eg:∀ args w,(callFunc g args).run Tryz.prog w=.ok (.enter g args) w) (p:By->Bool) (xs:List By) (v:Value) (w:World)
  (hv:IsBys w v xs) (hp:PredOn Tryz.prog g lb vBy p xs w) :
  Calls Tryz.prog 112 #[v,.func (.func g) #[] lb] w fun e w'=>e=.returned (.bool (xs.any p))/\Below w.heap.size w w':=by
 go_enter Tryz.func112,Tryz.ntmps112
 go_wp2_with fail
 refine Calls.to (indexBy g lb eg p xs v w hv hp) ?_
 rintro e w1 rfl hb
 go_wp2_with fail
 go_ret
 exact ⟨ret_bool (idxFrom_any p xs 0),hb⟩
abbrev Tx:=ByteArray
abbrev eTx (x:Tx):List Value:=[.string x]
abbrev vTx (x:Tx):Value:=.string x
abbrev IsTxs (w:World) (v:Value) (xs:List Tx):Prop:=IsL eTx 1 w v xs
theorem IsC.tx {w:World} {a:Option Addr} {xs:List Tx} (h:IsC eTx 1 w a xs) (i:Nat) (hi:i<xs.length) :
  ∃ b off,a=some ⟨b,off,none⟩/\w.cell? ⟨b,off+i,none⟩=some (.string xs[i]):=by
 obtain ⟨b,off,e,hc⟩:=h i hi
 exact ⟨b,off,e,by simpa using hc 0 om⟩
theorem indexTx (g:Nat) (lb:Array Value) (eg:∀ args w,(callFunc g args).run Tryz.prog w=.ok (.enter g args) w) (p:Tx->Bool) (xs:List Tx) (v:Value) (w:World)
  (hv:IsTxs w v xs) (hp:PredOn Tryz.prog g lb vTx p xs w) :
  Calls Tryz.prog 182 #[v,.func (.func g) #[] lb] w fun e w'=>e=.returned (.int .i64 (idxFrom p xs 0))/\Below w.heap.size w w':=by
 obtain ⟨a,cap,rfl,hcap,hbig,hs⟩:=hv
 go_enter Tryz.func182,Tryz.ntmps182
 go_wp2
 go_loopw [5,8] (fun _ s8 wr=>∃ k:Nat,k<=xs.length/\s8=.int .i64 k/\Below w.heap.size w wr/\Hid (idxFrom p xs 0=idxFrom p (xs.drop k) k)) (fun _ i _=>xs.length-(RowKit.intOf i).toNat)
 case atStart=>exact ⟨0,Nat.zero_le _,rfl,qr,rfl⟩
 case round=>
  obtain ⟨k,hk,rfl,hb,hm⟩:=hrel
  by_cases hlt:k<xs.length
  ·obtain ⟨b,off,rfl,c0⟩:=(hs.mono hb).tx k hlt
   have hx:=hp wr hb xs[k] (List.getElem_mem hlt)
   have hstep:Hid (idxFrom p (xs.drop k) k=if p xs[k] then (k:Int) else idxFrom p (xs.drop (k+1)) (k+1)):=by
    rw [List.drop_eq_getElem_cons hlt];rfl
   clear hs hp
   generalize xs[k]=y at *
   cases hpy:p y
   all_goals
    rw [hpy] at hx hstep
    clear hpy
    go_wp2_with fail
    refine (Calls.to hx ?_)
    rintro e w1 rfl hb1
    have hbb:=hb.trans (hb1.mono hb.size)
    go_wp2_with fail
   ·go_roundw
    case rel=>exact ⟨k+1,by omega,by go_num,bl,hm.out.trans (hstep.out.trans (by simp))⟩
    case measure=>simp [RowKit.intOf];omega
   ·go_ret
    exact ⟨ret_int (hm.out.trans (hstep.out.trans (by simp))).symm,bl⟩
  ·go_wp2
   go_ret
   refine ⟨ret_int ?_,bl⟩
   rw [hm.out,List.drop_eq_nil_of_le om];rfl
theorem containsTx (g:Nat) (lb:Array Value) (eg:∀ args w,(callFunc g args).run Tryz.prog w=.ok (.enter g args) w) (p:Tx->Bool) (xs:List Tx) (v:Value) (w:World)
  (hv:IsTxs w v xs) (hp:PredOn Tryz.prog g lb vTx p xs w) :
  Calls Tryz.prog 114 #[v,.func (.func g) #[] lb] w fun e w'=>e=.returned (.bool (xs.any p))/\Below w.heap.size w w':=by
 go_enter Tryz.func114,Tryz.ntmps114
 go_wp2_with fail
 refine Calls.to (indexTx g lb eg p xs v w hv hp) ?_
 rintro e w1 rfl hb
 go_wp2_with fail
 go_ret
 exact ⟨ret_bool (idxFrom_any p xs 0),hb⟩
theorem ent113:∀ args w,(callFunc 113 args).run Tryz.prog w=.ok (.enter 113 args) w:=by
 intro args w
 simp [go_sem]
theorem ent115:∀ args w,(callFunc 115 args).run Tryz.prog w=.ok (.enter 115 args) w:=by
 intro args w
 simp [go_sem]
theorem rows1_any (x:Int) (w:World) (hx:33<=x/\x<=126):Calls Tryz.prog 113 #[.int .u8 x] w fun e w'=>e=.returned (.bool false)/\Below w.heap.size w w':=by
 have i1:decide (x<33)=false:=decide_eq_false om
 have i2:decide (126<x)=false:=decide_eq_false om
 clear hx
 go_enter Tryz.func113,Tryz.ntmps113
 go_wp2_with fail
 go_ret
 exact ⟨rfl,qr⟩
theorem rows2_any (s:ByteArray) (B:Nat) (w:World) (hB:w.cell? ⟨B,0,none⟩=some (.int .i64 3)) (hs:s.size=1):Calls Tryz.prog 115 #[.string s,.pointer (some ⟨B,0,none⟩)] w fun e w'=>e=.returned (.bool false)/\Below w.heap.size w w':=by
 have i1:decide ((3:Int)<s.size)=false:=decide_eq_false om
 have i2:decide (3<s.size)=false:=decide_eq_false om
 clear hs
 go_enter Tryz.func115,Tryz.ntmps115
 go_wp2_with fail
 go_ret
 exact ⟨rfl,qr⟩
theorem undStr:Tryz.prog.underlying 42=some (.slice 9):=by kernel_rfl
theorem infStr:(Tryz.prog.info? 9).map (fun i=>(i.zero,i.size,i.bytes))=some (some (.string ⟨#[]⟩),1,16):=by kernel_rfl
theorem undByt:Tryz.prog.underlying 69=some (.slice 5):=by kernel_rfl
theorem undBy:Tryz.prog.underlying 5=some (.int .u8):=by kernel_rfl
theorem bytesOf (w:World) (s:ByteArray) (hs:s.size<=maxLen):∃ W c,(convert 9 69 (.string s)).run Tryz.prog w=.ok (.slice (some ⟨w.heap.size,0,none⟩) s.size c) W/\Below w.heap.size w W/\IsBys W (.slice (some ⟨w.heap.size,0,none⟩) s.size c) (s.data.toList.map fun b=>(b.toNat:Int)):=by
 have hl:(s.data.toList.map fun b=>(b.toNat:Int)).length=s.size:=by rw [List.length_map,Array.length_toList];rfl
 refine ⟨_,_,run_bytes_of_string w _ _ 5 s undS undByt undBy,qr.drew.alloc (Nat.le_refl _) _,?_⟩
 refine ⟨_,_,by rw [hl],by rw [hl];exact grownCap_ge _ _ _ _,(show grownCap w s.size 0 5<=9223372036854775807 from grownCap_le_maxLen _ _ _ _ hs),fun i hi=>⟨w.heap.size,0,rfl,fun j hj=>?_⟩⟩
 have hi':i<s.data.size:=by rw [hl] at hi;exact hi
 have hj0:j=0:=by omega
 subst hj0
 rw [show 0+i*1+0=i from by omega]
 refine (World.cell?_alloc_mark w.drew _ _ _ i).trans ?_
 rw [bytesRow_at s _ i hi']
 simp
theorem rows_ab (a:Nat) (w:World) (h:IsTxs w (.slice (some ⟨a,0,none⟩) 2 2) [⟨#[97]⟩,⟨#[98]⟩]) :
  Calls Tryz.prog 40 #[.slice (some ⟨a,0,none⟩) 2 2,.int .i64 3] w fun e w'=>(∃ b c,e=.returned (.tuple #[.slice (some ⟨b,0,none⟩) 1 c,.int .i64 0])/\w'.cell? ⟨b,0,none⟩=some (.string ⟨#[97,32,98]⟩))/\Below w.heap.size w w':=by
 have hb0:Below w.heap.size w (w.alloc (.cells #[.int .i64 3] 3)):=qr.alloc (Nat.le_refl _) _
 have h3:(w.alloc (.cells #[.int .i64 3] 3)).cell? ⟨w.heap.size,0,none⟩=some (.int .i64 3):=by simp [go_sem]
 obtain ⟨W,hW⟩:∃ W,W=w.alloc (.cells #[.int .i64 3] 3):=⟨_,rfl⟩
 have HW:=qh hW
 rw [<-hW] at hb0 h3
 have HT:=qh (h.mono hb0)
 have hc:=fun (V:World) (hV:Below W.heap.size W V)=>(HT.out.mono hV)
 have hlt0:w.heap.size<W.heap.size:=World.block_lt_of_cell? _ _ h3
 have HL:=qh hlt0
 obtain ⟨_,_,he,-,-,hC⟩:=HT.out
 simp only [Value.slice.injEq] at he
 obtain ⟨rfl,-,-⟩:=he
 obtain ⟨_,_,he,x0⟩:=hC.tx 0 (by decide)
 obtain ⟨_,_,he',x1⟩:=hC.tx 1 (by decide)
 simp only [Option.some.injEq,Addr.mk.injEq] at he he'
 obtain ⟨rfl,rfl,-⟩:=he
 obtain ⟨rfl,rfl,-⟩:=he'
 simp only [List.getElem_cons_zero,List.getElem_cons_succ,Nat.zero_add] at x0 x1
 have X:=qh (And.intro x0 x1)
 obtain ⟨W1,c1,r1,hb1,hy1⟩:=bytesOf W ⟨#[97]⟩ (by decide)
 have hk1:=containsBy 113 #[] ent113 (fun _=>false) [97] _ W1 hy1 (fun V hV x hx=>rows1_any x V (by rw [List.mem_singleton.1 hx];decide))
 clear hW h hC hc hlt0 hy1
 go_enter Tryz.func40,Tryz.ntmps40
 go_upto_region 1 with (fail)
 rw [<-HW.out]
 clear HW
 go_wp2_with fail
 refine wp_loop_rounds 3 ?_
 rw [rounds_succ]
 go_wp2_with fail
 refine Calls.to hk1 ?_
 rintro e w2 rfl hb2
 have hbr:=hb1.trans (hb2.mono hb1.size)
 clear hk1 r1 hb1 hb2 x0 x1
 have x0:=cel_lt X.out.1 hbr
 have x1:=cel_lt X.out.2 hbr
 rw [show ([97]:List Int).any (fun _=>false)=false from rfl]
 go_wp2_with fail
 obtain ⟨W3,c3,r3,hb3,hy3⟩:=bytesOf w2 ⟨#[98]⟩ (by decide)
 have hk3:=containsBy 113 #[] ent113 (fun _=>false) [98] _ W3 hy3 (fun V hV x hx=>rows1_any x V (by rw [List.mem_singleton.1 hx];decide))
 clear hy3
 rw [rounds_succ]
 go_wp2_with fail
 refine Calls.to hk3 ?_
 rintro e w4 rfl hb4
 have hbr:=hbr.trans ((hb3.trans (hb4.mono hb3.size)).mono hbr.size)
 clear hk3 r3 hb3 hb4 x0 x1
 rw [show ([98]:List Int).any (fun _=>false)=false from rfl]
 go_wp2_with fail
 rw [rounds_succ]
 have h4:=cel_lt h3 hbr
 have hk4:=containsTx 115 #[.pointer (some ⟨w.heap.size,0,none⟩)] ent115 (fun _=>false) [⟨#[97]⟩,⟨#[98]⟩] _ w4 (HT.out.mono hbr) (fun V hV x hx=>rows2_any x w.heap.size V (cel_lt h4 hV) (by rcases List.mem_cons.1 hx with h|h;rw [h];rfl;rw [List.mem_singleton.1 h];rfl))
 go_wp2_with fail
 refine Calls.to hk4 ?_
 rintro e w5 rfl hb5
 have hbr:=hbr.trans (hb5.mono hbr.size)
 clear hk4 hb5 h4
 rw [show ([⟨#[97]⟩,⟨#[98]⟩]:List ByteArray).any (fun _=>false)=false from rfl]
 have x0:=cel_lt X.out.1 hbr
 have x1:=cel_lt X.out.2 hbr
 have h3:=cel_lt h3 hbr
 go_wp2_with fail
 refine wp_loop_rounds 3 ?_
 rw [rounds_succ]
 go_upto_region 16 with (fail)
 go_quiet (fail)
 have hm:Below w5.heap.size w5 (w5.drewN nq):=below_drewN (Below.refl _ w5) nq
 have hbr:=hbr.trans (hm.mono hbr.size)
 have x0:=cel_lt x0 hm
 have x1:=cel_lt x1 hm
 have h3:=cel_lt h3 hm
 clear hm
 generalize w5.drewN nq=w6 at *
 have hle6:W.heap.size<=w6.heap.size:=hbr.size
 have hon:Own w6.heap.size 9 eTx 1 w6 (.slice none 0 0) ([]:List Tx):=World.ownsRow_nil _ _ _ _
 have h1c:∀ u∈eTx ⟨#[97]⟩,u.oneCell'=true:=by simp [Value.oneCell']
 go_wp2_with (at_builtin;go_must (refine wpList_pushR rfl _ _ 42 rfl 9 _ 1 16 undStr infStr rfl (by decide) ⟨#[97]⟩ (fun _=>rfl) h1c _ ([]:List Tx) rfl hon w6.heap.size rfl rfl (by decide) (by decide) (Nat.le_refl _) _ rfl ?_);intro g7 c7 w7 hR7)
 have hb7:=hR7.below hon (Nat.le_refl _)
 have hbr:=hbr.trans (hb7.mono hbr.size)
 have hv7:w7.cell? ⟨g7,0,none⟩=some (.string ⟨#[97]⟩):=by
  have:=Own.cellAt' (enc:=eTx) (fun _=>rfl) hR7.own 0 0 (by simp) (by simp)
  simpa using this
 have hf7:=hR7.own.free 0
 have hg7:W.heap.size<=g7:=by
  have h1:=(hR7.own.lt g7 rfl).1
  omega
 have x0:=cel_lt x0 hb7
 have x1:=cel_lt x1 hb7
 have h3:=cel_lt h3 hb7
 clear hR7 hb7 hon h1c
 rw [rounds_succ]
 go_upto_region 16 with (fail)
 go_quiet (fail)
 have hm:Below w7.heap.size w7 (w7.drewN nq):=below_drewN (Below.refl _ w7) nq
 have hbr:=hbr.trans (hm.mono hbr.size)
 have hf7:(w7.drewN nq).frozen? ⟨g7,0,none⟩=false:=(Below.frozen hm (World.block_lt_of_cell? _ _ hv7)).trans hf7
 have hv7:=cel_lt hv7 hm
 clear hm x0 x1 h3
 generalize w7.drewN nq=w8 at *
 go_wp2_with fail
 rw [rounds_succ]
 go_wp2_with fail
 go_ret2
 have hfin:=hb0.trans (hbr.mono hb0.size)
 refine ⟨⟨g7,c7,rfl,(World.cell?_setCell_same _ _ _ hv7).trans ?_⟩,hfin.setCell (by have:=hb0.size;simp only;omega) _⟩
 rfl
def hasT (xs:List ByteArray) (y:ByteArray):Bool:=xs.any (fun x=>strB y x)
theorem hasT_iff {xs:List ByteArray} {y:ByteArray}:hasT xs y=true↔y∈xs:=by
 unfold hasT
 rw [List.any_eq_true]
 constructor
 ·rintro ⟨x,hx,h⟩
  rw [strB_eq.1 h];exact hx
 ·exact fun h=>⟨y,h,strB_eq.2 rfl⟩
theorem indexT_any (xs:List ByteArray) (y:ByteArray) (v:Value) (w:World) (hv:IsTxs w v xs) :
  Calls Tryz.prog 65 #[v,.string y] w fun e w'=>e=.returned (.int .i64 (idxFrom (fun x=>strB y x) xs 0))/\Below w.heap.size w w':=by
 obtain ⟨a,cap,rfl,hcap,hbig,hs⟩:=hv
 go_enter Tryz.func65,Tryz.ntmps65
 go_wp2
 go_loopw [5,8] (fun _ s8 wr=>∃ k:Nat,k<=xs.length/\s8=.int .i64 k/\Below w.heap.size w wr/\Hid (idxFrom (fun x=>strB y x) xs 0=idxFrom (fun x=>strB y x) (xs.drop k) k)) (fun _ i _=>xs.length-(intOf i).toNat)
 case atStart=>exact ⟨0,Nat.zero_le _,rfl,qr,rfl⟩
 case round=>
  obtain ⟨k,hk,rfl,hb,hm⟩:=hrel
  by_cases hlt:k<xs.length
  ·obtain ⟨b,off,rfl,c0⟩:=(hs.mono hb).tx k hlt
   have hd:=qh (List.drop_eq_getElem_cons hlt)
   clear hs
   generalize xs[k]=x at *
   cases h:(y.toList==x.toList)
   ·have HS:Hid (strB y x=false):=qh h
    go_wp2_with fail
    go_roundw
    case rel=>exact ⟨k+1,by omega,by go_num,bl,hm.out.trans (by rw [hd.out];simp [idxFrom,HS.out])⟩
    case measure=>simp [intOf];omega
   ·have HS:Hid (strB y x=true):=qh h
    go_wp2_with fail
    go_ret
    exact ⟨ret_int (by rw [hm.out,hd.out];simp [idxFrom,HS.out]),bl⟩
  ·go_wp2_with fail
   go_ret
   refine ⟨ret_int ?_,bl⟩
   rw [hm.out,List.drop_eq_nil_of_le om];rfl
theorem containsT_any (xs:List ByteArray) (y:ByteArray) (v:Value) (w:World) (hv:IsTxs w v xs) :
  Calls Tryz.prog 14 #[v,.string y] w fun e w'=>e=.returned (.bool (hasT xs y))/\Below w.heap.size w w':=by
 have HC:Hid (decide (0<=idxFrom (fun x=>strB y x) xs 0)=hasT xs y):=by
  show _=_
  rw [idxFrom_any];rfl
 rw [<-HC.out]
 go_enter Tryz.func14,Tryz.ntmps14
 go_wp2_with fail
 refine Calls.to (indexT_any xs y v w hv) ?_
 rintro e w1 rfl hb
 go_wp2_with fail
 go_ret
 exact ⟨rfl,hb⟩
theorem shrinkT_run (a:Option Addr) (n m c:Nat) (hm:m<=c) (W:World):(Instr.sliceAt 42 (.slice a n c) none (some (.int .i64 (m:Int))) none).run Tryz.prog W=.ok (.slice (if c=0 then a else a.map (·.add (0*1))) m c) W:=by
 have hel:Tryz.prog.elem 42=9:=by kernel_rfl
 have ht:Tryz.prog.underlying 42=some (.slice (Tryz.prog.elem 42)):=by rw [hel];exact undStr
 have hsz:∀ W,(sizeOf (Tryz.prog.elem 42)).run Tryz.prog W=.ok 1 W:=by rw [hel];exact Tryz.sizeOf9
 rw [run_sliceAt_slice _ _ _ _ _ _ ht,run_slice_h W 42 _ _ _ ht .i64 m om om,hsz]
 simp [sliced,Result.andThen]
theorem growT_any (n:Nat) (w:World) (hn:n<=1000000) :
  Calls Tryz.prog 130 #[.slice none 0 0,.int .i64 (n:Int)] w fun e w'=>(∃ v,e=.returned v/\Own w.heap.size 9 eTx 1 w' v [])/\Below w.heap.size w w':=by
 have hneg:decide ((n:Int)<0)=false:=decide_eq_false om
 by_cases h0:n=0
 ·subst h0
  go_enter Tryz.func130,Tryz.ntmps130
  go_wp2_with fail
  go_ret
  exact ⟨⟨_,rfl,World.ownsRow_nil _ _ _ _⟩,qr⟩
 ·obtain ⟨i0,hi0,hz0,hzs,hzb⟩:=info_parts infStr
  have hpos:decide (0<n)=true:=decide_eq_true om
  have hpos2:decide ((0:Int)<n)=true:=decide_eq_true om
  have hold:(Builtin.firstCells i0.size 0 (.slice none 0 0)).run Tryz.prog w.drew=.ok #[] w.drew:=by
   rw [hzs];exact run_firstCells_none w.drew 1 0 0 0
  obtain ⟨G,hG⟩:∃ G,G=grownCap w (0+n) 0 9:=⟨_,rfl⟩
  obtain ⟨Z,hZ⟩:∃ Z:Array Value,Z=#[] ++ Builtin.zeroCells (Value.string ⟨#[]⟩).cells n ++ Builtin.zeroCells (Value.string ⟨#[]⟩).cells (G-(0+n)):=⟨_,rfl⟩
  have hrz:∀ ty,(Builtin.append_ #[42,3] ty #[.slice none 0 0,.int .i64 (n:Int)]).run Tryz.prog w=.ok (.slice (some ⟨w.heap.size,0,none⟩) (0+n) G) (w.drew.alloc (.cells Z 9)):=fun ty=>by
   have h:=Lib.run_append_grow_zeros w 42 3 ty 9 i0 _ .i64 .i64 undStr (by kernel_rfl) hi0 hz0 none 0 0 [] hold n om om om om (by rw [hzb];omega) (by rw [hzb];exact growslice_fits om om)
   rw [h,hZ,hG]
  have hGn:n<=G:=by rw [hG];have:=grownCap_ge w (0+n) 0 9;omega
  have hGm:G<=maxLen:=by rw [hG];exact grownCap_le_maxLen w (0+n) 0 9 (by unfold maxLen;omega)
  have hZs:Z.size=G*1:=by
   rw [hZ]
   simp [Builtin.zeroCells,Value.cells]
   omega
  have hs2:=fun W=>shrinkT_run (some ⟨w.heap.size,0,none⟩) (0+n) 0 G (Nat.zero_le _) W
  have hG0:¬ G=0:=by omega
  have e1:(⟨w.heap.size,0,none⟩:Addr).add (0*1)=⟨w.heap.size,0,none⟩:=Addr.add_lit ..
  simp only [hG0,if_false,Option.map_some,e1,Nat.zero_add] at hs2 hrz
  have hs1:=fun W=>shrinkT_run none 0 0 0 (Nat.zero_le _) W
  simp only [if_true] at hs1
  clear hold hG hZ
  go_enter Tryz.func130,Tryz.ntmps130
  go_wp2_with (at_builtin;refine Lib.wpList_append_run _ rfl _ _ _ _ rfl _ _ rfl rfl _ _ (hrz _) ?_)
  go_ret
  refine ⟨⟨_,rfl,⟨rfl,.inr ⟨w.heap.size,G,Z,rfl,Nat.le_refl _,heap_alloc_new w.drew _,Nat.zero_le _,hGm,hZs,by simp⟩⟩⟩,(Below.drew qr).alloc (Nat.le_refl _) _⟩
def szT (a NT:Nat):Nat->Int
 | 0=>0
 | 1=>a
 | _=>NT
def catT (A B:List ByteArray):Nat->List ByteArray
 | 0=>[]
 | 1=>A
 | _=>A ++ B
theorem concatT_any (A B:List ByteArray) (va vb:Value) (CB:Nat) (w:World) (hA:IsTxs w va A) (hB:IsTxs w vb B) (h0:w.cell? ⟨CB,0,none⟩=some va) (h1:w.cell? ⟨CB,1,none⟩=some vb) (hl:A.length+B.length<=1000000) :
  Calls Tryz.prog 59 #[.slice (some ⟨CB,0,none⟩) 2 2] w fun e w'=>(∃ v,e=.returned v/\Own w.heap.size 9 eTx 1 w' v (A ++ B))/\Below w.heap.size w w':=by
 obtain ⟨aa,ac,rfl,_,_,hAs⟩:=hA
 obtain ⟨ba,bc,rfl,_,_,hBs⟩:=hB
 obtain ⟨NT,hNT⟩:∃ NT,NT=A.length+B.length:=⟨_,rfl⟩
 have HNT:=qh hNT
 have hl2:NT<=1000000:=by omega
 clear hNT
 go_enter Tryz.func59,Tryz.ntmps59
 go_wp2_with fail
 go_loopw [3,11] (fun s3 s11 wx=>wx=w/\∃ k:Nat,k<=2/\s11=.int .i64 k/\s3=.int .i64 (szT A.length NT k)) (fun _ s11 _=>2-(intOf s11).toNat)
 case atStart=>exact ⟨rfl,0,Nat.zero_le _,rfl,rfl⟩
 case round=>
  obtain ⟨rfl,k,hk,rfl,rfl⟩:=hrel
  have hcase:k=0\/k=1\/k=2:=by omega
  rcases hcase with rfl|rfl|rfl
  ·have x9:IntKind.i64.wrap ((A.length:Int))=A.length:=IntWalk.i64_in _ om
   have g0:decide ((A.length:Int)<0)=false:=decide_eq_false om
   simp only [szT]
   go_wp2_with fail
   go_roundw
   case measure=>simp [intOf]
   case rel=>exact ⟨trivial,1,by omega,by go_num,rfl⟩
  ·have x9:IntKind.i64.wrap ((A.length:Int)+B.length)=NT:=by rw [IntWalk.i64_in _ om];have:=HNT.out;omega
   have g0:decide ((NT:Int)<0)=false:=decide_eq_false om
   simp only [szT]
   go_wp2_with fail
   go_roundw
   case measure=>simp [intOf]
   case rel=>exact ⟨trivial,2,by omega,by go_num,rfl⟩
  ·simp only [szT]
   go_wp2_with fail
   refine Calls.to (growT_any NT _ hl2) ?_
   rintro e w1 ⟨gv,rfl,hO⟩ hb1
   have c0:=cel_lt h0 hb1
   have c1:=cel_lt h1 hb1
   go_wp2_with fail
   go_loopw [6,27] (fun s6 s27 wx=>∃ k:Nat,k<=2/\s27=.int .i64 k/\Own wr.heap.size 9 eTx 1 wx s6 (catT A B k)/\Below wr.heap.size wr wx) (fun _ s27 _=>2-(intOf s27).toNat)
   case atStart=>exact ⟨0,Nat.zero_le _,rfl,hO,hb1⟩
   clear hO hb1 c0 c1
   case round=>
    obtain ⟨k,hk,rfl,HO,hb⟩:=hrel
    have c0:=cel_lt h0 hb
    have c1:=cel_lt h1 hb
    have hAx:=hAs.mono hb
    have hBx:=hBs.mono hb
    have hal:A.length<1073741824:=by omega
    have hbl:B.length<1073741824:=by omega
    have hcase:k=0\/k=1\/k=2:=by omega
    have hsz:=hb.size
    rcases hcase with rfl|rfl|rfl
    ·obtain ⟨oa,oc,rfl⟩:=HO.isSlice
     go_wp2_with (at_builtin;go_must (refine wpList_appR rfl _ _ 42 rfl 9 _ 1 16 undStr infStr rfl (by decide) (fun _=>rfl) (by intro y u hu;simp at hu;subst hu;rfl) _ [] A rfl HO aa ac rfl hAx (by decide) hal (by decide) hsz ?_);intro v5 w5 hR5)
     have HO5:=hR5.own
     have hb5:=hb.trans (hR5.below HO hsz)
     go_wp2_with fail
     go_roundw
     case measure=>simp [intOf]
     case rel=>exact ⟨1,by omega,by go_num,HO5,hb5⟩
    ·obtain ⟨oa,oc,rfl⟩:=HO.isSlice
     go_wp2_with (at_builtin;go_must (refine wpList_appR rfl _ _ 42 rfl 9 _ 1 16 undStr infStr rfl (by decide) (fun _=>rfl) (by intro y u hu;simp at hu;subst hu;rfl) _ A B rfl HO ba bc rfl hBx hal hbl (by decide) hsz ?_);intro v5 w5 hR5)
     have HO5:=hR5.own
     have hb5:=hb.trans (hR5.below HO hsz)
     go_wp2_with fail
     go_roundw
     case measure=>simp [intOf]
     case rel=>exact ⟨2,by omega,by go_num,HO5,hb5⟩
    ·obtain ⟨oa,oc,rfl⟩:=HO.isSlice
     go_wp2_with fail
     go_ret
     exact ⟨⟨_,rfl,HO⟩,hb⟩
end Go.Proofs.YtoiakijmbghhlaaGreat
