/- States as arguments: how they read, IndexFunc and ContainsFunc at states. Conditions: none. | Knots, nodes, links, networks as plain data: how an argument of these types reads; IndexFunc and ContainsFunc at them. Conditions: none. | Lists of numbers: sought, compared, written out. No function of the program is named. Conditions: none. -/
import Derived.Test.YtoiakijmbghhlaaGreatProg
import Derived.BigRegion
import Derived.Test.YtoiakijmbghhlaaGreatS00
import Derived.Deep.RegionHeld3
import Derived.Deep.DeepMust
import Derived.Deep.DeepCutAuto
import Derived.Deep.QuietTactic
import Derived.BigQuiet
import Derived.Lib.Hide
set_option linter.unusedVariables false
set_option linter.unusedSimpArgs false
set_option maxRecDepth 100000
set_option maxHeartbeats 32000000
namespace Go.Proofs.YtoiakijmbghhlaaGreat
open Go.RowKit
abbrev gI64:World->Int->Prop:=fun _ n=>(Lit.int .i64 n).wf=true
abbrev eBool (b:Bool):List Value:=[.bool b]
abbrev gTrue {α:Type}:World->α->Prop:=fun _ _=>True
theorem rdI:Rdr Tryz.prog 3 eInt 1 gI64:=rdInt (by kernel_rfl) (by kernel_rfl)
theorem rdInts:Rdr Tryz.prog 28 (fun s:Sl Int=>[vSl s]) 1 (gSl eInt 1 gI64):=rdSlice rdI Nat.zero_lt_one (by kernel_rfl) (by kernel_rfl)
theorem rdBools:Rdr Tryz.prog 29 (fun s:Sl Bool=>[vSl s]) 1 (gSl eBool 1 gTrue):=rdSlice (rdBool (t:=4) (by kernel_rfl) (by kernel_rfl)) Nat.zero_lt_one (by kernel_rfl) (by kernel_rfl)
structure St where
 V:Sl Int
 P:Sl Int
 S:Sl Int
 O:Sl Bool
abbrev eSt (s:St):List Value:=[vSl s.V,vSl s.P,vSl s.S,vSl s.O]
abbrev vSt (s:St):Value:=.agg #[vSl s.V,vSl s.P,vSl s.S,vSl s.O]
abbrev gInts:World->Sl Int->Prop:=gSl eInt 1 gI64
def gSt (W:World) (s:St):Prop:=gInts W s.V/\gInts W s.P/\gInts W s.S/\gSl eBool 1 gTrue W s.O
theorem rdSt:Rdr Tryz.prog 31 eSt 4 gSt:=by
 refine ⟨by kernel_rfl,fun _=>rfl,?_,?_⟩
 ·intro H e W fuel cs x h
  obtain ⟨hl,hf⟩:=rd_fields (by kernel_rfl) h
  rw [show Tryz.prog.cellsOf 31=4 from by kernel_rfl] at hl
  obtain ⟨a0,e0,g0⟩:=hf 0 28 0 (by kernel_rfl) rdInts
  obtain ⟨a1,e1,g1⟩:=hf 1 28 1 (by kernel_rfl) rdInts
  obtain ⟨a2,e2,g2⟩:=hf 2 28 2 (by kernel_rfl) rdInts
  obtain ⟨a3,e3,g3⟩:=hf 3 29 3 (by kernel_rfl) rdBools
  have hj:=cutAt_join cs [1,1,1,1] 0 (by rw [hl];rfl)
  simp only [cutAt,Nat.zero_add,Nat.reduceAdd] at hj
  rw [e0,e1,e2,e3] at hj
  exact ⟨⟨a0,a1,a2,a3⟩,by simpa using hj.symm,g0,g1,g2,g3⟩
 ·intro W W' a ⟨h0,h1,h2,h3⟩ hb
  exact ⟨rdInts.mono h0 hb,rdInts.mono h1 hb,rdInts.mono h2 hb,rdBools.mono h3 hb⟩
theorem IsC.st {w:World} {a:Option Addr} {xs:List St} (h:IsC eSt 4 w a xs) (i:Nat) (hi:i<xs.length) :
  ∃ b off,a=some ⟨b,off,none⟩/\w.cell? ⟨b,off+i*4,none⟩=some (.slice xs[i].V.a xs[i].V.xs.length xs[i].V.cap)/\w.cell? ⟨b,off+i*4+1,none⟩=some (.slice xs[i].P.a xs[i].P.xs.length xs[i].P.cap) /\
   w.cell? ⟨b,off+i*4+2,none⟩=some (.slice xs[i].S.a xs[i].S.xs.length xs[i].S.cap)/\w.cell? ⟨b,off+i*4+3,none⟩=some (.slice xs[i].O.a xs[i].O.xs.length xs[i].O.cap):=by
 obtain ⟨b,off,e,hc⟩:=h i hi
 refine ⟨b,off,e,?_,?_,?_,?_⟩
 ·simpa using hc 0 om
 ·simpa using hc 1 om
 ·simpa using hc 2 om
 ·simpa using hc 3 om
structure Kn where
 X:Int
 Y:Int
deriving DecidableEq,Repr
instance:Inhabited Kn:=⟨⟨0,0⟩⟩
abbrev eKn (k:Kn):List Value:=[.int .i64 k.X,.int .i64 k.Y]
abbrev vKn (k:Kn):Value:=.agg #[.int .i64 k.X,.int .i64 k.Y]
theorem eKn_len (k:Kn):(eKn k).length=2:=rfl
def gKn (W:World) (k:Kn):Prop:=gI64 W k.X/\gI64 W k.Y
theorem rdKn:Rdr Tryz.prog 100 eKn 2 gKn:=by
 refine ⟨by kernel_rfl,fun _=>rfl,?_,?_⟩
 ·intro H e W fuel cs x h
  obtain ⟨hl,hf⟩:=rd_fields (by kernel_rfl) h
  rw [show Tryz.prog.cellsOf 100=2 from by kernel_rfl] at hl
  obtain ⟨a0,e0,g0⟩:=hf 0 3 0 (by kernel_rfl) rdI
  obtain ⟨a1,e1,g1⟩:=hf 1 3 1 (by kernel_rfl) rdI
  have hj:=cutAt_join cs [1,1] 0 (by rw [hl];rfl)
  simp only [cutAt,Nat.zero_add,Nat.reduceAdd] at hj
  rw [e0,e1] at hj
  exact ⟨⟨a0,a1⟩,by simpa using hj.symm,g0,g1⟩
 ·intro W W' a h hb
  exact h
abbrev gTab:World->Sl Kn->Prop:=gSl eKn 2 gKn
abbrev IsKns (w:World) (v:Value) (xs:List Kn):Prop:=IsL eKn 2 w v xs
theorem rdTab:Rdr Tryz.prog 46 (fun s:Sl Kn=>[vSl s]) 1 gTab:=rdSlice rdKn (by decide) (by kernel_rfl) (by kernel_rfl)
theorem rdPt:Rdr Tryz.prog 44 eKn 2 gKn:=by
 refine ⟨by kernel_rfl,fun _=>rfl,?_,?_⟩
 ·intro H e W fuel cs x h
  obtain ⟨hl,hf⟩:=rd_fields (by kernel_rfl) h
  rw [show Tryz.prog.cellsOf 44=2 from by kernel_rfl] at hl
  obtain ⟨a0,e0,g0⟩:=hf 0 3 0 (by kernel_rfl) rdI
  obtain ⟨a1,e1,g1⟩:=hf 1 3 1 (by kernel_rfl) rdI
  have hj:=cutAt_join cs [1,1] 0 (by rw [hl];rfl)
  simp only [cutAt,Nat.zero_add,Nat.reduceAdd] at hj
  rw [e0,e1] at hj
  exact ⟨⟨a0,a1⟩,by simpa using hj.symm,g0,g1⟩
 ·intro W W' a h hb
  exact h
structure Nd where
 Name:ByteArray
 Kind:Int
 AX:Int
 AY:Int
 Inv:Int
 Gr:Int
 Sh:Sl Kn
 Pro:Bool
 Res:Int
abbrev eNd (n:Nd):List Value:=[.string n.Name,.int .i64 n.Kind,.int .i64 n.AX,.int .i64 n.AY,.int .i64 n.Inv,.int .i64 n.Gr,vSl n.Sh,.bool n.Pro,.int .i64 n.Res]
abbrev vNd (n:Nd):Value:=.agg #[.string n.Name,.int .i64 n.Kind,.int .i64 n.AX,.int .i64 n.AY,.int .i64 n.Inv,.int .i64 n.Gr,vSl n.Sh,.bool n.Pro,.int .i64 n.Res]
theorem eNd_len (n:Nd):(eNd n).length=9:=rfl
structure gNd (W:World) (n:Nd):Prop where
 name:n.Name.size<=maxLen
 kind:gI64 W n.Kind
 ax:gI64 W n.AX
 ay:gI64 W n.AY
 inv:gI64 W n.Inv
 gr:gI64 W n.Gr
 sh:gTab W n.Sh
 res:gI64 W n.Res
theorem rdStr:Rdr Tryz.prog 9 (fun s:ByteArray=>[.string s]) 1 (fun _ s=>s.size<=maxLen):=rdString (by kernel_rfl) (by kernel_rfl)
theorem rdB:Rdr Tryz.prog 4 (fun b:Bool=>[.bool b]) 1 (fun _ _=>True):=rdBool (by kernel_rfl) (by kernel_rfl)
theorem rdNd:Rdr Tryz.prog 48 eNd 9 gNd:=by
 refine ⟨by kernel_rfl,fun _=>rfl,?_,?_⟩
 ·intro H e W fuel cs x h
  obtain ⟨hl,hf⟩:=rd_fields (by kernel_rfl) h
  rw [show Tryz.prog.cellsOf 48=9 from by kernel_rfl] at hl
  obtain ⟨a0,e0,g0⟩:=hf 0 9 0 (by kernel_rfl) rdStr
  obtain ⟨a1,e1,g1⟩:=hf 1 3 1 (by kernel_rfl) rdI
  obtain ⟨a2,e2,g2⟩:=hf 2 44 2 (by kernel_rfl) rdPt
  obtain ⟨a4,e4,g4⟩:=hf 3 3 4 (by kernel_rfl) rdI
  obtain ⟨a5,e5,g5⟩:=hf 4 3 5 (by kernel_rfl) rdI
  obtain ⟨a6,e6,g6⟩:=hf 5 46 6 (by kernel_rfl) rdTab
  obtain ⟨a7,e7,g7⟩:=hf 6 4 7 (by kernel_rfl) rdB
  obtain ⟨a8,e8,g8⟩:=hf 7 3 8 (by kernel_rfl) rdI
  have hj:=cutAt_join cs [1,1,2,1,1,1,1,1] 0 (by rw [hl];rfl)
  simp only [cutAt,Nat.zero_add,Nat.reduceAdd] at hj
  rw [e0,e1,e2,e4,e5,e6,e7,e8] at hj
  exact ⟨⟨a0,a1,a2.X,a2.Y,a4,a5,a6,a7,a8⟩,by simpa using hj.symm,⟨g0,g1,g2.1,g2.2,g4,g5,g6,g8⟩⟩
 ·intro W W' a h hb
  exact ⟨h.name,h.kind,h.ax,h.ay,h.inv,h.gr,rdTab.mono h.sh hb,h.res⟩
structure Lk where
 Name:ByteArray
 From:ByteArray
 To:ByteArray
 Kind:Int
 Len:Int
 Up:Int
 Down:Int
 Sec:ByteArray
 Wi:Int
 He:Int
 Cu:Sl Kn
abbrev eLk (l:Lk):List Value:=[.string l.Name,.string l.From,.string l.To,.int .i64 l.Kind,.int .i64 l.Len,.int .i64 l.Up,.int .i64 l.Down,.string l.Sec,.int .i64 l.Wi,.int .i64 l.He,vSl l.Cu]
abbrev vLk (l:Lk):Value:=.agg #[.string l.Name,.string l.From,.string l.To,.int .i64 l.Kind,.int .i64 l.Len,.int .i64 l.Up,.int .i64 l.Down,.string l.Sec,.int .i64 l.Wi,.int .i64 l.He,vSl l.Cu]
theorem eLk_len (l:Lk):(eLk l).length=11:=rfl
structure gLk (W:World) (l:Lk):Prop where
 name:l.Name.size<=maxLen
 src:l.From.size<=maxLen
 dst:l.To.size<=maxLen
 kind:gI64 W l.Kind
 len:gI64 W l.Len
 up:gI64 W l.Up
 down:gI64 W l.Down
 sec:l.Sec.size<=maxLen
 wi:gI64 W l.Wi
 he:gI64 W l.He
 cu:gTab W l.Cu
theorem rdLk:Rdr Tryz.prog 61 eLk 11 gLk:=by
 refine ⟨by kernel_rfl,fun _=>rfl,?_,?_⟩
 ·intro H e W fuel cs x h
  obtain ⟨hl,hf⟩:=rd_fields (by kernel_rfl) h
  rw [show Tryz.prog.cellsOf 61=11 from by kernel_rfl] at hl
  obtain ⟨a0,e0,g0⟩:=hf 0 9 0 (by kernel_rfl) rdStr
  obtain ⟨a1,e1,g1⟩:=hf 1 9 1 (by kernel_rfl) rdStr
  obtain ⟨a2,e2,g2⟩:=hf 2 9 2 (by kernel_rfl) rdStr
  obtain ⟨a3,e3,g3⟩:=hf 3 3 3 (by kernel_rfl) rdI
  obtain ⟨a4,e4,g4⟩:=hf 4 3 4 (by kernel_rfl) rdI
  obtain ⟨a5,e5,g5⟩:=hf 5 3 5 (by kernel_rfl) rdI
  obtain ⟨a6,e6,g6⟩:=hf 6 3 6 (by kernel_rfl) rdI
  obtain ⟨a7,e7,g7⟩:=hf 7 9 7 (by kernel_rfl) rdStr
  obtain ⟨a8,e8,g8⟩:=hf 8 3 8 (by kernel_rfl) rdI
  obtain ⟨a9,e9,g9⟩:=hf 9 3 9 (by kernel_rfl) rdI
  obtain ⟨a10,e10,g10⟩:=hf 10 46 10 (by kernel_rfl) rdTab
  have hj:=cutAt_join cs [1,1,1,1,1,1,1,1,1,1,1] 0 (by rw [hl];rfl)
  simp only [cutAt,Nat.zero_add,Nat.reduceAdd] at hj
  rw [e0,e1,e2,e3,e4,e5,e6,e7,e8,e9,e10] at hj
  exact ⟨⟨a0,a1,a2,a3,a4,a5,a6,a7,a8,a9,a10⟩,by simpa using hj.symm,⟨g0,g1,g2,g3,g4,g5,g6,g7,g8,g9,g10⟩⟩
 ·intro W W' a h hb
  exact ⟨h.name,h.src,h.dst,h.kind,h.len,h.up,h.down,h.sec,h.wi,h.he,rdTab.mono h.cu hb⟩
structure Net where
 Ns:Sl Nd
 Ls:Sl Lk
abbrev eNet (n:Net):List Value:=[vSl n.Ns,vSl n.Ls]
abbrev vNet (n:Net):Value:=.agg #[vSl n.Ns,vSl n.Ls]
abbrev gNds:World->Sl Nd->Prop:=gSl eNd 9 gNd
abbrev gLks:World->Sl Lk->Prop:=gSl eLk 11 gLk
def gNet (W:World) (n:Net):Prop:=gNds W n.Ns/\gLks W n.Ls
theorem rdNds:Rdr Tryz.prog 22 (fun s:Sl Nd=>[vSl s]) 1 gNds:=rdSlice rdNd (by decide) (by kernel_rfl) (by kernel_rfl)
theorem rdLks:Rdr Tryz.prog 23 (fun s:Sl Lk=>[vSl s]) 1 gLks:=rdSlice rdLk (by decide) (by kernel_rfl) (by kernel_rfl)
theorem rdNet:Rdr Tryz.prog 25 eNet 2 gNet:=by
 refine ⟨by kernel_rfl,fun _=>rfl,?_,?_⟩
 ·intro H e W fuel cs x h
  obtain ⟨hl,hf⟩:=rd_fields (by kernel_rfl) h
  rw [show Tryz.prog.cellsOf 25=2 from by kernel_rfl] at hl
  obtain ⟨a0,e0,g0⟩:=hf 0 22 0 (by kernel_rfl) rdNds
  obtain ⟨a1,e1,g1⟩:=hf 1 23 1 (by kernel_rfl) rdLks
  have hj:=cutAt_join cs [1,1] 0 (by rw [hl];rfl)
  simp only [cutAt,Nat.zero_add,Nat.reduceAdd] at hj
  rw [e0,e1] at hj
  exact ⟨⟨a0,a1⟩,by simpa using hj.symm,g0,g1⟩
 ·intro W W' a h hb
  exact ⟨rdNds.mono h.1 hb,rdLks.mono h.2 hb⟩
theorem openNet {H:Type} {en:TypeId×Value->H} {W:World} {v:Value} {d:DataW H} {ps:List MemPlace} {r:Reach} {b0:Nat} (hv:Value.okWide Tryz.prog W r b0 25 v) (h:DataW.Trod en Tryz.prog W 0 (fun _=>true) true 25 v d ps) :
  ∃ n:Net,v=vNet n/\gNet W n:=arg_struct (fs:=flds Tryz.prog 25) rdNet (by kernel_rfl) hv h
theorem openSt {H:Type} {en:TypeId×Value->H} {W:World} {v:Value} {d:DataW H} {ps:List MemPlace} {r:Reach} {b0:Nat} (hv:Value.okWide Tryz.prog W r b0 31 v) (h:DataW.Trod en Tryz.prog W 0 (fun _=>true) true 31 v d ps) :
  ∃ s:St,v=vSt s/\gSt W s:=arg_struct (fs:=flds Tryz.prog 31) rdSt (by kernel_rfl) hv h
theorem IsC.kn {w:World} {a:Option Addr} {xs:List Kn} (h:IsC eKn 2 w a xs) (i:Nat) (hi:i<xs.length) :
  ∃ b off,a=some ⟨b,off,none⟩/\w.cell? ⟨b,off+i*2,none⟩=some (.int .i64 xs[i].X)/\w.cell? ⟨b,off+i*2+1,none⟩=some (.int .i64 xs[i].Y):=by
 obtain ⟨b,off,e,hc⟩:=h i hi
 refine ⟨b,off,e,?_,?_⟩
 ·simpa using hc 0 om
 ·simpa using hc 1 om
theorem IsC.nd {w:World} {a:Option Addr} {xs:List Nd} (h:IsC eNd 9 w a xs) (i:Nat) (hi:i<xs.length) :
  ∃ b off,a=some ⟨b,off,none⟩/\w.cell? ⟨b,off+i*9,none⟩=some (.string xs[i].Name)/\w.cell? ⟨b,off+i*9+1,none⟩=some (.int .i64 xs[i].Kind) /\
   w.cell? ⟨b,off+i*9+2,none⟩=some (.int .i64 xs[i].AX)/\w.cell? ⟨b,off+i*9+3,none⟩=some (.int .i64 xs[i].AY)/\w.cell? ⟨b,off+i*9+4,none⟩=some (.int .i64 xs[i].Inv) /\
   w.cell? ⟨b,off+i*9+5,none⟩=some (.int .i64 xs[i].Gr)/\w.cell? ⟨b,off+i*9+6,none⟩=some (.slice xs[i].Sh.a xs[i].Sh.xs.length xs[i].Sh.cap)/\w.cell? ⟨b,off+i*9+7,none⟩=some (.bool xs[i].Pro) /\
   w.cell? ⟨b,off+i*9+8,none⟩=some (.int .i64 xs[i].Res):=by
 obtain ⟨b,off,e,hc⟩:=h i hi
 refine ⟨b,off,e,?_,?_,?_,?_,?_,?_,?_,?_,?_⟩
 ·simpa using hc 0 om
 ·simpa using hc 1 om
 ·simpa using hc 2 om
 ·simpa using hc 3 om
 ·simpa using hc 4 om
 ·simpa using hc 5 om
 ·simpa using hc 6 om
 ·simpa using hc 7 om
 ·simpa using hc 8 om
theorem IsC.lk {w:World} {a:Option Addr} {xs:List Lk} (h:IsC eLk 11 w a xs) (i:Nat) (hi:i<xs.length) :
  ∃ b off,a=some ⟨b,off,none⟩/\w.cell? ⟨b,off+i*11,none⟩=some (.string xs[i].Name)/\w.cell? ⟨b,off+i*11+1,none⟩=some (.string xs[i].From) /\
   w.cell? ⟨b,off+i*11+2,none⟩=some (.string xs[i].To)/\w.cell? ⟨b,off+i*11+3,none⟩=some (.int .i64 xs[i].Kind)/\w.cell? ⟨b,off+i*11+4,none⟩=some (.int .i64 xs[i].Len) /\
   w.cell? ⟨b,off+i*11+5,none⟩=some (.int .i64 xs[i].Up)/\w.cell? ⟨b,off+i*11+6,none⟩=some (.int .i64 xs[i].Down)/\w.cell? ⟨b,off+i*11+7,none⟩=some (.string xs[i].Sec) /\
   w.cell? ⟨b,off+i*11+8,none⟩=some (.int .i64 xs[i].Wi)/\w.cell? ⟨b,off+i*11+9,none⟩=some (.int .i64 xs[i].He)/\w.cell? ⟨b,off+i*11+10,none⟩=some (.slice xs[i].Cu.a xs[i].Cu.xs.length xs[i].Cu.cap):=by
 obtain ⟨b,off,e,hc⟩:=h i hi
 refine ⟨b,off,e,?_,?_,?_,?_,?_,?_,?_,?_,?_,?_,?_⟩
 ·simpa using hc 0 om
 ·simpa using hc 1 om
 ·simpa using hc 2 om
 ·simpa using hc 3 om
 ·simpa using hc 4 om
 ·simpa using hc 5 om
 ·simpa using hc 6 om
 ·simpa using hc 7 om
 ·simpa using hc 8 om
 ·simpa using hc 9 om
 ·simpa using hc 10 om
abbrev IsNds (w:World) (v:Value) (xs:List Nd):Prop:=IsL eNd 9 w v xs
abbrev IsLks (w:World) (v:Value) (xs:List Lk):Prop:=IsL eLk 11 w v xs
theorem indexInts (g:Nat) (lb:Array Value) (eg:∀ args w,(callFunc g args).run Tryz.prog w=.ok (.enter g args) w) (p:Int->Bool) (xs:List Int) (v:Value) (w:World)
  (hv:IsInts w v xs) (hp:PredOn Tryz.prog g lb (fun x=>.int .i64 x) p xs w) :
  Calls Tryz.prog 81 #[v,.func (.func g) #[] lb] w fun e w'=>e=.returned (.int .i64 (idxFrom p xs 0))/\Below w.heap.size w w':=by
 obtain ⟨a,cap,rfl,hcap,hbig,hs⟩:=hv
 go_enter Tryz.func81,Tryz.ntmps81
 go_wp2
 go_loopw [5,8] (fun _ s8 wr=>∃ k:Nat,k<=xs.length/\s8=.int .i64 k/\Below w.heap.size w wr/\Hid (idxFrom p xs 0=idxFrom p (xs.drop k) k)) (fun _ i _=>xs.length-(intOf i).toNat)
 case atStart=>exact ⟨0,Nat.zero_le _,rfl,qr,rfl⟩
 case round=>
  obtain ⟨k,hk,rfl,hb,hm⟩:=hrel
  obtain ⟨x,rfl⟩:=more_of_below hb
  by_cases hlt:k<xs.length
  ·obtain ⟨b,off,rfl,hc⟩:=hs.int k hlt
   have hx:=hp (more w x) (below_more w x) xs[k] (List.getElem_mem hlt)
   have hstep:Hid (idxFrom p (xs.drop k) k=if p xs[k] then (k:Int) else idxFrom p (xs.drop (k+1)) (k+1)):=by
    rw [List.drop_eq_getElem_cons hlt];rfl
   clear hs hp
   generalize xs[k]=y at *
   cases hpy:p y
   all_goals
    rw [hpy] at hx hstep
    clear hpy
    go_wp2_with fail
    refine (Calls.on hx ?_)
    rintro e x' rfl
    go_wp2_with fail
   ·go_roundw
    case rel=>exact ⟨k+1,by omega,by go_num,bl,hm.out.trans (hstep.out.trans (by simp))⟩
    case measure=>simp [intOf];omega
   ·go_ret
    exact ⟨ret_int (hm.out.trans (hstep.out.trans (by simp))).symm,bl⟩
  ·go_wp2
   go_ret
   refine ⟨ret_int ?_,below_more _ _⟩
   rw [hm.out,List.drop_eq_nil_of_le om];rfl
theorem containsInts (g:Nat) (lb:Array Value) (eg:∀ args w,(callFunc g args).run Tryz.prog w=.ok (.enter g args) w) (p:Int->Bool) (xs:List Int) (v:Value) (w:World)
  (hv:IsInts w v xs) (hp:PredOn Tryz.prog g lb (fun x=>.int .i64 x) p xs w) :
  Calls Tryz.prog 24 #[v,.func (.func g) #[] lb] w fun e w'=>e=.returned (.bool (xs.any p))/\Below w.heap.size w w':=by
 go_enter Tryz.func24,Tryz.ntmps24
 go_wp2_with fail
 refine Calls.to (indexInts g lb eg p xs v w hv hp) ?_
 rintro e w1 rfl hb
 go_wp2_with fail
 go_ret
 exact ⟨ret_bool (idxFrom_any p xs 0),hb⟩
def eqGo {α:Type} [DecidableEq α]:List α->List α->Bool
 | x :: r,y :: s=>decide (x=y)&&eqGo r s
 | _,_=>true
theorem eqGo_iff {α:Type} [DecidableEq α]:∀ (xs ys:List α),xs.length=ys.length->eqGo xs ys=decide (xs=ys)
 | [],[],_=>by simp [eqGo]
 | x :: r,y :: s,h=>by
  simp only [eqGo,eqGo_iff r s (by simpa using h)]
  by_cases h1:x=y <;> by_cases h2:r=s <;> simp [h1,h2]
 | [],_ :: _,h=>by simp at h
 | _ :: _,[],h=>by simp at h
theorem undInts:Tryz.prog.underlying 28=some (.slice 3):=by kernel_rfl
theorem infInt:(Tryz.prog.info? 3).map (fun i=>(i.zero,i.size,i.bytes))=some (some (.int .i64 0),1,8):=by kernel_rfl
theorem isL_lit {α:Type} (enc:α->List Value) (k:Nat) (hk:∀ x,(enc x).length=k) (w:World) (b:Nat) (e:TypeId) (cs:Array Value) (xs:List α) (n cap:Nat) (hb:w.heap[b]? = some (.cells cs e (0,0))) (hn:n=xs.length) (hcs:cs.toList=xs.flatMap enc) (hc:xs.length<=cap) (hc2:cap<=9223372036854775807) :
  IsL enc k w (.slice (some ⟨b,0,none⟩) n cap) xs:=by
 refine ⟨some ⟨b,0,none⟩,cap,by rw [hn],hc,hc2,fun i hi=>⟨b,0,rfl,fun j hj=>?_⟩⟩
 have h1:=flat_get enc k hk xs i j hi hj
 rw [<-hcs] at h1
 simp only [World.cell?,hb,Nat.zero_add]
 simpa using h1
end Go.Proofs.YtoiakijmbghhlaaGreat
