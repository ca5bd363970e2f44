/- Conditions, rules, inflows, sections as plain data: how an argument of these types reads. Conditions: none. | node and link (the index of a name) on both sides. Conditions: the slices read as lists. | Small facts for Valid of networks. Conditions: none. -/
import Derived.Test.YtoiakijmbghhlaaGreatS01
import Derived.Test.YtoiakijmbghhlaaGreatS13
import Derived.Test.YtoiakijmbghhlaaGreatS02
import Derived.Test.YtoiakijmbghhlaaGreatS00
import Derived.Test.YtoiakijmbghhlaaGreatS03
set_option linter.unusedVariables false
set_option linter.unusedSimpArgs false
set_option maxRecDepth 100000
set_option maxHeartbeats 32000000
namespace Go.Proofs.YtoiakijmbghhlaaGreat
open Go.RowKit
structure CoD where
 N:ByteArray
 B:Bool
 L:Int
abbrev eCo (x:CoD):List Value:=[.string x.N,.bool x.B,.int .i64 x.L]
abbrev vCo (x:CoD):Value:=.agg #[.string x.N,.bool x.B,.int .i64 x.L]
structure gCo (W:World) (x:CoD):Prop where
 n:x.N.size<=maxLen
 l:(Lit.int .i64 x.L).wf=true
theorem rdCo:Rdr Tryz.prog 270 eCo 3 gCo:=by
 refine ⟨by kernel_rfl,fun _=>rfl,?_,?_⟩
 ·intro H e W fuel cs x h
  obtain ⟨hl,hf⟩:=rd_fields (by kernel_rfl) h
  rw [show Tryz.prog.cellsOf 270=3 from by kernel_rfl] at hl
  obtain ⟨a0,e0,g0⟩:=hf 0 9 0 (by kernel_rfl) rdStr
  obtain ⟨a1,e1,g1⟩:=hf 1 4 1 (by kernel_rfl) rdB
  obtain ⟨a2,e2,g2⟩:=hf 2 3 2 (by kernel_rfl) rdI
  have hj:=cutAt_join cs [1,1,1] 0 (by rw [hl];rfl)
  simp only [cutAt,Nat.zero_add,Nat.reduceAdd] at hj
  rw [e0,e1,e2] at hj
  exact ⟨⟨a0,a1,a2⟩,by simpa using hj.symm,⟨g0,g2⟩⟩
 ·intro W W' a h hb
  exact ⟨h.n,h.l⟩
abbrev gCos:World->Sl CoD->Prop:=gSl eCo 3 gCo
theorem rdCos:Rdr Tryz.prog 115 (fun s:Sl CoD=>[vSl s]) 1 gCos:=rdSlice rdCo (by decide) (by kernel_rfl) (by kernel_rfl)
structure RuD where
 N:ByteArray
 W:Sl CoD
 L:ByteArray
 S:Int
abbrev eRu (x:RuD):List Value:=[.string x.N,vSl x.W,.string x.L,.int .i64 x.S]
abbrev vRu (x:RuD):Value:=.agg #[.string x.N,vSl x.W,.string x.L,.int .i64 x.S]
structure gRu (W:World) (x:RuD):Prop where
 n:x.N.size<=maxLen
 w:gCos W x.W
 l:x.L.size<=maxLen
 s:(Lit.int .i64 x.S).wf=true
theorem rdRu:Rdr Tryz.prog 117 eRu 4 gRu:=by
 refine ⟨by kernel_rfl,fun _=>rfl,?_,?_⟩
 ·intro H e W fuel cs x h
  obtain ⟨hl,hf⟩:=rd_fields (by kernel_rfl) h
  rw [show Tryz.prog.cellsOf 117=4 from by kernel_rfl] at hl
  obtain ⟨a0,e0,g0⟩:=hf 0 9 0 (by kernel_rfl) rdStr
  obtain ⟨a1,e1,g1⟩:=hf 1 115 1 (by kernel_rfl) rdCos
  obtain ⟨a2,e2,g2⟩:=hf 2 9 2 (by kernel_rfl) rdStr
  obtain ⟨a3,e3,g3⟩:=hf 3 3 3 (by kernel_rfl) rdI
  have hj:=cutAt_join cs [1,1,1,1] 0 (by rw [hl];rfl)
  simp only [cutAt,Nat.zero_add,Nat.reduceAdd] at hj
  rw [e0,e1,e2,e3] at hj
  exact ⟨⟨a0,a1,a2,a3⟩,by simpa using hj.symm,⟨g0,g1,g2,g3⟩⟩
 ·intro W W' a h hb
  exact ⟨h.n,rdCos.mono h.w hb,h.l,h.s⟩
structure InD where
 N:ByteArray
 V:Sl Int
abbrev eIn (x:InD):List Value:=[.string x.N,vSl x.V]
abbrev vIn (x:InD):Value:=.agg #[.string x.N,vSl x.V]
structure gIn (W:World) (x:InD):Prop where
 n:x.N.size<=maxLen
 v:gInts W x.V
theorem rdIn:Rdr Tryz.prog 121 eIn 2 gIn:=by
 refine ⟨by kernel_rfl,fun _=>rfl,?_,?_⟩
 ·intro H e W fuel cs x h
  obtain ⟨hl,hf⟩:=rd_fields (by kernel_rfl) h
  rw [show Tryz.prog.cellsOf 121=2 from by kernel_rfl] at hl
  obtain ⟨a0,e0,g0⟩:=hf 0 9 0 (by kernel_rfl) rdStr
  obtain ⟨a1,e1,g1⟩:=hf 1 28 1 (by kernel_rfl) rdInts
  have hj:=cutAt_join cs [1,1] 0 (by rw [hl];rfl)
  simp only [cutAt,Nat.zero_add,Nat.reduceAdd] at hj
  rw [e0,e1] at hj
  exact ⟨⟨a0,a1⟩,by simpa using hj.symm,⟨g0,g1⟩⟩
 ·intro W W' a h hb
  exact ⟨h.n,rdInts.mono h.v hb⟩
structure gSec (W:World) (x:SecD):Prop where
 n:x.N.size<=maxLen
 ht:(Lit.int .i64 x.Ht).wf=true
 pr:(Lit.int .i64 x.Pr).wf=true
 a:gTab W x.A
 b:gTab W x.B
theorem rdSec:Rdr Tryz.prog 102 eSec 5 gSec:=by
 refine ⟨by kernel_rfl,fun _=>rfl,?_,?_⟩
 ·intro H e W fuel cs x h
  obtain ⟨hl,hf⟩:=rd_fields (by kernel_rfl) h
  rw [show Tryz.prog.cellsOf 102=5 from by kernel_rfl] at hl
  obtain ⟨a0,e0,g0⟩:=hf 0 9 0 (by kernel_rfl) rdStr
  obtain ⟨a1,e1,g1⟩:=hf 1 3 1 (by kernel_rfl) rdI
  obtain ⟨a2,e2,g2⟩:=hf 2 3 2 (by kernel_rfl) rdI
  obtain ⟨a3,e3,g3⟩:=hf 3 46 3 (by kernel_rfl) rdTab
  obtain ⟨a4,e4,g4⟩:=hf 4 46 4 (by kernel_rfl) rdTab
  have hj:=cutAt_join cs [1,1,1,1,1] 0 (by rw [hl];rfl)
  simp only [cutAt,Nat.zero_add,Nat.reduceAdd] at hj
  rw [e0,e1,e2,e3,e4] at hj
  exact ⟨⟨a0,a1,a2,a3,a4⟩,by simpa using hj.symm,⟨g0,g1,g2,g3,g4⟩⟩
 ·intro W W' a h hb
  exact ⟨h.n,h.ht,h.pr,rdTab.mono h.a hb,rdTab.mono h.b hb⟩
theorem gSec.is {W:World} {x:SecD} (h:gSec W x):IsSec W x:=⟨h.n,h.a.isL,h.b.isL⟩
abbrev gRus:World->Sl RuD->Prop:=gSl eRu 4 gRu
theorem rdRus:Rdr Tryz.prog 27 (fun s:Sl RuD=>[vSl s]) 1 gRus:=rdSlice rdRu (by decide) (by kernel_rfl) (by kernel_rfl)
theorem openRus {H:Type} {en:TypeId×Value->H} {W:World} {v:Value} {d:DataW H} {ps:List MemPlace} {r:Reach} {b0:Nat} (hv:Value.okWide Tryz.prog W r b0 27 v) (h:DataW.Trod en Tryz.prog W 0 (fun _=>true) true 27 v d ps) :
  ∃ s:Sl RuD,v=vSl s/\gRus W s:=arg_slice rdRu (by decide) (by kernel_rfl) (by kernel_rfl) hv h
abbrev gIns:World->Sl InD->Prop:=gSl eIn 2 gIn
theorem rdIns:Rdr Tryz.prog 32 (fun s:Sl InD=>[vSl s]) 1 gIns:=rdSlice rdIn (by decide) (by kernel_rfl) (by kernel_rfl)
theorem openIns {H:Type} {en:TypeId×Value->H} {W:World} {v:Value} {d:DataW H} {ps:List MemPlace} {r:Reach} {b0:Nat} (hv:Value.okWide Tryz.prog W r b0 32 v) (h:DataW.Trod en Tryz.prog W 0 (fun _=>true) true 32 v d ps) :
  ∃ s:Sl InD,v=vSl s/\gIns W s:=arg_slice rdIn (by decide) (by kernel_rfl) (by kernel_rfl) hv h
abbrev gSecs:World->Sl SecD->Prop:=gSl eSec 5 gSec
theorem rdSecs:Rdr Tryz.prog 26 (fun s:Sl SecD=>[vSl s]) 1 gSecs:=rdSlice rdSec (by decide) (by kernel_rfl) (by kernel_rfl)
theorem openSecs {H:Type} {en:TypeId×Value->H} {W:World} {v:Value} {d:DataW H} {ps:List MemPlace} {r:Reach} {b0:Nat} (hv:Value.okWide Tryz.prog W r b0 26 v) (h:DataW.Trod en Tryz.prog W 0 (fun _=>true) true 26 v d ps) :
  ∃ s:Sl SecD,v=vSl s/\gSecs W s:=arg_slice rdSec (by decide) (by kernel_rfl) (by kernel_rfl) hv h
theorem gSecs.is {W:World} {s:Sl SecD} (h:gSecs W s):IsSecs W (vSl s) s.xs:=⟨h.isL,fun x hx=>(h.2.2.2 x hx).is⟩
theorem IsC.co {w:World} {a:Option Addr} {xs:List CoD} (h:IsC eCo 3 w a xs) (i:Nat) (hi:i<xs.length) :
  ∃ b off,a=some ⟨b,off,none⟩/\w.cell? ⟨b,off+i*3,none⟩=some (.string xs[i].N)/\w.cell? ⟨b,off+i*3+1,none⟩=some (.bool xs[i].B)/\w.cell? ⟨b,off+i*3+2,none⟩=some (.int .i64 xs[i].L):=by
 obtain ⟨b,off,e,hc⟩:=h i hi
 refine ⟨b,off,e,?_,?_,?_⟩
 ·exact hc 0 om
 ·exact hc 1 om
 ·exact hc 2 om
theorem IsC.ru {w:World} {a:Option Addr} {xs:List RuD} (h:IsC eRu 4 w a xs) (i:Nat) (hi:i<xs.length) :
  ∃ b off,a=some ⟨b,off,none⟩/\w.cell? ⟨b,off+i*4,none⟩=some (.string xs[i].N)/\w.cell? ⟨b,off+i*4+1,none⟩=some (.slice xs[i].W.a xs[i].W.xs.length xs[i].W.cap)/\w.cell? ⟨b,off+i*4+2,none⟩=some (.string xs[i].L)/\w.cell? ⟨b,off+i*4+3,none⟩=some (.int .i64 xs[i].S):=by
 obtain ⟨b,off,e,hc⟩:=h i hi
 refine ⟨b,off,e,?_,?_,?_,?_⟩
 ·exact hc 0 om
 ·exact hc 1 om
 ·exact hc 2 om
 ·exact hc 3 om
theorem IsC.inf {w:World} {a:Option Addr} {xs:List InD} (h:IsC eIn 2 w a xs) (i:Nat) (hi:i<xs.length) :
  ∃ b off,a=some ⟨b,off,none⟩/\w.cell? ⟨b,off+i*2,none⟩=some (.string xs[i].N)/\w.cell? ⟨b,off+i*2+1,none⟩=some (.slice xs[i].V.a xs[i].V.xs.length xs[i].V.cap):=by
 obtain ⟨b,off,e,hc⟩:=h i hi
 refine ⟨b,off,e,?_,?_⟩
 ·exact hc 0 om
 ·exact hc 1 om
theorem bxCo (w W:World) (T:TypeId) (x:CoD) (cs:Array Value) (hcs:cs=(eCo x).toArray) (B:Nat) (hB:B=w.heap.size) (hb:Below (B+1) (w.alloc (.cells cs T)) W) :
  W.cell? ⟨B,0,none⟩=some (.string x.N)/\W.cell? ⟨B,1,none⟩=some (.bool x.B)/\W.cell? ⟨B,2,none⟩=some (.int .i64 x.L):=by
 subst hB;subst hcs
 exact ⟨(hb.cell (p:=⟨w.heap.size,0,none⟩) (by simp)).trans (by simp [go_sem]),(hb.cell (p:=⟨w.heap.size,1,none⟩) (by simp)).trans (by simp [go_sem]),(hb.cell (p:=⟨w.heap.size,2,none⟩) (by simp)).trans (by simp [go_sem])⟩
theorem bxRu (w W:World) (T:TypeId) (x:RuD) (cs:Array Value) (hcs:cs=(eRu x).toArray) (B:Nat) (hB:B=w.heap.size) (hb:Below (B+1) (w.alloc (.cells cs T)) W) :
  W.cell? ⟨B,0,none⟩=some (.string x.N)/\W.cell? ⟨B,1,none⟩=some (vSl x.W)/\W.cell? ⟨B,2,none⟩=some (.string x.L)/\W.cell? ⟨B,3,none⟩=some (.int .i64 x.S):=by
 subst hB;subst hcs
 exact ⟨(hb.cell (p:=⟨w.heap.size,0,none⟩) (by simp)).trans (by simp [go_sem]),(hb.cell (p:=⟨w.heap.size,1,none⟩) (by simp)).trans (by simp [go_sem]),(hb.cell (p:=⟨w.heap.size,2,none⟩) (by simp)).trans (by simp [go_sem]),(hb.cell (p:=⟨w.heap.size,3,none⟩) (by simp)).trans (by simp [go_sem])⟩
theorem bxIn (w W:World) (T:TypeId) (x:InD) (cs:Array Value) (hcs:cs=(eIn x).toArray) (B:Nat) (hB:B=w.heap.size) (hb:Below (B+1) (w.alloc (.cells cs T)) W) :
  W.cell? ⟨B,0,none⟩=some (.string x.N)/\W.cell? ⟨B,1,none⟩=some (vSl x.V):=by
 subst hB;subst hcs
 exact ⟨(hb.cell (p:=⟨w.heap.size,0,none⟩) (by simp)).trans (by simp [go_sem]),(hb.cell (p:=⟨w.heap.size,1,none⟩) (by simp)).trans (by simp [go_sem])⟩
theorem ent194:∀ args w,(callFunc 194 args).run Tryz.prog w=.ok (.enter 194 args) w:=by
 intro args w
 simp [go_sem]
theorem ent200:∀ args w,(callFunc 200 args).run Tryz.prog w=.ok (.enter 200 args) w:=by
 intro args w
 simp [go_sem]
theorem node1_any (x:Nd) (nm:ByteArray) (B:Nat) (w:World) (hc:w.cell? ⟨B,0,none⟩=some (.string nm)) :
  Calls Tryz.prog 194 #[vNd x,.pointer (some ⟨B,0,none⟩)] w fun e w'=>e=.returned (.bool (strB x.Name nm))/\Below w.heap.size w w':=by
 have H:Hid (strB x.Name nm=(x.Name.toList==nm.toList)):=rfl
 obtain ⟨xn,kd,ax,ay,iv,gr,⟨sa,scap,sxs⟩,pr,rs⟩:=x
 simp only at H
 simp only [vNd]
 generalize strB xn nm=r at *
 cases h:(xn.toList==nm.toList)
 all_goals
  have HH:=qh (H.out.trans h)
  clear H
  go_enter Tryz.func194,Tryz.ntmps194
  go_wp2_with fail
  go_ret
  exact ⟨ret_bool HH.out.symm,bl⟩
theorem link1_any (x:Lk) (nm:ByteArray) (B:Nat) (w:World) (hc:w.cell? ⟨B,0,none⟩=some (.string nm)) :
  Calls Tryz.prog 200 #[vLk x,.pointer (some ⟨B,0,none⟩)] w fun e w'=>e=.returned (.bool (strB x.Name nm))/\Below w.heap.size w w':=by
 have H:Hid (strB x.Name nm=(x.Name.toList==nm.toList)):=rfl
 obtain ⟨xn,fr,tt,kd,ln,up,dn,sc,wi,he,⟨sa,scap,sxs⟩⟩:=x
 simp only at H
 simp only [vLk]
 generalize strB xn nm=r at *
 cases h:(xn.toList==nm.toList)
 all_goals
  have HH:=qh (H.out.trans h)
  clear H
  go_enter Tryz.func200,Tryz.ntmps200
  go_wp2_with fail
  go_ret
  exact ⟨ret_bool HH.out.symm,bl⟩
theorem node_any (n:Net) (nm:ByteArray) (w:World) (hv:IsNds w (vSl n.Ns) n.Ns.xs) :
  Calls Tryz.prog 127 #[vNet n,.string nm] w fun e w'=>e=.returned (.int .i64 (findNd n.Ns.xs nm))/\Below w.heap.size w w':=by
 obtain ⟨⟨na,nc,nxs⟩,ls⟩:=n
 simp only at hv
 simp only [vNet]
 have hb0:Below w.heap.size w ((w.alloc (.cells #[vSl (⟨na,nc,nxs⟩:Sl Nd),vSl ls] 25)).alloc (.cells #[.string nm] 9)):=(qr.alloc (Nat.le_refl _) _).alloc (by simp) _
 have hv1:=hv.mono hb0
 go_enter Tryz.func127,Tryz.ntmps127
 go_wp2_with fail
 refine Calls.to (indexNd 194 #[.pointer (some ⟨w.heap.size+1,0,none⟩)] ent194 (fun x=>strB x.Name nm) nxs _ _ hv1 (fun W hW x _=>node1_any x nm _ W ((hW.cell (p:=⟨w.heap.size+1,0,none⟩) (by simp)).trans (by simp [go_sem])))) ?_
 rintro e w1 rfl hb1
 have hbb:=hb0.trans (hb1.mono hb0.size)
 clear hb0 hb1 hv hv1
 go_wp2_with fail
 go_ret
 exact ⟨rfl,hbb⟩
theorem link_any (n:Net) (nm:ByteArray) (w:World) (hv:IsLks w (vSl n.Ls) n.Ls.xs) :
  Calls Tryz.prog 129 #[vNet n,.string nm] w fun e w'=>e=.returned (.int .i64 (findLk n.Ls.xs nm))/\Below w.heap.size w w':=by
 obtain ⟨ns,⟨na,nc,nxs⟩⟩:=n
 simp only at hv
 simp only [vNet]
 have hb0:Below w.heap.size w ((w.alloc (.cells #[vSl ns,vSl (⟨na,nc,nxs⟩:Sl Lk)] 25)).alloc (.cells #[.string nm] 9)):=(qr.alloc (Nat.le_refl _) _).alloc (by simp) _
 have hv1:=hv.mono hb0
 go_enter Tryz.func129,Tryz.ntmps129
 go_wp2_with fail
 refine Calls.to (indexLk 200 #[.pointer (some ⟨w.heap.size+1,0,none⟩)] ent200 (fun x=>strB x.Name nm) nxs _ _ hv1 (fun W hW x _=>link1_any x nm _ W ((hW.cell (p:=⟨w.heap.size+1,0,none⟩) (by simp)).trans (by simp [go_sem])))) ?_
 rintro e w1 rfl hb1
 have hbb:=hb0.trans (hb1.mono hb0.size)
 clear hb0 hb1 hv hv1
 go_wp2_with fail
 go_ret
 exact ⟨rfl,hbb⟩
theorem boxNet (w W:World) (T:TypeId) (n:Net) (cs:Array Value) (hcs:cs=(eNet n).toArray) (B:Nat) (hB:B=w.heap.size+1) (hb:Below B (w.alloc (.cells cs T)) W) :
  W.cell? ⟨w.heap.size,0,none⟩=some (vSl n.Ns)/\W.cell? ⟨w.heap.size,1,none⟩=some (vSl n.Ls):=by
 subst hB;subst hcs
 exact ⟨(hb.cell (p:=⟨w.heap.size,0,none⟩) (by simp)).trans (by simp [go_sem]),(hb.cell (p:=⟨w.heap.size,1,none⟩) (by simp)).trans (by simp [go_sem])⟩
theorem bneT {a b:Int} (h:¬ a=b):(a != b)=true:=by simp [bne,beqF h]
theorem bneF {a b:Int} (h:a=b):(a != b)=false:=by simp [bne,beqT h]
theorem IsC.lkAt {w:World} {b off:Nat} {xs:List Lk} (h:IsC eLk 11 w (some ⟨b,off,none⟩) xs) (i:Nat) (hi:i<xs.length) :
  w.cell? ⟨b,off+i*11,none⟩=some (.string xs[i].Name)/\w.cell? ⟨b,off+i*11+1,none⟩=some (.string xs[i].From) /\
   w.cell? ⟨b,off+i*11+2,none⟩=some (.string xs[i].To)/\w.cell? ⟨b,off+i*11+3,none⟩=some (.int .i64 xs[i].Kind)/\w.cell? ⟨b,off+i*11+4,none⟩=some (.int .i64 xs[i].Len) /\
   w.cell? ⟨b,off+i*11+5,none⟩=some (.int .i64 xs[i].Up)/\w.cell? ⟨b,off+i*11+6,none⟩=some (.int .i64 xs[i].Down)/\w.cell? ⟨b,off+i*11+7,none⟩=some (.string xs[i].Sec) /\
   w.cell? ⟨b,off+i*11+8,none⟩=some (.int .i64 xs[i].Wi)/\w.cell? ⟨b,off+i*11+9,none⟩=some (.int .i64 xs[i].He)/\w.cell? ⟨b,off+i*11+10,none⟩=some (.slice xs[i].Cu.a xs[i].Cu.xs.length xs[i].Cu.cap):=by
 obtain ⟨b',off',e,c⟩:=h.lk i hi
 simp only [Option.some.injEq,Addr.mk.injEq] at e
 obtain ⟨rfl,rfl,_⟩:=e
 exact c
theorem boxLk (w W:World) (T:TypeId) (x:Lk) (cs:Array Value) (hcs:cs=(eLk x).toArray) (B:Nat) (hB:B=w.heap.size+1) (hb:Below B (w.alloc (.cells cs T)) W) :
  W.cell? ⟨w.heap.size,0,none⟩=some (.string x.Name)/\W.cell? ⟨w.heap.size,1,none⟩=some (.string x.From) /\
   W.cell? ⟨w.heap.size,2,none⟩=some (.string x.To)/\W.cell? ⟨w.heap.size,3,none⟩=some (.int .i64 x.Kind)/\W.cell? ⟨w.heap.size,4,none⟩=some (.int .i64 x.Len) /\
   W.cell? ⟨w.heap.size,5,none⟩=some (.int .i64 x.Up)/\W.cell? ⟨w.heap.size,6,none⟩=some (.int .i64 x.Down)/\W.cell? ⟨w.heap.size,7,none⟩=some (.string x.Sec) /\
   W.cell? ⟨w.heap.size,8,none⟩=some (.int .i64 x.Wi)/\W.cell? ⟨w.heap.size,9,none⟩=some (.int .i64 x.He)/\W.cell? ⟨w.heap.size,10,none⟩=some (.slice x.Cu.a x.Cu.xs.length x.Cu.cap):=by
 have h:=((boxC eLk_len w T x cs hcs).mono (w':=W) (by rw [hB] at hb;simpa using hb)).lkAt 0 (by simp)
 simpa using h
theorem netB_bad1 {n:Net} (h:300<n.Ns.xs.length):netB n=false:=by
 have:decide (n.Ns.xs.length<=300)=false:=decide_eq_false om
 simp [netB,this]
theorem netB_bad2 {n:Net} (h:400<n.Ls.xs.length):netB n=false:=by
 have:decide (n.Ls.xs.length<=400)=false:=decide_eq_false om
 simp [netB,this]
theorem netB_is {n:Net} (h1:¬ 300<n.Ns.xs.length) (h2:¬ 400<n.Ls.xs.length):netB n=(allFrom (okNd n.Ns.xs) 0 n.Ns.xs.length&&allFrom (okLk n.Ns.xs n.Ls.xs) 0 n.Ls.xs.length):=by
 have a:decide (n.Ns.xs.length<=300)=true:=decide_eq_true om
 have b:decide (n.Ls.xs.length<=400)=true:=decide_eq_true om
 simp only [netB,a,b,Bool.true_and]
theorem okNd_at {ns:List Nd} {k:Nat} (h:k<ns.length):okNd ns k=(ndB ns[k]&&decide (findNd ns ns[k].Name=k)):=by
 simp only [okNd,List.getD,List.getElem?_eq_getElem h,Option.getD_some]
theorem okLk_at {ns:List Nd} {ls:List Lk} {k:Nat} (h:k<ls.length):okLk ns ls k=(lkB ls[k]&&decide (findLk ls ls[k].Name=k)&&decide (0<=findNd ns ls[k].From)&&decide (0<=findNd ns ls[k].To) && !decide ((ns.getD (findNd ns ls[k].From).toNat default).Kind=3)):=by
 have e:ls.getD k default=ls[k]:=by simp [List.getD,List.getElem?_eq_getElem h]
 simp only [okLk,e]
end Go.Proofs.YtoiakijmbghhlaaGreat
