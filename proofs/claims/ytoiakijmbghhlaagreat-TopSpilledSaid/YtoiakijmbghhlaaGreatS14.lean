/- node and link (the index of a name) on both sides. Conditions: the slices read as lists. | Small facts for Valid of networks. Conditions: none. -/
import Derived.Test.YtoiakijmbghhlaaGreatS04
import Derived.Test.YtoiakijmbghhlaaGreatS00
set_option linter.unusedVariables false
set_option linter.unusedSimpArgs false
set_option maxRecDepth 100000
set_option maxHeartbeats 32000000
namespace Go.Proofs.YtoiakijmbghhlaaGreat
open Go.RowKit
theorem ent194:∀ args w,(callFunc 194 args).run Tryz.prog w=.ok (.enter 194 args) w:=by
 intro args w
 simp [go_sem]
theorem ent200:∀ args w,(callFunc 200 args).run Tryz.prog w=.ok (.enter 200 args) w:=by
 intro args w
 simp [go_sem]
theorem node1_any (x:Nd) (nm:ByteArray) (B:Nat) (w:World) (hc:w.cell? ⟨B,0,none⟩=some (.string nm)) :
  Calls Tryz.prog 194 #[vNd x,.pointer (some ⟨B,0,none⟩)] w fun e w'=>e=.returned (.bool (strB x.Name nm))/\Below w.heap.size w w':=by
 have H:Hid (strB x.Name nm=(x.Name.toList==nm.toList)):=rfl
 obtain ⟨xn,kd,ax,ay,iv,gr,⟨sa,scap,sxs⟩,pr,rs⟩:=x
 simp only at H
 simp only [vNd]
 generalize strB xn nm=r at *
 cases h:(xn.toList==nm.toList)
 all_goals
  have HH:=qh (H.out.trans h)
  clear H
  go_enter Tryz.func194,Tryz.ntmps194
  go_wp2_with fail
  go_ret
  exact ⟨ret_bool HH.out.symm,bl⟩
theorem link1_any (x:Lk) (nm:ByteArray) (B:Nat) (w:World) (hc:w.cell? ⟨B,0,none⟩=some (.string nm)) :
  Calls Tryz.prog 200 #[vLk x,.pointer (some ⟨B,0,none⟩)] w fun e w'=>e=.returned (.bool (strB x.Name nm))/\Below w.heap.size w w':=by
 have H:Hid (strB x.Name nm=(x.Name.toList==nm.toList)):=rfl
 obtain ⟨xn,fr,tt,kd,ln,up,dn,sc,wi,he,⟨sa,scap,sxs⟩⟩:=x
 simp only at H
 simp only [vLk]
 generalize strB xn nm=r at *
 cases h:(xn.toList==nm.toList)
 all_goals
  have HH:=qh (H.out.trans h)
  clear H
  go_enter Tryz.func200,Tryz.ntmps200
  go_wp2_with fail
  go_ret
  exact ⟨ret_bool HH.out.symm,bl⟩
theorem node_any (n:Net) (nm:ByteArray) (w:World) (hv:IsNds w (vSl n.Ns) n.Ns.xs) :
  Calls Tryz.prog 127 #[vNet n,.string nm] w fun e w'=>e=.returned (.int .i64 (findNd n.Ns.xs nm))/\Below w.heap.size w w':=by
 obtain ⟨⟨na,nc,nxs⟩,ls⟩:=n
 simp only at hv
 simp only [vNet]
 have hb0:Below w.heap.size w ((w.alloc (.cells #[vSl (⟨na,nc,nxs⟩:Sl Nd),vSl ls] 25)).alloc (.cells #[.string nm] 9)):=(qr.alloc (Nat.le_refl _) _).alloc (by simp) _
 have hv1:=hv.mono hb0
 go_enter Tryz.func127,Tryz.ntmps127
 go_wp2_with fail
 refine Calls.to (indexNd 194 #[.pointer (some ⟨w.heap.size+1,0,none⟩)] ent194 (fun x=>strB x.Name nm) nxs _ _ hv1 (fun W hW x _=>node1_any x nm _ W ((hW.cell (p:=⟨w.heap.size+1,0,none⟩) (by simp)).trans (by simp [go_sem])))) ?_
 rintro e w1 rfl hb1
 have hbb:=hb0.trans (hb1.mono hb0.size)
 clear hb0 hb1 hv hv1
 go_wp2_with fail
 go_ret
 exact ⟨rfl,hbb⟩
theorem link_any (n:Net) (nm:ByteArray) (w:World) (hv:IsLks w (vSl n.Ls) n.Ls.xs) :
  Calls Tryz.prog 129 #[vNet n,.string nm] w fun e w'=>e=.returned (.int .i64 (findLk n.Ls.xs nm))/\Below w.heap.size w w':=by
 obtain ⟨ns,⟨na,nc,nxs⟩⟩:=n
 simp only at hv
 simp only [vNet]
 have hb0:Below w.heap.size w ((w.alloc (.cells #[vSl ns,vSl (⟨na,nc,nxs⟩:Sl Lk)] 25)).alloc (.cells #[.string nm] 9)):=(qr.alloc (Nat.le_refl _) _).alloc (by simp) _
 have hv1:=hv.mono hb0
 go_enter Tryz.func129,Tryz.ntmps129
 go_wp2_with fail
 refine Calls.to (indexLk 200 #[.pointer (some ⟨w.heap.size+1,0,none⟩)] ent200 (fun x=>strB x.Name nm) nxs _ _ hv1 (fun W hW x _=>link1_any x nm _ W ((hW.cell (p:=⟨w.heap.size+1,0,none⟩) (by simp)).trans (by simp [go_sem])))) ?_
 rintro e w1 rfl hb1
 have hbb:=hb0.trans (hb1.mono hb0.size)
 clear hb0 hb1 hv hv1
 go_wp2_with fail
 go_ret
 exact ⟨rfl,hbb⟩
theorem boxNet (w W:World) (T:TypeId) (n:Net) (cs:Array Value) (hcs:cs=(eNet n).toArray) (B:Nat) (hB:B=w.heap.size+1) (hb:Below B (w.alloc (.cells cs T)) W) :
  W.cell? ⟨w.heap.size,0,none⟩=some (vSl n.Ns)/\W.cell? ⟨w.heap.size,1,none⟩=some (vSl n.Ls):=by
 subst hB;subst hcs
 exact ⟨(hb.cell (p:=⟨w.heap.size,0,none⟩) (by simp)).trans (by simp [go_sem]),(hb.cell (p:=⟨w.heap.size,1,none⟩) (by simp)).trans (by simp [go_sem])⟩
theorem bneT {a b:Int} (h:¬ a=b):(a != b)=true:=by simp [bne,beqF h]
theorem bneF {a b:Int} (h:a=b):(a != b)=false:=by simp [bne,beqT h]
theorem IsC.lkAt {w:World} {b off:Nat} {xs:List Lk} (h:IsC eLk 11 w (some ⟨b,off,none⟩) xs) (i:Nat) (hi:i<xs.length) :
  w.cell? ⟨b,off+i*11,none⟩=some (.string xs[i].Name)/\w.cell? ⟨b,off+i*11+1,none⟩=some (.string xs[i].From) /\
   w.cell? ⟨b,off+i*11+2,none⟩=some (.string xs[i].To)/\w.cell? ⟨b,off+i*11+3,none⟩=some (.int .i64 xs[i].Kind)/\w.cell? ⟨b,off+i*11+4,none⟩=some (.int .i64 xs[i].Len) /\
   w.cell? ⟨b,off+i*11+5,none⟩=some (.int .i64 xs[i].Up)/\w.cell? ⟨b,off+i*11+6,none⟩=some (.int .i64 xs[i].Down)/\w.cell? ⟨b,off+i*11+7,none⟩=some (.string xs[i].Sec) /\
   w.cell? ⟨b,off+i*11+8,none⟩=some (.int .i64 xs[i].Wi)/\w.cell? ⟨b,off+i*11+9,none⟩=some (.int .i64 xs[i].He)/\w.cell? ⟨b,off+i*11+10,none⟩=some (.slice xs[i].Cu.a xs[i].Cu.xs.length xs[i].Cu.cap):=by
 obtain ⟨b',off',e,c⟩:=h.lk i hi
 simp only [Option.some.injEq,Addr.mk.injEq] at e
 obtain ⟨rfl,rfl,_⟩:=e
 exact c
theorem boxLk (w W:World) (T:TypeId) (x:Lk) (cs:Array Value) (hcs:cs=(eLk x).toArray) (B:Nat) (hB:B=w.heap.size+1) (hb:Below B (w.alloc (.cells cs T)) W) :
  W.cell? ⟨w.heap.size,0,none⟩=some (.string x.Name)/\W.cell? ⟨w.heap.size,1,none⟩=some (.string x.From) /\
   W.cell? ⟨w.heap.size,2,none⟩=some (.string x.To)/\W.cell? ⟨w.heap.size,3,none⟩=some (.int .i64 x.Kind)/\W.cell? ⟨w.heap.size,4,none⟩=some (.int .i64 x.Len) /\
   W.cell? ⟨w.heap.size,5,none⟩=some (.int .i64 x.Up)/\W.cell? ⟨w.heap.size,6,none⟩=some (.int .i64 x.Down)/\W.cell? ⟨w.heap.size,7,none⟩=some (.string x.Sec) /\
   W.cell? ⟨w.heap.size,8,none⟩=some (.int .i64 x.Wi)/\W.cell? ⟨w.heap.size,9,none⟩=some (.int .i64 x.He)/\W.cell? ⟨w.heap.size,10,none⟩=some (.slice x.Cu.a x.Cu.xs.length x.Cu.cap):=by
 have h:=((boxC eLk_len w T x cs hcs).mono (w':=W) (by rw [hB] at hb;simpa using hb)).lkAt 0 (by simp)
 simpa using h
theorem netB_bad1 {n:Net} (h:300<n.Ns.xs.length):netB n=false:=by
 have:decide (n.Ns.xs.length<=300)=false:=decide_eq_false om
 simp [netB,this]
theorem netB_bad2 {n:Net} (h:400<n.Ls.xs.length):netB n=false:=by
 have:decide (n.Ls.xs.length<=400)=false:=decide_eq_false om
 simp [netB,this]
theorem netB_is {n:Net} (h1:¬ 300<n.Ns.xs.length) (h2:¬ 400<n.Ls.xs.length):netB n=(allFrom (okNd n.Ns.xs) 0 n.Ns.xs.length&&allFrom (okLk n.Ns.xs n.Ls.xs) 0 n.Ls.xs.length):=by
 have a:decide (n.Ns.xs.length<=300)=true:=decide_eq_true om
 have b:decide (n.Ls.xs.length<=400)=true:=decide_eq_true om
 simp only [netB,a,b,Bool.true_and]
theorem okNd_at {ns:List Nd} {k:Nat} (h:k<ns.length):okNd ns k=(ndB ns[k]&&decide (findNd ns ns[k].Name=k)):=by
 simp only [okNd,List.getD,List.getElem?_eq_getElem h,Option.getD_some]
theorem okLk_at {ns:List Nd} {ls:List Lk} {k:Nat} (h:k<ls.length):okLk ns ls k=(lkB ls[k]&&decide (findLk ls ls[k].Name=k)&&decide (0<=findNd ns ls[k].From)&&decide (0<=findNd ns ls[k].To) && !decide ((ns.getD (findNd ns ls[k].From).toNat default).Kind=3)):=by
 have e:ls.getD k default=ls[k]:=by simp [List.getD,List.getElem?_eq_getElem h]
 simp only [okLk,e]
end Go.Proofs.YtoiakijmbghhlaaGreat
