/- Maps whose keys are strings and whose values are numbers, as functions of the key. No function of the program is named. Conditions: none. | planner.Solve at a small plan. Conditions: the plan lies in memory. | Rows that are made one behind the other; lists that lie in a block. No function is named.  | rules: within, valid, Valid. Conditions: the rules read as data. | catalogue.Capacity: what it answers lies in bounds. Conditions: the section reads as data. | catalogue's root, carried, Capacity, Full: in bounds. Conditions: t -/
import Derived.Test.YtoiakijmbghhlaaGreatS13
import Derived.Test.YtoiakijmbghhlaaGreatS17
import Derived.Test.YtoiakijmbghhlaaGreatS12
import Derived.Test.YtoiakijmbghhlaaGreatS09
set_option linter.unusedVariables false
set_option linter.unusedSimpArgs false
set_option maxRecDepth 100000
set_option maxHeartbeats 32000000
namespace Go.Proofs.YtoiakijmbghhlaaGreat
open Go.RowKit Go.Maps
theorem undMSI:Tryz.prog.underlying 216=some (.map 9 3):=by kernel_rfl
theorem strB_eq {a b:ByteArray}:strB a b=true↔a=b:=by
 rw [strB_iff]
 constructor
 ·intro h
  rw [Lib.toList_data,Lib.toList_data] at h
  cases a;cases b
  simp only at h
  congr 1
  exact Array.ext' h
 ·rintro rfl;rfl
def MapS (w:World) (b n:Nat) (f:ByteArray->Option Int):Prop:=
 ∃ D:DataW Unit,w.ownsMap Tryz.prog 9 elI b n D/\∀ k,Maps.has D (kS k)=(f k).isSome/\∀ y,f k=some y->D.atKey (kS k) (.lit (.int .i64 0))=.lit (.int .i64 y)
theorem MapS.below {w w':World} {b n:Nat} {f:ByteArray->Option Int} (h:MapS w b n f) (hb:Below w.heap.size w w'):MapS w' b n f:=by
 obtain ⟨D,h1,h2⟩:=h
 exact ⟨D,h1.kept (grown_none hb none) (by simp),h2⟩
theorem MapS.kept {w w':World} {b n:Nat} {f:ByteArray->Option Int} {row:Option Nat} (h:MapS w b n f) (hg:w.grownBy w' row) (hne:some b≠row):MapS w' b n f:=by
 obtain ⟨D,h1,h2⟩:=h
 exact ⟨D,h1.kept hg hne,h2⟩
theorem MapS.lt {w:World} {b n:Nat} {f:ByteArray->Option Int} (h:MapS w b n f):b<w.heap.size:=by
 obtain ⟨D,h1,_⟩:=h
 exact h1.lt
theorem MapS.made (w:World):MapS (w.alloc (.map #[] 0)) w.heap.size 0 (fun _=>none):=
 ⟨.map [],World.ownsMap_made _ _ _ _,fun k=>⟨rfl,fun y h=>by cases h⟩⟩
def setFS (f:ByteArray->Option Int) (k:ByteArray) (y:Int):ByteArray->Option Int:=fun j=>if j=k then some y else f j
theorem MapS.put {w':World} {b n:Nat} {f:ByteArray->Option Int} {D:DataW Unit} {k:ByteArray} {y:Int} (hm:IsMap D) (h2:∀ k,Maps.has D (kS k)=(f k).isSome/\∀ y,f k=some y->D.atKey (kS k) (.lit (.int .i64 0))=.lit (.int .i64 y))
  (h1:w'.ownsMap Tryz.prog 9 elI b (n+1) (D.put (kS k) (.lit (.int .i64 y)))):MapS w' b (n+1) (setFS f k y):=by
 refine ⟨_,h1,fun j=>?_⟩
 unfold setFS
 by_cases hj:j=k
 ·subst hj
  rw [if_pos rfl]
  refine ⟨has_put_same hm (keyLitS j) _,fun z hz=>?_⟩
  rw [atKey_put_same hm (keyLitS j)]
  cases hz;rfl
 ·rw [if_neg hj]
  have hne:kS j≠kS k:=fun e=>hj (kS_inj e)
  refine ⟨(has_put_other hne _).trans (h2 j).1,fun z hz=>?_⟩
  rw [atKey_put_other hne]
  exact (h2 j).2 z hz
theorem MapS.upd {w:World} {b n:Nat} {f:ByteArray->Option Int} (h:MapS w b n f) (hn:n<maxLen) {k:ByteArray} {y:Int} (hk:k.size<=maxLen) (hy:(Lit.int .i64 y).wf=true) :
  ∃ w',(Instr.mapUpdate 216 (.map (some b)) (.string k) (.int .i64 y)).run Tryz.prog w=.ok () w'/\MapS w' b (n+1) (setFS f k y)/\w.grownBy w' (some b):=by
 obtain ⟨D,hD,hf⟩:=h
 obtain ⟨w',h1,h2,h3⟩:=hD.update kStr undMSI hn (keyS hk) (plainElem_int undI hy)
 exact ⟨w',h1,MapS.put hD.isMap hf h2,h3⟩
theorem MapS.look {w:World} {b n:Nat} {f:ByteArray->Option Int} (h:MapS w b n f) {k:ByteArray} (hk:k.size<=maxLen) :
  (Instr.lookup 216 (.map (some b)) (.string k) false).run Tryz.prog w=.ok (.int .i64 ((f k).getD 0)) w:=by
 obtain ⟨D,hD,hf⟩:=h
 obtain ⟨v,ps,hrun,hv⟩:=hD.lookup kStr undMSI (zeroI w) (zd:=.lit (.int .i64 0)) (zp:=[]) (plainElem_int undI (by decide)) (keyS hk)
 obtain ⟨c,rfl,hc,_⟩:=plainElem_int_inv undI hv
 have hc:=congrArg Prod.fst hc
 simp only at hc
 suffices hcc:c=(f k).getD 0 by rw [hrun,hcc]
 clear hrun
 cases hn:f k with
 | none=>
  have hh:Maps.has D (kS k)=false:=by rw [(hf k).1,hn];rfl
  rw [atKey_of_not_has hh] at hc
  exact (lit_inj hc).symm
 | some y=>
  rw [(hf k).2 y hn] at hc
  exact (lit_inj hc).symm
def lastAt (nm:Nat->ByteArray):Nat->ByteArray->Option Int
 | 0=>fun _=>none
 | n+1=>setFS (lastAt nm n) (nm n) n
theorem lastAt_some {nm:Nat->ByteArray} {k:ByteArray}:∀ {n:Nat} {y:Int},lastAt nm n k=some y->∃ i,i<n/\nm i=k/\y=i
 | 0,_,h=>by cases h
 | n+1,y,h=>by
  by_cases e:k=nm n
  ·refine ⟨n,by omega,e.symm,?_⟩
   simp only [lastAt,setFS,if_pos e,Option.some.injEq] at h
   exact h.symm
  ·simp only [lastAt,setFS,if_neg e] at h
   obtain ⟨i,h1,h2,h3⟩:=lastAt_some h
   exact ⟨i,by omega,h2,h3⟩
theorem lastAt_none {nm:Nat->ByteArray} {k:ByteArray}:∀ {n:Nat},lastAt nm n k=none->∀ i,i<n->nm i≠k
 | 0,_,i,hi=>absurd hi (Nat.not_lt_zero i)
 | n+1,h,i,hi=>by
  by_cases e:k=nm n
  ·simp only [lastAt,setFS,if_pos e] at h;cases h
  ·simp only [lastAt,setFS,if_neg e] at h
   by_cases e2:i=n
   ·subst e2;exact fun h2=>e h2.symm
   ·exact lastAt_none h i om
end Go.Proofs.YtoiakijmbghhlaaGreat
namespace Go.Proofs.YtoiakijmbghhlaaGreat
open Go.RowKit
def allocs:World->List (Array Value×TypeId)->World
 | w,[]=>w
 | w,x :: l=>allocs (w.alloc (.cells x.1 x.2)) l
theorem allocs_below:∀ (l:List (Array Value×TypeId)) (w:World),Below w.heap.size w (allocs w l)
 | [],w=>qr
 | x :: l,w=>by
  have h:=allocs_below l (w.alloc (.cells x.1 x.2))
  exact (qr.alloc (Nat.le_refl _) _).trans (h.mono (by simp))
theorem allocs_at:∀ (l:List (Array Value×TypeId)) (w:World) (i:Nat) (h:i<l.length),(allocs w l).heap[w.heap.size+i]? = some (.cells l[i].1 l[i].2 (0,0))
 | x :: l,w,0,_=>by
  have h:=allocs_below l (w.alloc (.cells x.1 x.2))
  exact (h.block w.heap.size (by simp)).trans (heap_alloc_new w _)
 | x :: l,w,i+1,hi=>by
  have h:=allocs_at l (w.alloc (.cells x.1 x.2)) i (by simpa using hi)
  rw [show (w.alloc (.cells x.1 x.2)).heap.size+i=w.heap.size+(i+1) from by simp;omega] at h
  exact h
theorem isC_blk {α:Type} {enc:α->List Value} {k:Nat} {W:World} {b:Nat} {xs:List α} {cs:Array Value} {T:TypeId} (hk:∀ x,(enc x).length=k) (hcs:cs=(xs.flatMap enc).toArray) (h:W.heap[b]? = some (.cells cs T (0,0))):IsC enc k W (some ⟨b,0,none⟩) xs:=by
 intro i hi
 refine ⟨b,0,rfl,fun j hj=>?_⟩
 rw [tank_blk h,hcs,Nat.zero_add,List.getElem?_toArray]
 exact flat_get enc k hk xs i j hi hj
theorem isL_blk {α:Type} {enc:α->List Value} {k:Nat} {W:World} {b:Nat} {xs:List α} {cs:Array Value} {T:TypeId} (hk:∀ x,(enc x).length=k) (hcs:cs=(xs.flatMap enc).toArray) (h:W.heap[b]? = some (.cells cs T (0,0))) (hl:xs.length<=9223372036854775807):IsL enc k W (.slice (some ⟨b,0,none⟩) xs.length xs.length) xs:=
 ⟨_,_,rfl,Nat.le_refl _,hl,isC_blk hk hcs h⟩
abbrev vCW (H L:Nat):Value:=.agg #[.int .u64 (H:Int),.int .u64 (L:Int)]
theorem cprod_any (a b:Nat) (w:World) (ha:a<9223372036854775808) (hb:b<9223372036854775808) :
  Calls Tryz.prog 317 #[.int .i64 (a:Int),.int .i64 (b:Int)] w fun e w'=>(∃ H L:Nat,e=.returned (vCW H L)/\H<18446744073709551616/\L<18446744073709551616)/\Below w.heap.size w w':=by
 have hm:=fun W=>mul64_any a b W om om
 have hH:a*b / 18446744073709551616<18446744073709551616:=by
  have:=Nat.mul_le_mul (Nat.le_of_lt ha) (Nat.le_of_lt hb)
  omega
 have hL:a*b % 18446744073709551616<18446744073709551616:=Nat.mod_lt _ (by decide)
 generalize a*b / 18446744073709551616=H at *
 generalize a*b % 18446744073709551616=L at *
 have x1:IntKind.u64.wrap (a:Int)=a:=by rw [IntKind.wrap_u64];omega
 have x2:IntKind.u64.wrap (b:Int)=b:=by rw [IntKind.wrap_u64];omega
 have hb0:Below w.heap.size w (w.alloc (.cells #[.int .u64 0,.int .u64 0] 384)):=qr.alloc (Nat.le_refl _) _
 go_enter Tryz.func317,Tryz.ntmps317
 go_wp2_with fail
 refine (hm _).mono ?_
 rintro e w1 ⟨rfl,rfl⟩
 go_wp2_with fail
 exact bodyPost_ret (v:=vCW H L) (by simp (maxDischargeDepth:=9) [results,Tryz.results317,go_sem]) rfl ⟨⟨H,L,rfl,hH,hL⟩,bl⟩
theorem u64_nat (x:Int):∃ n:Nat,IntKind.u64.wrap x=n/\n<18446744073709551616:=⟨(IntKind.u64.wrap x).toNat,by rw [IntKind.wrap_u64];omega,by rw [IntKind.wrap_u64];omega⟩
theorem ctimes_any (H L b:Nat) (w:World) (hH:H<18446744073709551616) (hL:L<18446744073709551616) (hb:b<9223372036854775808) :
  Calls Tryz.prog 318 #[vCW H L,.int .i64 (b:Int)] w fun e w'=>(∃ H' L':Nat,e=.returned (vCW H' L')/\(H'<18446744073709551616/\L'<18446744073709551616)/\(b=0->H'=0/\L'=0))/\Below w.heap.size w w':=by
 have hm:=fun W=>mul64_any L b W om om
 have z1:b=0->L*b / 18446744073709551616=0:=fun h=>by subst h;simp
 have z2:b=0->L*b % 18446744073709551616=0:=fun h=>by subst h;simp
 have hL2:L*b % 18446744073709551616<18446744073709551616:=Nat.mod_lt _ (by decide)
 generalize L*b / 18446744073709551616=M at *
 generalize L*b % 18446744073709551616=L2 at *
 have x1:IntKind.u64.wrap (b:Int)=b:=by rw [IntKind.wrap_u64];omega
 obtain ⟨q1,x2,hq1⟩:=u64_nat ((H:Int)*(b:Int))
 obtain ⟨q2,x3,hq2⟩:=u64_nat ((M:Int)+(q1:Int))
 have hz:Hid (b=0->q2=0/\L2=0):=qh (fun h=>by
  have h1:=z1 h
  have h2:=z2 h
  subst h
  rw [h1,IntKind.wrap_u64] at x3
  rw [IntKind.wrap_u64] at x2
  simp at x2
  omega)
 clear z1 z2
 have hb0:Below w.heap.size w (w.alloc (.cells #[.int .u64 (H:Int),.int .u64 (L:Int)] 384)):=qr.alloc (Nat.le_refl _) _
 have hb1:=hb0.alloc (by simp) (.cells #[.int .u64 0,.int .u64 0] 384)
 go_enter Tryz.func318,Tryz.ntmps318
 go_wp2_with fail
 refine (hm _).mono ?_
 rintro e w1 ⟨rfl,rfl⟩
 go_wp2_with fail
 exact bodyPost_ret (v:=vCW q2 L2) (by simp (maxDischargeDepth:=9) [results,Tryz.results318,go_sem]) rfl ⟨⟨q2,L2,rfl,⟨hq2,hL2⟩,hz.out⟩,bl⟩
theorem cover_any (H L b:Nat) (w:World) (hH:H<18446744073709551616) (hL:L<18446744073709551616) (hb:b<9223372036854775808) (h0:0<b) :
  Calls Tryz.prog 319 #[vCW H L,.int .i64 (b:Int)] w fun e w'=>(∃ H' L':Nat,e=.returned (vCW H' L')/\(H'<18446744073709551616/\L'<18446744073709551616)/\(H=0->L=0->H'=0/\L'=0))/\Below w.heap.size w w':=by
 have hlt:H % b<b:=Nat.mod_lt _ h0
 have hz1:H=0->H / b=0:=fun h=>by subst h;simp
 have hz2:H=0->L=0->(H % b*18446744073709551616+L) / b=0:=fun h1 h2=>by subst h1;subst h2;simp
 have hm:=fun W=>div64_any (H % b) L b W hlt hL om
 have hq:(H % b*18446744073709551616+L) / b<18446744073709551616:=Nat.div_lt_of_lt_mul (by
  have:H % b*18446744073709551616+18446744073709551616<=b*18446744073709551616:=by
   have:=Nat.mul_le_mul_right 18446744073709551616 hlt
   rw [Nat.succ_mul] at this
   exact this
  rw [Nat.mul_comm b] at this ⊢
  omega)
 generalize (H % b*18446744073709551616+L) / b=Q at *
 generalize (H % b*18446744073709551616+L) % b=M at *
 have x1:IntKind.u64.wrap (b:Int)=b:=by rw [IntKind.wrap_u64];omega
 obtain ⟨r,hr⟩:∃ r,r=H % b:=⟨_,rfl⟩
 obtain ⟨d,hd⟩:∃ d,d=H / b:=⟨_,rfl⟩
 rw [<-hd] at hz1
 have HZ:Hid (H=0->L=0->d=0/\Q=0):=qh (fun h1 h2=>⟨hz1 h1,hz2 h1 h2⟩)
 clear hz1 hz2
 have hdb:d<18446744073709551616:=by rw [hd];exact Nat.lt_of_le_of_lt (Nat.div_le_self _ _) hH
 have x2:(H:Int).tdiv b=d:=by rw [hd];exact (Int.ofNat_tdiv H b).symm
 have x3:(H:Int).tmod b=r:=by rw [hr];exact (Int.ofNat_tmod H b).symm
 have x4:IntKind.u64.wrap (d:Int)=d:=by rw [IntKind.wrap_u64];omega
 have i1:((b:Int)==0)=false:=by rw [beq_eq_false_iff_ne];omega
 have i2:¬ (b:Int)=0:=by omega
 have i3:¬ b=0:=by omega
 rw [<-hr] at hm hlt
 clear hr hd
 have hb0:Below w.heap.size w (w.alloc (.cells #[.int .u64 (H:Int),.int .u64 (L:Int)] 384)):=qr.alloc (Nat.le_refl _) _
 have hb1:=hb0.alloc (by simp) (.cells #[.int .u64 0,.int .u64 0] 384)
 have y1:=(Bx2.new w H L 384).mono ((Below.refl _ (w.alloc (.cells #[.int .u64 (H:Int),.int .u64 (L:Int)] 384))).alloc (Nat.le_refl _) (.cells #[.int .u64 0,.int .u64 0] 384))
 have y2:Bx2 ((w.alloc (.cells #[.int .u64 (H:Int),.int .u64 (L:Int)] 384)).alloc (.cells #[.int .u64 0,.int .u64 0] 384)) (w.heap.size+1) 0 0:=⟨by simp [go_sem],by simp [go_sem],by simp [go_sem],by simp [go_sem]⟩
 obtain ⟨W,hW⟩:∃ W,W=(w.alloc (.cells #[.int .u64 (H:Int),.int .u64 (L:Int)] 384)).alloc (.cells #[.int .u64 0,.int .u64 0] 384):=⟨_,rfl⟩
 have HW:=qh hW
 rw [<-hW] at hb1 y1 y2
 clear hW hb0
 obtain ⟨c0,c1,f0,f1⟩:=y1
 have Y2:=qh y2
 clear y2
 go_enter Tryz.func319,Tryz.ntmps319
 go_upto_region 1 with (fail)
 rw [<-HW.out]
 clear HW
 go_quiet (fail)
 have y2:=Y2.out.mono (below_drewN qr nq)
 have hb2:=below_drewN hb1 nq
 have c0:(W.drewN nq).cell? ⟨w.heap.size,0,none⟩=some (.int .u64 (H:Int)):=c0
 have c1:(W.drewN nq).cell? ⟨w.heap.size,1,none⟩=some (.int .u64 (L:Int)):=c1
 go_wp2_with fail
 refine Calls.to (hm _) ?_
 rintro e w2 rfl hb3
 have y2:=y2.mono hb3
 have hb4:=hb2.trans (hb3.mono hb2.size)
 obtain ⟨d0,d1,f0,f1⟩:=y2
 clear hm c0 c1 hb3
 go_wp2_with fail
 exact bodyPost_ret (v:=vCW d Q) (by simp (maxDischargeDepth:=9) [results,Tryz.results319,go_sem,d0,d1]) rfl ⟨⟨d,Q,rfl,⟨hdb,hq⟩,HZ.out⟩,bl⟩
theorem or_lt (a b:Nat) (ha:a<9223372036854775808) (hb:b<9223372036854775808):bits .or .u64 (a:Int) (b:Int)=((a ||| b:Nat):Int)/\a ||| b<9223372036854775808:=
 ⟨bits_or_u64_nat a b om om,Nat.or_lt_two_pow (n:=63) ha hb⟩
theorem croot_any (H L:Nat) (w:World):Calls Tryz.prog 320 #[vCW H L] w fun e w'=>(∃ r:Nat,e=.returned (.int .i64 (r:Int))/\r<9223372036854775808/\(H=0->L=0->r=0))/\Below w.heap.size w w':=by
 have hb0:Below w.heap.size w (w.alloc (.cells #[.int .u64 (H:Int),.int .u64 (L:Int)] 384)):=qr.alloc (Nat.le_refl _) _
 have y1:=Bx2.new w H L 384
 obtain ⟨W,hW⟩:∃ W,W=(w.alloc (.cells #[.int .u64 (H:Int),.int .u64 (L:Int)] 384)):=⟨_,rfl⟩
 have HW:=qh hW
 rw [<-hW] at hb0 y1
 clear hW
 obtain ⟨c0,c1,-,-⟩:=y1
 go_enter Tryz.func320,Tryz.ntmps320
 go_upto_region 1 with (fail)
 rw [<-HW.out]
 clear HW
 go_wp2_with fail
 go_loopw [3,4] (fun s3 s4 wr=>∃ R B:Nat,R<9223372036854775808/\B<9223372036854775808/\s3=.int .u64 (R:Int)/\s4=.int .u64 (B:Int)/\wr=W/\Hid (H=0->L=0->R=0)) (fun _ s4 _=>(RowKit.intOf s4).toNat)
 case atStart=>exact ⟨0,4611686018427387904,by decide,by decide,rfl,rfl,rfl,qh (fun _ _=>rfl)⟩
 case round=>
  obtain ⟨R,B,hR,hB,rfl,rfl,rfl,hz⟩:=hrel
  by_cases h0:0<B
  ·have i1:decide (0<B)=true:=decide_eq_true h0
   have i2:decide ((0:Int)<B)=true:=decide_eq_true om
   obtain ⟨o1,o2⟩:=or_lt R B hR hB
   obtain ⟨q,hq⟩:∃ q,q=R ||| B:=⟨_,rfl⟩
   rw [<-hq] at o1 o2
   have hm:=mul64_any q q wr om om
   have hq0:¬ (q*q / 18446744073709551616=0/\q*q % 18446744073709551616=0):=fun h=>by
    have h1:q*q=0:=by omega
    have h2:q=0:=by rcases Nat.mul_eq_zero.1 h1 with h|h <;> exact h
    rw [hq,Nat.or_eq_zero_iff] at h2
    omega
   generalize q*q / 18446744073709551616=M at hm hq0
   generalize q*q % 18446744073709551616=N at hm hq0
   have HQ0:=qh hq0
   clear hq0
   obtain ⟨b1,e1⟩:∃ b,decide (M<H)=b:=⟨_,rfl⟩
   obtain ⟨b2,e2⟩:∃ b,((M:Int)==H)=b:=⟨_,rfl⟩
   obtain ⟨b3,e3⟩:∃ b,decide (N<=L)=b:=⟨_,rfl⟩
   clear hq
   have HR:=qh hR
   have HB:=qh hB
   have HQ:=qh o2
   have H0:=qh h0
   clear hR hB o2 h0
   go_wp2_with fail
   refine hm.mono ?_
   rintro e w1 ⟨rfl,rfl⟩
   clear hm
   cases b1
   rotate_left
   ·go_wp2_with fail
    refine ⟨⟨q,B / 2,HQ.out,by have:=HB.out;omega,rfl,by simp,trivial,qh (fun h _=>by subst h;simp at e1)⟩,?_⟩
    simp only [RowKit.intOf]
    have:=H0.out
    omega
   cases b2
   ·go_wp2_with fail
    refine ⟨⟨R,B / 2,HR.out,by have:=HB.out;omega,rfl,by simp,trivial,hz⟩,?_⟩
    simp only [RowKit.intOf]
    have:=H0.out
    omega
   cases b3
   ·go_wp2_with fail
    refine ⟨⟨R,B / 2,HR.out,by have:=HB.out;omega,rfl,by simp,trivial,hz⟩,?_⟩
    simp only [RowKit.intOf]
    have:=H0.out
    omega
   ·go_wp2_with fail
    refine ⟨⟨q,B / 2,HQ.out,by have:=HB.out;omega,rfl,by simp,trivial,qh (fun h h'=>by subst h;subst h';simp at e2 e3;exact absurd ⟨e2,e3⟩ HQ0.out)⟩,?_⟩
    simp only [RowKit.intOf]
    have:=H0.out
    omega
  ·have i1:decide (0<B)=false:=decide_eq_false h0
   have i2:decide ((0:Int)<B)=false:=decide_eq_false om
   have x1:IntKind.i64.wrap (R:Int)=R:=IntWalk.i64_in _ om
   have HR:=qh hR
   clear hR hB h0
   go_wp2_with fail
   go_ret
   exact ⟨⟨R,by simp [go_sem],HR.out,hz.out⟩,hb0⟩
def slopeB (a b:Int):Bool:=decide ((0:Int)<=a)&&(decide (a<=4194304)&&(decide (1<=b)&&decide (b<=16777216)))
theorem cslope_any (a b:Int) (w:World):Calls Tryz.prog 278 #[.int .i64 a,.int .i64 b] w fun e w'=>e=.returned (.bool (slopeB a b))/\w'=w:=by
 obtain ⟨res,hres⟩:∃ res,res=slopeB a b:=⟨_,rfl⟩
 rw [<-hres]
 unfold slopeB at hres
 obtain ⟨b0,e0⟩:∃ b,decide ((0:Int)<=a)=b:=⟨_,rfl⟩
 obtain ⟨b1,e1⟩:∃ b,decide (a<=4194304)=b:=⟨_,rfl⟩
 obtain ⟨b2,e2⟩:∃ b',decide (1<=b)=b':=⟨_,rfl⟩
 obtain ⟨b3,e3⟩:∃ b',decide (b<=16777216)=b':=⟨_,rfl⟩
 rw [e0,e1,e2,e3] at hres
 have HR:=qh hres
 clear hres
 go_enter Tryz.func278,Tryz.ntmps278
 cases b0
 ·go_wp2_with fail
  go_ret
  exact ⟨ret_bool (by rw [HR.out];rfl),rfl⟩
 cases b1
 ·go_wp2_with fail
  go_ret
  exact ⟨ret_bool (by rw [HR.out];rfl),rfl⟩
 cases b2
 ·go_wp2_with fail
  go_ret
  exact ⟨ret_bool (by rw [HR.out];rfl),rfl⟩
 go_wp2_with fail
 go_ret
 exact ⟨ret_bool (by rw [HR.out];rfl),rfl⟩
theorem curvB_bd {xs:List Kn} {H lim:Int} (h:curvB xs H lim=true) (x:Int):tabB xs=true/\0<=tabV xs x/\tabV xs x<=lim:=by
 simp only [curvB,Bool.and_eq_true,beq_iff_eq,decide_eq_true_eq] at h
 obtain ⟨h1,⟨_,h2⟩,_,h3⟩:=h
 obtain ⟨b1,b2⟩:=tabV_bd h1 x
 have hl:=tabB_len h1
 have g0:xs.getD 0 default=xs[0]'om:=by simp [List.getD,List.getElem?_eq_getElem (show 0<xs.length by omega)]
 have g1:xs.getD (xs.length-1) default=xs[xs.length-1]'om:=by simp [List.getD,List.getElem?_eq_getElem (show xs.length-1<xs.length by omega)]
 rw [g0] at h2
 rw [g1] at h3
 exact ⟨h1,by omega,by omega⟩
theorem ccarried_any (s:SecD) (f a b:Int) (w:World) (hs:IsSec w s) (hB:secB s=true) (ha:slopeB a b=true) :
  Calls Tryz.prog 279 #[vSec s,.int .i64 f,.int .i64 a,.int .i64 b] w fun e w'=>(∃ r:Nat,e=.returned (.tuple #[.int .i64 (r:Int),.int .i64 0])/\r<9223372036854775808/\(a=0->r=0))/\Below w.heap.size w w':=by
 have hb0:Below w.heap.size w (w.alloc (.cells (eSec s).toArray 102)):=qr.alloc (Nat.le_refl _) _
 simp only [secB,Bool.and_eq_true] at hB
 obtain ⟨t1,t2,t3⟩:=curvB_bd hB.2.2.2.2.2.2 f
 simp only [slopeB,Bool.and_eq_true,decide_eq_true_eq] at ha
 obtain ⟨a',rfl⟩:=Int.eq_ofNat_of_zero_le ha.1
 obtain ⟨b',rfl⟩:=Int.eq_ofNat_of_zero_le (show 0<=b by omega)
 obtain ⟨v,hv⟩:=Int.eq_ofNat_of_zero_le t2
 have hft:=fun W (hW:IsKns W (vSl s.B) s.B.xs)=>tfloor_any s.B.xs f _ W hW t1
 rw [hv] at hft t3
 have hft:=hft _ (hs.mono hb0).b
 simp only [vSl] at hft
 obtain ⟨c0,c1,c2,c3,c4⟩:=boxSec w (w.alloc (.cells (eSec s).toArray 102)) 102 s _ rfl _ rfl qr
 obtain ⟨W,hW⟩:∃ W,W=w.alloc (.cells (eSec s).toArray 102):=⟨_,rfl⟩
 have HW:=qh hW
 rw [<-hW] at hb0 c0 c1 c2 c3 c4 hft
 have HB:=qh (And.intro ha t3)
 clear hW hB hs ha t1 t2 t3 hv
 go_enter Tryz.func279,Tryz.ntmps279
 go_upto_region 1 with (fail)
 simp only [vSl]
 rw [<-HW.out]
 clear HW
 go_wp2_with fail
 refine Calls.to hft ?_
 rintro e w1 rfl hb1
 have hbw:=hb0.trans (hb1.mono hb0.size)
 clear c0 c1 c2 c3 c4 hft
 go_wp2_with fail
 refine Calls.to (cprod_any v v w1 (by have:=HB.out.2;omega) (by have:=HB.out.2;omega)) ?_
 rintro e w2 ⟨H,L,rfl,hH,hL⟩ hb2
 have hbw:=hbw.trans (hb2.mono hbw.size)
 have HHL:=qh (And.intro hH hL)
 clear hH hL hb1 hb2 hb0
 go_wp2_with fail
 refine Calls.to (ctimes_any H L a' w2 HHL.out.1 HHL.out.2 (by have:=HB.out.1;omega)) ?_
 rintro e w3 ⟨H2,L2,rfl,⟨hH,hL⟩,hz⟩ hb2
 have HZ1:=qh hz
 clear hz
 have hbw:=hbw.trans (hb2.mono hbw.size)
 have HHL:=qh (And.intro hH hL)
 clear hH hL hb2
 go_wp2_with fail
 refine Calls.to (cover_any H2 L2 b' w3 HHL.out.1 HHL.out.2 (by have:=HB.out.1;omega) (by have:=HB.out.1;omega)) ?_
 rintro e w4 ⟨H3,L3,rfl,⟨hH,hL⟩,hz⟩ hb2
 have HZ2:=qh hz
 clear hz
 have hbw:=hbw.trans (hb2.mono hbw.size)
 clear hH hL hb2
 go_wp2_with fail
 refine Calls.to (croot_any H3 L3 w4) ?_
 rintro e w5 ⟨r,rfl,hr,hz⟩ hb2
 have HZ3:=qh hz
 clear hz
 have hbw:=hbw.trans (hb2.mono hbw.size)
 have HR:=qh hr
 clear hr hb2
 go_wp2_with fail
 go_ret2
 exact ⟨⟨r,rfl,HR.out,fun h=>by
  have h0:a'=0:=by omega
  obtain ⟨h1,h2⟩:=HZ1.out h0
  obtain ⟨h3,h4⟩:=HZ2.out h1 h2
  exact HZ3.out h3 h4⟩,hbw⟩
inductive CapR:Value->Prop
 | ok (r:Nat):r<=1099511627776->CapR (.tuple #[.int .i64 (r:Int),.int .i64 0])
 | big:CapR (.tuple #[.int .i64 0,.int .i64 5])
theorem ccap_any (s:SecD) (f a b:Int) (w:World) (hs:IsSec w s) (hB:secB s=true) (ha:slopeB a b=true) (hf:0<=f/\f<=s.Ht) :
  Calls Tryz.prog 233 #[vSec s,.int .i64 f,.int .i64 a,.int .i64 b] w fun e w'=>(∃ u,e=.returned u/\CapR u/\(a=0->u=.tuple #[.int .i64 0,.int .i64 0]))/\Below w.heap.size w w':=by
 have hb0:Below w.heap.size w (w.alloc (.cells (eSec s).toArray 102)):=qr.alloc (Nat.le_refl _) _
 obtain ⟨c0,c1,c2,c3,c4⟩:=boxSec w (w.alloc (.cells (eSec s).toArray 102)) 102 s _ rfl _ rfl qr
 obtain ⟨W,hW⟩:∃ W,W=w.alloc (.cells (eSec s).toArray 102):=⟨_,rfl⟩
 have HW:=qh hW
 rw [<-hW] at hb0 c0 c1 c2 c3 c4
 have HS:=qh (hs.mono hb0)
 have hsv:=secvalid_any s W HS.out
 rw [hB] at hsv
 have HB:=qh (And.intro hB ha)
 have i1:decide (f<0)=false:=decide_eq_false om
 have i2:decide (s.Ht<f)=false:=decide_eq_false om
 clear hW hB hs ha hf
 simp only [vSec,vSl] at hsv
 go_enter Tryz.func233,Tryz.ntmps233
 go_upto_region 1 with (fail)
 simp only [vSl]
 rw [<-HW.out]
 clear HW
 go_wp2_with fail
 refine Calls.to hsv ?_
 rintro e w1 rfl hb1
 have hbw:=hb0.trans (hb1.mono hb0.size)
 have c0:=cel_lt c0 hb1
 have c1:=cel_lt c1 hb1
 have c2:=cel_lt c2 hb1
 have c3:=cel_lt c3 hb1
 have c4:=cel_lt c4 hb1
 have hcar:=ccarried_any s f a b w1 (HS.out.mono hb1) HB.out.1 HB.out.2
 have hsl:=cslope_any a b w1
 rw [HB.out.2] at hsl
 simp only [vSec,vSl] at hcar
 clear hb1 hb0 hsv
 go_wp2_with fail
 refine hsl.mono ?_
 rintro e w' ⟨rfl,rfl⟩
 go_wp2_with fail
 refine Calls.to hcar ?_
 rintro e w2 ⟨r,rfl,hr,hz⟩ hb2
 have HZ:=qh hz
 clear hz
 have hbw:=hbw.trans (hb2.mono hbw.size)
 clear c0 c1 c2 c3 c4 hcar hsl hb2
 by_cases h0:r<=1099511627776
 ·have k1:decide ((1099511627776:Int)<r)=false:=decide_eq_false om
  have k2:decide (1099511627776<r)=false:=decide_eq_false om
  have HH:=qh (CapR.ok r h0)
  clear h0 hr
  go_wp2_with fail
  go_ret2
  exact ⟨⟨_,rfl,HH.out,fun h=>by rw [HZ.out h];rfl⟩,hbw⟩
 ·have k1:decide ((1099511627776:Int)<r)=true:=decide_eq_true om
  have k2:decide (1099511627776<r)=true:=decide_eq_true om
  have HN:=qh h0
  clear h0 hr
  go_wp2_with fail
  go_ret2
  exact ⟨⟨_,rfl,.big,fun h=>absurd (HZ.out h) (by have:=HN.out;omega)⟩,hbw⟩
end Go.Proofs.YtoiakijmbghhlaaGreat
