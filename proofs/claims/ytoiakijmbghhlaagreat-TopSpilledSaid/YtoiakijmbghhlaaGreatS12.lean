/- table.piece: a table's value in three numbers. Conditions: the table is right. | table.Floor. Conditions: the table reads as data. | A tank in memory: planner.tankOf and step. Conditions: the plan reads as data. | Plans of releases, in plain words: the least cost of a way to the end, certificates, a looser bound. No program is named. Conditions: none. | planner's step. Conditions: a right plan; the volume lies between reserve and capacity. | Maps whose keys are numbers, as functions of the key; sets of numbers. | planner's reach from the first step on. Conditions: a right plan. | planner's values from the first step on. Conditions: a right plan, rows as reach makes them. | planner's Solve. Conditions: the plan reads as data. | planner's Values and certificate.Make. Conditions: the plan reads as data. | certificate.find: a value sought in a row of pairs. Conditions: the row's volumes ascend. -/
import Derived.Test.YtoiakijmbghhlaaGreatS06
import Derived.Test.YtoiakijmbghhlaaGreatS11
import Derived.Test.YtoiakijmbghhlaaGreatS03
import Derived.Test.YtoiakijmbghhlaaGreatS05
import Derived.WalkKit
import Derived.Deep.QuietTactic
import Derived.BigQuiet
import Derived.Maps.OwnSet
import Derived.Maps.RangeWalk
import Derived.Lib.SlKeysI
import Derived.Shelf.SlIterI.Nil
import Derived.Shelf.SortM.Plain
import Derived.Shelf.SortM.SortNone
import Derived.Ground.GgzProg
import Derived.Ground.SlgmProg
set_option linter.unusedVariables false
set_option linter.unusedSimpArgs false
set_option maxRecDepth 100000
set_option maxHeartbeats 32000000
namespace Go.Proofs.YtoiakijmbghhlaaGreat
open Go.RowKit
def vP (p:Int×Int×Int):Value:=.tuple #[.int .i64 p.1,.int .i64 p.2.1,.int .i64 p.2.2]
theorem q_small (q z:Nat) (h:q<=2251799813685248):q+(if z=0 then 0 else 1)<9223372036854775808:=by split <;> omega
structure Sp2 (w:World) (B:Nat) (a b:Int):Prop where
 c0:w.cell? ⟨B,0,none⟩=some (.int .i64 a)
 c1:w.cell? ⟨B,1,none⟩=some (.int .i64 b)
theorem Sp2.lt {w:World} {B:Nat} {a b:Int} (h:Sp2 w B a b):B<w.heap.size:=lt_of_isSome (a:=⟨B,0,none⟩) (by rw [h.c0];rfl)
theorem Sp2.mono {w w':World} {B:Nat} {a b:Int} (h:Sp2 w B a b) (hb:Below w.heap.size w w'):Sp2 w' B a b:=⟨(hb.cell (p:=⟨B,0,none⟩) h.lt).trans h.c0,(hb.cell (p:=⟨B,1,none⟩) h.lt).trans h.c1⟩
theorem Sp2.new (w:World) (a b:Int) (T:TypeId):Sp2 (w.alloc (.cells #[.int .i64 a,.int .i64 b] T)) w.heap.size a b:=⟨by simp [go_sem],by simp [go_sem]⟩
theorem alloc_below (w:World) (o:Obj):Below w.heap.size w (w.alloc o):=qr.alloc (Nat.le_refl _) _
theorem split60 (V:Nat):∃ h l,h*1152921504606846976+l=V/\l<1152921504606846976:=
 ⟨V / 1152921504606846976,V % 1152921504606846976,by rw [Nat.mul_comm];exact Nat.div_add_mod V _,Nat.mod_lt _ (by decide)⟩
theorem piece_mid (xs:List Kn) (x:Int) (a:Option Addr) (cap:Nat) (w:World) (hs:IsC eKn 2 w a xs) (hcap:xs.length<=cap) (hbig:cap<=9223372036854775807) (hlen:xs.length<=100) (m:Nat) (hm0:m<xs.length) (hm:m+1<xs.length)
  (ax ay bx b_y:Int) (hA:xs[m]=⟨ax,ay⟩) (hB:xs[m+1]=⟨bx,b_y⟩) (U L D:Nat) (eU:b_y=ay+U) (eL:x=ax+L) (eD:bx=ax+D) (hL:L<D) (hD:D<=2251799813685248) (hU:U<=2251799813685248)
  (b1 : -1125899906842624<=ax/\ax<=1125899906842624) (b2 : -1125899906842624<=ay/\ay<=1125899906842624)
  (hbs:Calls Tryz.prog 243 #[.slice a xs.length cap,.int .i64 x,.func (.func 244) #[] #[]] w fun e w'=>e=.returned (.tuple #[.int .i64 ((m+1:Nat):Int),.bool false])/\Below w.heap.size w w') :
  Calls Tryz.prog 206 #[.slice a xs.length cap,.int .i64 x] w fun e w'=>e=.returned (.tuple #[.int .i64 (ay+((U*L / D:Nat):Int)),.int .i64 ((U*L % D:Nat):Int),.int .i64 (D:Int)])/\Below w.heap.size w w':=by
 have hD0:0<D:=Nat.lt_of_le_of_lt (Nat.zero_le L) hL
 obtain ⟨V,hV⟩:∃ V,U*L=V:=⟨_,rfl⟩
 have hV2:V<=5070602400912917605986812821504:=by rw [<-hV];exact Nat.le_trans (Nat.mul_le_mul hU (Nat.le_trans (Nat.le_of_lt hL) hD)) (by decide)
 obtain ⟨q,hq⟩:∃ q,V / D=q:=⟨_,rfl⟩
 obtain ⟨n,hn⟩:∃ n,V % D=n:=⟨_,rfl⟩
 have hnD:n<D:=by rw [<-hn];exact Nat.mod_lt _ hD0
 have hqU:q<=U:=by
  rw [<-hq,<-hV]
  exact Nat.div_le_of_le_mul (by rw [Nat.mul_comm];exact Nat.mul_le_mul_right _ (Nat.le_of_lt hL))
 have hqn:q*D+n=V:=by rw [<-hq,<-hn,Nat.mul_comm];exact Nat.div_add_mod V D
 obtain ⟨R,hR⟩:∃ R,q*D=R:=⟨_,rfl⟩
 have hq1:quoN V D true<9223372036854775808:=by rw [quoN_up hD0,hq];exact q_small _ _ (Nat.le_trans hqU hU)
 obtain ⟨h1,l1,e1,g1⟩:=split60 V
 obtain ⟨h2,l2,e2,g2⟩:=split60 R
 obtain ⟨h3,l3,e3,g3⟩:=split60 n
 rw [hR] at hqn
 have hqU2:=Nat.le_trans hqU hU
 have hsc:=fun W=>wscale_any U L D W om om hD0 om (by rw [hV];exact hq1)
 have hp1:=fun W=>wprod_any U L h1 l1 W om om (by rw [hV];omega) (by rw [hV];exact e1) g1
 have hp2:=fun W=>wprod_any q D h2 l2 W om om (by rw [hR];omega) (by rw [hR];exact e2) g2
 have hsu:=fun W=>wsub_any h1 l1 h2 l2 h3 l3 W om om g1 g2 g3 (by rw [e1,e2,e3,Nat.add_comm];exact hqn)
 have hin:=fun W=>wint_any n h3 l3 W om e3 g3
 rw [hV] at hsc
 have eq0:quoN V D false=q:=by simp only [quoN,Bool.false_eq_true,if_false];exact hq
 rw [eq0] at hsc
 rw [hV,hq,hn]
 generalize quoN V D true=qu at *
 have x1:IntKind.i64.wrap (((m+1:Nat):Int)-1)=(m:Int):=by rw [IntKind.wrap_i64];omega
 have x2:IntKind.i64.wrap (b_y-ay)=(U:Int):=by rw [IntKind.wrap_i64];omega
 have x3:IntKind.i64.wrap (x-ax)=(L:Int):=by rw [IntKind.wrap_i64];omega
 have x4:IntKind.i64.wrap (bx-ax)=(D:Int):=by rw [IntKind.wrap_i64];omega
 have x5:IntKind.i64.wrap (ay+(q:Int))=ay+(q:Int):=by rw [IntKind.wrap_i64];omega
 have g0:(((m+1:Nat):Int)==0)=false:=by rw [beq_eq_false_iff_ne];omega
 have g1:(((m+1:Nat):Int)==(xs.length:Int))=false:=by rw [beq_eq_false_iff_ne];omega
 clear eU eL eD hL hD hU b1 b2 hV hV2 hq hn hnD hqU hqn hR hq1 e1 e2 e3 eq0 hD0
 go_enter Tryz.func206,Tryz.ntmps206
 go_wp2_with fail
 refine Calls.to hbs ?_
 rintro e w1 rfl hb1
 obtain ⟨b,off,rfl,d1,d2⟩:=(hs.mono hb1).kn m hm0
 obtain ⟨b',off',e',d3,d4⟩:=(hs.mono hb1).kn (m+1) hm
 obtain ⟨rfl,rfl⟩:b'=b/\off'=off:=by cases e';exact ⟨rfl,rfl⟩
 rw [hA] at d1 d2
 rw [hB] at d3 d4
 simp only at d1 d2 d3 d4
 clear hs e' hA hB
 go_wp2_with fail
 go_region
 ·go_wp2_with fail
  go_quiet (fail)
  have hX:Sp2 (((w1.alloc (.cells #[.int .i64 ax,.int .i64 ay] 100)).alloc (.cells #[.int .i64 bx,.int .i64 b_y] 100)).drewN (1+nq)) w1.heap.size ax ay:=⟨by simp [go_sem],by simp [go_sem]⟩
  have hbW:Below w.heap.size w (((w1.alloc (.cells #[.int .i64 ax,.int .i64 ay] 100)).alloc (.cells #[.int .i64 bx,.int .i64 b_y] 100)).drewN (1+nq)):=by
   have:=hb1.size
   exact bl
  clear d1 d2 d3 d4 hbs x1 x2 x3 x4 hb1
  go_wp2_with fail
  refine Calls.go hbW (hsc _) ?_
  rintro e w2 rfl hb2' hb2
  have hX:=hX.mono hb2'
  clear hb2' hsc hbW
  go_wp2_with fail
  refine Calls.go hb2 (hp1 _) ?_
  rintro e w3 rfl hb3' hb3
  have hX:=hX.mono hb3'
  clear hb3' hp1 hb2
  go_wp2_with fail
  have hX:=hX.mono (alloc_below _ (.cells #[.int .i64 (h1:Int),.int .i64 (l1:Int)] 321))
  have hY:=Sp2.new w3 (h1:Int) (l1:Int) 321
  have hb3:=hb3.alloc hb3.size (.cells #[.int .i64 (h1:Int),.int .i64 (l1:Int)] 321)
  refine Calls.go hb3 (hp2 _) ?_
  rintro e w4 rfl hb4' hb4
  have hX:=hX.mono hb4'
  have hY:=hY.mono hb4'
  have hX2:=hX.mono (alloc_below _ (.cells #[.int .i64 (h2:Int),.int .i64 (l2:Int)] 321))
  have hYl:=hY.lt
  obtain ⟨y0,y1⟩:=hY
  clear hb4' hp2 hb3 hX
  go_wp2_with fail
  have hb4:=hb4.alloc hb4.size (.cells #[.int .i64 (h2:Int),.int .i64 (l2:Int)] 321)
  refine Calls.go hb4 (hsu _) ?_
  rintro e w5 rfl hb5' hb5
  have hX2:=hX2.mono hb5'
  clear hb5' hsu hb4 y0 y1 hYl
  go_wp2_with fail
  have hX:=hX2.mono (alloc_below _ (.cells #[.int .i64 (h3:Int),.int .i64 (l3:Int)] 321))
  have hb5:=hb5.alloc hb5.size (.cells #[.int .i64 (h3:Int),.int .i64 (l3:Int)] 321)
  refine Calls.go hb5 (hin _) ?_
  rintro e w6 rfl hb6' hb6
  have hX:=hX.mono hb6'
  obtain ⟨x0,x1⟩:=hX
  clear hb6' hin hb5 hX2
  go_wp2_with fail
  go_ret3
  exact ⟨rfl,hb6⟩
 ·go_wp2_with fail
  go_quiet (fail)
  have hX:Sp2 (((w1.alloc (.cells #[.int .i64 bx,.int .i64 b_y] 100)).alloc (.cells #[.int .i64 ax,.int .i64 ay] 100)).drewN (1+nq)) (w1.heap.size+1) ax ay:=⟨by simp [go_sem],by simp [go_sem]⟩
  have hbW:Below w.heap.size w (((w1.alloc (.cells #[.int .i64 bx,.int .i64 b_y] 100)).alloc (.cells #[.int .i64 ax,.int .i64 ay] 100)).drewN (1+nq)):=by
   have:=hb1.size
   exact bl
  clear d1 d2 d3 d4 hbs x1 x2 x3 x4 hb1
  go_wp2_with fail
  refine Calls.go hbW (hsc _) ?_
  rintro e w2 rfl hb2' hb2
  have hX:=hX.mono hb2'
  clear hb2' hsc hbW
  go_wp2_with fail
  refine Calls.go hb2 (hp1 _) ?_
  rintro e w3 rfl hb3' hb3
  have hX:=hX.mono hb3'
  clear hb3' hp1 hb2
  go_wp2_with fail
  have hX:=hX.mono (alloc_below _ (.cells #[.int .i64 (h1:Int),.int .i64 (l1:Int)] 321))
  have hY:=Sp2.new w3 (h1:Int) (l1:Int) 321
  have hb3:=hb3.alloc hb3.size (.cells #[.int .i64 (h1:Int),.int .i64 (l1:Int)] 321)
  refine Calls.go hb3 (hp2 _) ?_
  rintro e w4 rfl hb4' hb4
  have hX:=hX.mono hb4'
  have hY:=hY.mono hb4'
  have hX2:=hX.mono (alloc_below _ (.cells #[.int .i64 (h2:Int),.int .i64 (l2:Int)] 321))
  have hYl:=hY.lt
  obtain ⟨y0,y1⟩:=hY
  clear hb4' hp2 hb3 hX
  go_wp2_with fail
  have hb4:=hb4.alloc hb4.size (.cells #[.int .i64 (h2:Int),.int .i64 (l2:Int)] 321)
  refine Calls.go hb4 (hsu _) ?_
  rintro e w5 rfl hb5' hb5
  have hX2:=hX2.mono hb5'
  clear hb5' hsu hb4 y0 y1 hYl
  go_wp2_with fail
  have hX:=hX2.mono (alloc_below _ (.cells #[.int .i64 (h3:Int),.int .i64 (l3:Int)] 321))
  have hb5:=hb5.alloc hb5.size (.cells #[.int .i64 (h3:Int),.int .i64 (l3:Int)] 321)
  refine Calls.go hb5 (hin _) ?_
  rintro e w6 rfl hb6' hb6
  have hX:=hX.mono hb6'
  obtain ⟨x0,x1⟩:=hX
  clear hb6' hin hb5 hX2
  go_wp2_with fail
  go_ret3
  exact ⟨rfl,hb6⟩
theorem piece_any (xs:List Kn) (x:Int) (v:Value) (w:World) (hv:IsKns w v xs) (h:tabB xs=true) :
  Calls Tryz.prog 206 #[v,.int .i64 x] w fun e w'=>e=.returned (vP (tabP xs x))/\Below w.heap.size w w':=by
 have hbs:=bsearch_any xs x v w hv h
 obtain ⟨a,cap,rfl,hcap,hbig,hs⟩:=hv
 have hlen:=tabB_len h
 have hcl:=cntX_le xs x
 have hlt:=fun j hj=>cntX_lt h x j hj
 by_cases h1:hitX xs x=true\/cntX xs x=0
 ·have hP:=tabV_hit h1
  have hk:cntX xs x<xs.length:=by
   rcases h1 with h1|h1
   ·simp [hitX] at h1;exact h1.1
   ·omega
  rw [hP]
  rw [knAt_is hk]
  have hh:(hitX xs x||(((cntX xs x:Nat):Int)==0))=true:=by
   rcases h1 with h1|h1
   ·rw [h1];rfl
   ·rw [h1];simp
  clear hlt h1 hP h
  generalize cntX xs x=k at *
  generalize hitX xs x=ht at *
  obtain ⟨K0,hK0⟩:∃ K0,K0=xs[k]:=⟨_,rfl⟩
  rw [<-hK0]
  replace hK0:=qh hK0
  cases ht
  ·obtain rfl:k=0:=by simpa using hh
   go_enter Tryz.func206,Tryz.ntmps206
   go_wp2_with fail
   refine Calls.to hbs ?_
   rintro e w1 rfl hb1
   obtain ⟨b,off,rfl,d1,d2⟩:=(hs.mono hb1).kn 0 hk
   rw [<-show K0=xs[0] from hK0] at d1 d2
   clear hs
   go_wp2_with fail
   go_ret3
   exact ⟨rfl,hb1⟩
  ·go_enter Tryz.func206,Tryz.ntmps206
   go_wp2_with fail
   refine Calls.to hbs ?_
   rintro e w1 rfl hb1
   obtain ⟨b,off,rfl,d1,d2⟩:=(hs.mono hb1).kn k hk
   rw [<-show K0=xs[k] from hK0] at d1 d2
   clear hs
   go_wp2_with fail
   go_ret3
   exact ⟨rfl,hb1⟩
 ·have hht:hitX xs x=false:=by cases hq:hitX xs x;rfl;exact absurd (Or.inl hq) h1
  have hk0:1<=cntX xs x:=by rcases Nat.eq_zero_or_pos (cntX xs x) with g|g;exact absurd (Or.inr g) h1;exact g
  by_cases h2:cntX xs x=xs.length
  ·have hP:=tabV_end h1 h2
   rw [hP]
   have hkl:cntX xs x-1<xs.length:=by omega
   rw [knAt_is hkl]
   rw [hht] at hbs
   clear hlt h1 hP h hht
   obtain ⟨K0,hK0⟩:∃ K0,K0=xs[cntX xs x-1]:=⟨_,rfl⟩
   rw [<-hK0]
   replace hK0:=qh hK0
   obtain ⟨m,hm⟩:∃ m,m+1=cntX xs x:=⟨cntX xs x-1,by omega⟩
   generalize cntX xs x=k at *
   obtain rfl:=hm
   have g0:(((m+1:Nat):Int)==0)=false:=by rw [beq_eq_false_iff_ne];omega
   have g1:(((m+1:Nat):Int)==(xs.length:Int))=true:=by rw [beq_iff_eq];omega
   have x1:IntKind.i64.wrap (((m+1:Nat):Int)-1)=(m:Int):=by rw [IntKind.wrap_i64];omega
   have hm:m<xs.length:=by omega
   replace h2:=qh h2
   go_enter Tryz.func206,Tryz.ntmps206
   go_wp2_with fail
   refine Calls.to hbs ?_
   rintro e w1 rfl hb1
   obtain ⟨b,off,rfl,d1,d2⟩:=(hs.mono hb1).kn m hm
   rw [<-show K0=xs[m] from hK0] at d1 d2
   clear hs
   go_wp2_with fail
   go_ret3
   exact ⟨rfl,hb1⟩
  ·have hk:cntX xs x<xs.length:=by omega
   obtain ⟨m,hm⟩:∃ m,m+1=cntX xs x:=⟨cntX xs x-1,by omega⟩
   have hm1:m+1<xs.length:=by omega
   have hm0:m<xs.length:=by omega
   have hP:=tabV_mid h1 h2
   rw [<-hm,Nat.add_sub_cancel,knAt_is hm0,knAt_is hm1] at hP
   have k1:=(hlt m hm0).1 om
   have k2:x<xs[m+1].X:=by
    have q1:=hlt (m+1) hm1
    have q2:¬ (xs[m+1].X=x):=by
     intro e
     have:hitX xs x=true:=by
      simp only [hitX,Bool.and_eq_true,decide_eq_true_eq]
      refine ⟨hk,?_⟩
      rw [<-hm,knAt_is hm1];exact e
     rw [hht] at this;cases this
    omega
   have hst:=tabB_lt h m (m+1) om hm1
   have t0:=tabB_at h m hm0
   have t1:=tabB_at h (m+1) hm1
   rw [hht,<-hm] at hbs
   rw [hP]
   obtain ⟨⟨ax,ay⟩,hA⟩:∃ K,xs[m]=K:=⟨_,rfl⟩
   obtain ⟨⟨bx,b_y⟩,hB⟩:∃ K,xs[m+1]=K:=⟨_,rfl⟩
   rw [hA] at k1 hst t0 ⊢
   rw [hB] at k2 hst t1 ⊢
   simp only at k1 k2 hst t0 t1
   have hmid:=piece_mid xs x a cap w hs hcap hbig hlen.2 m hm0 hm1 ax ay bx b_y hA hB (b_y-ay).toNat (x-ax).toNat (bx-ax).toNat om om om om om om om om hbs
   have e1:((b_y-ay).toNat:Int)=b_y-ay:=Int.toNat_of_nonneg om
   have e2:((x-ax).toNat:Int)=x-ax:=Int.toNat_of_nonneg om
   have e3:((bx-ax).toNat:Int)=bx-ax:=Int.toNat_of_nonneg om
   simp only [Int.natCast_ediv,Int.natCast_emod,Int.natCast_mul,e1,e2,e3] at hmid
   exact hmid
theorem tfloor_any (xs:List Kn) (x:Int) (v:Value) (w:World) (hv:IsKns w v xs) (h:tabB xs=true) :
  Calls Tryz.prog 137 #[v,.int .i64 x] w fun e w'=>e=.returned (.tuple #[.int .i64 (tabV xs x),.int .i64 0])/\Below w.heap.size w w':=by
 have hp:=fun W (hW:IsKns W v xs)=>piece_any xs x v W hW h
 have hv0:=tvalid_any xs v w hv
 rw [h] at hv0
 have HV:=qh hv
 obtain ⟨a,cap,rfl,_⟩:=hv
 clear h
 unfold tabV
 obtain ⟨⟨r1,r2,r3⟩,hr⟩:∃ r,tabP xs x=r:=⟨_,rfl⟩
 simp only [hr] at hp ⊢
 clear hr
 simp only [vP] at hp
 go_enter Tryz.func137,Tryz.ntmps137
 go_wp2_with fail
 refine Calls.to hv0 ?_
 rintro e w1 rfl hb1
 go_wp2_with fail
 refine Calls.go hb1 (hp _ (HV.out.mono hb1)) ?_
 rintro e w2 rfl _ hb2
 go_wp2_with fail
 go_ret2
 exact ⟨rfl,hb2⟩
theorem tank_blk {w:World} {g:Nat} {L:Array Value} {T:TypeId} (hg:w.heap[g]? = some (.cells L T (0,0))) (j:Nat):w.cell? ⟨g,j,none⟩=L[j]?:=by
 simp [World.cell?,hg]
theorem tank_free {w:World} {g:Nat} {L:Array Value} {T:TypeId} (hg:w.heap[g]? = some (.cells L T (0,0))) (j:Nat):w.frozen? ⟨g,j,none⟩=false:=by
 simp [World.frozen?,hg]
end Go.Proofs.YtoiakijmbghhlaaGreat
namespace Go.Proofs.YtoiakijmbghhlaaGreat
namespace Pn
structure Pl where
 C:Int
 R:Int
 L:List Int
 Pr:List Int
 W:Int
def lft (v i r:Int):Int:=v+i-r
def stepP (p:Pl) (v i:Int) (k:Nat):Option (Int×Int):=
 if lft v i (p.L.getD k 0)<p.R then none
 else some (min (lft v i (p.L.getD k 0)) p.C,p.Pr.getD k 0+p.W*max 0 (lft v i (p.L.getD k 0)-p.C))
def bst (p:Pl) (nx:Int->Option Int) (v i:Int) (acc:Option (Nat×Int)) (k:Nat):Option (Nat×Int):=
 match stepP p v i k with
 | none=>acc
 | some (w,c)=>
  match nx w with
  | none=>acc
  | some y=>
   match acc with
   | none=>some (k,c+y)
   | some (r,l)=>if c+y<l then some (k,c+y) else some (r,l)
def bestK (p:Pl) (nx:Int->Option Int) (v i:Int):Nat->Option (Nat×Int)
 | 0=>none
 | k+1=>bst p nx v i (bestK p nx v i k) k
def best (p:Pl) (nx:Int->Option Int) (v i:Int):Option (Nat×Int):=bestK p nx v i p.L.length
def V (p:Pl):List Int->Int->Option Int
 | [],_=>some 0
 | i :: r,v=>(best p (V p r) v i).map (·.2)
def K:Int:=1099511627776*1001
end Pn
end Go.Proofs.YtoiakijmbghhlaaGreat
namespace Go.Proofs.YtoiakijmbghhlaaGreat
open Go.RowKit Go.Maps
theorem undI:Tryz.prog.underlying 3=some (.int .i64):=by kernel_rfl
theorem undB:Tryz.prog.underlying 4=some .bool:=by kernel_rfl
theorem wfI {k:Int} (h : -9223372036854775808<=k/\k<=9223372036854775807):(Lit.int .i64 k).wf=true:=by
 simp [Lit.wf];exact h
noncomputable abbrev elI:Value->Option (DataW Unit×List MemPlace):=plainElem Tryz.prog 3
noncomputable abbrev elB:Value->Option (DataW Unit×List MemPlace):=plainElem Tryz.prog 4
theorem zeroI (w:World):(zeroValue 3).run Tryz.prog w=.ok (.int .i64 0) w:=by kernel_rfl
theorem grown_none {w w':World} (hb:Below w.heap.size w w') (row:Option Nat):w.grownBy w' row:=⟨hb.os,hb.tape,hb.output,hb.size,fun j hj _=>hb.block j hj⟩
theorem lit_inj {a b:Int} (h:(DataW.lit (.int .i64 a):DataW Unit)=.lit (.int .i64 b)):a=b:=by simpa using h
end Go.Proofs.YtoiakijmbghhlaaGreat
namespace Go.Proofs.YtoiakijmbghhlaaGreat
open Go.RowKit
section
variable {P : Program} {o : Oper} {a : Act} {Q : Exit → Act → World → Prop}
end
end Go.Proofs.YtoiakijmbghhlaaGreat
