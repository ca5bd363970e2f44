/- The program's wide integers: product, difference, int, quotients of a wide integer, Scale. Conditions: the numbers are not negative and in range. -/
import Derived.Test.YtoiakijmbghhlaaGreatS09
set_option linter.unusedVariables false
set_option linter.unusedSimpArgs false
set_option maxRecDepth 100000
set_option maxHeartbeats 32000000
namespace Go.Proofs.YtoiakijmbghhlaaGreat
open Go.RowKit
structure Bi2 (w:World) (B a b:Nat):Prop where
 c0:w.cell? ⟨B,0,none⟩=some (.int .i64 (a:Int))
 c1:w.cell? ⟨B,1,none⟩=some (.int .i64 (b:Int))
 f0:w.frozen? ⟨B,0,none⟩=false
 f1:w.frozen? ⟨B,1,none⟩=false
theorem Bi2.lt {w:World} {B a b:Nat} (h:Bi2 w B a b):B<w.heap.size:=lt_of_isSome (a:=⟨B,0,none⟩) (by rw [h.c0];rfl)
theorem Bi2.mono {w w':World} {B a b:Nat} (h:Bi2 w B a b) (hb:Below w.heap.size w w'):Bi2 w' B a b:=
 ⟨(hb.cell (p:=⟨B,0,none⟩) h.lt).trans h.c0,(hb.cell (p:=⟨B,1,none⟩) h.lt).trans h.c1,(hb.frozen (p:=⟨B,0,none⟩) h.lt).trans h.f0,(hb.frozen (p:=⟨B,1,none⟩) h.lt).trans h.f1⟩
theorem Bi2.new (w:World) (a b:Nat) (T:TypeId):Bi2 (w.alloc (.cells #[.int .i64 (a:Int),.int .i64 (b:Int)] T)) w.heap.size a b:=⟨by simp [go_sem],by simp [go_sem],by simp [go_sem],by simp [go_sem]⟩
theorem wplaced_any (H L h l:Nat) (w:World) (hH:H<36028797018963968) (hL:L<18446744073709551616) (hv:h*1152921504606846976+l=H*18446744073709551616+L) (hl:l<1152921504606846976) :
  Calls Tryz.prog 285 #[vN H L false] w fun e w'=>e=.returned (.tuple #[vW h l,.int .i64 0])/\Below w.heap.size w w':=by
 have hb0:Below w.heap.size w ((w.alloc (.cells #[.int .u64 (H:Int),.int .u64 (L:Int),.bool false] 355)).alloc (.cells #[.int .i64 0,.int .i64 0] 321)):=bl
 have u1:=decide_eq_false (show ¬ (72057594037927936:Int)<(H:Int) by omega)
 have u1':=decide_eq_false (show ¬ 72057594037927936<H by omega)
 have u2:((H:Int)==72057594037927936)=false:=by rw [beq_eq_false_iff_ne];omega
 have u2':¬ H=72057594037927936:=by omega
 obtain ⟨h16,e1⟩:∃ z,H*16=z:=⟨_,rfl⟩
 obtain ⟨lt,e2⟩:∃ z,L / 1152921504606846976=z:=⟨_,rfl⟩
 have x1:IntKind.u64.wrap ((H:Int)*16)=(h16:Int):=by rw [IntKind.wrap_u64];omega
 have x2:(L:Int) / 1152921504606846976=(lt:Int):=by omega
 have x3:bits .or .u64 (h16:Int) (lt:Int)=(h:Int):=by
  rw [bits_or_u64_nat _ _ om om,<-e1]
  have hj:=or_join (a:=H) (b:=lt) (s:=4) om
  rw [show (2:Nat) ^ 4=16 from rfl] at hj
  rw [hj]
  omega
 have x4:bits .and .u64 (L:Int) 1152921504606846975=(l:Int):=by
  have hh:=bits_and_u64_nat L 1152921504606846975 hL om
  have e:L &&& 1152921504606846975=L % 1152921504606846976:=Nat.and_two_pow_sub_one_eq_mod L 60
  rw [e] at hh
  rw [show ((1152921504606846975:Nat):Int)=1152921504606846975 from rfl] at hh
  rw [hh];omega
 have x5:IntKind.i64.wrap (h:Int)=(h:Int):=IntWalk.i64_in _ om
 have x6:IntKind.i64.wrap (l:Int)=(l:Int):=IntWalk.i64_in _ om
 clear e1 e2 hv
 go_enter Tryz.func285,Tryz.ntmps285
 go_wp2_with fail
 go_quiet (fail)
 go_wp2_with fail
 exact bodyPost_ret (v:=.tuple #[vW h l,.int .i64 0]) (by simp (maxDischargeDepth:=9) [results,Tryz.results285,go_sem]) rfl ⟨rfl,bl⟩
theorem wvalid_any (h l:Nat) (w:World) (hh:h<1152921504606846976) (hl:l<1152921504606846976):Calls Tryz.prog 286 #[vW h l] w fun e w'=>e=.returned (.bool true)/\Below w.heap.size w w':=by
 have u1:=decide_eq_true (show (-1152921504606846976:Int)<=(h:Int) by omega)
 have u2:=decide_eq_true (show (h:Int)<1152921504606846976 by omega)
 have u2':=decide_eq_true hh
 have u3:=decide_eq_true (show (0:Int)<=(l:Int) by omega)
 have u4:=decide_eq_true (show (l:Int)<1152921504606846976 by omega)
 have u4':=decide_eq_true hl
 go_enter Tryz.func286,Tryz.ntmps286
 go_wp2_with fail
 go_ret
 exact ⟨rfl,bl⟩
theorem wvalue_any (h l H L:Nat) (w:World) (hh:h<576460752303423488) (hl:l<1152921504606846976) (hv:h*1152921504606846976+l=H*18446744073709551616+L) (hL:L<18446744073709551616) :
  Calls Tryz.prog 288 #[vW h l] w fun e w'=>e=.returned (vN H L false)/\Below w.heap.size w w':=by
 have hs:=fun W=>wsize_any h W om
 have u:=decide_eq_true (show (0:Int)<=(h:Int) by omega)
 obtain ⟨hs60,e1⟩:∃ z,h % 16*1152921504606846976=z:=⟨_,rfl⟩
 have x1:(h:Int) / 16=(H:Int):=by omega
 have x2:IntKind.u64.wrap ((h:Int)*1152921504606846976)=(hs60:Int):=by rw [IntKind.wrap_u64];omega
 have x3:IntKind.u64.wrap (l:Int)=(l:Int):=i64_u64 l om
 have x4:bits .or .u64 (hs60:Int) (l:Int)=(L:Int):=by
  rw [bits_or_u64_nat _ _ om om,<-e1]
  have hj:=or_join (a:=h % 16) (b:=l) (s:=60) om
  rw [show (2:Nat) ^ 60=1152921504606846976 from rfl] at hj
  rw [hj]
  omega
 clear e1 hv
 go_enter Tryz.func288,Tryz.ntmps288
 go_wp2_with fail
 refine (hs _).mono ?_
 rintro e w1 ⟨rfl,rfl⟩
 go_wp2_with fail
 exact bodyPost_ret (v:=vN H L false) (by simp (maxDischargeDepth:=9) [results,Tryz.results288,go_sem]) rfl ⟨rfl,bl⟩
theorem wprod_any (a b h l:Nat) (w:World) (ha:a<9223372036854775808) (hb:b<9223372036854775808) (hab:a*b<664613997892457936451903530140172288) (hv:h*1152921504606846976+l=a*b) (hl:l<1152921504606846976) :
  Calls Tryz.prog 246 #[.int .i64 (a:Int),.int .i64 (b:Int)] w fun e w'=>e=.returned (.tuple #[vW h l,.int .i64 0])/\Below w.heap.size w w':=by
 have ht:=fun W=>wtimes_any a b W ha hb
 obtain ⟨V,hV⟩:∃ V,a*b=V:=⟨_,rfl⟩
 rw [hV] at ht hab hv
 obtain ⟨H,hH⟩:∃ H,V / 18446744073709551616=H:=⟨_,rfl⟩
 obtain ⟨L,hL⟩:∃ L,V % 18446744073709551616=L:=⟨_,rfl⟩
 rw [hH,hL] at ht
 have hp:=fun W=>wplaced_any H L h l W om om om hl
 have hx:=Bi2.new w 0 0 321
 have hb0:Below w.heap.size w (w.alloc (.cells #[.int .i64 0,.int .i64 0] 321)):=qr.alloc (Nat.le_refl _) _
 clear hV hH hL hv hab
 go_enter Tryz.func246,Tryz.ntmps246
 go_wp2_with fail
 refine Calls.to (ht _) ?_
 rintro e w1 rfl hb1
 have hx:=hx.mono hb1
 have hbb:=hb0.trans (hb1.mono hb0.size)
 clear hb1
 go_wp2_with fail
 refine Calls.go hbb (hp _) ?_
 rintro e w2 rfl hb2' hb2
 obtain ⟨c0,c1,f0,f1⟩:=hx.mono hb2'
 clear hb2' hbb
 go_wp2_with fail
 exact bodyPost_ret (v:=.tuple #[vW h l,.int .i64 0]) (by simp (maxDischargeDepth:=9) [results,Tryz.results246,go_sem,c0,c1]) rfl ⟨rfl,bl⟩
theorem wscale_any (a b d:Nat) (w:World) (ha:a<9223372036854775808) (hb:b<9223372036854775808) (hd:0<d) (hd2:d<9223372036854775808) (hq:quoN (a*b) d true<9223372036854775808) :
  Calls Tryz.prog 245 #[.int .i64 (a:Int),.int .i64 (b:Int),.int .i64 (d:Int)] w fun e w'=>e=.returned (.tuple #[.int .i64 ((quoN (a*b) d false:Nat):Int),.int .i64 ((quoN (a*b) d true:Nat):Int),.int .i64 0])/\Below w.heap.size w w':=by
 have ht:=fun W=>wtimes_any a b W ha hb
 obtain ⟨V,hV⟩:∃ V,a*b=V:=⟨_,rfl⟩
 rw [hV] at ht hq ⊢
 obtain ⟨H,hH⟩:∃ H,V / 18446744073709551616=H:=⟨_,rfl⟩
 obtain ⟨L,hL⟩:∃ L,V % 18446744073709551616=L:=⟨_,rfl⟩
 rw [hH,hL] at ht
 have e:H*18446744073709551616+L=V:=by omega
 have hq1:quoN V d false<9223372036854775808:=by
  rw [quoN_up hd] at hq
  show V / d<_
  omega
 have hqa:=fun W=>wquot_any H L d false W om hd hd2 (by rw [e];exact hq1)
 have hqb:=fun W=>wquot_any H L d true W om hd hd2 (by rw [e];exact hq)
 rw [e] at hqa hqb
 generalize quoN V d false=q1 at *
 generalize quoN V d true=q2 at *
 have z:((d:Int)==0)=false:=by rw [beq_eq_false_iff_ne];omega
 have z2:¬ d=0:=by omega
 clear hV hH hL e
 go_enter Tryz.func245,Tryz.ntmps245
 go_wp2_with fail
 refine Calls.to (ht _) ?_
 rintro e w1 rfl hb1
 go_wp2_with fail
 have hx:=Bx3.new w1 H L false 355
 have hb2:Below w.heap.size w (w1.alloc (.cells #[.int .u64 (H:Int),.int .u64 (L:Int),.bool false] 355)):=hb1.alloc hb1.size _
 refine Calls.go hb2 (hqa _) ?_
 rintro e w3 rfl hb3' hb3
 have hx:=hx.mono hb3'
 obtain ⟨c0,c1,c2,f0,f1,f2⟩:=hx
 clear hb3' hb2 hb1
 go_wp2_with fail
 refine Calls.go hb3 (hqb _) ?_
 rintro e w4 rfl _ hb4
 go_wp2_with fail
 go_ret3
 exact ⟨rfl,hb4⟩
theorem wminus_any (H L:Nat) (w:World):Calls Tryz.prog 289 #[vN H L false] w fun e w'=>e=.returned (vN H L (nzB H L))/\Below w.heap.size w w':=by
 have hs:=fun W=>wsigned_any H L true W
 rw [Bool.true_and] at hs
 generalize nzB H L=z at *
 have hb0:Below w.heap.size w ((w.alloc (.cells #[.int .u64 (H:Int),.int .u64 (L:Int),.bool false] 355)).alloc (.cells #[.int .u64 0,.int .u64 0,.bool false] 355)):=bl
 have hR:Bx3 ((w.alloc (.cells #[.int .u64 (H:Int),.int .u64 (L:Int),.bool false] 355)).alloc (.cells #[.int .u64 0,.int .u64 0,.bool false] 355)) (w.heap.size+1) 0 0 false:=by
  refine ⟨?_,?_,?_,?_,?_,?_⟩ <;> simp [go_sem]
 go_enter Tryz.func289,Tryz.ntmps289
 go_wp2_with fail
 refine Calls.go hb0 (hs _) ?_
 rintro e w1 rfl hb1' hb1
 obtain ⟨c0,c1,c2,f0,f1,f2⟩:=hR.mono hb1'
 clear hb1'
 go_wp2_with fail
 exact bodyPost_ret (v:=vN H L z) (by simp (maxDischargeDepth:=9) [results,Tryz.results289,go_sem,c0,c1,c2]) rfl ⟨rfl,bl⟩
theorem wint_any (n h l:Nat) (w:World) (hn:n<9223372036854775808) (hv:h*1152921504606846976+l=n) (hl:l<1152921504606846976):Calls Tryz.prog 248 #[vW h l] w fun e w'=>e=.returned (.tuple #[.int .i64 (n:Int),.int .i64 0])/\Below w.heap.size w w':=by
 have hok:=fun W=>wvalid_any h l W om hl
 have hvv:=fun W=>wvalue_any h l 0 n W om hl om om
 have hw:=fun W=>wwhole_any n W hn
 have hb0:Below w.heap.size w (w.alloc (.cells #[.int .i64 (h:Int),.int .i64 (l:Int)] 321)):=qr.alloc (Nat.le_refl _) _
 have hx:=Bi2.new w h l 321
 clear hv
 go_enter Tryz.func248,Tryz.ntmps248
 go_wp2_with fail
 refine Calls.go hb0 (hok _) ?_
 rintro e w1 rfl hb1' hb1
 obtain ⟨c0,c1,f0,f1⟩:=hx.mono hb1'
 clear hb1'
 go_wp2_with fail
 refine Calls.go hb1 (hvv _) ?_
 rintro e w2 rfl hb2' hb2
 clear hb2'
 go_wp2_with fail
 refine (hw _).mono ?_
 rintro e w3 ⟨rfl,rfl⟩
 go_wp2_with fail
 go_ret2
 exact ⟨rfl,bl⟩
theorem wsum_zero (A B:Nat) (w:World) (hA:A<36028797018963968) (hB:B<18446744073709551616) :
  Calls Tryz.prog 287 #[vN A B false,vN 0 0 false] w fun e w'=>e=.returned (vN A B false)/\Below w.heap.size w w':=by
 have hsg:=fun W=>wsigned_any A B false W
 rw [Bool.false_and] at hsg
 have hm1:(B+0+0) % 18446744073709551616=B:=Nat.mod_eq_of_lt hB
 have hm2:(B+0+0) / 18446744073709551616=0:=Nat.div_eq_of_lt hB
 have ha:∀ W,(callFunc 323 #[.int .u64 (B:Int),.int .u64 0,.int .u64 0]).run Tryz.prog W=.ok (.value (.tuple #[.int .u64 (B:Int),.int .u64 0])) W:=by
  intro W
  have h1:=add64_run B 0 0 (by decide) W
  rw [hm1,hm2] at h1
  exact h1
 have x1:IntKind.u64.wrap (A:Int)=(A:Int):=by rw [IntKind.wrap_u64];omega
 obtain ⟨H,hH⟩:∃ H,H=A:=⟨_,rfl⟩
 obtain ⟨L,hL⟩:∃ L,L=B:=⟨_,rfl⟩
 subst hH
 subst hL
 clear hm1 hm2
 have HX:Hid (True):=trivial
 have hb0:Below w.heap.size w (((w.alloc (.cells #[.int .u64 (H:Int),.int .u64 (L:Int),.bool false] 355)).alloc (.cells #[.int .u64 0,.int .u64 0,.bool false] 355)).alloc (.cells #[.int .u64 0,.int .u64 0,.bool false] 355)):=bl
 have hR:Bx3 (((w.alloc (.cells #[.int .u64 (H:Int),.int .u64 (L:Int),.bool false] 355)).alloc (.cells #[.int .u64 0,.int .u64 0,.bool false] 355)).alloc (.cells #[.int .u64 0,.int .u64 0,.bool false] 355)) (w.heap.size+1+1) 0 0 false:=by
  refine ⟨?_,?_,?_,?_,?_,?_⟩ <;> simp [go_sem]
 go_enter Tryz.func287,Tryz.ntmps287
 go_wp2_with fail
 refine Calls.go hb0 (hsg _) ?_
 rintro e w1 rfl hb1' hb1
 obtain ⟨c0,c1,c2,f0,f1,f2⟩:=hR.mono hb1'
 clear hb1' hR hb0
 go_wp2_with fail
 exact bodyPost_ret (v:=vN H L false) (by simp (maxDischargeDepth:=9) [results,Tryz.results287,go_sem,c0,c1,c2]) rfl ⟨rfl,bl⟩
theorem wsum_lt (A B C D H L:Nat) (w:World) (hA:A<36028797018963968) (hB:B<18446744073709551616) (hD:D<18446744073709551616) (hL:L<18446744073709551616) (hac:C<A) (h:H*18446744073709551616+L+(C*18446744073709551616+D)=A*18446744073709551616+B) :
  Calls Tryz.prog 287 #[vN A B false,vN C D true] w fun e w'=>e=.returned (vN H L false)/\Below w.heap.size w w':=by
 have hsg:=fun W=>wsigned_any H L false W
 rw [Bool.false_and] at hsg
 obtain ⟨bo,hbo⟩:∃ z,(if B<D+0 then 1 else 0:Nat)=z:=⟨_,rfl⟩
 have hm1:(B+18446744073709551616-D-0) % 18446744073709551616=L:=by rw [Nat.sub_zero];omega
 have hs:∀ W,(callFunc 324 #[.int .u64 (B:Int),.int .u64 (D:Int),.int .u64 0]).run Tryz.prog W=.ok (.value (.tuple #[.int .u64 (L:Int),.int .u64 (bo:Int)])) W:=by
  intro W
  have h1:=sub64_run B D 0 (by decide) W
  rw [hm1,hbo] at h1
  exact h1
 obtain ⟨d1,hd1⟩:∃ z,A-C=z:=⟨_,rfl⟩
 have hb1:bo<=1/\A=C+H+bo:=by
  rw [Nat.add_zero] at hbo
  split at hbo <;> omega
 have x1:IntKind.u64.wrap ((A:Int)-(C:Int))=(d1:Int):=by rw [IntKind.wrap_u64];omega
 have x2:IntKind.u64.wrap ((d1:Int)-(bo:Int))=(H:Int):=by rw [IntKind.wrap_u64];omega
 have u1:=decide_eq_false (show ¬ A<C by omega)
 have u1':=decide_eq_false (show ¬ (A:Int)<(C:Int) by omega)
 have v1:((A:Int)==(C:Int))=false:=by rw [beq_eq_false_iff_ne];omega
 have v2:¬ A=C:=by omega
 clear h hm1 hbo hd1 hb1 hac hA hB hD hL
 have hb0:Below w.heap.size w (((w.alloc (.cells #[.int .u64 (A:Int),.int .u64 (B:Int),.bool false] 355)).alloc (.cells #[.int .u64 (C:Int),.int .u64 (D:Int),.bool true] 355)).alloc (.cells #[.int .u64 0,.int .u64 0,.bool false] 355)):=bl
 have hR:Bx3 (((w.alloc (.cells #[.int .u64 (A:Int),.int .u64 (B:Int),.bool false] 355)).alloc (.cells #[.int .u64 (C:Int),.int .u64 (D:Int),.bool true] 355)).alloc (.cells #[.int .u64 0,.int .u64 0,.bool false] 355)) (w.heap.size+1+1) 0 0 false:=by
  refine ⟨?_,?_,?_,?_,?_,?_⟩ <;> simp [go_sem]
 go_enter Tryz.func287,Tryz.ntmps287
 go_wp2_with fail
 refine Calls.go hb0 (hsg _) ?_
 rintro e w1 rfl hb1' hb1
 obtain ⟨c0,c1,c2,f0,f1,f2⟩:=hR.mono hb1'
 clear hb1' hR hb0
 go_wp2_with fail
 exact bodyPost_ret (v:=vN H L false) (by simp (maxDischargeDepth:=9) [results,Tryz.results287,go_sem,c0,c1,c2]) rfl ⟨rfl,bl⟩
theorem wsum_eq (A B D L:Nat) (w:World) (hA:A<36028797018963968) (hB:B<18446744073709551616) (hDB:D<=B) (h:L+D=B) :
  Calls Tryz.prog 287 #[vN A B false,vN A D true] w fun e w'=>e=.returned (vN 0 L false)/\Below w.heap.size w w':=by
 have hsg:∀ W,Calls Tryz.prog 322 #[.int .u64 0,.int .u64 (L:Int),.bool false] W fun e w'=>e=.returned (.agg #[.int .u64 0,.int .u64 (L:Int),.bool false])/\Below W.heap.size W w':=by
  intro W
  have h1:=wsigned_any 0 L false W
  rw [Bool.false_and] at h1
  exact h1
 have hbo:(if B<D+0 then 1 else 0:Nat)=0:=if_neg om
 have hm1:(B+18446744073709551616-D-0) % 18446744073709551616=L:=by rw [Nat.sub_zero];omega
 have hs:∀ W,(callFunc 324 #[.int .u64 (B:Int),.int .u64 (D:Int),.int .u64 0]).run Tryz.prog W=.ok (.value (.tuple #[.int .u64 (L:Int),.int .u64 0])) W:=by
  intro W
  have h1:=sub64_run B D 0 (by decide) W
  rw [hm1,hbo] at h1
  exact h1
 have v2:=decide_eq_false (show ¬ B<D by omega)
 have v3:=decide_eq_false (show ¬ (B:Int)<(D:Int) by omega)
 clear h hm1 hbo hDB hA hB
 have hb0:Below w.heap.size w (((w.alloc (.cells #[.int .u64 (A:Int),.int .u64 (B:Int),.bool false] 355)).alloc (.cells #[.int .u64 (A:Int),.int .u64 (D:Int),.bool true] 355)).alloc (.cells #[.int .u64 0,.int .u64 0,.bool false] 355)):=bl
 have hR:Bx3 (((w.alloc (.cells #[.int .u64 (A:Int),.int .u64 (B:Int),.bool false] 355)).alloc (.cells #[.int .u64 (A:Int),.int .u64 (D:Int),.bool true] 355)).alloc (.cells #[.int .u64 0,.int .u64 0,.bool false] 355)) (w.heap.size+1+1) 0 0 false:=by
  refine ⟨?_,?_,?_,?_,?_,?_⟩ <;> simp [go_sem]
 go_enter Tryz.func287,Tryz.ntmps287
 go_wp2_with fail
 refine Calls.go hb0 (hsg _) ?_
 rintro e w1 rfl hb1' hb1
 obtain ⟨c0,c1,c2,f0,f1,f2⟩:=hR.mono hb1'
 clear hb1' hR hb0
 go_wp2_with fail
 exact bodyPost_ret (v:=.agg #[.int .u64 0,.int .u64 (L:Int),.bool false]) (by simp (maxDischargeDepth:=9) [results,Tryz.results287,go_sem,c0,c1,c2]) rfl ⟨rfl,bl⟩
theorem wsum_any (A B C D H L:Nat) (w:World) (hA:A<36028797018963968) (hB:B<18446744073709551616) (hD:D<18446744073709551616) (hL:L<18446744073709551616) (h:H*18446744073709551616+L+(C*18446744073709551616+D)=A*18446744073709551616+B) :
  Calls Tryz.prog 287 #[vN A B false,vN C D (nzB C D)] w fun e w'=>e=.returned (vN H L false)/\Below w.heap.size w w':=by
 cases hn:nzB C D
 ·have hz:C=0/\D=0:=by simpa [nzB] using hn
  obtain ⟨rfl,rfl⟩:=hz
  rw [Nat.zero_mul,Nat.add_zero] at h
  obtain rfl:A=H:=by omega
  obtain rfl:B=L:=by omega
  exact wsum_zero A B w hA hB
 ·by_cases hac:C<A
  ·exact wsum_lt A B C D H L w hA hB hD hL hac h
  ·have e1:C=A:=by omega
   subst e1
   have e2:H=0:=by omega
   subst e2
   rw [Nat.zero_mul,Nat.zero_add] at h
   exact wsum_eq C B D L w hA hB om om
end Go.Proofs.YtoiakijmbghhlaaGreat
