/- The program's wide numbers: products, quotients rounded down and up. Conditions: the numbers are not negative, the divisor is positive, the quotient is an int. -/
import Derived.Test.YtoiakijmbghhlaaGreatS07
import Derived.Test.YtoiakijmbghhlaaGreatS08
set_option linter.unusedVariables false
set_option linter.unusedSimpArgs false
set_option maxRecDepth 100000
set_option maxHeartbeats 32000000
namespace Go.Proofs.YtoiakijmbghhlaaGreat
open Go.RowKit
abbrev vW (h l:Nat):Value:=.agg #[.int .i64 (h:Int),.int .i64 (l:Int)]
theorem wsize_any (n:Nat) (w:World) (h:n<9223372036854775808):Calls Tryz.prog 321 #[.int .i64 (n:Int)] w fun e w'=>e=.returned (.int .u64 (n:Int))/\w'=w:=by
 have u:=decide_eq_false (show ¬ (n:Int)<0 by omega)
 have x:=i64_u64 n h
 go_enter Tryz.func321,Tryz.ntmps321
 go_wp2_with fail
 go_ret
 exact ⟨rfl,rfl⟩
theorem wsigned_any (H L:Nat) (b:Bool) (w:World):Calls Tryz.prog 322 #[.int .u64 (H:Int),.int .u64 (L:Int),.bool b] w fun e w'=>e=.returned (vN H L (b&&nzB H L))/\Below w.heap.size w w':=by
 cases b
 ·have hb0:Below w.heap.size w (w.alloc (.cells #[.int .u64 0,.int .u64 0,.bool false] 355)):=qr.alloc (Nat.le_refl _) _
  go_enter Tryz.func322,Tryz.ntmps322
  go_wp2_with fail
  exact bodyPost_ret (v:=vN H L false) (by simp (maxDischargeDepth:=9) [results,Tryz.results322,go_sem]) rfl ⟨by simp [nzB],bl⟩
 ·by_cases h1:H=0
  ·subst h1
   by_cases h2:L=0
   ·subst h2
    have hb0:Below w.heap.size w (w.alloc (.cells #[.int .u64 0,.int .u64 0,.bool false] 355)):=qr.alloc (Nat.le_refl _) _
    go_enter Tryz.func322,Tryz.ntmps322
    go_wp2_with fail
    exact bodyPost_ret (v:=vN 0 0 false) (by simp (maxDischargeDepth:=9) [results,Tryz.results322,go_sem]) rfl ⟨by simp [nzB],bl⟩
   ·have g:((L:Int) != 0)=true:=by rw [bne_iff_ne];omega
    have hb0:Below w.heap.size w (w.alloc (.cells #[.int .u64 0,.int .u64 0,.bool false] 355)):=qr.alloc (Nat.le_refl _) _
    go_enter Tryz.func322,Tryz.ntmps322
    go_wp2_with fail
    exact bodyPost_ret (v:=vN 0 L true) (by simp (maxDischargeDepth:=9) [results,Tryz.results322,go_sem]) rfl ⟨by simp [nzB,h2],bl⟩
  ·have g:((H:Int) != 0)=true:=by rw [bne_iff_ne];omega
   have hb0:Below w.heap.size w (w.alloc (.cells #[.int .u64 0,.int .u64 0,.bool false] 355)):=qr.alloc (Nat.le_refl _) _
   go_enter Tryz.func322,Tryz.ntmps322
   go_wp2_with fail
   exact bodyPost_ret (v:=vN H L true) (by simp (maxDischargeDepth:=9) [results,Tryz.results322,go_sem]) rfl ⟨by simp [nzB,h1],bl⟩
theorem wtimes_any (a b:Nat) (w:World) (ha:a<9223372036854775808) (hb:b<9223372036854775808) :
  Calls Tryz.prog 283 #[.int .i64 (a:Int),.int .i64 (b:Int)] w fun e w'=>e=.returned (vN (a*b / 18446744073709551616) (a*b % 18446744073709551616) false)/\Below w.heap.size w w':=by
 have u1:=decide_eq_false (show ¬ (a:Int)<0 by omega)
 have u2:=decide_eq_false (show ¬ (b:Int)<0 by omega)
 have hs1:=fun W=>wsize_any a W ha
 have hs2:=fun W=>wsize_any b W hb
 have hm:=fun W=>mul64_any a b W om om
 generalize a*b / 18446744073709551616=H at *
 generalize a*b % 18446744073709551616=L at *
 have hmd:=fun W=>wsigned_any H L false W
 rw [Bool.false_and] at hmd
 have hx:=Bx3.new w 0 0 false 355
 have hb0:Below w.heap.size w (w.alloc (.cells #[.int .u64 0,.int .u64 0,.bool false] 355)):=qr.alloc (Nat.le_refl _) _
 go_enter Tryz.func283,Tryz.ntmps283
 go_wp2_with fail
 refine (hs1 _).mono ?_
 rintro e w1 ⟨rfl,rfl⟩
 go_wp2_with fail
 refine (hs2 _).mono ?_
 rintro e w1 ⟨rfl,rfl⟩
 go_wp2_with fail
 refine (hm _).mono ?_
 rintro e w1 ⟨rfl,rfl⟩
 go_wp2_with fail
 refine Calls.to (hmd _) ?_
 rintro e w2 rfl hb2
 have hx:=hx.mono hb2
 have hbb:=hb0.trans (hb2.mono hb0.size)
 obtain ⟨c0,c1,c2,f0,f1,f2⟩:=hx
 clear hb2
 go_wp2_with fail
 exact bodyPost_ret (v:=vN H L false) (by simp (maxDischargeDepth:=9) [results,Tryz.results283,go_sem,c0,c1,c2]) rfl ⟨rfl,bl⟩
theorem wwhole_any (n:Nat) (w:World) (h:n<9223372036854775808):Calls Tryz.prog 290 #[.int .u64 (n:Int),.bool false] w fun e w'=>e=.returned (.tuple #[.int .i64 (n:Int),.int .i64 0])/\w'=w:=by
 have u:=decide_eq_true (show (n:Int)<=9223372036854775807 by omega)
 have u':=decide_eq_true (show n<=9223372036854775807 by omega)
 have x:IntKind.i64.wrap (n:Int)=(n:Int):=IntWalk.i64_in _ om
 go_enter Tryz.func290,Tryz.ntmps290
 go_wp2_with fail
 go_ret2
 exact ⟨rfl,rfl⟩
theorem div64_any (hi lo y:Nat) (w:World) (h:hi<y) (hlo:lo<18446744073709551616) (hy:y<18446744073709551616) :
  Calls Tryz.prog 277 #[.int .u64 (hi:Int),.int .u64 (lo:Int),.int .u64 (y:Int)] w fun e w'=>e=.returned (.tuple #[.int .u64 (((hi*18446744073709551616+lo) / y:Nat):Int),.int .u64 (((hi*18446744073709551616+lo) % y:Nat):Int)])/\Below w.heap.size w w':=by
 by_cases h0:hi=0
 ·subst h0
  have:=div64_zero lo y w om hlo hy
  rw [Nat.zero_mul,Nat.zero_add]
  exact this
 ·exact (div64_far hi lo y w om h hlo hy).mono fun e w' ⟨h1,h2⟩=>⟨h1,h2 ▸ qr⟩
def quoN (V b:Nat) (up:Bool):Nat:=if up then (V+b-1) / b else V / b
theorem quoN_up {V b:Nat} (hb:0<b):quoN V b true=V / b+(if V % b=0 then 0 else 1):=by
 obtain ⟨h1,_⟩:=ceil_val (V:=V) hb (b:=!decide (V=0)) rfl rfl
 unfold quoN
 rw [if_pos rfl,<-h1]
 by_cases h0:V % b=0
 ·simp [h0]
 ·have hv0:¬ V=0:=by rintro rfl;simp at h0
  simp [h0,hv0]
theorem wquot_any (H L b:Nat) (up:Bool) (w:World) (hL:L<18446744073709551616) (hb:0<b) (hb2:b<9223372036854775808) (hq:quoN (H*18446744073709551616+L) b up<9223372036854775808) :
  Calls Tryz.prog 284 #[vN H L false,.int .i64 (b:Int),.bool up] w fun e w'=>e=.returned (.tuple #[.int .i64 ((quoN (H*18446744073709551616+L) b up:Nat):Int),.int .i64 0])/\Below w.heap.size w w':=by
 have hs:=fun W=>wsize_any b W hb2
 have hqf:(H*18446744073709551616+L) / b<9223372036854775808:=by
  cases up
  ·exact hq
  ·rw [quoN_up hb] at hq;omega
 have hHb:H<b:=by
  have:=Nat.lt_mul_of_div_lt hqf hb
  omega
 have hdv:=fun W=>div64_any H L b W hHb hL om
 have hb0:Below w.heap.size w (w.alloc (.cells #[.int .u64 (H:Int),.int .u64 (L:Int),.bool false] 355)):=qr.alloc (Nat.le_refl _) _
 have hA:=Bx3.new w H L false 355
 have u1:=decide_eq_false (show ¬ (b:Int)<=(H:Int) by omega)
 have u1':=decide_eq_false (show ¬ b<=H by omega)
 have u2:=decide_eq_false (show ¬ (b:Int)<0 by omega)
 obtain ⟨q,hqe⟩:∃ q,(H*18446744073709551616+L) / b=q:=⟨_,rfl⟩
 obtain ⟨r,hre⟩:∃ r,(H*18446744073709551616+L) % b=r:=⟨_,rfl⟩
 cases up
 ·have hq0:quoN (H*18446744073709551616+L) b false=q:=hqe
  rw [hq0] at hq ⊢
  rw [hqe,hre] at hdv
  have hwh:=fun W=>wwhole_any q W hq
  clear hqe hre hqf hq0
  cases hr:decide (0<r)
  ·have hr':decide ((0:Int)<(r:Int))=false:=by simp at hr ⊢;omega
   go_enter Tryz.func284,Tryz.ntmps284
   go_wp2_with fail
   refine (hs _).mono ?_
   rintro e w1 ⟨rfl,rfl⟩
   go_wp2_with fail
   refine Calls.to (hdv _) ?_
   rintro e w2 rfl hb2
   have hbb:=hb0.trans (hb2.mono hb0.size)
   have hA:=hA.mono hb2
   obtain ⟨c0,c1,c2,f0,f1,f2⟩:=hA
   clear hb2
   go_wp2_with fail
   refine (hwh _).mono ?_
   rintro e w3 ⟨rfl,rfl⟩
   go_wp2_with fail
   go_ret2
   exact ⟨rfl,bl⟩
  ·have hr':decide ((0:Int)<(r:Int))=true:=by simp at hr ⊢;omega
   go_enter Tryz.func284,Tryz.ntmps284
   go_wp2_with fail
   refine (hs _).mono ?_
   rintro e w1 ⟨rfl,rfl⟩
   go_wp2_with fail
   refine Calls.to (hdv _) ?_
   rintro e w2 rfl hb2
   have hbb:=hb0.trans (hb2.mono hb0.size)
   have hA:=hA.mono hb2
   obtain ⟨c0,c1,c2,f0,f1,f2⟩:=hA
   clear hb2
   go_wp2_with fail
   refine (hwh _).mono ?_
   rintro e w3 ⟨rfl,rfl⟩
   go_wp2_with fail
   go_ret2
   exact ⟨rfl,bl⟩
 ·have hq0:=quoN_up (V:=H*18446744073709551616+L) hb
  rw [hqe,hre] at hq0
  rw [hqe] at hqf
  rw [hqe,hre] at hdv
  by_cases hr0:r=0
  ·rw [if_pos hr0] at hq0
   rw [hq0] at hq ⊢
   have hwh:=fun W=>wwhole_any q W hqf
   subst hr0
   clear hqe hre hq0
   go_enter Tryz.func284,Tryz.ntmps284
   go_wp2_with fail
   refine (hs _).mono ?_
   rintro e w1 ⟨rfl,rfl⟩
   go_wp2_with fail
   refine Calls.to (hdv _) ?_
   rintro e w2 rfl hb2
   have hbb:=hb0.trans (hb2.mono hb0.size)
   have hA:=hA.mono hb2
   obtain ⟨c0,c1,c2,f0,f1,f2⟩:=hA
   clear hb2
   go_wp2_with fail
   refine (hwh _).mono ?_
   rintro e w3 ⟨rfl,rfl⟩
   go_wp2_with fail
   go_ret2
   exact ⟨rfl,bl⟩
  ·rw [if_neg hr0] at hq0
   obtain ⟨q2,hq2⟩:∃ q2,q+1=q2:=⟨_,rfl⟩
   rw [hq2] at hq0
   rw [hq0] at hq ⊢
   have hwh:=fun W=>wwhole_any q2 W hq
   have hr:decide (0<r)=true:=decide_eq_true om
   have hr':decide ((0:Int)<(r:Int))=true:=decide_eq_true om
   have x1:IntKind.u64.wrap ((q:Int)+1)=(q2:Int):=by rw [IntKind.wrap_u64];omega
   have z1:((q2:Int)==0)=false:=by rw [beq_eq_false_iff_ne];omega
   have z2:¬ q2=0:=by omega
   clear hqe hre hq0 hq2
   go_enter Tryz.func284,Tryz.ntmps284
   go_wp2_with fail
   refine (hs _).mono ?_
   rintro e w1 ⟨rfl,rfl⟩
   go_wp2_with fail
   refine Calls.to (hdv _) ?_
   rintro e w2 rfl hb2
   have hbb:=hb0.trans (hb2.mono hb0.size)
   have hA:=hA.mono hb2
   obtain ⟨c0,c1,c2,f0,f1,f2⟩:=hA
   clear hb2
   go_wp2_with fail
   refine (hwh _).mono ?_
   rintro e w3 ⟨rfl,rfl⟩
   go_wp2_with fail
   go_ret2
   exact ⟨rfl,bl⟩
end Go.Proofs.YtoiakijmbghhlaaGreat
