/- math/bits.Div64: the quotient and the rest of a number of two digits. Conditions: the high digit is below the divisor. -/
import Derived.Deep.QuietTactic
import Derived.BigQuiet
import Derived.Test.YtoiakijmbghhlaaGreatS07
set_option linter.unusedVariables false
set_option linter.unusedSimpArgs false
set_option maxRecDepth 100000
set_option maxHeartbeats 32000000
namespace Go.Proofs.YtoiakijmbghhlaaGreat
open Go.RowKit
theorem div64_zero (lo y:Nat) (w:World) (h:0<y) (hlo:lo<18446744073709551616) (hy:y<18446744073709551616) :
  Calls Tryz.prog 277 #[.int .u64 0,.int .u64 (lo:Int),.int .u64 (y:Int)] w fun e w'=>e=.returned (.tuple #[.int .u64 ((lo / y:Nat):Int),.int .u64 ((lo % y:Nat):Int)])/\Below w.heap.size w w':=by
 have u1:((y:Int)==0)=false:=by rw [beq_eq_false_iff_ne];omega
 have u2:decide ((y:Int)<=0)=false:=decide_eq_false om
 have hle:=Nat.div_le_self lo y
 have hql:IntKind.u64.wrap ((lo:Int) / (y:Int))=((lo / y:Nat):Int):=by
  rw [<-Int.natCast_ediv,IntKind.wrap_u64];generalize lo / y=z at *;omega
 have hrl:(lo:Int) % (y:Int)=((lo % y:Nat):Int):=(Int.natCast_emod lo y).symm
 obtain ⟨q,hq⟩:∃ q:Int,q=((lo / y:Nat):Int):=⟨_,rfl⟩
 obtain ⟨r,hr⟩:∃ r:Int,r=((lo % y:Nat):Int):=⟨_,rfl⟩
 rw [<-hq] at hql
 rw [<-hr] at hrl
 have HQ:=qh hq
 have HR:=qh hr
 clear hq hr hle
 go_enter Tryz.func277,Tryz.ntmps277
 go_wp2_with fail
 go_quiet (fail)
 go_wp2_with fail
 go_ret2
 exact ⟨by rw [<-HQ.out,<-HR.out,<-hrl];rfl,below_drewN qr _⟩
theorem div64_far (hi lo y:Nat) (w:World) (h0:0<hi) (h:hi<y) (hlo:lo<18446744073709551616) (hy:y<18446744073709551616) :
  Calls Tryz.prog 277 #[.int .u64 (hi:Int),.int .u64 (lo:Int),.int .u64 (y:Int)] w fun e w'=>e=.returned (.tuple #[.int .u64 (((hi*18446744073709551616+lo) / y:Nat):Int),.int .u64 (((hi*18446744073709551616+lo) % y:Nat):Int)])/\w'=w:=by
 have u1:((y:Int)==0)=false:=by rw [beq_eq_false_iff_ne];omega
 have u2:decide ((y:Int)<=(hi:Int))=false:=decide_eq_false om
 have u2':decide (y<=hi)=false:=decide_eq_false om
 have u3:((hi:Int)==0)=false:=by rw [beq_eq_false_iff_ne];omega
 obtain ⟨s,hs,hbl,hn1,hn2⟩:=norm_shift (y:=y) om hy
 have hlz:=fun W=>lz_any y W hy
 rw [show (64-(Lib.bitLen y:Int))=(s:Int) from by omega] at hlz
 have x1:IntKind.u64.wrap ((y:Int)*2 ^ s)=((y*2 ^ s:Nat):Int):=by
  rw [show ((y:Int)*2 ^ s)=((y*2 ^ s:Nat):Int) from by simp,IntKind.wrap_u64];omega
 have hH:hi*2 ^ s<y*2 ^ s:=Nat.mul_lt_mul_of_pos_right h (Nat.two_pow_pos s)
 have x2:IntKind.u64.wrap ((hi:Int)*2 ^ s)=((hi*2 ^ s:Nat):Int):=by
  rw [show ((hi:Int)*2 ^ s)=((hi*2 ^ s:Nat):Int) from by simp,IntKind.wrap_u64];omega
 have x3:IntKind.u64.wrap ((lo:Int)*2 ^ s)=((lo*2 ^ s % 18446744073709551616:Nat):Int):=by
  rw [show ((lo:Int)*2 ^ s)=((lo*2 ^ s:Nat):Int) from by simp,IntKind.wrap_u64];omega
 have hlo2:lo<2 ^ 64:=hlo
 obtain ⟨sp1,sp2,sp3⟩:=shift_split (hi:=hi) hlo2 hs
 have x4:bits .or .u64 ((hi*2 ^ s:Nat):Int) ((lo:Int) / 2 ^ (64-s))=((hi*2 ^ s+lo / 2 ^ (64-s):Nat):Int):=by
  have e1:(lo:Int) / 2 ^ (64-s)=((lo / 2 ^ (64-s):Nat):Int):=by simp
  have hl2:lo / 2 ^ (64-s)<18446744073709551616:=Nat.lt_of_le_of_lt (Nat.div_le_self _ _) hlo
  rw [e1,bits_or_u64_nat _ _ om hl2,or_join sp2]
 obtain ⟨hd1,hd2⟩:=shift_div (N:=hi*2 ^ 64+lo) (y:=y) (s:=s)
 rw [sp1] at hd1 hd2
 have hU:hi*2 ^ s+lo / 2 ^ (64-s)<y*2 ^ s:=by
  have h1:(hi+1)*2 ^ s<=y*2 ^ s:=Nat.mul_le_mul_right _ h
  rw [Nat.add_mul] at h1
  omega
 have hLL:lo*2 ^ s % 2 ^ 64<2 ^ 64:=Nat.mod_lt _ (by decide)
 have x3':lo*2 ^ s % 18446744073709551616=lo*2 ^ s % 2 ^ 64:=rfl
 rw [x3'] at x3
 clear x3' sp1 sp2 sp3 hlo2
 have HS:=qh (And.intro hd1 hd2)
 clear hd1 hd2
 generalize hi*2 ^ s+lo / 2 ^ (64-s)=U at *
 generalize lo*2 ^ s % 2 ^ 64=LL at *
 generalize hi*2 ^ s=HH at *
 generalize hYY:y*2 ^ s=Y at *
 have HYY:=qh hYY
 obtain ⟨y1,hy1⟩:∃ y1,Y / 4294967296=y1:=⟨_,rfl⟩
 obtain ⟨y0,hy0⟩:∃ y0,Y % 4294967296=y0:=⟨_,rfl⟩
 obtain ⟨c1,hc1⟩:∃ c1,LL / 4294967296=c1:=⟨_,rfl⟩
 obtain ⟨c0,hc0⟩:∃ c0,LL % 4294967296=c0:=⟨_,rfl⟩
 have hYe:Y=y1*4294967296+y0:=by omega
 have hLe:LL=c1*4294967296+c0:=by omega
 have b1:y1<4294967296:=by omega
 have b1':2147483648<=y1:=by omega
 have b0:y0<4294967296:=by omega
 have bc1:c1<4294967296:=by omega
 have bc0:c0<4294967296:=by omega
 have x5:(Y:Int) / 4294967296=(y1:Int):=by omega
 have x6:bits .and .u64 (Y:Int) 4294967295=(y0:Int):=by rw [Mul64.maskN Y om,hy0]
 have x7:(LL:Int) / 4294967296=(c1:Int):=by omega
 have x8:bits .and .u64 (LL:Int) 4294967295=(c0:Int):=by rw [Mul64.maskN LL om,hc0]
 have hq1:=Nat.div_add_mod U y1
 have hq2:=Nat.mod_lt U (show 0<y1 by omega)
 have hq3:U / y1<=8589934592:=by
  rw [Nat.div_le_iff_le_mul_add_pred om]
  have:2147483648*8589934592<=y1*8589934592:=Nat.mul_le_mul_right _ b1'
  omega
 obtain ⟨Q,hQ⟩:∃ Q,U / y1=Q:=⟨_,rfl⟩
 obtain ⟨R,hR⟩:∃ R,U % y1=R:=⟨_,rfl⟩
 rw [hQ] at hq1 hq3
 rw [hR] at hq1 hq2
 have z1:((y1:Int)==0)=false:=by rw [beq_eq_false_iff_ne];omega
 have z1':¬ y1=0:=by omega
 have x9:IntKind.u64.wrap ((U:Int).tdiv (y1:Int))=(Q:Int):=by
  rw [Int.tdiv_eq_ediv_of_nonneg om,<-Int.natCast_ediv,hQ,IntKind.wrap_u64];omega
 have hm:y1*Q=Q*y1:=Nat.mul_comm _ _
 have x10:IntKind.u64.wrap ((U:Int)-(Q:Int)*(y1:Int))=(R:Int):=by
  rw [<-Int.natCast_mul,IntKind.wrap_u64]
  generalize Q*y1=A at *
  omega
 have x11:IntKind.u64.wrap ((Q:Int)*(y1:Int))=(Q:Int)*(y1:Int):=by
  rw [<-Int.natCast_mul,IntKind.wrap_u64]
  generalize Q*y1=A at *
  omega
 have HYE:=qh hYe
 have HLE:=qh hLe
 clear hYY hy1 hy0 hc1 hc0
 have hUY:U<y1*4294967296+y0:=by omega
 obtain ⟨D,hD⟩:∃ D,(U*4294967296+c1) / (y1*4294967296+y0)=D:=⟨_,rfl⟩
 have hDl:D<4294967296:=by rw [<-hD];exact knuth_lt32 om bc1
 have hDQ:D<=Q:=by
  rw [<-hD,<-hQ]
  exact (knuth_first om).resolve_right om
 have hQR:Q*y1+R=U:=by omega
 have x9':IntKind.u64.wrap ((U:Int) / (y1:Int))=(Q:Int):=by rw [<-Int.natCast_ediv,hQ,IntKind.wrap_u64];omega
 obtain ⟨V,hV⟩:∃ V,(U*4294967296+c1) % (y1*4294967296+y0)=V:=⟨_,rfl⟩
 obtain ⟨E,hE⟩:∃ E,(V*4294967296+c0) / (y1*4294967296+y0)=E:=⟨_,rfl⟩
 obtain ⟨Z,hZ⟩:∃ Z,(V*4294967296+c0) % (y1*4294967296+y0)=Z:=⟨_,rfl⟩
 have e1:=Nat.div_add_mod (U*4294967296+c1) (y1*4294967296+y0)
 have e2:=Nat.div_add_mod (V*4294967296+c0) (y1*4294967296+y0)
 have hVl:=Nat.mod_lt (U*4294967296+c1) (show 0<y1*4294967296+y0 by omega)
 have hZl:=Nat.mod_lt (V*4294967296+c0) (show 0<y1*4294967296+y0 by omega)
 rw [hD,hV] at e1
 rw [hE,hZ] at e2
 rw [hV] at hVl
 rw [hZ] at hZl
 obtain ⟨Q2,hQ2⟩:∃ Q,V / y1=Q:=⟨_,rfl⟩
 obtain ⟨R2,hR2⟩:∃ R,V % y1=R:=⟨_,rfl⟩
 have f1:=Nat.div_add_mod V y1
 have f2:=Nat.mod_lt V (show 0<y1 by omega)
 have f3:V / y1<=8589934592:=by
  rw [Nat.div_le_iff_le_mul_add_pred om]
  have:2147483648*8589934592<=y1*8589934592:=Nat.mul_le_mul_right _ b1'
  omega
 rw [hQ2] at f1 f3
 rw [hR2] at f1 f2
 have fm:y1*Q2=Q2*y1:=Nat.mul_comm _ _
 have hQR2:Q2*y1+R2=V:=by omega
 have hDQ2:E<=Q2:=by
  rw [<-hE,<-hQ2]
  exact (knuth_first om).resolve_right om
 have hEl:E<4294967296:=by rw [<-hE];exact knuth_lt32 hVl bc0
 have HE:=qh (And.intro hQR2 (And.intro hDQ2 (And.intro hE hVl)))
 have hk:=knuth_two (P:=4294967296) (a:=U) (b:=c1) (c:=c0) (show 0<y1*4294967296+y0 by omega) D V E Z (by rw [Nat.mul_comm D];exact e1.symm) (by rw [Nat.mul_comm E];exact e2.symm) hZl
 have hN:(hi*18446744073709551616+lo) / y=D*4294967296+E/\(hi*18446744073709551616+lo) % y=Z / 2 ^ s:=by
  have hsp:=HS.out
  have e3:U*2 ^ 64+LL=(U*4294967296+c1)*4294967296+c0:=by omega
  rw [e3,hYe,hk.1,hk.2] at hsp
  refine ⟨hsp.1.symm,?_⟩
  rw [hsp.2,Nat.mul_div_cancel _ (Nat.two_pow_pos s)]
 have HN:=qh hN
 have HF1:Hid (((D*4294967296+E:Nat):Int)=(D:Int)*4294967296+(E:Int)):=by show _=_;omega
 have HF2:Hid (((Z / 2 ^ s:Nat):Int)=(Z:Int) / 2 ^ s):=by show _=_;simp
 have v1:IntKind.u64.wrap (IntKind.u64.wrap (IntKind.u64.wrap ((U:Int)*4294967296)+(c1:Int))-IntKind.u64.wrap ((D:Int)*(Y:Int)))=(V:Int):=by
  have hm2:(D:Int)*(Y:Int)=(((y1*4294967296+y0)*D:Nat):Int):=by rw [<-Int.natCast_mul,hYe,Nat.mul_comm]
  obtain ⟨A,hA⟩:∃ A,(y1*4294967296+y0)*D=A:=⟨_,rfl⟩
  have hee:=e1
  rw [hA] at hm2 hee
  rw [hm2]
  clear hk hN HN HF1 HF2 HE f1 f2 f3 fm x9 x9' x10 x11 HS HYY e1 e2 hA hm2
  rw [IntKind.wrap_u64,IntKind.wrap_u64,IntKind.wrap_u64,IntKind.wrap_u64]
  omega
 have v2:IntKind.u64.wrap ((V:Int).tdiv (y1:Int))=(Q2:Int):=by
  rw [Int.tdiv_eq_ediv_of_nonneg om,<-Int.natCast_ediv,hQ2,IntKind.wrap_u64];omega
 have v2':IntKind.u64.wrap ((V:Int) / (y1:Int))=(Q2:Int):=by rw [<-Int.natCast_ediv,hQ2,IntKind.wrap_u64];omega
 have v3:IntKind.u64.wrap ((V:Int)-(Q2:Int)*(y1:Int))=(R2:Int):=by
  rw [<-Int.natCast_mul,IntKind.wrap_u64]
  generalize Q2*y1=A at *
  omega
 have v4:IntKind.u64.wrap ((Q2:Int)*(y1:Int))=(Q2:Int)*(y1:Int):=by
  rw [<-Int.natCast_mul,IntKind.wrap_u64]
  generalize Q2*y1=A at *
  omega
 have v5:IntKind.u64.wrap (IntKind.u64.wrap ((D:Int)*4294967296)+(E:Int))=(D:Int)*4294967296+(E:Int):=by
  simp only [IntKind.wrap_u64]
  omega
 have v6:IntKind.u64.wrap (IntKind.u64.wrap (IntKind.u64.wrap ((V:Int)*4294967296)+(c0:Int))-IntKind.u64.wrap ((E:Int)*(Y:Int)))=(Z:Int):=by
  have hm2:(E:Int)*(Y:Int)=(((y1*4294967296+y0)*E:Nat):Int):=by rw [<-Int.natCast_mul,hYe,Nat.mul_comm]
  obtain ⟨A,hA⟩:∃ A,(y1*4294967296+y0)*E=A:=⟨_,rfl⟩
  have hee:=e2
  rw [hA] at hm2 hee
  rw [hm2]
  clear hk hN HN HF1 HF2 HE f1 f2 f3 fm x9 x9' x10 x11 v1 v2 v2' v3 v4 v5 HS HYY e1 e2 hA hm2
  rw [IntKind.wrap_u64,IntKind.wrap_u64,IntKind.wrap_u64,IntKind.wrap_u64]
  omega
 clear hm hYe hLe e1 e2 hk hN fm f1 hV hE hZ hQ2 hR2 hQR2
 go_enter Tryz.func277,Tryz.ntmps277
 go_wp2_with (go_at_call 316;refine (hlz _).mono ?_;rintro e w' ⟨rfl,rfl⟩)
 clear x1 x2 x3 x4 x9 x10 hlz
 go_loopw [15,16] (fun s15 s16 wr=>∃ q rh:Nat,s15=.int .u64 q/\s16=.int .u64 rh/\q*y1+rh=U/\D<=q/\rh<4294967296/\q<=8589934592/\wr=w') (fun q _ _=>(intOf q).toNat)
 case atStart=>exact ⟨Q,R,rfl,rfl,hQR,hDQ,by omega,by omega,rfl⟩
 case round=>
  as_aux_lemma=>
  obtain ⟨q,rh,rfl,rfl,hqr,hqq,hrh,hqb,rfl⟩:=hrel
  have hgt:=knuth_gt (c:=c1) hqr (show 0<y1*4294967296+y0 by omega)
  rw [hD] at hgt
  by_cases hc:D<q
  ·obtain ⟨p,rfl⟩:∃ p,q=p+1:=⟨q-1,by omega⟩
   obtain ⟨t,ht⟩:∃ t,rh+y1=t:=⟨_,rfl⟩
   obtain ⟨q,hq⟩:∃ q,p+1=q:=⟨_,rfl⟩
   have hqr2:p*y1+t=U:=by
    rw [Nat.add_mul,Nat.one_mul] at hqr
    omega
   rw [hq] at hgt hqr hc hqq hqb ⊢
   have w1:IntKind.u64.wrap ((q:Int)-1)=(p:Int):=by rw [IntKind.wrap_u64];omega
   have w2:IntKind.u64.wrap ((rh:Int)+(y1:Int))=(t:Int):=by rw [IntKind.wrap_u64];omega
   have hgt2:=hgt.2 hc
   obtain ⟨A,hA⟩:∃ A,q*y0=A:=⟨_,rfl⟩
   obtain ⟨B,hB⟩:∃ B,4294967296*rh=B:=⟨_,rfl⟩
   obtain ⟨C,hC⟩:∃ C,B+c1=C:=⟨_,rfl⟩
   rw [hA,hB,hC] at hgt2
   have w6:IntKind.u64.wrap ((4294967296:Int)*(rh:Int))=(B:Int):=by rw [IntKind.wrap_u64];omega
   have w7:IntKind.u64.wrap ((B:Int)+(c1:Int))=(C:Int):=by rw [IntKind.wrap_u64];omega
   have g4:=decide_eq_true hgt2
   have g4':=decide_eq_true (show (C:Int)<(A:Int) by omega)
   have HQ2:=qh hqr2
   have hw5:q<4294967296->IntKind.u64.wrap ((q:Int)*(y0:Int))=(A:Int):=by
    intro h
    have h2:q*y0<=4294967295*4294967295:=Nat.mul_le_mul om om
    rw [<-Int.natCast_mul,IntKind.wrap_u64]
    omega
   have HB:=qh (And.intro hq ht)
   have hpb:4294967296<=t->D=p:=by
    intro h
    have h1:=knuth_brk hqr2 hUY b0 h
    have h2:=knuth_gt (c:=c1) hqr2 (show 0<y1*4294967296+y0 by omega)
    rw [hD] at h2
    have h3:p*y0<=4294967295*4294967295:=Nat.mul_le_mul om om
    have h4:¬ D<p:=fun hh=>by have:=h2.2 hh;omega
    omega
   clear hqr hqr2 hgt hgt2 hA hB hC hq
   by_cases hbk:4294967296<=t
   ·have g3:=decide_eq_true hbk
    have g3':=decide_eq_true (show (4294967296:Int)<=(t:Int) by omega)
    obtain rfl:=hpb hbk
    by_cases hbig:4294967296<=q
    ·have g1:=decide_eq_true hbig
     have g1':=decide_eq_true (show (4294967296:Int)<=(q:Int) by omega)
     clear w6 w7 g4 g4' hw5 ht hpb
     go_wp2_with fail
     go_loopw [18,16] (fun s18 s16 wz=>∃ q rh:Nat,s18=.int .u64 q/\s16=.int .u64 rh/\q*y1+rh=V/\E<=q/\rh<4294967296/\q<=8589934592/\wz=wr) (fun q _ _=>(intOf q).toNat)
     case atStart=>exact ⟨Q2,R2,rfl,rfl,HE.out.1,HE.out.2.1,by omega,by omega,rfl⟩
     case round=>
      as_aux_lemma=>
      obtain ⟨q,rh,rfl,rfl,hqr,hqq,hrh,hqb,rfl⟩:=hrel
      have hgt:=knuth_gt (c:=c0) hqr (show 0<y1*4294967296+y0 by omega)
      rw [HE.out.2.2.1] at hgt
      by_cases hc:E<q
      ·obtain ⟨p,rfl⟩:∃ p,q=p+1:=⟨q-1,by omega⟩
       obtain ⟨t,ht⟩:∃ t,rh+y1=t:=⟨_,rfl⟩
       obtain ⟨q,hq⟩:∃ q,p+1=q:=⟨_,rfl⟩
       have hqr2:p*y1+t=V:=by
        rw [Nat.add_mul,Nat.one_mul] at hqr
        omega
       rw [hq] at hgt hqr hc hqq hqb ⊢
       have w1:IntKind.u64.wrap ((q:Int)-1)=(p:Int):=by rw [IntKind.wrap_u64];omega
       have w2:IntKind.u64.wrap ((rh:Int)+(y1:Int))=(t:Int):=by rw [IntKind.wrap_u64];omega
       have hgt2:=hgt.2 hc
       obtain ⟨A,hA⟩:∃ A,q*y0=A:=⟨_,rfl⟩
       obtain ⟨B,hB⟩:∃ B,4294967296*rh=B:=⟨_,rfl⟩
       obtain ⟨C,hC⟩:∃ C,B+c0=C:=⟨_,rfl⟩
       rw [hA,hB,hC] at hgt2
       have w6:IntKind.u64.wrap ((4294967296:Int)*(rh:Int))=(B:Int):=by rw [IntKind.wrap_u64];omega
       have w7:IntKind.u64.wrap ((B:Int)+(c0:Int))=(C:Int):=by rw [IntKind.wrap_u64];omega
       have g4:=decide_eq_true hgt2
       have g4':=decide_eq_true (show (C:Int)<(A:Int) by omega)
       have HQ2:=qh hqr2
       have hw5:q<4294967296->IntKind.u64.wrap ((q:Int)*(y0:Int))=(A:Int):=by
        intro h
        have h2:q*y0<=4294967295*4294967295:=Nat.mul_le_mul om om
        rw [<-Int.natCast_mul,IntKind.wrap_u64]
        omega
       have HB:=qh (And.intro hq ht)
       have hpb:4294967296<=t->E=p:=by
        intro h
        have h1:=knuth_brk hqr2 HE.out.2.2.2 b0 h
        have h2:=knuth_gt (c:=c0) hqr2 (show 0<y1*4294967296+y0 by omega)
        rw [HE.out.2.2.1] at h2
        have h3:p*y0<=4294967295*4294967295:=Nat.mul_le_mul om om
        have h4:¬ E<p:=fun hh=>by have:=h2.2 hh;omega
        omega
       clear hqr hqr2 hgt hgt2 hA hB hC hq
       by_cases hbk:4294967296<=t
       ·have g3:=decide_eq_true hbk
        have g3':=decide_eq_true (show (4294967296:Int)<=(t:Int) by omega)
        obtain rfl:=hpb hbk
        by_cases hbig:4294967296<=q
        ·have g1:=decide_eq_true hbig
         have g1':=decide_eq_true (show (4294967296:Int)<=(q:Int) by omega)
         clear w6 w7 g4 g4' hw5 ht hpb
         go_wp2_with fail
         go_ret2
         exact ⟨by rw [HN.out.1,HN.out.2];first|rfl|(rw [HF1.out,HF2.out];rfl),rfl⟩
        ·have g1:=decide_eq_false hbig
         have g1':=decide_eq_false (show ¬ (4294967296:Int)<=(q:Int) by omega)
         have w5:=hw5 om
         clear hw5 ht hpb
         go_wp2_with fail
         go_ret2
         exact ⟨by rw [HN.out.1,HN.out.2];first|rfl|(rw [HF1.out,HF2.out];rfl),rfl⟩
       ·have g3:=decide_eq_false hbk
        have g3':=decide_eq_false (show ¬ (4294967296:Int)<=(t:Int) by omega)
        by_cases hbig:4294967296<=q
        ·have g1:=decide_eq_true hbig
         have g1':=decide_eq_true (show (4294967296:Int)<=(q:Int) by omega)
         clear w6 w7 g4 g4' hw5 ht hpb
         go_wp2_with fail
         go_roundw
         case measure=>have:=HB.out.1;simp [intOf];omega
         case rel=>exact ⟨p,t,rfl,rfl,HQ2.out,by have:=HB.out.1;omega,by omega,by have:=HB.out.1;omega,by first|rfl|trivial⟩
        ·have g1:=decide_eq_false hbig
         have g1':=decide_eq_false (show ¬ (4294967296:Int)<=(q:Int) by omega)
         have w5:=hw5 om
         clear hw5 ht hpb
         go_wp2_with fail
         go_roundw
         case measure=>have:=HB.out.1;simp [intOf];omega
         case rel=>exact ⟨p,t,rfl,rfl,HQ2.out,by have:=HB.out.1;omega,by omega,by have:=HB.out.1;omega,by first|rfl|trivial⟩
      ·obtain rfl:q=E:=by omega
       obtain ⟨A,hA⟩:∃ A,q*y0=A:=⟨_,rfl⟩
       obtain ⟨B,hB⟩:∃ B,4294967296*rh=B:=⟨_,rfl⟩
       obtain ⟨C,hC⟩:∃ C,B+c0=C:=⟨_,rfl⟩
       rw [hA,hB,hC] at hgt
       have w6:IntKind.u64.wrap ((4294967296:Int)*(rh:Int))=(B:Int):=by rw [IntKind.wrap_u64];omega
       have w7:IntKind.u64.wrap ((B:Int)+(c0:Int))=(C:Int):=by rw [IntKind.wrap_u64];omega
       have g4:=decide_eq_false (show ¬ C<A from fun h=>hc (hgt.1 h))
       have g4':=decide_eq_false (show ¬ (C:Int)<(A:Int) from fun h=>hc (hgt.1 om))
       have w5:IntKind.u64.wrap ((q:Int)*(y0:Int))=(A:Int):=by
        have h2:q*y0<=4294967295*4294967295:=Nat.mul_le_mul om om
        rw [<-Int.natCast_mul,IntKind.wrap_u64]
        omega
       have g1:=decide_eq_false (show ¬ 4294967296<=q by omega)
       have g1':=decide_eq_false (show ¬ (4294967296:Int)<=(q:Int) by omega)
       clear hgt hA hB hC hqr
       go_wp2_with fail
       go_ret2
       exact ⟨by rw [HN.out.1,HN.out.2];first|rfl|(rw [HF1.out,HF2.out];rfl),rfl⟩
    ·have g1:=decide_eq_false hbig
     have g1':=decide_eq_false (show ¬ (4294967296:Int)<=(q:Int) by omega)
     have w5:=hw5 om
     clear hw5 ht hpb
     go_wp2_with fail
     go_loopw [18,16] (fun s18 s16 wz=>∃ q rh:Nat,s18=.int .u64 q/\s16=.int .u64 rh/\q*y1+rh=V/\E<=q/\rh<4294967296/\q<=8589934592/\wz=wr) (fun q _ _=>(intOf q).toNat)
     case atStart=>exact ⟨Q2,R2,rfl,rfl,HE.out.1,HE.out.2.1,by omega,by omega,rfl⟩
     case round=>
      as_aux_lemma=>
      obtain ⟨q,rh,rfl,rfl,hqr,hqq,hrh,hqb,rfl⟩:=hrel
      have hgt:=knuth_gt (c:=c0) hqr (show 0<y1*4294967296+y0 by omega)
      rw [HE.out.2.2.1] at hgt
      by_cases hc:E<q
      ·obtain ⟨p,rfl⟩:∃ p,q=p+1:=⟨q-1,by omega⟩
       obtain ⟨t,ht⟩:∃ t,rh+y1=t:=⟨_,rfl⟩
       obtain ⟨q,hq⟩:∃ q,p+1=q:=⟨_,rfl⟩
       have hqr2:p*y1+t=V:=by
        rw [Nat.add_mul,Nat.one_mul] at hqr
        omega
       rw [hq] at hgt hqr hc hqq hqb ⊢
       have w1:IntKind.u64.wrap ((q:Int)-1)=(p:Int):=by rw [IntKind.wrap_u64];omega
       have w2:IntKind.u64.wrap ((rh:Int)+(y1:Int))=(t:Int):=by rw [IntKind.wrap_u64];omega
       have hgt2:=hgt.2 hc
       obtain ⟨A,hA⟩:∃ A,q*y0=A:=⟨_,rfl⟩
       obtain ⟨B,hB⟩:∃ B,4294967296*rh=B:=⟨_,rfl⟩
       obtain ⟨C,hC⟩:∃ C,B+c0=C:=⟨_,rfl⟩
       rw [hA,hB,hC] at hgt2
       have w6:IntKind.u64.wrap ((4294967296:Int)*(rh:Int))=(B:Int):=by rw [IntKind.wrap_u64];omega
       have w7:IntKind.u64.wrap ((B:Int)+(c0:Int))=(C:Int):=by rw [IntKind.wrap_u64];omega
       have g4:=decide_eq_true hgt2
       have g4':=decide_eq_true (show (C:Int)<(A:Int) by omega)
       have HQ2:=qh hqr2
       have hw5:q<4294967296->IntKind.u64.wrap ((q:Int)*(y0:Int))=(A:Int):=by
        intro h
        have h2:q*y0<=4294967295*4294967295:=Nat.mul_le_mul om om
        rw [<-Int.natCast_mul,IntKind.wrap_u64]
        omega
       have HB:=qh (And.intro hq ht)
       have hpb:4294967296<=t->E=p:=by
        intro h
        have h1:=knuth_brk hqr2 HE.out.2.2.2 b0 h
        have h2:=knuth_gt (c:=c0) hqr2 (show 0<y1*4294967296+y0 by omega)
        rw [HE.out.2.2.1] at h2
        have h3:p*y0<=4294967295*4294967295:=Nat.mul_le_mul om om
        have h4:¬ E<p:=fun hh=>by have:=h2.2 hh;omega
        omega
       clear hqr hqr2 hgt hgt2 hA hB hC hq
       by_cases hbk:4294967296<=t
       ·have g3:=decide_eq_true hbk
        have g3':=decide_eq_true (show (4294967296:Int)<=(t:Int) by omega)
        obtain rfl:=hpb hbk
        by_cases hbig:4294967296<=q
        ·have g1:=decide_eq_true hbig
         have g1':=decide_eq_true (show (4294967296:Int)<=(q:Int) by omega)
         clear w6 w7 g4 g4' hw5 ht hpb
         go_wp2_with fail
         go_ret2
         exact ⟨by rw [HN.out.1,HN.out.2];first|rfl|(rw [HF1.out,HF2.out];rfl),rfl⟩
        ·have g1:=decide_eq_false hbig
         have g1':=decide_eq_false (show ¬ (4294967296:Int)<=(q:Int) by omega)
         have w5:=hw5 om
         clear hw5 ht hpb
         go_wp2_with fail
         go_ret2
         exact ⟨by rw [HN.out.1,HN.out.2];first|rfl|(rw [HF1.out,HF2.out];rfl),rfl⟩
       ·have g3:=decide_eq_false hbk
        have g3':=decide_eq_false (show ¬ (4294967296:Int)<=(t:Int) by omega)
        by_cases hbig:4294967296<=q
        ·have g1:=decide_eq_true hbig
         have g1':=decide_eq_true (show (4294967296:Int)<=(q:Int) by omega)
         clear w6 w7 g4 g4' hw5 ht hpb
         go_wp2_with fail
         go_roundw
         case measure=>have:=HB.out.1;simp [intOf];omega
         case rel=>exact ⟨p,t,rfl,rfl,HQ2.out,by have:=HB.out.1;omega,by omega,by have:=HB.out.1;omega,by first|rfl|trivial⟩
        ·have g1:=decide_eq_false hbig
         have g1':=decide_eq_false (show ¬ (4294967296:Int)<=(q:Int) by omega)
         have w5:=hw5 om
         clear hw5 ht hpb
         go_wp2_with fail
         go_roundw
         case measure=>have:=HB.out.1;simp [intOf];omega
         case rel=>exact ⟨p,t,rfl,rfl,HQ2.out,by have:=HB.out.1;omega,by omega,by have:=HB.out.1;omega,by first|rfl|trivial⟩
      ·obtain rfl:q=E:=by omega
       obtain ⟨A,hA⟩:∃ A,q*y0=A:=⟨_,rfl⟩
       obtain ⟨B,hB⟩:∃ B,4294967296*rh=B:=⟨_,rfl⟩
       obtain ⟨C,hC⟩:∃ C,B+c0=C:=⟨_,rfl⟩
       rw [hA,hB,hC] at hgt
       have w6:IntKind.u64.wrap ((4294967296:Int)*(rh:Int))=(B:Int):=by rw [IntKind.wrap_u64];omega
       have w7:IntKind.u64.wrap ((B:Int)+(c0:Int))=(C:Int):=by rw [IntKind.wrap_u64];omega
       have g4:=decide_eq_false (show ¬ C<A from fun h=>hc (hgt.1 h))
       have g4':=decide_eq_false (show ¬ (C:Int)<(A:Int) from fun h=>hc (hgt.1 om))
       have w5:IntKind.u64.wrap ((q:Int)*(y0:Int))=(A:Int):=by
        have h2:q*y0<=4294967295*4294967295:=Nat.mul_le_mul om om
        rw [<-Int.natCast_mul,IntKind.wrap_u64]
        omega
       have g1:=decide_eq_false (show ¬ 4294967296<=q by omega)
       have g1':=decide_eq_false (show ¬ (4294967296:Int)<=(q:Int) by omega)
       clear hgt hA hB hC hqr
       go_wp2_with fail
       go_ret2
       exact ⟨by rw [HN.out.1,HN.out.2];first|rfl|(rw [HF1.out,HF2.out];rfl),rfl⟩
   ·have g3:=decide_eq_false hbk
    have g3':=decide_eq_false (show ¬ (4294967296:Int)<=(t:Int) by omega)
    by_cases hbig:4294967296<=q
    ·have g1:=decide_eq_true hbig
     have g1':=decide_eq_true (show (4294967296:Int)<=(q:Int) by omega)
     clear w6 w7 g4 g4' hw5 ht hpb
     go_wp2_with fail
     go_roundw
     case measure=>have:=HB.out.1;simp [intOf];omega
     case rel=>exact ⟨p,t,rfl,rfl,HQ2.out,by have:=HB.out.1;omega,by omega,by have:=HB.out.1;omega,by first|rfl|trivial⟩
    ·have g1:=decide_eq_false hbig
     have g1':=decide_eq_false (show ¬ (4294967296:Int)<=(q:Int) by omega)
     have w5:=hw5 om
     clear hw5 ht hpb
     go_wp2_with fail
     go_roundw
     case measure=>have:=HB.out.1;simp [intOf];omega
     case rel=>exact ⟨p,t,rfl,rfl,HQ2.out,by have:=HB.out.1;omega,by omega,by have:=HB.out.1;omega,by first|rfl|trivial⟩
  ·obtain rfl:q=D:=by omega
   obtain ⟨A,hA⟩:∃ A,q*y0=A:=⟨_,rfl⟩
   obtain ⟨B,hB⟩:∃ B,4294967296*rh=B:=⟨_,rfl⟩
   obtain ⟨C,hC⟩:∃ C,B+c1=C:=⟨_,rfl⟩
   rw [hA,hB,hC] at hgt
   have w6:IntKind.u64.wrap ((4294967296:Int)*(rh:Int))=(B:Int):=by rw [IntKind.wrap_u64];omega
   have w7:IntKind.u64.wrap ((B:Int)+(c1:Int))=(C:Int):=by rw [IntKind.wrap_u64];omega
   have g4:=decide_eq_false (show ¬ C<A from fun h=>hc (hgt.1 h))
   have g4':=decide_eq_false (show ¬ (C:Int)<(A:Int) from fun h=>hc (hgt.1 om))
   have w5:IntKind.u64.wrap ((q:Int)*(y0:Int))=(A:Int):=by
    have h2:q*y0<=4294967295*4294967295:=Nat.mul_le_mul om om
    rw [<-Int.natCast_mul,IntKind.wrap_u64]
    omega
   have g1:=decide_eq_false (show ¬ 4294967296<=q by omega)
   have g1':=decide_eq_false (show ¬ (4294967296:Int)<=(q:Int) by omega)
   clear hgt hA hB hC hqr
   go_wp2_with fail
   go_loopw [18,16] (fun s18 s16 wz=>∃ q rh:Nat,s18=.int .u64 q/\s16=.int .u64 rh/\q*y1+rh=V/\E<=q/\rh<4294967296/\q<=8589934592/\wz=wr) (fun q _ _=>(intOf q).toNat)
   case atStart=>exact ⟨Q2,R2,rfl,rfl,HE.out.1,HE.out.2.1,by omega,by omega,rfl⟩
   case round=>
    as_aux_lemma=>
    obtain ⟨q,rh,rfl,rfl,hqr,hqq,hrh,hqb,rfl⟩:=hrel
    have hgt:=knuth_gt (c:=c0) hqr (show 0<y1*4294967296+y0 by omega)
    rw [HE.out.2.2.1] at hgt
    by_cases hc:E<q
    ·obtain ⟨p,rfl⟩:∃ p,q=p+1:=⟨q-1,by omega⟩
     obtain ⟨t,ht⟩:∃ t,rh+y1=t:=⟨_,rfl⟩
     obtain ⟨q,hq⟩:∃ q,p+1=q:=⟨_,rfl⟩
     have hqr2:p*y1+t=V:=by
      rw [Nat.add_mul,Nat.one_mul] at hqr
      omega
     rw [hq] at hgt hqr hc hqq hqb ⊢
     have w1:IntKind.u64.wrap ((q:Int)-1)=(p:Int):=by rw [IntKind.wrap_u64];omega
     have w2:IntKind.u64.wrap ((rh:Int)+(y1:Int))=(t:Int):=by rw [IntKind.wrap_u64];omega
     have hgt2:=hgt.2 hc
     obtain ⟨A,hA⟩:∃ A,q*y0=A:=⟨_,rfl⟩
     obtain ⟨B,hB⟩:∃ B,4294967296*rh=B:=⟨_,rfl⟩
     obtain ⟨C,hC⟩:∃ C,B+c0=C:=⟨_,rfl⟩
     rw [hA,hB,hC] at hgt2
     have w6:IntKind.u64.wrap ((4294967296:Int)*(rh:Int))=(B:Int):=by rw [IntKind.wrap_u64];omega
     have w7:IntKind.u64.wrap ((B:Int)+(c0:Int))=(C:Int):=by rw [IntKind.wrap_u64];omega
     have g4:=decide_eq_true hgt2
     have g4':=decide_eq_true (show (C:Int)<(A:Int) by omega)
     have HQ2:=qh hqr2
     have hw5:q<4294967296->IntKind.u64.wrap ((q:Int)*(y0:Int))=(A:Int):=by
      intro h
      have h2:q*y0<=4294967295*4294967295:=Nat.mul_le_mul om om
      rw [<-Int.natCast_mul,IntKind.wrap_u64]
      omega
     have HB:=qh (And.intro hq ht)
     have hpb:4294967296<=t->E=p:=by
      intro h
      have h1:=knuth_brk hqr2 HE.out.2.2.2 b0 h
      have h2:=knuth_gt (c:=c0) hqr2 (show 0<y1*4294967296+y0 by omega)
      rw [HE.out.2.2.1] at h2
      have h3:p*y0<=4294967295*4294967295:=Nat.mul_le_mul om om
      have h4:¬ E<p:=fun hh=>by have:=h2.2 hh;omega
      omega
     clear hqr hqr2 hgt hgt2 hA hB hC hq
     by_cases hbk:4294967296<=t
     ·have g3:=decide_eq_true hbk
      have g3':=decide_eq_true (show (4294967296:Int)<=(t:Int) by omega)
      obtain rfl:=hpb hbk
      by_cases hbig:4294967296<=q
      ·have g1:=decide_eq_true hbig
       have g1':=decide_eq_true (show (4294967296:Int)<=(q:Int) by omega)
       clear w6 w7 g4 g4' hw5 ht hpb
       go_wp2_with fail
       go_ret2
       exact ⟨by rw [HN.out.1,HN.out.2];first|rfl|(rw [HF1.out,HF2.out];rfl),rfl⟩
      ·have g1:=decide_eq_false hbig
       have g1':=decide_eq_false (show ¬ (4294967296:Int)<=(q:Int) by omega)
       have w5:=hw5 om
       clear hw5 ht hpb
       go_wp2_with fail
       go_ret2
       exact ⟨by rw [HN.out.1,HN.out.2];first|rfl|(rw [HF1.out,HF2.out];rfl),rfl⟩
     ·have g3:=decide_eq_false hbk
      have g3':=decide_eq_false (show ¬ (4294967296:Int)<=(t:Int) by omega)
      by_cases hbig:4294967296<=q
      ·have g1:=decide_eq_true hbig
       have g1':=decide_eq_true (show (4294967296:Int)<=(q:Int) by omega)
       clear w6 w7 g4 g4' hw5 ht hpb
       go_wp2_with fail
       go_roundw
       case measure=>have:=HB.out.1;simp [intOf];omega
       case rel=>exact ⟨p,t,rfl,rfl,HQ2.out,by have:=HB.out.1;omega,by omega,by have:=HB.out.1;omega,by first|rfl|trivial⟩
      ·have g1:=decide_eq_false hbig
       have g1':=decide_eq_false (show ¬ (4294967296:Int)<=(q:Int) by omega)
       have w5:=hw5 om
       clear hw5 ht hpb
       go_wp2_with fail
       go_roundw
       case measure=>have:=HB.out.1;simp [intOf];omega
       case rel=>exact ⟨p,t,rfl,rfl,HQ2.out,by have:=HB.out.1;omega,by omega,by have:=HB.out.1;omega,by first|rfl|trivial⟩
    ·obtain rfl:q=E:=by omega
     obtain ⟨A,hA⟩:∃ A,q*y0=A:=⟨_,rfl⟩
     obtain ⟨B,hB⟩:∃ B,4294967296*rh=B:=⟨_,rfl⟩
     obtain ⟨C,hC⟩:∃ C,B+c0=C:=⟨_,rfl⟩
     rw [hA,hB,hC] at hgt
     have w6:IntKind.u64.wrap ((4294967296:Int)*(rh:Int))=(B:Int):=by rw [IntKind.wrap_u64];omega
     have w7:IntKind.u64.wrap ((B:Int)+(c0:Int))=(C:Int):=by rw [IntKind.wrap_u64];omega
     have g4:=decide_eq_false (show ¬ C<A from fun h=>hc (hgt.1 h))
     have g4':=decide_eq_false (show ¬ (C:Int)<(A:Int) from fun h=>hc (hgt.1 om))
     have w5:IntKind.u64.wrap ((q:Int)*(y0:Int))=(A:Int):=by
      have h2:q*y0<=4294967295*4294967295:=Nat.mul_le_mul om om
      rw [<-Int.natCast_mul,IntKind.wrap_u64]
      omega
     have g1:=decide_eq_false (show ¬ 4294967296<=q by omega)
     have g1':=decide_eq_false (show ¬ (4294967296:Int)<=(q:Int) by omega)
     clear hgt hA hB hC hqr
     go_wp2_with fail
     go_ret2
     exact ⟨by rw [HN.out.1,HN.out.2];first|rfl|(rw [HF1.out,HF2.out];rfl),rfl⟩
end Go.Proofs.YtoiakijmbghhlaaGreat
