/- Division of numbers of two digits, plainly: the school method's two steps (math/bits.Div64), and division by shifts (the reference's). No function of the progra -/
import Derived.Lib.BitFns
import Derived.Test.YtoiakijmbghhlaaGreatProg
import Derived.Shelf.Small.Bits
import Derived.Shelf.Bits.Mul64
import Derived.Shelf.Spec.BitsCarry
import Derived.Ground.NamesProg
import Derived.BigRegion
import Derived.Deep.QuietTactic
import Derived.BigQuiet
import Derived.Deep.RegionLaw
import Derived.Test.YtoiakijmbghhlaaGreatS00
set_option linter.unusedVariables false
set_option linter.unusedSimpArgs false
set_option maxRecDepth 100000
set_option maxHeartbeats 32000000
namespace Go.Proofs.YtoiakijmbghhlaaGreat
theorem knuth_gt {yn1 yn0 u c q rh:Nat} (h:q*yn1+rh=u) (hy:0<yn1*4294967296+yn0) :
  (4294967296*rh+c<q*yn0)↔(u*4294967296+c) / (yn1*4294967296+yn0)<q:=by
 rw [Nat.div_lt_iff_lt_mul hy,Nat.mul_add,<-Nat.mul_assoc]
 generalize q*yn1=A at *
 generalize q*yn0=B at *
 omega
theorem knuth_lt32 {y u c:Nat} (hu:u<y) (hc:c<4294967296):(u*4294967296+c) / y<4294967296:=by
 rw [Nat.div_lt_iff_lt_mul om]
 have:(u+1)*4294967296<=y*4294967296:=Nat.mul_le_mul_right _ hu
 rw [Nat.mul_comm 4294967296 y]
 omega
theorem knuth_brk {yn1 yn0 u q rh:Nat} (h:q*yn1+rh=u) (hu:u<yn1*4294967296+yn0) (h0:yn0<4294967296) (hr:4294967296<=rh):q<4294967296:=by
 have h1:q*yn1<4294967296*yn1:=by omega
 exact Nat.lt_of_mul_lt_mul_right h1
theorem knuth_first {yn1 yn0 u c:Nat} (h1:0<yn1):(u*4294967296+c) / (yn1*4294967296+yn0)<=u / yn1\/4294967296<=c:=by
 by_cases hc:4294967296<=c
 ·exact .inr hc
 ·left
  rw [Nat.le_div_iff_mul_le h1]
  have h2:=Nat.div_mul_le_self (u*4294967296+c) (yn1*4294967296+yn0)
  generalize (u*4294967296+c) / (yn1*4294967296+yn0)=q at *
  rw [Nat.mul_add,<-Nat.mul_assoc] at h2
  generalize q*yn1=A at *
  generalize q*yn0=B at *
  omega
theorem knuth_two {y a b c P:Nat} (hy:0<y) (q1 r1 q0 r0:Nat) (h1:a*P+b=q1*y+r1) (h0:r1*P+c=q0*y+r0) (hr:r0<y) :
  ((a*P+b)*P+c) / y=q1*P+q0/\((a*P+b)*P+c) % y=r0:=by
 have e:(a*P+b)*P+c=y*(q1*P+q0)+r0:=by
  rw [h1,Nat.add_mul,Nat.add_assoc,h0,Nat.mul_add,Nat.mul_comm y q0,Nat.mul_left_comm y q1 P,<-Nat.mul_assoc,Nat.add_assoc]
 rw [e]
 constructor
 ·rw [Nat.mul_add_div hy,Nat.div_eq_of_lt hr,Nat.add_zero]
 ·rw [Nat.mul_add_mod,Nat.mod_eq_of_lt hr]
theorem shift_div {N y s:Nat}:N*2 ^ s / (y*2 ^ s)=N / y/\N*2 ^ s % (y*2 ^ s)=(N % y)*2 ^ s:=
 ⟨Nat.mul_div_mul_right _ _ (Nat.two_pow_pos s),Nat.mul_mod_mul_right _ _ _⟩
theorem bitLen_pow:∀ (n x:Nat),x<=n->x<2 ^ 64->x≠0->∃ b,Lib.bitLen x=b+1/\2 ^ b<=x/\x<2 ^ (b+1)
 | 0,x,h,_,h0=>absurd (Nat.le_zero.1 h) h0
 | n+1,x,h,hx,h0=>by
  have e:=Lib.bitLen_half x h0 hx
  by_cases h1:x / 2=0
  ·have:x=1:=by omega
   subst this
   exact ⟨0,by rw [e];rfl,by decide,by decide⟩
  ·obtain ⟨b,e1,e2,e3⟩:=bitLen_pow n (x / 2) om om h1
   refine ⟨b+1,by rw [e,e1];omega,?_,?_⟩
   ·rw [Nat.pow_succ];omega
   ·rw [Nat.pow_succ];omega
theorem norm_shift {y:Nat} (h0:0<y) (hy:y<2 ^ 64):∃ s,s<=63/\Lib.bitLen y+s=64/\2 ^ 63<=y*2 ^ s/\y*2 ^ s<2 ^ 64:=by
 obtain ⟨b,e1,e2,e3⟩:=bitLen_pow y y (Nat.le_refl _) hy om
 have hb:b<=63:=by
  by_cases q:b<=63
  ·exact q
  ·have h64:2 ^ 64<=2 ^ b:=Nat.pow_le_pow_right (by decide) om
   omega
 refine ⟨63-b,by omega,by omega,?_,?_⟩
 ·have:2 ^ b*2 ^ (63-b)=2 ^ 63:=by rw [<-Nat.pow_add];congr 1;omega
  rw [<-this]
  exact Nat.mul_le_mul_right _ e2
 ·have:2 ^ (b+1)*2 ^ (63-b)=2 ^ 64:=by rw [<-Nat.pow_add];congr 1;omega
  rw [<-this]
  exact Nat.mul_lt_mul_of_pos_right e3 (Nat.two_pow_pos _)
theorem shift_split {hi lo s:Nat} (hlo:lo<2 ^ 64) (hs:s<=63) :
  (hi*2 ^ 64+lo)*2 ^ s=(hi*2 ^ s+lo / 2 ^ (64-s))*2 ^ 64+lo*2 ^ s % 2 ^ 64/\lo / 2 ^ (64-s)<2 ^ s/\lo*2 ^ s / 2 ^ 64=lo / 2 ^ (64-s):=by
 have e:2 ^ 64=2 ^ (64-s)*2 ^ s:=by rw [<-Nat.pow_add];congr 1;omega
 have h1:lo*2 ^ s / 2 ^ 64=lo / 2 ^ (64-s):=by rw [e,Nat.mul_div_mul_right _ _ (Nat.two_pow_pos s)]
 have h2:=Nat.div_add_mod (lo*2 ^ s) (2 ^ 64)
 rw [h1] at h2
 refine ⟨?_,?_,h1⟩
 ·rw [Nat.add_mul,Nat.add_mul,Nat.mul_right_comm]
  omega
 ·rw [Nat.div_lt_iff_lt_mul (Nat.two_pow_pos _),Nat.mul_comm,<-e]
  exact hlo
theorem or_join {a b s:Nat} (hb:b<2 ^ s):a*2 ^ s ||| b=a*2 ^ s+b:=by
 rw [Nat.mul_comm a,Nat.two_pow_add_eq_or_of_lt hb a]
end Go.Proofs.YtoiakijmbghhlaaGreat
namespace Go.Proofs
open Go.Shelf
def Tryz.laysLZ_ren:Go.Shelf.Ren:=⟨fun|134=>316|129=>301|n=>n,fun|53=>285|3=>3|4=>4|46=>49|5=>5|9=>9|n=>n,fun|n=>n⟩
theorem Tryz.laysLZ:Go.Proofs.Lays.n134 Tryz.prog Tryz.laysLZ_ren:={
 mixed:=by kernel_rfl
 f129:=Tryz.func301.trans (congrArg some (by kernel_rfl))
 f134:=Tryz.func316.trans (congrArg some (by kernel_rfl))
 t3:=Tryz.underlying3
 a3:=Tryz.isAgg3
 z3:=Tryz.sizeOf3
 v3:=Tryz.zeroValue3
 t4:=Tryz.underlying4
 a4:=Tryz.isAgg4
 z4:=Tryz.sizeOf4
 v4:=Tryz.zeroValue4
 t5:=Tryz.underlying5
 a5:=Tryz.isAgg5
 z5:=Tryz.sizeOf5
 v5:=Tryz.zeroValue5
 t9:=Tryz.underlying9
 a9:=Tryz.isAgg9
 z9:=Tryz.sizeOf9
 v9:=Tryz.zeroValue9
 t46:=Tryz.underlying49
 a46:=Tryz.isAgg49
 z46:=Tryz.sizeOf49
 v46:=Tryz.zeroValue49
 t53:=Tryz.underlying285
 a53:=Tryz.isAgg285
 z53:=Tryz.sizeOf285
 v53:=Tryz.zeroValue285 }
def Tryz.laysMul_ren:Go.Shelf.Ren:=⟨fun|264=>203|n=>n,fun|53=>285|46=>49|n=>n,fun|n=>n⟩
theorem Tryz.laysMul:Go.Proofs.Lays.n264 Tryz.prog Tryz.laysMul_ren:={
 mixed:=by kernel_rfl
 f264:=Tryz.func203.trans (congrArg some (by kernel_rfl))
 t46:=Tryz.underlying49
 a46:=Tryz.isAgg49
 z46:=Tryz.sizeOf49
 v46:=Tryz.zeroValue49
 t53:=Tryz.underlying285
 a53:=Tryz.isAgg285
 z53:=Tryz.sizeOf285
 v53:=Tryz.zeroValue285 }
def Tryz.laysAdd_ren:Go.Shelf.Ren:=⟨fun|25=>323|n=>n,fun|22=>285|n=>n,fun|n=>n⟩
theorem Tryz.laysAdd:Go.Proofs.Lays7.n25 Tryz.prog Tryz.laysAdd_ren:={
 mixed:=by kernel_rfl
 f25:=Tryz.func323.trans (congrArg some (by kernel_rfl))
 t22:=Tryz.underlying285
 a22:=Tryz.isAgg285
 z22:=Tryz.sizeOf285
 v22:=Tryz.zeroValue285
 i22:=by kernel_rfl }
def Tryz.laysSub_ren:Go.Shelf.Ren:=⟨fun|26=>324|n=>n,fun|22=>285|n=>n,fun|n=>n⟩
theorem Tryz.laysSub:Go.Proofs.Lays7.n26 Tryz.prog Tryz.laysSub_ren:={
 mixed:=by kernel_rfl
 f26:=Tryz.func324.trans (congrArg some (by kernel_rfl))
 t22:=Tryz.underlying285
 a22:=Tryz.isAgg285
 z22:=Tryz.sizeOf285
 v22:=Tryz.zeroValue285
 i22:=by kernel_rfl }
end Go.Proofs
namespace Go.Proofs.YtoiakijmbghhlaaGreat
open Go.RowKit
theorem lz_any (y:Nat) (w:World) (h:y<18446744073709551616):Calls Tryz.prog 316 #[.int .u64 (y:Int)] w fun e w'=>e=.returned (.int .i64 (64-(Lib.bitLen y:Int)))/\w'=w:=by
 have h1:=Any.bits_LeadingZeros64 Tryz.laysLZ (y:Int) w om om
 rw [Int.toNat_natCast] at h1
 exact h1
theorem mul64_any (x y:Nat) (w:World) (hx:x<18446744073709551616) (hy:y<18446744073709551616) :
  Calls Tryz.prog 203 #[.int .u64 (x:Int),.int .u64 (y:Int)] w fun e w'=>e=.returned (.tuple #[.int .u64 ((x*y / 18446744073709551616:Nat):Int),.int .u64 ((x*y % 18446744073709551616:Nat):Int)])/\w'=w:=
 Any.bits_Mul64 Tryz.laysMul x y hx hy w
theorem add64_run (x y c:Nat) (hc:c<=1) (w:World):(callFunc 323 #[.int .u64 (x:Int),.int .u64 (y:Int),.int .u64 (c:Int)]).run Tryz.prog w =
  .ok (.value (.tuple #[.int .u64 (((x+y+c) % 18446744073709551616:Nat):Int),.int .u64 (((x+y+c) / 18446744073709551616:Nat):Int)])) w:=Any7.bits_Add64 Tryz.laysAdd x y c hc w
theorem sub64_run (x y b:Nat) (hb:b<=1) (w:World):(callFunc 324 #[.int .u64 (x:Int),.int .u64 (y:Int),.int .u64 (b:Int)]).run Tryz.prog w =
  .ok (.value (.tuple #[.int .u64 (((x+18446744073709551616-y-b) % 18446744073709551616:Nat):Int),.int .u64 ((if x<y+b then 1 else 0:Nat):Int)])) w:=Any7.bits_Sub64 Tryz.laysSub x y b hb w
abbrev vU (H L:Nat):Value:=.agg #[.int .u64 (H:Int),.int .u64 (L:Int)]
abbrev vN (H L:Nat) (b:Bool):Value:=.agg #[.int .u64 (H:Int),.int .u64 (L:Int),.bool b]
theorem i64_u64 (n:Nat) (h:n<9223372036854775808):IntKind.u64.wrap (n:Int)=(n:Int):=by rw [IntKind.wrap_u64];omega
def nzB (H L:Nat):Bool:=!(decide (H=0)&&decide (L=0))
structure Bx2 (w:World) (B a b:Nat):Prop where
 c0:w.cell? ⟨B,0,none⟩=some (.int .u64 (a:Int))
 c1:w.cell? ⟨B,1,none⟩=some (.int .u64 (b:Int))
 f0:w.frozen? ⟨B,0,none⟩=false
 f1:w.frozen? ⟨B,1,none⟩=false
theorem Bx2.lt {w:World} {B a b:Nat} (h:Bx2 w B a b):B<w.heap.size:=lt_of_isSome (a:=⟨B,0,none⟩) (by rw [h.c0];rfl)
theorem Bx2.mono {w w':World} {B a b:Nat} (h:Bx2 w B a b) (hb:Below w.heap.size w w'):Bx2 w' B a b:=
 ⟨(hb.cell (p:=⟨B,0,none⟩) h.lt).trans h.c0,(hb.cell (p:=⟨B,1,none⟩) h.lt).trans h.c1,(hb.frozen (p:=⟨B,0,none⟩) h.lt).trans h.f0,(hb.frozen (p:=⟨B,1,none⟩) h.lt).trans h.f1⟩
theorem Bx2.new (w:World) (a b:Nat) (T:TypeId):Bx2 (w.alloc (.cells #[.int .u64 (a:Int),.int .u64 (b:Int)] T)) w.heap.size a b:=⟨by simp [go_sem],by simp [go_sem],by simp [go_sem],by simp [go_sem]⟩
theorem below_set2 {B C:Nat} {a w:World} (h:Below B a w) (hc:B<=C) (u v:Value):Below B a ((w.setCell ⟨C,0,none⟩ u).setCell ⟨C,1,none⟩ v):=(h.setCell (by exact hc) _).setCell (by exact hc) _
structure Bx3 (w:World) (B a b:Nat) (c:Bool):Prop where
 c0:w.cell? ⟨B,0,none⟩=some (.int .u64 (a:Int))
 c1:w.cell? ⟨B,1,none⟩=some (.int .u64 (b:Int))
 c2:w.cell? ⟨B,2,none⟩=some (.bool c)
 f0:w.frozen? ⟨B,0,none⟩=false
 f1:w.frozen? ⟨B,1,none⟩=false
 f2:w.frozen? ⟨B,2,none⟩=false
theorem Bx3.lt {w:World} {B a b:Nat} {c:Bool} (h:Bx3 w B a b c):B<w.heap.size:=lt_of_isSome (a:=⟨B,0,none⟩) (by rw [h.c0];rfl)
theorem Bx3.mono {w w':World} {B a b:Nat} {c:Bool} (h:Bx3 w B a b c) (hb:Below w.heap.size w w'):Bx3 w' B a b c:=
 ⟨(hb.cell (p:=⟨B,0,none⟩) h.lt).trans h.c0,(hb.cell (p:=⟨B,1,none⟩) h.lt).trans h.c1,(hb.cell (p:=⟨B,2,none⟩) h.lt).trans h.c2,(hb.frozen (p:=⟨B,0,none⟩) h.lt).trans h.f0,(hb.frozen (p:=⟨B,1,none⟩) h.lt).trans h.f1,(hb.frozen (p:=⟨B,2,none⟩) h.lt).trans h.f2⟩
theorem Bx3.new (w:World) (a b:Nat) (c:Bool) (T:TypeId):Bx3 (w.alloc (.cells #[.int .u64 (a:Int),.int .u64 (b:Int),.bool c] T)) w.heap.size a b c:=⟨by simp [go_sem],by simp [go_sem],by simp [go_sem],by simp [go_sem],by simp [go_sem],by simp [go_sem]⟩
theorem ceil_val {V D q:Nat} (hD:0<D) {b:Bool} (hb:b = !decide (V=0)) (h:q=V / D+if b=true/\¬ V % D=0 then 1 else 0):q=(V+D-1) / D/\(b=false->q=0):=by
 have hV:=Nat.div_add_mod V D
 have hm:=Nat.mod_lt V hD
 constructor
 ·by_cases h0:V % D=0
  ·have e:V+D-1=D*(V / D)+(D-1):=by omega
   rw [h,e,Nat.mul_add_div hD,Nat.div_eq_of_lt (show D-1<D by omega)]
   simp [h0]
  ·have hv0:¬ V=0:=by rintro rfl;simp at h0
   have e:V+D-1=D*(V / D+1)+(V % D-1):=by rw [Nat.mul_add,Nat.mul_one];omega
   rw [h,e,Nat.mul_add_div hD,Nat.div_eq_of_lt (show V % D-1<D by omega),if_pos ⟨by rw [hb];simp [hv0],h0⟩]
 ·rintro rfl
  have hv0:V=0:=by simpa using hb
  subst hv0
  simpa using h
end Go.Proofs.YtoiakijmbghhlaaGreat
