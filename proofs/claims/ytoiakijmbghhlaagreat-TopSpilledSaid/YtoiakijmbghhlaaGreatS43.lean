/- reports.Rows at two short texts. Conditions: the texts lie in memory. | slices.Index, Contains, Grow, Concat at texts. Conditions: at most a million texts in all. | simulate: right, given, count, valid. Conditions: the arguments read as data. | simulate.given. Conditions: the arguments read as data. | balance.given at what a step hands back. Conditions: the arguments read as data and come of a step. | balance.of: the plain part and what its loops keep. No function of the program is named. Conditions: none. | TopBalance, plain: the sets of names, the sums by hand, the inflows of a step, the totals of a run. No function of the program is named. Conditions: the network | planInflows: the inflows of a step, as control.at has them. Conditions: the network is right; the inflows are right. -/
import Derived.Laws.IdiomStrings
import Derived.Test.YtoiakijmbghhlaaGreatS13
import Derived.Test.YtoiakijmbghhlaaGreatS05
import Derived.Lib.AppendZeros
import Derived.Lib.AppendZerosOnto
import Derived.Test.YtoiakijmbghhlaaGreatS18
import Derived.Test.YtoiakijmbghhlaaGreatS42
import Derived.Test.YtoiakijmbghhlaaGreatS37
import Derived.Test.YtoiakijmbghhlaaGreatS02
import Derived.Test.YtoiakijmbghhlaaGreatS03
import Derived.Test.YtoiakijmbghhlaaGreatS17
import Derived.Test.YtoiakijmbghhlaaGreatS39
import Derived.StillTailTactics
set_option linter.unusedVariables false
set_option linter.unusedSimpArgs false
set_option maxRecDepth 100000
set_option maxHeartbeats 32000000
namespace Go.Proofs.YtoiakijmbghhlaaGreat
open Go.RowKit
abbrev By:=Int
abbrev eBy (x:By):List Value:=[.int .u8 x]
abbrev vBy (x:By):Value:=.int .u8 x
abbrev IsBys (w:World) (v:Value) (xs:List By):Prop:=IsL eBy 1 w v xs
theorem IsC.by {w:World} {a:Option Addr} {xs:List By} (h:IsC eBy 1 w a xs) (i:Nat) (hi:i<xs.length) :
  ∃ b off,a=some ⟨b,off,none⟩/\w.cell? ⟨b,off+i,none⟩=some (.int .u8 xs[i]):=by
 obtain ⟨b,off,e,hc⟩:=h i hi
 exact ⟨b,off,e,by simpa using hc 0 om⟩
theorem indexBy (g:Nat) (lb:Array Value) (eg:∀ args w,(callFunc g args).run Tryz.prog w=.ok (.enter g args) w) (p:By->Bool) (xs:List By) (v:Value) (w:World)
  (hv:IsBys w v xs) (hp:PredOn Tryz.prog g lb vBy p xs w) :
  Calls Tryz.prog 181 #[v,.func (.func g) #[] lb] w fun e w'=>e=.returned (.int .i64 (idxFrom p xs 0))/\Below w.heap.size w w':=by
 obtain ⟨a,cap,rfl,hcap,hbig,hs⟩:=hv
 go_enter Tryz.func181,Tryz.ntmps181
 go_wp2
 go_loopw [5,8] (fun _ s8 wr=>∃ k:Nat,k<=xs.length/\s8=.int .i64 k/\Below w.heap.size w wr/\Hid (idxFrom p xs 0=idxFrom p (xs.drop k) k)) (fun _ i _=>xs.length-(RowKit.intOf i).toNat)
 case atStart=>exact ⟨0,Nat.zero_le _,rfl,qr,rfl⟩
 case round=>
  obtain ⟨k,hk,rfl,hb,hm⟩:=hrel
  by_cases hlt:k<xs.length
  ·obtain ⟨b,off,rfl,c0⟩:=(hs.mono hb).by k hlt
   have hx:=hp wr hb xs[k] (List.getElem_mem hlt)
   have hstep:Hid (idxFrom p (xs.drop k) k=if p xs[k] then (k:Int) else idxFrom p (xs.drop (k+1)) (k+1)):=by
    rw [List.drop_eq_getElem_cons hlt];rfl
   clear hs hp
   generalize xs[k]=y at *
   cases hpy:p y
   all_goals
    rw [hpy] at hx hstep
    clear hpy
    go_wp2_with fail
    refine (Calls.to hx ?_)
    rintro e w1 rfl hb1
    have hbb:=hb.trans (hb1.mono hb.size)
    go_wp2_with fail
   ·go_roundw
    case rel=>exact ⟨k+1,by omega,by go_num,bl,hm.out.trans (hstep.out.trans (by simp))⟩
    case measure=>simp [RowKit.intOf];omega
   ·go_ret
    exact ⟨ret_int (hm.out.trans (hstep.out.trans (by simp))).symm,bl⟩
  ·go_wp2
   go_ret
   refine ⟨ret_int ?_,bl⟩
   rw [hm.out,List.drop_eq_nil_of_le om];rfl
theorem containsBy (g:Nat) (lb:Array Value) (eg:∀ args w,(callFunc g args).run Tryz.prog w=.ok (.enter g args) w) (p:By->Bool) (xs:List By) (v:Value) (w:World)
  (hv:IsBys w v xs) (hp:PredOn Tryz.prog g lb vBy p xs w) :
  Calls Tryz.prog 112 #[v,.func (.func g) #[] lb] w fun e w'=>e=.returned (.bool (xs.any p))/\Below w.heap.size w w':=by
 go_enter Tryz.func112,Tryz.ntmps112
 go_wp2_with fail
 refine Calls.to (indexBy g lb eg p xs v w hv hp) ?_
 rintro e w1 rfl hb
 go_wp2_with fail
 go_ret
 exact ⟨ret_bool (idxFrom_any p xs 0),hb⟩
abbrev Tx:=ByteArray
abbrev eTx (x:Tx):List Value:=[.string x]
abbrev IsTxs (w:World) (v:Value) (xs:List Tx):Prop:=IsL eTx 1 w v xs
theorem IsC.tx {w:World} {a:Option Addr} {xs:List Tx} (h:IsC eTx 1 w a xs) (i:Nat) (hi:i<xs.length) :
  ∃ b off,a=some ⟨b,off,none⟩/\w.cell? ⟨b,off+i,none⟩=some (.string xs[i]):=by
 obtain ⟨b,off,e,hc⟩:=h i hi
 exact ⟨b,off,e,by simpa using hc 0 om⟩
theorem undStr:Tryz.prog.underlying 42=some (.slice 9):=by kernel_rfl
theorem infStr:(Tryz.prog.info? 9).map (fun i=>(i.zero,i.size,i.bytes))=some (some (.string ⟨#[]⟩),1,16):=by kernel_rfl
theorem undByt:Tryz.prog.underlying 69=some (.slice 5):=by kernel_rfl
theorem undBy:Tryz.prog.underlying 5=some (.int .u8):=by kernel_rfl
theorem bytesOf (w:World) (s:ByteArray) (hs:s.size<=maxLen):∃ W c,(convert 9 69 (.string s)).run Tryz.prog w=.ok (.slice (some ⟨w.heap.size,0,none⟩) s.size c) W/\Below w.heap.size w W/\IsBys W (.slice (some ⟨w.heap.size,0,none⟩) s.size c) (s.data.toList.map fun b=>(b.toNat:Int)):=by
 have hl:(s.data.toList.map fun b=>(b.toNat:Int)).length=s.size:=by rw [List.length_map,Array.length_toList];rfl
 refine ⟨_,_,run_bytes_of_string w _ _ 5 s undS undByt undBy,qr.drew.alloc (Nat.le_refl _) _,?_⟩
 refine ⟨_,_,by rw [hl],by rw [hl];exact grownCap_ge _ _ _ _,(show grownCap w s.size 0 5<=9223372036854775807 from grownCap_le_maxLen _ _ _ _ hs),fun i hi=>⟨w.heap.size,0,rfl,fun j hj=>?_⟩⟩
 have hi':i<s.data.size:=by rw [hl] at hi;exact hi
 have hj0:j=0:=by omega
 subst hj0
 rw [show 0+i*1+0=i from by omega]
 refine (World.cell?_alloc_mark w.drew _ _ _ i).trans ?_
 rw [bytesRow_at s _ i hi']
 simp
def hasT (xs:List ByteArray) (y:ByteArray):Bool:=xs.any (fun x=>strB y x)
theorem hasT_iff {xs:List ByteArray} {y:ByteArray}:hasT xs y=true↔y∈xs:=by
 unfold hasT
 rw [List.any_eq_true]
 constructor
 ·rintro ⟨x,hx,h⟩
  rw [strB_eq.1 h];exact hx
 ·exact fun h=>⟨y,h,strB_eq.2 rfl⟩
end Go.Proofs.YtoiakijmbghhlaaGreat
namespace Go.Proofs.YtoiakijmbghhlaaGreat
open Go.RowKit Go.Maps
theorem ent226:∀ args w,(callFunc 226 args).run Tryz.prog w=.ok (.enter 226 args) w:=by
 intro args w
 simp [go_sem]
theorem ent158:∀ args w,(callFunc 158 args).run Tryz.prog w=.ok (.enter 158 args) w:=by
 intro args w
 simp [go_sem]
theorem ent160:∀ args w,(callFunc 160 args).run Tryz.prog w=.ok (.enter 160 args) w:=by
 intro args w
 simp [go_sem]
def vOut (x:Int):Bool:=decide (x<0)||decide (1125899906842624<x)
theorem smright1_any (x:Int) (w:World):Calls Tryz.prog 226 #[.int .i64 x] w fun e w'=>e=.returned (.bool (vOut x))/\Below w.heap.size w w':=by
 have H:Hid (vOut x=(decide (x<0)||decide (1125899906842624<x))):=rfl
 generalize vOut x=r at *
 cases h1:decide (x<0)
 rotate_left
 ·have HK:=qh (H.out.trans (by simp [h1]:_=true))
  go_enter Tryz.func226,Tryz.ntmps226
  go_wp2_with fail
  go_ret
  exact ⟨ret_bool HK.out.symm,bl⟩
 cases h2:decide (1125899906842624<x)
 ·have HK:=qh (H.out.trans (by simp [h1,h2]:_=false))
  go_enter Tryz.func226,Tryz.ntmps226
  go_wp2_with fail
  go_ret
  exact ⟨ret_bool HK.out.symm,bl⟩
 ·have HK:=qh (H.out.trans (by simp [h1,h2]:_=true))
  go_enter Tryz.func226,Tryz.ntmps226
  go_wp2_with fail
  go_ret
  exact ⟨ret_bool HK.out.symm,bl⟩
def rgtB (x:InD):Bool:=nameB x.N&&(decide ((x.V.xs.length:Int)<=10000) && !(x.V.xs.any vOut))
theorem smright_any (x:InD) (w:World) (hg:gIn w x):Calls Tryz.prog 159 #[vIn x] w fun e w'=>e=.returned (.bool (rgtB x))/\Below w.heap.size w w':=by
 obtain ⟨nm,⟨va,vc,vs⟩⟩:=x
 obtain ⟨hn,hv⟩:=hg
 simp only at hn hv
 have hco:=fun V (hV:Below w.heap.size w V)=>containsInts 226 #[] ent226 vOut vs (.slice va vs.length vc) V (hv.isL.mono hV) (fun W _ x _=>smright1_any x W)
 have hna:=fun V=>isName_any nm V hn
 have H:Hid (rgtB ⟨nm,⟨va,vc,vs⟩⟩=(nameB nm&&(decide ((vs.length:Int)<=10000) && !(vs.any vOut)))):=rfl
 generalize rgtB ⟨nm,⟨va,vc,vs⟩⟩=r at *
 generalize vs.any vOut=a at *
 generalize nameB nm=b at *
 have hb0:Below w.heap.size w (w.alloc (.cells #[.string nm,.slice va vs.length vc] 121)):=qr.alloc (Nat.le_refl _) _
 clear hn hv
 simp only [vIn,vSl]
 cases b
 ·have HK:=qh (H.out.trans (by simp:_=false))
  clear H hco
  go_enter Tryz.func159,Tryz.ntmps159
  go_wp2_with fail
  refine (hna _).mono ?_
  rintro e w1 ⟨rfl,rfl⟩
  go_wp2_with fail
  go_ret
  exact ⟨ret_bool HK.out.symm,hb0⟩
 cases h2:decide ((vs.length:Int)<=10000)
 ·have HK:=qh (H.out.trans (by simp [h2]:_=false))
  clear H hco
  go_enter Tryz.func159,Tryz.ntmps159
  go_wp2_with fail
  refine (hna _).mono ?_
  rintro e w1 ⟨rfl,rfl⟩
  go_wp2_with fail
  go_ret
  exact ⟨ret_bool HK.out.symm,hb0⟩
 ·have HK:=qh (H.out.trans (by simp [h2]:_ = !a))
  clear H
  go_enter Tryz.func159,Tryz.ntmps159
  go_wp2_with fail
  refine (hna _).mono ?_
  rintro e w1 ⟨rfl,rfl⟩
  go_wp2_with fail
  refine Calls.to (hco _ hb0) ?_
  rintro e w1 rfl hb1
  have hb2:=hb0.trans (hb1.mono hb0.size)
  clear hco hb1
  go_wp2_with fail
  go_ret
  exact ⟨ret_bool HK.out.symm,hb2⟩
theorem smgiven1_any (x:InD) (w:World) (hg:gIn w x):Calls Tryz.prog 158 #[vIn x] w fun e w'=>e=.returned (.bool (!(rgtB x)))/\Below w.heap.size w w':=by
 have hb0:Below w.heap.size w (w.alloc (.cells (eIn x).toArray 121)):=qr.alloc (Nat.le_refl _) _
 have hr:=smright_any x _ (rdIn.mono hg hb0)
 generalize rgtB x=r at *
 obtain ⟨nm,⟨va,vc,vs⟩⟩:=x
 simp only [vIn,vSl] at hr ⊢
 go_enter Tryz.func158,Tryz.ntmps158
 go_wp2_with fail
 refine Calls.to hr ?_
 rintro e w1 rfl hb1
 have hb2:=hb0.trans (hb1.mono hb0.size)
 clear hr hb1
 go_wp2_with fail
 go_ret
 exact ⟨rfl,hb2⟩
theorem smgiven2_any (x:InD) (names:List ByteArray) (B bm c:Nat) (w:World) (hg:x.N.size<=maxLen) (h0:w.cell? ⟨B,0,none⟩=some (.map (some bm))) (hS:SetS w bm c (fun z=>z∈names)) :
  Calls Tryz.prog 160 #[vIn x,.pointer (some ⟨B,0,none⟩)] w fun e w'=>e=.returned (.bool (!(hasT names x.N)))/\Below w.heap.size w w':=by
 obtain ⟨W,hW⟩:∃ W,W=w.alloc (.cells (eIn x).toArray 121):=⟨_,rfl⟩
 have hb0:Below w.heap.size w W:=by rw [hW];exact alloc_below _ _
 have hlk:=(hS.below hb0).look hg (hasT names x.N) hasT_iff
 generalize hasT names x.N=r at *
 obtain ⟨nm,⟨va,vc,vs⟩⟩:=x
 have h1:=cel_lt h0 hb0
 have c0:W.cell? ⟨w.heap.size,0,none⟩=some (.string nm):=by rw [hW];simp [go_sem]
 have HW:=qh hW
 clear hW h0 hS
 simp only [vIn,vSl] at hlk ⊢
 go_enter Tryz.func160,Tryz.ntmps160
 go_upto_region 1 with (fail)
 first|rw [<-HW.out]|fail "W"
 go_wp2_with fail
 go_ret
 exact ⟨rfl,hb0⟩
theorem smcount_any (k:Int) (w:World):Calls Tryz.prog 91 #[.int .i64 k] w fun e w'=>(∃ b,e=.returned (.bool b)/\(b=true->0<=k/\k<=10000))/\Below w.heap.size w w':=by
 cases h1:decide (0<=k)
 ·go_enter Tryz.func91,Tryz.ntmps91
  go_wp2_with fail
  go_ret
  exact ⟨⟨false,rfl,fun h=>by cases h⟩,bl⟩
 ·have h1':=of_decide_eq_true h1
  have H1:=qh h1'
  clear h1'
  cases h2:decide (k<=10000)
  ·clear H1
   go_enter Tryz.func91,Tryz.ntmps91
   go_wp2_with fail
   go_ret
   exact ⟨⟨false,rfl,fun h=>by cases h⟩,bl⟩
  ·have H2:=qh (of_decide_eq_true h2)
   go_enter Tryz.func91,Tryz.ntmps91
   go_wp2_with fail
   go_ret
   exact ⟨⟨true,rfl,fun _=>⟨H1.out,H2.out⟩⟩,bl⟩
theorem smgiven_any (is:List InD) (vI:Value) (names:List ByteArray) (vN:Value) (w:World) (hi:IsInsL w vI is) (hg:∀ x∈is,gIn w x) (hN:IsTxs w vN names) (hz:∀ z∈names,z.size<=maxLen) :
  Calls Tryz.prog 90 #[vI,vN] w fun e w'=>(∃ er:Int,e=.returned (.int .i64 er)/\(er=0->is.length<=1000/\∀ x∈is,hasT names x.N=true))/\Below w.heap.size w w':=by
 have HI:=qh hi
 have HNN:=qh hN
 have HGI:=qh hg
 have HZ:=qh hz
 have hmm:=@run_makeMap Tryz.prog
 have hc1:=containsInsL 158 #[] ent158 (fun x=>!(rgtB x)) is vI w hi (fun W hW x hx=>smgiven1_any x W (rdIn.mono (hg x hx) hW))
 generalize (is.any fun x=>!(rgtB x))=b at hc1
 obtain ⟨ai,ci,rfl,hi1,hi2,hi3⟩:=hi
 obtain ⟨an,cn,rfl,hn1,hn2,hn3⟩:=hN
 obtain ⟨nn,hnn⟩:∃ nn,nn=names.length:=⟨_,rfl⟩
 have HNL:=qh hnn
 have hnb:nn<=9223372036854775807:=by rw [hnn];omega
 rw [<-hnn]
 have HN3:=qh hn3
 clear hg hz hnn hn3 hi3 hn1 hi1
 cases h1:decide ((1000:Int)<is.length)
 rotate_left
 ·go_enter Tryz.func90,Tryz.ntmps90
  go_wp2_with fail
  go_ret
  exact ⟨⟨_,rfl,fun h=>by simp at h⟩,qr⟩
 cases h2:decide ((1000:Int)<nn)
 rotate_left
 ·go_enter Tryz.func90,Tryz.ntmps90
  go_wp2_with fail
  go_ret
  exact ⟨⟨_,rfl,fun h=>by simp at h⟩,qr⟩
 have hsm:is.length<=1000/\nn<=1000:=by
  have a:=of_decide_eq_false h1
  have c:=of_decide_eq_false h2
  omega
 have HSM:=qh hsm
 clear hsm
 go_enter Tryz.func90,Tryz.ntmps90
 go_wp2_with fail
 refine Calls.to hc1 ?_
 rintro e w1 rfl hb1
 cases b
 rotate_left
 ·go_wp2_with fail
  go_ret
  exact ⟨⟨_,rfl,fun h=>by simp at h⟩,hb1⟩
 obtain ⟨bm,hbm⟩:∃ b,b=w1.heap.size:=⟨_,rfl⟩
 obtain ⟨w2,hw2⟩:∃ w2,w2=(w1.alloc (.map #[] 0)).alloc (.cells #[.map (some w1.heap.size)] 206):=⟨_,rfl⟩
 have hbA:Below w1.heap.size w1 (w1.alloc (.map #[] 0)):=alloc_below _ _
 have hbB:Below (w1.alloc (.map #[] 0)).heap.size (w1.alloc (.map #[] 0)) w2:=by rw [hw2];exact alloc_below _ _
 have HS0:Hid (SetS w2 bm 0 (fun z=>z∈names.take 0)):=qh (by
  rw [hbm]
  exact ((SetS.made w1).below hbB).iff (fun z=>by simp))
 have c0:w2.cell? ⟨bm+1,0,none⟩=some (.map (some bm)):=by rw [hw2,hbm];simp [go_sem]
 have hb2:Below w.heap.size w w2:=hb1.trans ((hbA.trans (hbB.mono hbA.size)).mono hb1.size)
 have HBM:Hid (w.heap.size<=bm):=qh (by rw [hbm];exact hb1.size)
 have HW2:=qh hw2
 clear hc1 hw2 hbA hbB hb1
 go_upto_region 6 with (fail)
 try simp only [Nat.add_assoc,Nat.reduceAdd]
 first|rw [<-HW2.out]|(simp only [<-HW2.out])|fail "w2"
 clear hmm HW2
 rw [<-hbm]
 clear hbm
 go_upto_region 7 with (fail)
 go_loopw [21] (fun s21 wr=>∃ k:Nat,k<=nn/\s21=.int .i64 k/\Hid (SetS wr bm k (fun z=>z∈names.take k))/\wr.cell? ⟨bm+1,0,none⟩=some (.map (some bm))/\Below w.heap.size w wr) (fun s21 _=>nn-(RowKit.intOf s21).toNat)
 case atStart=>exact ⟨0,Nat.zero_le _,rfl,HS0,c0,hb2⟩
 clear HS0 c0 hb2
 case round=>
  obtain ⟨k,hk,rfl,HS,c0,hb⟩:=hrel
  obtain ⟨wo,hwo⟩:∃ wo,wo=wr:=⟨_,rfl⟩
  subst hwo
  by_cases hkn:k<nn
  ·have hkl:k<names.length:=by rw [<-HNL.out];exact hkn
   obtain ⟨bz,oz,ea,d0⟩:=(HN3.out.mono hb).tx k hkl
   have hzs:=HZ.out _ (List.getElem_mem hkl)
   have hts:∀ z,z∈names.take (k+1)↔(z∈names.take k\/z=names[k]):=fun z=>by
    rw [List.take_succ_eq_append_getElem hkl,List.mem_append,List.mem_singleton]
   obtain ⟨z,hzx⟩:∃ z,z=names[k]'hkl:=⟨_,rfl⟩
   rw [<-hzx] at d0 hzs hts
   have hlk:=HS.out.look hzs (hasT (names.take k) z) hasT_iff
   obtain ⟨w3,hup,hS3,hg3⟩:=HS.out.upd (by have:=HSM.out.2;simp only [maxLen];omega) hzs
   have HS3:Hid (SetS w3 bm (k+1) (fun z=>z∈names.take (k+1))):=qh (hS3.iff (fun y=>(hts y).symm))
   have c3:w3.cell? ⟨bm+1,0,none⟩=some (.map (some bm)):=cel_gr c0 hg3 (by simp)
   have hb3:Below w.heap.size w w3:=hb.grown hg3 hb.size (fun q hq=>by cases hq;exact HBM.out)
   generalize hasT (names.take k) z=bz2 at hlk
   have i1:decide (k<nn)=true:=decide_eq_true hkn
   have x7:IntKind.i64.wrap ((k:Int)+1)=k+1:=IntWalk.i64_in _ om
   have i4:(0:Int)<=k:=by omega
   have i5:(k:Int)<nn:=by omega
   have EA:=qh ea
   have HKN:=qh hkn
   clear hzx hts hkn hkl hS3 hg3 HS
   cases bz2
   rotate_left
   ·clear hup c3 hb3
    go_wp2_with fail
    go_ret
    exact ⟨⟨_,rfl,fun h=>by simp at h⟩,hb⟩
   ·go_wp2_with fail
    clear ea
    first|rw [<-EA.out]|skip
    go_roundw
    case measure=>have:=HKN.out;simp [RowKit.intOf,x7];omega
    case rel=>exact ⟨k+1,HKN.out,by go_num,HS3,c3,hb3⟩
  ·have hke:nn=k:=by omega
   subst hke
   have i1:decide (nn<nn)=false:=decide_eq_false (Nat.lt_irrefl nn)
   have hSN:SetS wo bm nn (fun z=>z∈names):=HS.out.iff (fun z=>by rw [HNL.out,List.take_length])
   have hc2:=containsInsL 160 #[.pointer (some ⟨bm+1,0,none⟩)] ent160 (fun x=>!(hasT names x.N)) is _ wo (HI.out.mono hb) (fun W hW x hx=>smgiven2_any x names (bm+1) bm nn W (HGI.out x hx).n (cel_lt c0 hW) (hSN.below hW))
   obtain ⟨b,hbq⟩:∃ b,b=(is.any fun x=>!(hasT names x.N)):=⟨_,rfl⟩
   rw [<-hbq] at hc2
   have HFI:Hid (b=false->is.length<=1000/\∀ x∈is,hasT names x.N=true):=qh (fun h=>⟨HSM.out.1,fun x hx=>by
    rw [h] at hbq
    have:=List.any_eq_false.1 hbq.symm x hx
    simpa using this⟩)
   clear hSN hbq HS hkn
   go_wp2_with fail
   refine Calls.to hc2 ?_
   rintro e w3 rfl hb3
   have hb4:=hb.trans (hb3.mono hb.size)
   clear hc2 hb3
   cases b
   ·go_wp2_with fail
    go_ret
    exact ⟨⟨_,rfl,fun _=>HFI.out (by trivial)⟩,hb4⟩
   ·go_wp2_with fail
    go_ret
    exact ⟨⟨_,rfl,fun h=>by simp at h⟩,hb4⟩
end Go.Proofs.YtoiakijmbghhlaaGreat
