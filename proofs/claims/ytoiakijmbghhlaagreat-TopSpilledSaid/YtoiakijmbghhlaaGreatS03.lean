/- Names, tables, nodes, links, networks: when they are right, as plain functions, on both sides. No program is named. Conditions: none. | Names: IsName on both si -/
import Derived.Lib.Strings
import Derived.Deep.QuietTactic
import Derived.BigQuiet
import Derived.Test.YtoiakijmbghhlaaGreatS01
set_option linter.unusedVariables false
set_option linter.unusedSimpArgs false
set_option maxRecDepth 100000
set_option maxHeartbeats 32000000
namespace Go.Proofs.YtoiakijmbghhlaaGreat
open Go.RowKit
def allFrom (p:Nat->Bool) (k n:Nat):Bool:=(List.range' k (n-k)).all p
theorem allFrom_step (p:Nat->Bool) {k n:Nat} (h:k<n):allFrom p k n=(p k&&allFrom p (k+1) n):=by
 unfold allFrom
 rw [show n-k=(n-(k+1))+1 from by omega,List.range'_succ]
 rfl
theorem allFrom_end (p:Nat->Bool) {k n:Nat} (h:n<=k):allFrom p k n=true:=by
 unfold allFrom
 rw [show n-k=0 from by omega]
 rfl
theorem allFrom_iff (p:Nat->Bool) (n:Nat):allFrom p 0 n=true↔∀ i,i<n->p i=true:=by
 unfold allFrom
 rw [List.all_eq_true]
 constructor
 ·intro h i hi;exact h i (by simp [List.mem_range'];omega)
 ·intro h i hi;simp [List.mem_range'] at hi;exact h i om
def strB (a b:ByteArray):Bool:=a.toList==b.toList
def letB (c:Int):Bool:=decide (97<=c/\c<=122)||decide (65<=c/\c<=90)
def digB (c:Int):Bool:=decide (48<=c/\c<=57)
def wrdB (c:Int):Bool:=letB c||digB c||decide (c=95)
def wordFrom:List UInt8->Nat->Nat
 | [],k=>k
 | c :: r,k=>if wrdB (c.toNat:Int) then wordFrom r (k+1) else k
def nameB (s:ByteArray):Bool:=decide (1<=s.size)&&decide (s.size<=20)&&(match s.data.toList with | []=>false|c :: _=>letB (c.toNat:Int))&&decide (wordFrom s.data.toList 0=s.size)
def fitB (n:Int):Bool:=decide (-1125899906842624<=n/\n<=1125899906842624)
def knB (xs:List Kn) (i:Nat):Bool:=
 fitB (xs.getD i default).X&&fitB (xs.getD i default).Y&&(decide (i=0)||decide ((xs.getD (i-1) default).X<(xs.getD i default).X/\(xs.getD (i-1) default).Y<=(xs.getD i default).Y))
def tabB (xs:List Kn):Bool:=decide (1<=xs.length/\xs.length<=100)&&allFrom (knB xs) 0 xs.length
theorem tabB_len {xs:List Kn} (h:tabB xs=true):1<=xs.length/\xs.length<=100:=by
 simp [tabB] at h;omega
theorem tabB_at {xs:List Kn} (h:tabB xs=true) (i:Nat) (hi:i<xs.length) : -1125899906842624<=xs[i].X/\xs[i].X<=1125899906842624/\-1125899906842624<=xs[i].Y/\xs[i].Y<=1125899906842624:=by
 simp only [tabB,Bool.and_eq_true,allFrom_iff] at h
 have:=h.2 i hi
 simp [knB,fitB,List.getD,List.getElem?_eq_getElem hi] at this
 omega
theorem tabB_step {xs:List Kn} (h:tabB xs=true) (i:Nat) (hi:i+1<xs.length):xs[i].X<xs[i+1].X/\xs[i].Y<=xs[i+1].Y:=by
 simp only [tabB,Bool.and_eq_true,allFrom_iff] at h
 have:=h.2 (i+1) hi
 simp [knB,List.getD,List.getElem?_eq_getElem hi,List.getElem?_eq_getElem (show i<xs.length by omega)] at this
 exact this.2
theorem tabB_le {xs:List Kn} (h:tabB xs=true):∀ (d i:Nat) (hi:i+d<xs.length),xs[i].X<=xs[i+d].X/\xs[i].Y<=xs[i+d].Y
 | 0,i,hi=>⟨Int.le_refl _,Int.le_refl _⟩
 | d+1,i,hi=>by
  have h1:=tabB_le h d i om
  have h2:=tabB_step h (i+d) om
  have e:i+(d+1)=i+d+1:=by omega
  simp only [e]
  omega
theorem tabB_lt {xs:List Kn} (h:tabB xs=true) (i j:Nat) (hij:i<j) (hj:j<xs.length):xs[i].X<xs[j].X/\xs[i].Y<=xs[j].Y:=by
 obtain ⟨d,rfl⟩:∃ d,j=i+1+d:=⟨j-(i+1),by omega⟩
 have h1:=tabB_step h i om
 have h2:=tabB_le h d (i+1) hj
 omega
def lastK (xs:List Kn):Kn:=xs.getD (xs.length-1) default
def shapeB (xs:List Kn) (d:Int):Bool:=tabB xs&&decide ((xs.getD 0 default).X=0/\(xs.getD 0 default).Y=0)&&decide ((lastK xs).X=d)&&decide ((lastK xs).Y<=1125899906842624)
def lvlB (n:Int):Bool:=decide (-4194304<=n/\n<=4194304)
def posB (n:Int):Bool:=decide (-16777216<=n/\n<=16777216)
def kindNdB (x:Nd):Bool:=
 if x.Kind=1\/x.Kind=2 then
  decide (x.Inv<x.Gr)&&shapeB x.Sh.xs (x.Gr-x.Inv) && !(decide (x.Kind=1)&&x.Pro)&&(if x.Pro then decide (0<=x.Res/\x.Res<=(lastK x.Sh.xs).Y) else decide (x.Res=0))
 else if x.Kind=3 then decide (x.Inv<=x.Gr)&&decide (x.Sh.xs.length=0) && !x.Pro&&decide (x.Res=0)
 else false
def ndB (x:Nd):Bool:=nameB x.Name&&posB x.AX&&posB x.AY&&lvlB x.Inv&&lvlB x.Gr&&kindNdB x
def curveB (xs:List Kn):Bool:=tabB xs&&xs.all fun k=>decide (0<=k.X/\k.X<=4194304)&&decide (0<=k.Y/\k.Y<=1099511627776)
def emptyB (s:ByteArray):Bool:=s.toList == []
def kindLkB (l:Lk):Bool:=
 if l.Kind=1 then decide (1<=l.Len/\l.Len<=16777216)&&lvlB l.Down&&nameB l.Sec&&decide (l.Wi=0)&&decide (l.He=0)&&decide (l.Cu.xs.length=0)
 else if l.Kind=2 then decide (l.Len=0)&&decide (l.Down=0)&&emptyB l.Sec&&decide (1<=l.Wi/\l.Wi<=1048576)&&decide (l.He=0)&&decide (l.Cu.xs.length=0)
 else if l.Kind=3 then decide (l.Len=0)&&decide (l.Down=0)&&emptyB l.Sec&&decide (1<=l.Wi/\l.Wi<=32768)&&decide (1<=l.He/\l.He<=32768)&&decide (l.Cu.xs.length=0)
 else if l.Kind=4 then decide (l.Len=0)&&lvlB l.Down&&decide (l.Down<l.Up)&&emptyB l.Sec&&decide (l.Wi=0)&&decide (l.He=0)&&curveB l.Cu.xs
 else false
def lkB (l:Lk):Bool:=nameB l.Name&&nameB l.From&&nameB l.To && !strB l.From l.To&&lvlB l.Up&&kindLkB l
def findNd (ns:List Nd) (s:ByteArray):Int:=idxFrom (fun x:Nd=>strB x.Name s) ns 0
def findLk (ls:List Lk) (s:ByteArray):Int:=idxFrom (fun x:Lk=>strB x.Name s) ls 0
instance:Inhabited Nd:=⟨⟨⟨#[]⟩,0,0,0,0,0,⟨none,0,[]⟩,false,0⟩⟩
instance:Inhabited Lk:=⟨⟨⟨#[]⟩,⟨#[]⟩,⟨#[]⟩,0,0,0,0,⟨#[]⟩,0,0,⟨none,0,[]⟩⟩⟩
def okNd (ns:List Nd) (i:Nat):Bool:=ndB (ns.getD i default)&&decide (findNd ns (ns.getD i default).Name=i)
def okLk (ns:List Nd) (ls:List Lk) (i:Nat):Bool:=
 lkB (ls.getD i default)&&decide (findLk ls (ls.getD i default).Name=i)&&decide (0<=findNd ns (ls.getD i default).From)&&decide (0<=findNd ns (ls.getD i default).To) &&
  !decide ((ns.getD (findNd ns (ls.getD i default).From).toNat default).Kind=3)
def netB (n:Net):Bool:=decide (n.Ns.xs.length<=300)&&decide (n.Ls.xs.length<=400)&&allFrom (okNd n.Ns.xs) 0 n.Ns.xs.length&&allFrom (okLk n.Ns.xs n.Ls.xs) 0 n.Ls.xs.length
theorem idxFrom_bd {α:Type} (p:α->Bool):∀ (xs:List α) (i:Nat),idxFrom p xs i = -1\/(i:Int)<=idxFrom p xs i/\idxFrom p xs i<i+xs.length
 | [],i=>.inl rfl
 | x :: r,i=>by
  simp only [idxFrom]
  split
  ·right;simp;omega
  ·rcases idxFrom_bd p r (i+1) with h|h
   ·exact .inl h
   ·right;simp only [List.length_cons];omega
theorem idxFrom_at {α:Type} (p:α->Bool):∀ (xs:List α) (i:Nat) (j:Nat),idxFrom p xs i=((i+j:Nat):Int)->∃ h:j<xs.length,p xs[j]=true
 | [],i,j,h=>by simp [idxFrom] at h;omega
 | x :: r,i,j,h=>by
  simp only [idxFrom] at h
  split at h
  ·obtain rfl:j=0:=by omega
   exact ⟨by simp,by assumption⟩
  ·rcases idxFrom_bd p r (i+1) with h1|h1
   ·omega
   ·obtain ⟨m,rfl⟩:∃ m,j=m+1:=⟨j-1,by omega⟩
    obtain ⟨h2,h3⟩:=idxFrom_at p r (i+1) m om
    exact ⟨by simpa using h2,by simpa using h3⟩
theorem findNd_bd (ns:List Nd) (s:ByteArray) : -1<=findNd ns s/\findNd ns s<ns.length:=by
 rcases idxFrom_bd (fun x:Nd=>strB x.Name s) ns 0 with h|h <;> (unfold findNd;omega)
theorem letter_any (c:Int) (w:World):Calls Tryz.prog 234 #[.int .u8 c] w fun e w'=>e=.returned (.bool (letB c))/\w'=w:=by
 by_cases h1:97<=c <;> by_cases h2:c<=122 <;> by_cases h3:65<=c <;> by_cases h4:c<=90
 all_goals
  go_enter Tryz.func234,Tryz.ntmps234
  go_wp2_with fail
  go_ret
  exact ⟨ret_bool (by simp [letB,h1,h2,h3,h4]),rfl⟩
theorem digit_any (c:Int) (w:World):Calls Tryz.prog 280 #[.int .u8 c] w fun e w'=>e=.returned (.bool (digB c))/\w'=w:=by
 by_cases h1:48<=c <;> by_cases h2:c<=57
 all_goals
  go_enter Tryz.func280,Tryz.ntmps280
  go_wp2_with fail
  go_ret
  exact ⟨ret_bool (by simp [digB,h1,h2]),rfl⟩
theorem wrdB_let {c:Int} (h:letB c=true):wrdB c=true:=by simp [wrdB,h]
theorem wrdB_dig {c:Int} (h:digB c=true):wrdB c=true:=by simp [wrdB,h]
theorem wrdB_95:wrdB 95=true:=by decide
theorem wrdB_no {c:Int} (h1:letB c=false) (h2:digB c=false) (h3:¬ c=95):wrdB c=false:=by simp [wrdB,h1,h2,h3]
theorem wordFrom_yes {c:UInt8} {r:List UInt8} {k:Nat} (h:wrdB (c.toNat:Int)=true):wordFrom (c :: r) k=wordFrom r (k+1):=by simp [wordFrom,h]
theorem wordFrom_no {c:UInt8} {r:List UInt8} {k:Nat} (h:wrdB (c.toNat:Int)=false):wordFrom (c :: r) k=k:=by simp [wordFrom,h]
theorem drop_byte (s:ByteArray) (k:Nat) (h:k<s.size):s.data.toList.drop k=s[k] :: s.data.toList.drop (k+1):=by
 rw [List.drop_eq_getElem_cons (by simpa using h)];rfl
theorem wordFrom_le:∀ (l:List UInt8) (k:Nat),k<=wordFrom l k/\wordFrom l k<=k+l.length
 | [],k=>⟨Nat.le_refl _,Nat.le_refl _⟩
 | c :: r,k=>by
  simp only [wordFrom]
  split
  ·have:=wordFrom_le r (k+1);simp;omega
  ·simp
theorem word_any (s:ByteArray) (w:World) (hs:s.size<=maxLen):Calls Tryz.prog 235 #[.string s] w fun e w'=>e=.returned (.int .i64 (wordFrom s.data.toList 0))/\w'=w:=by
 unfold maxLen at hs
 go_enter Tryz.func235,Tryz.ntmps235
 go_wp2
 go_loop [3] (fun i=>∃ k:Nat,k<=s.size/\i=.int .i64 k/\Hid (wordFrom s.data.toList 0=wordFrom (s.data.toList.drop k) k)) (fun i=>s.size-(intOf i).toNat)
 case atStart=>exact ⟨0,Nat.zero_le _,rfl,rfl⟩
 case round=>
  obtain ⟨k,hk,rfl,hm⟩:=hrel
  by_cases hlt:k<s.size
  ·have hd:=qh (drop_byte s k hlt)
   cases hL:letB (s[k].toNat:Int)
   ·cases hD:digB (s[k].toNat:Int)
    ·by_cases h95:(s[k].toNat:Int)=95
     ·have hw:=qh (wordFrom_yes (r:=s.data.toList.drop (k+1)) (k:=k) (by rw [h95];exact wrdB_95))
      have h95':((s[k].toNat:Int)==95)=true:=by simpa using h95
      clear h95
      go_wp2_with (first|(go_at_call 234;refine (letter_any _ _).mono ?_;rintro e w' ⟨rfl,rfl⟩)|(go_at_call 280;refine (digit_any _ _).mono ?_;rintro e w' ⟨rfl,rfl⟩))
      go_round
      case rel=>exact ⟨k+1,by omega,by go_num,hm.out.trans (by rw [hd.out];exact hw.out)⟩
      case measure=>simp [intOf];omega
     ·have hw:=qh (wordFrom_no (r:=s.data.toList.drop (k+1)) (k:=k) (wrdB_no hL hD h95))
      have h95':((s[k].toNat:Int)==95)=false:=by simpa using h95
      clear h95
      go_wp2_with (first|(go_at_call 234;refine (letter_any _ _).mono ?_;rintro e w' ⟨rfl,rfl⟩)|(go_at_call 280;refine (digit_any _ _).mono ?_;rintro e w' ⟨rfl,rfl⟩))
      go_ret
      exact ⟨ret_int (by rw [hm.out,hd.out,hw.out]),rfl⟩
    ·have hw:=qh (wordFrom_yes (r:=s.data.toList.drop (k+1)) (k:=k) (wrdB_dig hD))
     go_wp2_with (first|(go_at_call 234;refine (letter_any _ _).mono ?_;rintro e w' ⟨rfl,rfl⟩)|(go_at_call 280;refine (digit_any _ _).mono ?_;rintro e w' ⟨rfl,rfl⟩))
     go_round
     case rel=>exact ⟨k+1,by omega,by go_num,hm.out.trans (by rw [hd.out];exact hw.out)⟩
     case measure=>simp [intOf];omega
   ·have hw:=qh (wordFrom_yes (r:=s.data.toList.drop (k+1)) (k:=k) (wrdB_let hL))
    go_wp2_with (first|(go_at_call 234;refine (letter_any _ _).mono ?_;rintro e w' ⟨rfl,rfl⟩)|(go_at_call 280;refine (digit_any _ _).mono ?_;rintro e w' ⟨rfl,rfl⟩))
    go_round
    case rel=>exact ⟨k+1,by omega,by go_num,hm.out.trans (by rw [hd.out];exact hw.out)⟩
    case measure=>simp [intOf];omega
  ·go_wp2
   go_ret
   obtain rfl:k=s.size:=by omega
   refine ⟨ret_int ?_,rfl⟩
   rw [hm.out,List.drop_eq_nil_of_le (by simp)];rfl
theorem nameB_0 {s:ByteArray} (h:s.size=0):nameB s=false:=by simp [nameB,h]
theorem nameB_big {s:ByteArray} (h:20<s.size):nameB s=false:=by
 simp [nameB];omega
theorem head_byte (s:ByteArray) (h:0<s.size):∃ r,s.data.toList=s[0] :: r:=⟨_,by have:=drop_byte s 0 h;rwa [List.drop_zero] at this⟩
theorem nameB_let {s:ByteArray} (h:0<s.size) (hl:letB (s[0].toNat:Int)=false):nameB s=false:=by
 obtain ⟨r,hr⟩:=head_byte s h
 simp [nameB,hr,hl]
theorem nameB_is {s:ByteArray} (h:0<s.size) (h2:s.size<=20) (hl:letB (s[0].toNat:Int)=true):nameB s=decide (wordFrom s.data.toList 0=s.size):=by
 obtain ⟨r,hr⟩:=head_byte s h
 simp only [nameB,hr,hl]
 have h1:1<=s.size:=h
 simp [h1,h2]
theorem beqT {a b:Int} (h:a=b):(a==b)=true:=beq_iff_eq.2 h
theorem beqF {a b:Int} (h:¬ a=b):(a==b)=false:=beq_eq_false_iff_ne.2 h
theorem toList_nil {s:ByteArray} (h:s.size=0):s.toList = []:=by
 have:s.toList.length=0:=by rw [Lib.toList_data];simpa using h
 exact List.eq_nil_of_length_eq_zero this
theorem toList_ne {s:ByteArray} (h:0<s.size):s.toList.isEmpty=false/\(s.toList == [])=false:=by
 have:0<s.toList.length:=by rw [Lib.toList_data];simpa using h
 cases hl:s.toList with
 | nil=>rw [hl] at this;simp at this
 | cons=>exact ⟨rfl,rfl⟩
theorem isName_any (s:ByteArray) (w:World) (hs:s.size<=maxLen):Calls Tryz.prog 183 #[.string s] w fun e w'=>e=.returned (.bool (nameB s))/\w'=w:=by
 have hs':=hs
 unfold maxLen at hs'
 by_cases h0:s.size=0
 ·have e1:=toList_nil h0
  have HN:=qh (nameB_0 h0)
  clear h0
  go_enter Tryz.func183,Tryz.ntmps183
  go_wp2_with fail
  go_ret
  exact ⟨ret_bool HN.out.symm,rfl⟩
 ·have h0':0<s.size:=by omega
  obtain ⟨e1,e2⟩:=toList_ne h0'
  clear h0
  by_cases h20:20<s.size
  ·have HN:=qh (nameB_big h20)
   have q:decide ((s.size:Int)<=20)=false:=decide_eq_false om
   go_enter Tryz.func183,Tryz.ntmps183
   go_wp2_with fail
   go_ret
   exact ⟨ret_bool HN.out.symm,rfl⟩
  ·have q:decide ((s.size:Int)<=20)=true:=decide_eq_true om
   cases hl:letB (s[0].toNat:Int)
   ·have HN:=qh (nameB_let h0' hl)
    go_enter Tryz.func183,Tryz.ntmps183
    go_wp2_with (go_at_call 234;refine (letter_any _ _).mono ?_;rintro e w' ⟨rfl,rfl⟩)
    go_ret
    exact ⟨ret_bool HN.out.symm,rfl⟩
   ·have HN:=qh (nameB_is h0' om hl)
    have hle:=(wordFrom_le s.data.toList 0).2
    have hw:=fun w=>word_any s w hs
    generalize wordFrom s.data.toList 0=n at *
    by_cases he:n=s.size
    ·have HE:=qh he
     have he':((n:Int)==(s.size:Int))=true:=beqT om
     clear he
     go_enter Tryz.func183,Tryz.ntmps183
     go_wp2_with (first|(go_at_call 234;refine (letter_any _ _).mono ?_;rintro e w' ⟨rfl,rfl⟩)|(go_at_call 235;refine (hw _).mono ?_;rintro e w' ⟨rfl,rfl⟩))
     go_ret
     exact ⟨ret_bool (HN.out.trans (by simp [HE.out])).symm,rfl⟩
    ·have HE:=qh he
     have he':((n:Int)==(s.size:Int))=false:=beqF om
     clear he
     go_enter Tryz.func183,Tryz.ntmps183
     go_wp2_with (first|(go_at_call 234;refine (letter_any _ _).mono ?_;rintro e w' ⟨rfl,rfl⟩)|(go_at_call 235;refine (hw _).mono ?_;rintro e w' ⟨rfl,rfl⟩))
     go_ret
     exact ⟨ret_bool (HN.out.trans (by simp [HE.out])).symm,rfl⟩
theorem fits_any (n:Int) (w:World):Calls Tryz.prog 241 #[.int .i64 n] w fun e w'=>e=.returned (.bool (fitB n))/\w'=w:=by
 by_cases h1 : -1125899906842624<=n <;> by_cases h2:n<=1125899906842624
 all_goals
  go_enter Tryz.func241,Tryz.ntmps241
  go_wp2_with fail
  go_ret
  exact ⟨ret_bool (by simp [fitB,h1,h2]),rfl⟩
theorem IsC.knAt {w:World} {b off:Nat} {xs:List Kn} (h:IsC eKn 2 w (some ⟨b,off,none⟩) xs) (i:Nat) (hi:i<xs.length) :
  w.cell? ⟨b,off+i*2,none⟩=some (.int .i64 xs[i].X)/\w.cell? ⟨b,off+i*2+1,none⟩=some (.int .i64 xs[i].Y):=by
 obtain ⟨b',off',e,c1,c2⟩:=h.kn i hi
 simp only [Option.some.injEq,Addr.mk.injEq] at e
 obtain ⟨rfl,rfl,_⟩:=e
 exact ⟨c1,c2⟩
theorem knB_0 {xs:List Kn} {x:Kn} (h:0<xs.length) (hx:xs[0]=x):knB xs 0=(fitB x.X&&fitB x.Y):=by
 subst hx
 simp [knB,List.getD,List.getElem?_eq_getElem h]
theorem knB_pos {xs:List Kn} {k:Nat} {x p:Kn} (h:k<xs.length) (h0:0<k) (hx:xs[k]=x) (hp:xs[k-1]'om=p) :
  knB xs k=(fitB x.X&&fitB x.Y&&decide (p.X<x.X/\p.Y<=x.Y)):=by
 subst hx;subst hp
 have e:decide (k=0)=false:=decide_eq_false om
 simp only [knB,List.getD,List.getElem?_eq_getElem h,List.getElem?_eq_getElem (show k-1<xs.length by omega),e,Bool.false_or,Option.getD_some]
theorem tvalid_any (xs:List Kn) (v:Value) (w:World) (hv:IsKns w v xs):Calls Tryz.prog 197 #[v] w fun e w'=>e=.returned (.bool (tabB xs))/\Below w.heap.size w w':=by
 obtain ⟨a,cap,rfl,hcap,hbig,hs⟩:=hv
 by_cases h1:xs.length<1
 ·have q1:decide ((xs.length:Int)<1)=true:=decide_eq_true om
  have HN:Hid (tabB xs=false):=by show _=_;simp [tabB];omega
  go_enter Tryz.func197,Tryz.ntmps197
  go_wp2_with fail
  go_ret
  exact ⟨ret_bool HN.out.symm,qr⟩
 have q1:decide ((xs.length:Int)<1)=false:=decide_eq_false om
 by_cases h2:100<xs.length
 ·have q2:decide ((100:Int)<(xs.length:Int))=true:=decide_eq_true om
  have HN:Hid (tabB xs=false):=by show _=_;simp [tabB];omega
  go_enter Tryz.func197,Tryz.ntmps197
  go_wp2_with fail
  go_ret
  exact ⟨ret_bool HN.out.symm,qr⟩
 have q2:decide ((100:Int)<(xs.length:Int))=false:=decide_eq_false om
 have HT:Hid (tabB xs=allFrom (knB xs) 0 xs.length):=by
  show _=_
  have:1<=xs.length/\xs.length<=100:=by omega
  simp [tabB,this]
 go_enter Tryz.func197,Tryz.ntmps197
 go_wp2_with fail
 go_loopw [15] (fun s15 wr=>∃ k:Nat,k<=xs.length/\s15=.int .i64 k/\Below w.heap.size w wr/\Hid (tabB xs=allFrom (knB xs) k xs.length)) (fun i _=>xs.length-(intOf i).toNat)
 case atStart=>exact ⟨0,Nat.zero_le _,rfl,qr,HT⟩
 case round=>
  obtain ⟨k,hk,rfl,hb,hm⟩:=hrel
  by_cases hlt:k<xs.length
  ·obtain ⟨b,off,rfl,c1,c2⟩:=(hs.mono hb).kn k hlt
   have HS:=qh (allFrom_step (knB xs) hlt)
   have hblt:=World.block_lt_of_cell? _ _ c1
   by_cases h0:k=0
   ·have HK:Hid (knB xs k=(fitB xs[k].X&&fitB xs[k].Y)):=by show _=_;subst h0;exact knB_0 hlt rfl
    have q0:decide (0<k)=false:=decide_eq_false om
    have q0':decide ((0:Int)<(k:Int))=false:=decide_eq_false om
    have H0:=qh h0
    clear hs h0
    generalize xs[k]=x at *
    cases hfx:fitB x.X
    ·go_wp2_with fail
     go_quiet ((go_at_call 241;exact Calls.quiet_of_same (fits_any _ _)))
     go_wp2_with fail
     go_ret
     exact ⟨ret_bool (hm.out.trans (HS.out.trans (by rw [HK.out,hfx];rfl))).symm,bl⟩
    ·cases hfy:fitB x.Y
     ·go_wp2_with fail
      go_quiet ((go_at_call 241;exact Calls.quiet_of_same (fits_any _ _)))
      go_wp2_with fail
      go_ret
      exact ⟨ret_bool (hm.out.trans (HS.out.trans (by rw [HK.out,hfx,hfy];rfl))).symm,bl⟩
     ·go_wp2_with fail
      go_quiet ((go_at_call 241;exact Calls.quiet_of_same (fits_any _ _)))
      go_wp2_with fail
      go_roundw
      case rel=>exact ⟨k+1,by omega,by go_num,bl,hm.out.trans (HS.out.trans (by rw [HK.out,hfx,hfy];rfl))⟩
      case measure=>simp [intOf];omega
   ·have h0':0<k:=by omega
    obtain ⟨d1,d2⟩:=(hs.mono hb).knAt (k-1) om
    have HK:Hid (knB xs k=(fitB xs[k].X&&fitB xs[k].Y&&decide ((xs[k-1]'om).X<xs[k].X/\(xs[k-1]'om).Y<=xs[k].Y))):=knB_pos hlt h0' rfl rfl
    have q0:decide (0<k)=true:=decide_eq_true om
    have q0':decide ((0:Int)<(k:Int))=true:=decide_eq_true om
    clear hs h0
    have hp1:k-1<xs.length:=by omega
    generalize xs[k-1]=p at *
    generalize xs[k]=x at *
    cases hfx:fitB x.X
    ·go_wp2_with fail
     go_quiet ((go_at_call 241;exact Calls.quiet_of_same (fits_any _ _)))
     go_wp2_with fail
     go_ret
     exact ⟨ret_bool (hm.out.trans (HS.out.trans (by rw [HK.out,hfx];rfl))).symm,bl⟩
    ·cases hfy:fitB x.Y
     ·go_wp2_with fail
      go_quiet ((go_at_call 241;exact Calls.quiet_of_same (fits_any _ _)))
      go_wp2_with fail
      go_ret
      exact ⟨ret_bool (hm.out.trans (HS.out.trans (by rw [HK.out,hfx,hfy];rfl))).symm,bl⟩
     ·by_cases hX:x.X<=p.X
      ·have qX:decide (x.X<=p.X)=true:=decide_eq_true hX
       have HF:Hid (knB xs k=false):=by show _=_;rw [HK.out,decide_eq_false om];simp
       clear hX
       go_wp2_with fail
       have w1':IntKind.i64.wrap ((k:Int)-1)=(k:Int)-1:=IntWalk.i64_in _ om
       have w2':((k:Int)-1).toNat=k-1:=by omega
       have w3':0<=(k:Int)-1:=by omega
       have w4':(k:Int)-1<xs.length:=by omega
       go_quiet ((go_at_call 241;exact Calls.quiet_of_same (fits_any _ _)))
       clear w1' w2' w3' w4'
       go_wp2_with fail
       go_ret
       exact ⟨ret_bool (hm.out.trans (HS.out.trans (by rw [HF.out];rfl))).symm,bl⟩
      ·have qX:decide (x.X<=p.X)=false:=decide_eq_false hX
       by_cases hY:x.Y<p.Y
       ·have qY:decide (x.Y<p.Y)=true:=decide_eq_true hY
        have HF:Hid (knB xs k=false):=by show _=_;rw [HK.out,decide_eq_false om];simp
        clear hX hY
        go_wp2_with fail
        have w1':IntKind.i64.wrap ((k:Int)-1)=(k:Int)-1:=IntWalk.i64_in _ om
        have w2':((k:Int)-1).toNat=k-1:=by omega
        have w3':0<=(k:Int)-1:=by omega
        have w4':(k:Int)-1<xs.length:=by omega
        go_quiet ((go_at_call 241;exact Calls.quiet_of_same (fits_any _ _)))
        clear w1' w2' w3' w4'
        go_wp2_with fail
        go_ret
        exact ⟨ret_bool (hm.out.trans (HS.out.trans (by rw [HF.out];rfl))).symm,bl⟩
       ·have qY:decide (x.Y<p.Y)=false:=decide_eq_false hY
        have HF:Hid (knB xs k=true):=by show _=_;rw [HK.out,hfx,hfy,decide_eq_true om];simp
        clear hX hY
        go_wp2_with fail
        have w1':IntKind.i64.wrap ((k:Int)-1)=(k:Int)-1:=IntWalk.i64_in _ om
        have w2':((k:Int)-1).toNat=k-1:=by omega
        have w3':0<=(k:Int)-1:=by omega
        have w4':(k:Int)-1<xs.length:=by omega
        go_quiet ((go_at_call 241;exact Calls.quiet_of_same (fits_any _ _)))
        clear w1' w2' w3' w4'
        go_wp2_with fail
        go_roundw
        case rel=>exact ⟨k+1,by omega,by go_num,bl,hm.out.trans (HS.out.trans (by rw [HF.out];rfl))⟩
        case measure=>simp [intOf];omega
  ·go_wp2_with fail
   go_ret
   refine ⟨ret_bool ?_,hb⟩
   rw [hm.out,allFrom_end _ om]
end Go.Proofs.YtoiakijmbghhlaaGreat
