/- Tables, plainly: the value between two knots, its rest, and the greatest place with at most a value; they do not descend. No function of the program is named. C | Division of numbers of two digits, plainly: the school method's two steps (math/bits.Div64), and division by shifts (the reference's). No function of the progra -/
import Derived.Test.YtoiakijmbghhlaaGreatS02
import Derived.Lib.BitFns
import Derived.Test.YtoiakijmbghhlaaGreatProg
import Derived.Shelf.Small.Bits
import Derived.Shelf.Bits.Mul64
import Derived.Shelf.Spec.BitsCarry
import Derived.Ground.NamesProg
import Derived.BigRegion
import Derived.Deep.QuietTactic
import Derived.BigQuiet
import Derived.Deep.RegionLaw
import Derived.Test.YtoiakijmbghhlaaGreatS00
set_option linter.unusedVariables false
set_option linter.unusedSimpArgs false
set_option maxRecDepth 100000
set_option maxHeartbeats 32000000
namespace Go.Proofs.YtoiakijmbghhlaaGreat
open Go.RowKit
def cntX (xs:List Kn) (x:Int):Nat:=(xs.filter fun k=>decide (k.X<x)).length
def knAt (xs:List Kn) (i:Nat):Kn:=xs.getD i default
theorem knAt_is {xs:List Kn} {i:Nat} (h:i<xs.length):knAt xs i=xs[i]:=by simp [knAt,List.getD,List.getElem?_eq_getElem h]
theorem cntX_le (xs:List Kn) (x:Int):cntX xs x<=xs.length:=List.length_filter_le _ _
theorem cntX_pw:∀ {xs:List Kn},xs.Pairwise (fun a b=>a.X<b.X)->∀ (x:Int) (j:Nat) (hj:j<xs.length),(xs[j].X<x->j<cntX xs x)/\(x<=xs[j].X->cntX xs x<=j)
 | k :: r,hp,x,0,hj=>by
  rw [List.pairwise_cons] at hp
  unfold cntX
  constructor
  ·intro h
   simp only [List.getElem_cons_zero] at h
   rw [List.filter_cons,if_pos (by simpa using h)];simp
  ·intro h
   simp only [List.getElem_cons_zero] at h
   have:((k :: r).filter fun k=>decide (k.X<x)) = []:=by
    rw [List.filter_eq_nil_iff]
    intro y hy
    rcases List.mem_cons.1 hy with rfl|q
    ·simp;omega
    ·have:=hp.1 y q;simp;omega
   rw [this];simp
 | k :: r,hp,x,j+1,hj=>by
  rw [List.pairwise_cons] at hp
  have hj':j<r.length:=by simpa using hj
  have ih:=cntX_pw hp.2 x j hj'
  have hk:=hp.1 _ (List.getElem_mem hj')
  simp only [List.getElem_cons_succ]
  unfold cntX at ih ⊢
  rw [List.filter_cons]
  constructor
  ·intro h
   rw [if_pos (by simp;omega)]
   have:=ih.1 h
   simp only [List.length_cons];omega
  ·intro h
   have:=ih.2 h
   split
   ·simp only [List.length_cons];omega
   ·omega
theorem tabB_pw {xs:List Kn} (h:tabB xs=true):xs.Pairwise (fun a b=>a.X<b.X):=
 List.pairwise_iff_getElem.2 fun i j _ hj hij=>(tabB_lt h i j hij hj).1
theorem cntX_lt {xs:List Kn} (h:tabB xs=true) (x:Int) (j:Nat) (hj:j<xs.length):j<cntX xs x↔xs[j].X<x:=by
 obtain ⟨h1,h2⟩:=cntX_pw (tabB_pw h) x j hj
 constructor
 ·intro hh
  by_cases q:xs[j].X<x
  ·exact q
  ·have:=h2 om;omega
 ·exact h1
theorem cntX_is {xs:List Kn} (h:tabB xs=true) (x:Int) (k:Nat) (hk:k<=xs.length) (h1:∀ i (hi:i<xs.length),i<k->xs[i].X<x) (h2:∀ i (hi:i<xs.length),k<=i->x<=xs[i].X):k=cntX xs x:=by
 have hc:=cntX_le xs x
 rcases Nat.lt_trichotomy k (cntX xs x) with q|q|q
 ·have:=(cntX_lt h x k om).1 q
  have:=h2 k om (Nat.le_refl _)
  omega
 ·exact q
 ·have h3:=h1 (cntX xs x) om q
  have:=(cntX_lt h x (cntX xs x) om).2 h3
  omega
def hitX (xs:List Kn) (x:Int):Bool:=decide (cntX xs x<xs.length)&&decide ((knAt xs (cntX xs x)).X=x)
def tabP (xs:List Kn) (x:Int):Int×Int×Int:=
 let k:=cntX xs x
 if hitX xs x=true\/k=0 then ((knAt xs k).Y,0,1) else if k=xs.length then ((knAt xs (k-1)).Y,0,1)
 else
  let a:=knAt xs (k-1)
  let b:=knAt xs k
  (a.Y+(b.Y-a.Y)*(x-a.X) / (b.X-a.X),(b.Y-a.Y)*(x-a.X) % (b.X-a.X),b.X-a.X)
def tabV (xs:List Kn) (x:Int):Int:=(tabP xs x).1
theorem tabV_hit {xs:List Kn} {x:Int} (h:hitX xs x=true\/cntX xs x=0):tabP xs x=((knAt xs (cntX xs x)).Y,0,1):=by simp only [tabP,if_pos h]
theorem tabV_end {xs:List Kn} {x:Int} (h:¬ (hitX xs x=true\/cntX xs x=0)) (h2:cntX xs x=xs.length):tabP xs x=((knAt xs (cntX xs x-1)).Y,0,1):=by simp only [tabP,if_neg h,if_pos h2]
theorem tabV_mid {xs:List Kn} {x:Int} (h:¬ (hitX xs x=true\/cntX xs x=0)) (h2:¬ cntX xs x=xs.length):tabP xs x =
    ((knAt xs (cntX xs x - 1)).Y + ((knAt xs (cntX xs x)).Y - (knAt xs (cntX xs x - 1)).Y) * (x - (knAt xs (cntX xs x - 1)).X) / ((knAt xs (cntX xs x)).X - (knAt xs (cntX xs x - 1)).X),
     ((knAt xs (cntX xs x)).Y-(knAt xs (cntX xs x-1)).Y)*(x-(knAt xs (cntX xs x-1)).X) % ((knAt xs (cntX xs x)).X-(knAt xs (cntX xs x-1)).X),(knAt xs (cntX xs x)).X-(knAt xs (cntX xs x-1)).X):=by
  simp only [tabP,if_neg h,if_neg h2]
theorem tabV_between {xs:List Kn} (h:tabB xs=true) (x:Int):(∀ i (hi:i<xs.length),xs[i].X<=x->xs[i].Y<=tabV xs x)/\(∀ i (hi:i<xs.length),x<=xs[i].X->tabV xs x<=xs[i].Y):=by
 have hl:=tabB_len h
 have hc:=cntX_le xs x
 have hle:∀ i j (hij:i<=j) (hj:j<xs.length),xs[i].Y<=xs[j].Y:=by
  intro i j hij hj
  rcases Nat.lt_or_eq_of_le hij with q|rfl
  ·exact (tabB_lt h i j q hj).2
  ·exact Int.le_refl _
 have hlx:∀ i (hi:i<xs.length),i<cntX xs x↔xs[i].X<x:=fun i hi=>cntX_lt h x i hi
 unfold tabV
 by_cases h1:hitX xs x=true\/cntX xs x=0
 ·rw [tabV_hit h1]
  have hk:cntX xs x<xs.length:=by
   rcases h1 with q|q
   ·simp only [hitX,Bool.and_eq_true,decide_eq_true_eq] at q;exact q.1
   ·omega
  rw [knAt_is hk]
  refine ⟨fun i hi hx=>?_,fun i hi hx=>?_⟩
  ·refine hle i _ ?_ hk
   by_cases q:i<=cntX xs x
   ·exact q
   ·exfalso
    rcases h1 with hh|hh
    ·simp only [hitX,Bool.and_eq_true,decide_eq_true_eq] at hh
     rw [knAt_is hk] at hh
     have:=(tabB_lt h (cntX xs x) i om hi).1
     omega
    ·have hh0:=(tabB_lt h 0 i om hi).1
     have:=(hlx 0 om).2 om
     omega
  ·refine hle _ i ?_ hi
   by_cases q:cntX xs x<=i
   ·exact q
   ·have:=(hlx i hi).1 om;omega
 ·by_cases h2:cntX xs x=xs.length
  ·rw [tabV_end h1 h2]
   have hk:cntX xs x-1<xs.length:=by omega
   simp only
   rw [knAt_is hk]
   refine ⟨fun i hi hx=>hle i _ om hk,fun i hi hx=>?_⟩
   have:=(hlx i hi).1 om
   omega
  ·rw [tabV_mid h1 h2]
   simp only [not_or] at h1
   have hk:cntX xs x<xs.length:=by omega
   have hk1:cntX xs x-1<xs.length:=by omega
   simp only
   rw [knAt_is hk,knAt_is hk1]
   have ha:=(hlx (cntX xs x-1) hk1).1 om
   have hb:x<xs[cntX xs x].X:=by
    have q1:=(hlx (cntX xs x) hk)
    have q2:=h1.1
    simp only [hitX,Bool.and_eq_true,decide_eq_true_eq,not_and] at q2
    have q3:=q2 hk
    rw [knAt_is hk] at q3
    omega
   have hyy:=hle (cntX xs x-1) (cntX xs x) om hk
   have fA:∀ i (hi:i<xs.length),xs[i].X<=x->xs[i].Y<=xs[cntX xs x-1].Y:=by
    intro i hi hx
    refine hle i _ ?_ hk1
    by_cases q:i<=cntX xs x-1
    ·exact q
    ·exfalso
     by_cases q2:i=cntX xs x
     ·subst q2;omega
     ·have:=(tabB_lt h (cntX xs x) i om hi).1;omega
   have fB:∀ i (hi:i<xs.length),x<=xs[i].X->xs[cntX xs x].Y<=xs[i].Y:=by
    intro i hi hx
    refine hle _ i ?_ hi
    by_cases q:cntX xs x<=i
    ·exact q
    ·have:=(hlx i hi).1 om;omega
   clear hlx hle
   generalize xs[cntX xs x]=b at *
   generalize xs[cntX xs x-1]=a at *
   have n1:0<=(b.Y-a.Y)*(x-a.X) / (b.X-a.X):=Int.ediv_nonneg (Int.mul_nonneg om om) om
   have n2:(b.Y-a.Y)*(x-a.X) / (b.X-a.X)<=b.Y-a.Y:=by
    refine Int.ediv_le_of_le_mul om ?_
    exact Int.mul_le_mul_of_nonneg_left om om
   refine ⟨fun i hi hx=>?_,fun i hi hx=>?_⟩
   ·have:=fA i hi hx;omega
   ·have:=fB i hi hx;omega
theorem tabV_mono {xs:List Kn} (h:tabB xs=true) {x y:Int} (hxy:x<=y):tabV xs x<=tabV xs y:=by
 have hl:=tabB_len h
 have hcx:=cntX_le xs x
 have hcy:=cntX_le xs y
 have hlx:∀ i (hi:i<xs.length),i<cntX xs x↔xs[i].X<x:=fun i hi=>cntX_lt h x i hi
 have hly:∀ i (hi:i<xs.length),i<cntX xs y↔xs[i].X<y:=fun i hi=>cntX_lt h y i hi
 obtain ⟨_,bx⟩:=tabV_between h x
 obtain ⟨ay,_⟩:=tabV_between h y
 by_cases hm:∃ i,∃ hi:i<xs.length,x<=xs[i].X/\xs[i].X<=y
 ·obtain ⟨i,hi,h1,h2⟩:=hm
  have:=bx i hi h1
  have:=ay i hi h2
  omega
 ·have hno:∀ i (hi:i<xs.length),x<=xs[i].X->y<xs[i].X:=by
   intro i hi h1
   by_cases q:xs[i].X<=y
   ·exact absurd ⟨i,hi,h1,q⟩ hm
   ·omega
  have hk:cntX xs x=cntX xs y:=by
   refine cntX_is h y (cntX xs x) hcx (fun i hi q=>?_) (fun i hi q=>?_)
   ·have:=(hlx i hi).1 q;omega
   ·have h1:x<=xs[i].X:=by
     by_cases q2:xs[i].X<x
     ·have:=(hlx i hi).2 q2;omega
     ·omega
    have:=hno i hi h1;omega
  have hhx:hitX xs x=false:=by
   by_cases q:cntX xs x<xs.length
   ·have:=hno (cntX xs x) q
    simp only [hitX,q,decide_true,Bool.true_and,decide_eq_false_iff_not]
    rw [knAt_is q]
    intro e
    have:=this om
    omega
   ·simp [hitX,q]
  have hhy:hitX xs y=false:=by
   rw [<-Bool.not_eq_true]
   simp only [hitX,Bool.and_eq_true,decide_eq_true_eq,not_and]
   intro q e
   rw [<-hk] at q e
   rw [knAt_is q] at e
   have:=hno (cntX xs x) q om
   omega
  unfold tabV
  by_cases h0:cntX xs x=0
  ·rw [tabV_hit (.inr h0),tabV_hit (.inr (hk ▸ h0)),hk];exact Int.le_refl _
  ·have n1:¬ (hitX xs x=true\/cntX xs x=0):=by simp [hhx,h0]
   have n2:¬ (hitX xs y=true\/cntX xs y=0):=by rw [<-hk];simp [hhy,h0]
   by_cases h2:cntX xs x=xs.length
   ·rw [tabV_end n1 h2,tabV_end n2 (hk ▸ h2),hk];exact Int.le_refl _
   ·rw [tabV_mid n1 h2,tabV_mid n2 (hk ▸ h2),<-hk]
    have hkl:cntX xs x<xs.length:=by omega
    have hk1:cntX xs x-1<xs.length:=by omega
    simp only
    rw [knAt_is hkl,knAt_is hk1]
    have hs:=tabB_lt h (cntX xs x-1) (cntX xs x) om hkl
    generalize xs[cntX xs x]=b at *
    generalize xs[cntX xs x-1]=a at *
    have hmul:(b.Y-a.Y)*(x-a.X)<=(b.Y-a.Y)*(y-a.X):=Int.mul_le_mul_of_nonneg_left om om
    have:=Int.ediv_le_ediv (show 0<b.X-a.X by omega) hmul
    omega
theorem tabV_bd {xs:List Kn} (h:tabB xs=true) (x:Int):(xs[0]'(by have:=tabB_len h;omega)).Y<=tabV xs x/\tabV xs x<=(xs[xs.length-1]'(by have:=tabB_len h;omega)).Y:=by
 have hl:=tabB_len h
 have h0:=tabV_mono h (x:=min x (xs[0]'om).X) (y:=x) om
 have h1:=tabV_mono h (x:=x) (y:=max x (xs[xs.length-1]'om).X) om
 obtain ⟨a1,a2⟩:=tabV_between h x
 constructor
 ·by_cases q:(xs[0]'om).X<=x
  ·exact a1 0 om q
  ·have hc:cntX xs x=0:=by
    by_cases q2:cntX xs x=0
    ·exact q2
    ·have:=(cntX_lt h x 0 om).1 om;omega
   unfold tabV
   rw [tabV_hit (.inr hc),hc,knAt_is om]
   exact Int.le_refl _
 ·by_cases q:x<=(xs[xs.length-1]'om).X
  ·exact a2 (xs.length-1) om q
  ·have hc:cntX xs x=xs.length:=by
    have:=(cntX_lt h x (xs.length-1) om).2 om
    have:=cntX_le xs x
    omega
   have hn:¬ (hitX xs x=true\/cntX xs x=0):=by
    rw [hc];simp only [hitX,hc,Nat.lt_irrefl,decide_false,Bool.false_and]
    simp;intro e;rw [e] at hl;simp at hl
   unfold tabV
   rw [tabV_end hn hc,hc,knAt_is om]
   exact Int.le_refl _
def cmpX (k:Kn) (x:Int):Int:=if k.X<x then -1 else if x<k.X then 1 else 0
theorem piece1_any (k:Kn) (x:Int) (w:World):Calls Tryz.prog 244 #[vKn k,.int .i64 x] w fun e w'=>e=.returned (.int .i64 (cmpX k x))/\Below w.heap.size w w':=by
 unfold cmpX
 by_cases h1:k.X<x
 ·rw [if_pos h1]
  have u1:=decide_eq_true h1
  go_enter Tryz.func244,Tryz.ntmps244
  go_wp2_with fail
  go_ret
  exact ⟨rfl,bl⟩
 ·rw [if_neg h1]
  have u1:=decide_eq_false h1
  by_cases h2:x<k.X
  ·rw [if_pos h2]
   have u2:=decide_eq_true h2
   go_enter Tryz.func244,Tryz.ntmps244
   go_wp2_with fail
   go_ret
   exact ⟨rfl,bl⟩
  ·rw [if_neg h2]
   have u2:=decide_eq_false h2
   go_enter Tryz.func244,Tryz.ntmps244
   go_wp2_with fail
   go_ret
   exact ⟨rfl,bl⟩
theorem ent244:∀ args w,(callFunc 244 args).run Tryz.prog w=.ok (.enter 244 args) w:=by
 intro args w
 simp [go_sem]
theorem bsearch_any (xs:List Kn) (x:Int) (v:Value) (w:World) (hv:IsKns w v xs) (h:tabB xs=true) :
  Calls Tryz.prog 243 #[v,.int .i64 x,.func (.func 244) #[] #[]] w fun e w'=>e=.returned (.tuple #[.int .i64 (cntX xs x),.bool (hitX xs x)])/\Below w.heap.size w w':=by
 obtain ⟨a,cap,rfl,hcap,hbig,hs⟩:=hv
 have hlen:=tabB_len h
 have HT:=qh h
 have hent:=ent244
 clear h
 go_enter Tryz.func243,Tryz.ntmps243
 go_wp2_with fail
 go_loopw [9,10] (fun s9 s10 wr=>∃ i j:Nat,i<=j/\j<=xs.length/\s9=.int .i64 i/\s10=.int .i64 j/\Hid (∀ q (_:q<xs.length),q<i->xs[q].X<x)/\Hid (∀ q (_:q<xs.length),j<=q->x<=xs[q].X)/\Below w.heap.size w wr) (fun i j _=>(intOf j-intOf i).toNat)
 case atStart=>exact ⟨0,xs.length,Nat.zero_le _,Nat.le_refl _,rfl,rfl,fun q _ h=>absurd h (Nat.not_lt_zero _),fun q h1 h2=>absurd h1 om,qr⟩
 case round=>
  as_aux_lemma=>
  obtain ⟨i,j,hij,hjn,rfl,rfl,h1,h2,hb⟩:=hrel
  by_cases hlt:i<j
  ·obtain ⟨m,hm⟩:∃ m:Nat,((i:Int)+j) / 2=m:=⟨(i+j) / 2,by omega⟩
   have hmi:i<=m:=by omega
   have hmj:m<j:=by omega
   have hml:m<xs.length:=by omega
   obtain ⟨b,off,rfl,d1,d2⟩:=(hs.mono hb).kn m hml
   have hpc:=fun W=>piece1_any xs[m] x W
   have HLT:Hid (xs[m].X<x->∀ q (_:q<xs.length),q<m+1->xs[q].X<x):=by
    intro hx q hq hqm
    by_cases e:q=m
    ·subst e;exact hx
    ·have:=(tabB_lt HT.out q m om hml).1;omega
   have HGE:Hid (¬ xs[m].X<x->∀ q (_:q<xs.length),m<=q->x<=xs[q].X):=by
    intro hx q hq hqm
    by_cases e:q=m
    ·subst e;omega
    ·have:=(tabB_lt HT.out m q om hq).1;omega
   have x1:IntKind.i64.wrap ((i:Int)+(j:Int))=(i:Int)+j:=IntWalk.i64_in _ om
   have x2:IntKind.u64.wrap ((i:Int)+(j:Int))=(i:Int)+j:=by rw [IntKind.wrap_u64];omega
   have x3:IntKind.i64.wrap (m:Int)=(m:Int):=IntWalk.i64_in _ om
   have x4:IntKind.i64.wrap ((m:Int)+1)=(m:Int)+1:=IntWalk.i64_in _ om
   clear hs
   generalize xs[m]=k at *
   unfold cmpX at hpc
   by_cases hx:k.X<x
   ·rw [if_pos hx] at hpc
    have HX:=qh hx
    clear hx
    go_wp2_with fail
    refine Calls.to (hpc _) ?_
    rintro e w1 rfl hb1
    have hbb:=hb.trans (hb1.mono hb.size)
    go_wp2_with fail
    go_roundw
    case measure=>simp [intOf];omega
    case rel=>exact ⟨m+1,j,by omega,by omega,by go_num,rfl,HLT.out HX.out,h2,hbb⟩
   ·rw [if_neg hx] at hpc
    have HX:=qh hx
    obtain ⟨c,hc⟩:∃ c:Int,(if x<k.X then 1 else 0)=c:=⟨_,rfl⟩
    rw [hc] at hpc
    have g:=decide_eq_false (show ¬ c<0 by split at hc <;> omega)
    clear hx hc
    go_wp2_with fail
    refine Calls.to (hpc _) ?_
    rintro e w1 rfl hb1
    have hbb:=hb.trans (hb1.mono hb.size)
    go_wp2_with fail
    go_roundw
    case measure=>simp [intOf];omega
    case rel=>exact ⟨i,m,by omega,by omega,rfl,rfl,h1,HGE.out HX.out,hbb⟩
  ·obtain rfl:i=j:=by omega
   have HK:=qh (cntX_is HT.out x i om h1.out h2.out)
   by_cases hin:i<xs.length
   ·obtain ⟨b,off,rfl,d1,d2⟩:=(hs.mono hb).kn i hin
    have g1:=decide_eq_true hin
    have g1':=decide_eq_true (show (i:Int)<xs.length by omega)
    have hpc:=fun W=>piece1_any xs[i] x W
    have hge:=h2.out i hin (Nat.le_refl _)
    have HH:Hid (hitX xs x=decide (xs[i].X=x)):=by
     show _=_
     unfold hitX
     rw [<-HK.out,knAt_is hin]
     simp [hin]
    clear hs
    generalize xs[i]=k at *
    unfold cmpX at hpc
    rw [if_neg om] at hpc
    by_cases hx:x<k.X
    ·rw [if_pos hx] at hpc
     have hh2:=HH.out.trans (decide_eq_false (show ¬ k.X=x by omega))
     have HH2:=qh hh2
     clear hx hh2 hge
     go_wp2_with fail
     refine Calls.to (hpc _) ?_
     rintro e w1 rfl hb1
     have hbb:=hb.trans (hb1.mono hb.size)
     go_wp2_with fail
     go_ret2
     exact ⟨by rw [<-HK.out,HH2.out];rfl,hbb⟩
    ·rw [if_neg hx] at hpc
     have hh2:=HH.out.trans (decide_eq_true (show k.X=x by omega))
     have HH2:=qh hh2
     clear hx hh2 hge
     go_wp2_with fail
     refine Calls.to (hpc _) ?_
     rintro e w1 rfl hb1
     have hbb:=hb.trans (hb1.mono hb.size)
     go_wp2_with fail
     go_ret2
     exact ⟨by rw [<-HK.out,HH2.out];rfl,hbb⟩
   ·have g1:=decide_eq_false hin
    have g1':=decide_eq_false (show ¬ (i:Int)<xs.length by omega)
    have HH:Hid (hitX xs x=false):=by
     show _=_
     unfold hitX
     rw [<-HK.out]
     simp [hin]
    go_wp2_with fail
    go_ret2
    exact ⟨by rw [<-HK.out,HH.out];rfl,hb⟩
end Go.Proofs.YtoiakijmbghhlaaGreat
namespace Go.Proofs.YtoiakijmbghhlaaGreat
theorem knuth_gt {yn1 yn0 u c q rh:Nat} (h:q*yn1+rh=u) (hy:0<yn1*4294967296+yn0) :
  (4294967296*rh+c<q*yn0)↔(u*4294967296+c) / (yn1*4294967296+yn0)<q:=by
 rw [Nat.div_lt_iff_lt_mul hy,Nat.mul_add,<-Nat.mul_assoc]
 generalize q*yn1=A at *
 generalize q*yn0=B at *
 omega
theorem knuth_lt32 {y u c:Nat} (hu:u<y) (hc:c<4294967296):(u*4294967296+c) / y<4294967296:=by
 rw [Nat.div_lt_iff_lt_mul om]
 have:(u+1)*4294967296<=y*4294967296:=Nat.mul_le_mul_right _ hu
 rw [Nat.mul_comm 4294967296 y]
 omega
theorem knuth_brk {yn1 yn0 u q rh:Nat} (h:q*yn1+rh=u) (hu:u<yn1*4294967296+yn0) (h0:yn0<4294967296) (hr:4294967296<=rh):q<4294967296:=by
 have h1:q*yn1<4294967296*yn1:=by omega
 exact Nat.lt_of_mul_lt_mul_right h1
theorem knuth_first {yn1 yn0 u c:Nat} (h1:0<yn1):(u*4294967296+c) / (yn1*4294967296+yn0)<=u / yn1\/4294967296<=c:=by
 by_cases hc:4294967296<=c
 ·exact .inr hc
 ·left
  rw [Nat.le_div_iff_mul_le h1]
  have h2:=Nat.div_mul_le_self (u*4294967296+c) (yn1*4294967296+yn0)
  generalize (u*4294967296+c) / (yn1*4294967296+yn0)=q at *
  rw [Nat.mul_add,<-Nat.mul_assoc] at h2
  generalize q*yn1=A at *
  generalize q*yn0=B at *
  omega
theorem knuth_two {y a b c P:Nat} (hy:0<y) (q1 r1 q0 r0:Nat) (h1:a*P+b=q1*y+r1) (h0:r1*P+c=q0*y+r0) (hr:r0<y) :
  ((a*P+b)*P+c) / y=q1*P+q0/\((a*P+b)*P+c) % y=r0:=by
 have e:(a*P+b)*P+c=y*(q1*P+q0)+r0:=by
  rw [h1,Nat.add_mul,Nat.add_assoc,h0,Nat.mul_add,Nat.mul_comm y q0,Nat.mul_left_comm y q1 P,<-Nat.mul_assoc,Nat.add_assoc]
 rw [e]
 constructor
 ·rw [Nat.mul_add_div hy,Nat.div_eq_of_lt hr,Nat.add_zero]
 ·rw [Nat.mul_add_mod,Nat.mod_eq_of_lt hr]
theorem shift_div {N y s:Nat}:N*2 ^ s / (y*2 ^ s)=N / y/\N*2 ^ s % (y*2 ^ s)=(N % y)*2 ^ s:=
 ⟨Nat.mul_div_mul_right _ _ (Nat.two_pow_pos s),Nat.mul_mod_mul_right _ _ _⟩
theorem bitLen_pow:∀ (n x:Nat),x<=n->x<2 ^ 64->x≠0->∃ b,Lib.bitLen x=b+1/\2 ^ b<=x/\x<2 ^ (b+1)
 | 0,x,h,_,h0=>absurd (Nat.le_zero.1 h) h0
 | n+1,x,h,hx,h0=>by
  have e:=Lib.bitLen_half x h0 hx
  by_cases h1:x / 2=0
  ·have:x=1:=by omega
   subst this
   exact ⟨0,by rw [e];rfl,by decide,by decide⟩
  ·obtain ⟨b,e1,e2,e3⟩:=bitLen_pow n (x / 2) om om h1
   refine ⟨b+1,by rw [e,e1];omega,?_,?_⟩
   ·rw [Nat.pow_succ];omega
   ·rw [Nat.pow_succ];omega
theorem norm_shift {y:Nat} (h0:0<y) (hy:y<2 ^ 64):∃ s,s<=63/\Lib.bitLen y+s=64/\2 ^ 63<=y*2 ^ s/\y*2 ^ s<2 ^ 64:=by
 obtain ⟨b,e1,e2,e3⟩:=bitLen_pow y y (Nat.le_refl _) hy om
 have hb:b<=63:=by
  by_cases q:b<=63
  ·exact q
  ·have h64:2 ^ 64<=2 ^ b:=Nat.pow_le_pow_right (by decide) om
   omega
 refine ⟨63-b,by omega,by omega,?_,?_⟩
 ·have:2 ^ b*2 ^ (63-b)=2 ^ 63:=by rw [<-Nat.pow_add];congr 1;omega
  rw [<-this]
  exact Nat.mul_le_mul_right _ e2
 ·have:2 ^ (b+1)*2 ^ (63-b)=2 ^ 64:=by rw [<-Nat.pow_add];congr 1;omega
  rw [<-this]
  exact Nat.mul_lt_mul_of_pos_right e3 (Nat.two_pow_pos _)
theorem shift_split {hi lo s:Nat} (hlo:lo<2 ^ 64) (hs:s<=63) :
  (hi*2 ^ 64+lo)*2 ^ s=(hi*2 ^ s+lo / 2 ^ (64-s))*2 ^ 64+lo*2 ^ s % 2 ^ 64/\lo / 2 ^ (64-s)<2 ^ s/\lo*2 ^ s / 2 ^ 64=lo / 2 ^ (64-s):=by
 have e:2 ^ 64=2 ^ (64-s)*2 ^ s:=by rw [<-Nat.pow_add];congr 1;omega
 have h1:lo*2 ^ s / 2 ^ 64=lo / 2 ^ (64-s):=by rw [e,Nat.mul_div_mul_right _ _ (Nat.two_pow_pos s)]
 have h2:=Nat.div_add_mod (lo*2 ^ s) (2 ^ 64)
 rw [h1] at h2
 refine ⟨?_,?_,h1⟩
 ·rw [Nat.add_mul,Nat.add_mul,Nat.mul_right_comm]
  omega
 ·rw [Nat.div_lt_iff_lt_mul (Nat.two_pow_pos _),Nat.mul_comm,<-e]
  exact hlo
theorem or_join {a b s:Nat} (hb:b<2 ^ s):a*2 ^ s ||| b=a*2 ^ s+b:=by
 rw [Nat.mul_comm a,Nat.two_pow_add_eq_or_of_lt hb a]
end Go.Proofs.YtoiakijmbghhlaaGreat
namespace Go.Proofs
open Go.Shelf
def Tryz.laysLZ_ren:Go.Shelf.Ren:=⟨fun|134=>316|129=>301|n=>n,fun|53=>285|3=>3|4=>4|46=>49|5=>5|9=>9|n=>n,fun|n=>n⟩
theorem Tryz.laysLZ:Go.Proofs.Lays.n134 Tryz.prog Tryz.laysLZ_ren:={
 mixed:=by kernel_rfl
 f129:=Tryz.func301.trans (congrArg some (by kernel_rfl))
 f134:=Tryz.func316.trans (congrArg some (by kernel_rfl))
 t3:=Tryz.underlying3
 a3:=Tryz.isAgg3
 z3:=Tryz.sizeOf3
 v3:=Tryz.zeroValue3
 t4:=Tryz.underlying4
 a4:=Tryz.isAgg4
 z4:=Tryz.sizeOf4
 v4:=Tryz.zeroValue4
 t5:=Tryz.underlying5
 a5:=Tryz.isAgg5
 z5:=Tryz.sizeOf5
 v5:=Tryz.zeroValue5
 t9:=Tryz.underlying9
 a9:=Tryz.isAgg9
 z9:=Tryz.sizeOf9
 v9:=Tryz.zeroValue9
 t46:=Tryz.underlying49
 a46:=Tryz.isAgg49
 z46:=Tryz.sizeOf49
 v46:=Tryz.zeroValue49
 t53:=Tryz.underlying285
 a53:=Tryz.isAgg285
 z53:=Tryz.sizeOf285
 v53:=Tryz.zeroValue285 }
def Tryz.laysMul_ren:Go.Shelf.Ren:=⟨fun|264=>203|n=>n,fun|53=>285|46=>49|n=>n,fun|n=>n⟩
theorem Tryz.laysMul:Go.Proofs.Lays.n264 Tryz.prog Tryz.laysMul_ren:={
 mixed:=by kernel_rfl
 f264:=Tryz.func203.trans (congrArg some (by kernel_rfl))
 t46:=Tryz.underlying49
 a46:=Tryz.isAgg49
 z46:=Tryz.sizeOf49
 v46:=Tryz.zeroValue49
 t53:=Tryz.underlying285
 a53:=Tryz.isAgg285
 z53:=Tryz.sizeOf285
 v53:=Tryz.zeroValue285 }
def Tryz.laysAdd_ren:Go.Shelf.Ren:=⟨fun|25=>323|n=>n,fun|22=>285|n=>n,fun|n=>n⟩
theorem Tryz.laysAdd:Go.Proofs.Lays7.n25 Tryz.prog Tryz.laysAdd_ren:={
 mixed:=by kernel_rfl
 f25:=Tryz.func323.trans (congrArg some (by kernel_rfl))
 t22:=Tryz.underlying285
 a22:=Tryz.isAgg285
 z22:=Tryz.sizeOf285
 v22:=Tryz.zeroValue285
 i22:=by kernel_rfl }
def Tryz.laysSub_ren:Go.Shelf.Ren:=⟨fun|26=>324|n=>n,fun|22=>285|n=>n,fun|n=>n⟩
theorem Tryz.laysSub:Go.Proofs.Lays7.n26 Tryz.prog Tryz.laysSub_ren:={
 mixed:=by kernel_rfl
 f26:=Tryz.func324.trans (congrArg some (by kernel_rfl))
 t22:=Tryz.underlying285
 a22:=Tryz.isAgg285
 z22:=Tryz.sizeOf285
 v22:=Tryz.zeroValue285
 i22:=by kernel_rfl }
end Go.Proofs
namespace Go.Proofs.YtoiakijmbghhlaaGreat
open Go.RowKit
theorem lz_any (y:Nat) (w:World) (h:y<18446744073709551616):Calls Tryz.prog 316 #[.int .u64 (y:Int)] w fun e w'=>e=.returned (.int .i64 (64-(Lib.bitLen y:Int)))/\w'=w:=by
 have h1:=Any.bits_LeadingZeros64 Tryz.laysLZ (y:Int) w om om
 rw [Int.toNat_natCast] at h1
 exact h1
theorem mul64_any (x y:Nat) (w:World) (hx:x<18446744073709551616) (hy:y<18446744073709551616) :
  Calls Tryz.prog 203 #[.int .u64 (x:Int),.int .u64 (y:Int)] w fun e w'=>e=.returned (.tuple #[.int .u64 ((x*y / 18446744073709551616:Nat):Int),.int .u64 ((x*y % 18446744073709551616:Nat):Int)])/\w'=w:=
 Any.bits_Mul64 Tryz.laysMul x y hx hy w
theorem add64_run (x y c:Nat) (hc:c<=1) (w:World):(callFunc 323 #[.int .u64 (x:Int),.int .u64 (y:Int),.int .u64 (c:Int)]).run Tryz.prog w =
  .ok (.value (.tuple #[.int .u64 (((x+y+c) % 18446744073709551616:Nat):Int),.int .u64 (((x+y+c) / 18446744073709551616:Nat):Int)])) w:=Any7.bits_Add64 Tryz.laysAdd x y c hc w
theorem sub64_run (x y b:Nat) (hb:b<=1) (w:World):(callFunc 324 #[.int .u64 (x:Int),.int .u64 (y:Int),.int .u64 (b:Int)]).run Tryz.prog w =
  .ok (.value (.tuple #[.int .u64 (((x+18446744073709551616-y-b) % 18446744073709551616:Nat):Int),.int .u64 ((if x<y+b then 1 else 0:Nat):Int)])) w:=Any7.bits_Sub64 Tryz.laysSub x y b hb w
abbrev vU (H L:Nat):Value:=.agg #[.int .u64 (H:Int),.int .u64 (L:Int)]
abbrev vN (H L:Nat) (b:Bool):Value:=.agg #[.int .u64 (H:Int),.int .u64 (L:Int),.bool b]
theorem i64_u64 (n:Nat) (h:n<9223372036854775808):IntKind.u64.wrap (n:Int)=(n:Int):=by rw [IntKind.wrap_u64];omega
def nzB (H L:Nat):Bool:=!(decide (H=0)&&decide (L=0))
structure Bx2 (w:World) (B a b:Nat):Prop where
 c0:w.cell? ⟨B,0,none⟩=some (.int .u64 (a:Int))
 c1:w.cell? ⟨B,1,none⟩=some (.int .u64 (b:Int))
 f0:w.frozen? ⟨B,0,none⟩=false
 f1:w.frozen? ⟨B,1,none⟩=false
theorem Bx2.lt {w:World} {B a b:Nat} (h:Bx2 w B a b):B<w.heap.size:=lt_of_isSome (a:=⟨B,0,none⟩) (by rw [h.c0];rfl)
theorem Bx2.mono {w w':World} {B a b:Nat} (h:Bx2 w B a b) (hb:Below w.heap.size w w'):Bx2 w' B a b:=
 ⟨(hb.cell (p:=⟨B,0,none⟩) h.lt).trans h.c0,(hb.cell (p:=⟨B,1,none⟩) h.lt).trans h.c1,(hb.frozen (p:=⟨B,0,none⟩) h.lt).trans h.f0,(hb.frozen (p:=⟨B,1,none⟩) h.lt).trans h.f1⟩
theorem Bx2.new (w:World) (a b:Nat) (T:TypeId):Bx2 (w.alloc (.cells #[.int .u64 (a:Int),.int .u64 (b:Int)] T)) w.heap.size a b:=⟨by simp [go_sem],by simp [go_sem],by simp [go_sem],by simp [go_sem]⟩
theorem Bx2.other {w:World} {B a b:Nat} (h:Bx2 w B a b) (p:Addr) (u:Value) (hne:B≠p.block):Bx2 (w.setCell p u) B a b:=by
 have he:=Below.heap_setCell w p u B hne
 exact ⟨(World.cell?_of_block (w:=w) he).trans h.c0,(World.cell?_of_block (w:=w) he).trans h.c1,by rw [World.frozen?_setCell];exact h.f0,by rw [World.frozen?_setCell];exact h.f1⟩
theorem below_set2 {B C:Nat} {a w:World} (h:Below B a w) (hc:B<=C) (u v:Value):Below B a ((w.setCell ⟨C,0,none⟩ u).setCell ⟨C,1,none⟩ v):=(h.setCell (by exact hc) _).setCell (by exact hc) _
structure DvSt (w:World) (n aH aL D qH qL rL:Nat):Prop where
 A:Bx2 w n aH aL
 B:Bx2 w (n+1) 0 D
 P:Bx2 w (n+1+1) 0 0
 S:Bx2 w (n+1+1+1) 0 0
 Q:Bx2 w (n+1+1+1+1) qH qL
 R:Bx2 w (n+1+1+1+1+1) 0 rL
theorem DvSt.mono {w w':World} {n aH aL D qH qL rL:Nat} (h:DvSt w n aH aL D qH qL rL) (hb:Below w.heap.size w w'):DvSt w' n aH aL D qH qL rL:=
 ⟨h.A.mono hb,h.B.mono hb,h.P.mono hb,h.S.mono hb,h.Q.mono hb,h.R.mono hb⟩
structure Bx3 (w:World) (B a b:Nat) (c:Bool):Prop where
 c0:w.cell? ⟨B,0,none⟩=some (.int .u64 (a:Int))
 c1:w.cell? ⟨B,1,none⟩=some (.int .u64 (b:Int))
 c2:w.cell? ⟨B,2,none⟩=some (.bool c)
 f0:w.frozen? ⟨B,0,none⟩=false
 f1:w.frozen? ⟨B,1,none⟩=false
 f2:w.frozen? ⟨B,2,none⟩=false
theorem Bx3.lt {w:World} {B a b:Nat} {c:Bool} (h:Bx3 w B a b c):B<w.heap.size:=lt_of_isSome (a:=⟨B,0,none⟩) (by rw [h.c0];rfl)
theorem Bx3.mono {w w':World} {B a b:Nat} {c:Bool} (h:Bx3 w B a b c) (hb:Below w.heap.size w w'):Bx3 w' B a b c:=
 ⟨(hb.cell (p:=⟨B,0,none⟩) h.lt).trans h.c0,(hb.cell (p:=⟨B,1,none⟩) h.lt).trans h.c1,(hb.cell (p:=⟨B,2,none⟩) h.lt).trans h.c2,(hb.frozen (p:=⟨B,0,none⟩) h.lt).trans h.f0,(hb.frozen (p:=⟨B,1,none⟩) h.lt).trans h.f1,(hb.frozen (p:=⟨B,2,none⟩) h.lt).trans h.f2⟩
theorem Bx3.new (w:World) (a b:Nat) (c:Bool) (T:TypeId):Bx3 (w.alloc (.cells #[.int .u64 (a:Int),.int .u64 (b:Int),.bool c] T)) w.heap.size a b c:=⟨by simp [go_sem],by simp [go_sem],by simp [go_sem],by simp [go_sem],by simp [go_sem],by simp [go_sem]⟩
theorem ceil_val {V D q:Nat} (hD:0<D) {b:Bool} (hb:b = !decide (V=0)) (h:q=V / D+if b=true/\¬ V % D=0 then 1 else 0):q=(V+D-1) / D/\(b=false->q=0):=by
 have hV:=Nat.div_add_mod V D
 have hm:=Nat.mod_lt V hD
 constructor
 ·by_cases h0:V % D=0
  ·have e:V+D-1=D*(V / D)+(D-1):=by omega
   rw [h,e,Nat.mul_add_div hD,Nat.div_eq_of_lt (show D-1<D by omega)]
   simp [h0]
  ·have hv0:¬ V=0:=by rintro rfl;simp at h0
   have e:V+D-1=D*(V / D+1)+(V % D-1):=by rw [Nat.mul_add,Nat.mul_one];omega
   rw [h,e,Nat.mul_add_div hD,Nat.div_eq_of_lt (show V % D-1<D by omega),if_pos ⟨by rw [hb];simp [hv0],h0⟩]
 ·rintro rfl
  have hv0:V=0:=by simpa using hb
  subst hv0
  simpa using h
end Go.Proofs.YtoiakijmbghhlaaGreat
