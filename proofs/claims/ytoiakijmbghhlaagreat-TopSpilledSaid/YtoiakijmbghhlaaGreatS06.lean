/- Tables, plainly: the value between two knots, its rest, and the greatest place with at most a value; they do not descend. No function of the program is named. C -/
import Derived.Test.YtoiakijmbghhlaaGreatS03
import Derived.Test.YtoiakijmbghhlaaGreatS04
set_option linter.unusedVariables false
set_option linter.unusedSimpArgs false
set_option maxRecDepth 100000
set_option maxHeartbeats 32000000
namespace Go.Proofs.YtoiakijmbghhlaaGreat
open Go.RowKit
def cntX (xs:List Kn) (x:Int):Nat:=(xs.filter fun k=>decide (k.X<x)).length
def knAt (xs:List Kn) (i:Nat):Kn:=xs.getD i default
theorem knAt_is {xs:List Kn} {i:Nat} (h:i<xs.length):knAt xs i=xs[i]:=by simp [knAt,List.getD,List.getElem?_eq_getElem h]
theorem cntX_le (xs:List Kn) (x:Int):cntX xs x<=xs.length:=List.length_filter_le _ _
theorem cntX_pw:∀ {xs:List Kn},xs.Pairwise (fun a b=>a.X<b.X)->∀ (x:Int) (j:Nat) (hj:j<xs.length),(xs[j].X<x->j<cntX xs x)/\(x<=xs[j].X->cntX xs x<=j)
 | k :: r,hp,x,0,hj=>by
  rw [List.pairwise_cons] at hp
  unfold cntX
  constructor
  ·intro h
   simp only [List.getElem_cons_zero] at h
   rw [List.filter_cons,if_pos (by simpa using h)];simp
  ·intro h
   simp only [List.getElem_cons_zero] at h
   have:((k :: r).filter fun k=>decide (k.X<x)) = []:=by
    rw [List.filter_eq_nil_iff]
    intro y hy
    rcases List.mem_cons.1 hy with rfl|q
    ·simp;omega
    ·have:=hp.1 y q;simp;omega
   rw [this];simp
 | k :: r,hp,x,j+1,hj=>by
  rw [List.pairwise_cons] at hp
  have hj':j<r.length:=by simpa using hj
  have ih:=cntX_pw hp.2 x j hj'
  have hk:=hp.1 _ (List.getElem_mem hj')
  simp only [List.getElem_cons_succ]
  unfold cntX at ih ⊢
  rw [List.filter_cons]
  constructor
  ·intro h
   rw [if_pos (by simp;omega)]
   have:=ih.1 h
   simp only [List.length_cons];omega
  ·intro h
   have:=ih.2 h
   split
   ·simp only [List.length_cons];omega
   ·omega
theorem tabB_pw {xs:List Kn} (h:tabB xs=true):xs.Pairwise (fun a b=>a.X<b.X):=
 List.pairwise_iff_getElem.2 fun i j _ hj hij=>(tabB_lt h i j hij hj).1
theorem cntX_lt {xs:List Kn} (h:tabB xs=true) (x:Int) (j:Nat) (hj:j<xs.length):j<cntX xs x↔xs[j].X<x:=by
 obtain ⟨h1,h2⟩:=cntX_pw (tabB_pw h) x j hj
 constructor
 ·intro hh
  by_cases q:xs[j].X<x
  ·exact q
  ·have:=h2 om;omega
 ·exact h1
theorem cntX_is {xs:List Kn} (h:tabB xs=true) (x:Int) (k:Nat) (hk:k<=xs.length) (h1:∀ i (hi:i<xs.length),i<k->xs[i].X<x) (h2:∀ i (hi:i<xs.length),k<=i->x<=xs[i].X):k=cntX xs x:=by
 have hc:=cntX_le xs x
 rcases Nat.lt_trichotomy k (cntX xs x) with q|q|q
 ·have:=(cntX_lt h x k om).1 q
  have:=h2 k om (Nat.le_refl _)
  omega
 ·exact q
 ·have h3:=h1 (cntX xs x) om q
  have:=(cntX_lt h x (cntX xs x) om).2 h3
  omega
def hitX (xs:List Kn) (x:Int):Bool:=decide (cntX xs x<xs.length)&&decide ((knAt xs (cntX xs x)).X=x)
def tabP (xs:List Kn) (x:Int):Int×Int×Int:=
 let k:=cntX xs x
 if hitX xs x=true\/k=0 then ((knAt xs k).Y,0,1) else if k=xs.length then ((knAt xs (k-1)).Y,0,1)
 else
  let a:=knAt xs (k-1)
  let b:=knAt xs k
  (a.Y+(b.Y-a.Y)*(x-a.X) / (b.X-a.X),(b.Y-a.Y)*(x-a.X) % (b.X-a.X),b.X-a.X)
def tabV (xs:List Kn) (x:Int):Int:=(tabP xs x).1
theorem tabV_hit {xs:List Kn} {x:Int} (h:hitX xs x=true\/cntX xs x=0):tabP xs x=((knAt xs (cntX xs x)).Y,0,1):=by simp only [tabP,if_pos h]
theorem tabV_end {xs:List Kn} {x:Int} (h:¬ (hitX xs x=true\/cntX xs x=0)) (h2:cntX xs x=xs.length):tabP xs x=((knAt xs (cntX xs x-1)).Y,0,1):=by simp only [tabP,if_neg h,if_pos h2]
theorem tabV_mid {xs:List Kn} {x:Int} (h:¬ (hitX xs x=true\/cntX xs x=0)) (h2:¬ cntX xs x=xs.length):tabP xs x =
    ((knAt xs (cntX xs x - 1)).Y + ((knAt xs (cntX xs x)).Y - (knAt xs (cntX xs x - 1)).Y) * (x - (knAt xs (cntX xs x - 1)).X) / ((knAt xs (cntX xs x)).X - (knAt xs (cntX xs x - 1)).X),
     ((knAt xs (cntX xs x)).Y-(knAt xs (cntX xs x-1)).Y)*(x-(knAt xs (cntX xs x-1)).X) % ((knAt xs (cntX xs x)).X-(knAt xs (cntX xs x-1)).X),(knAt xs (cntX xs x)).X-(knAt xs (cntX xs x-1)).X):=by
  simp only [tabP,if_neg h,if_neg h2]
theorem tabV_between {xs:List Kn} (h:tabB xs=true) (x:Int):(∀ i (hi:i<xs.length),xs[i].X<=x->xs[i].Y<=tabV xs x)/\(∀ i (hi:i<xs.length),x<=xs[i].X->tabV xs x<=xs[i].Y):=by
 have hl:=tabB_len h
 have hc:=cntX_le xs x
 have hle:∀ i j (hij:i<=j) (hj:j<xs.length),xs[i].Y<=xs[j].Y:=by
  intro i j hij hj
  rcases Nat.lt_or_eq_of_le hij with q|rfl
  ·exact (tabB_lt h i j q hj).2
  ·exact Int.le_refl _
 have hlx:∀ i (hi:i<xs.length),i<cntX xs x↔xs[i].X<x:=fun i hi=>cntX_lt h x i hi
 unfold tabV
 by_cases h1:hitX xs x=true\/cntX xs x=0
 ·rw [tabV_hit h1]
  have hk:cntX xs x<xs.length:=by
   rcases h1 with q|q
   ·simp only [hitX,Bool.and_eq_true,decide_eq_true_eq] at q;exact q.1
   ·omega
  rw [knAt_is hk]
  refine ⟨fun i hi hx=>?_,fun i hi hx=>?_⟩
  ·refine hle i _ ?_ hk
   by_cases q:i<=cntX xs x
   ·exact q
   ·exfalso
    rcases h1 with hh|hh
    ·simp only [hitX,Bool.and_eq_true,decide_eq_true_eq] at hh
     rw [knAt_is hk] at hh
     have:=(tabB_lt h (cntX xs x) i om hi).1
     omega
    ·have hh0:=(tabB_lt h 0 i om hi).1
     have:=(hlx 0 om).2 om
     omega
  ·refine hle _ i ?_ hi
   by_cases q:cntX xs x<=i
   ·exact q
   ·have:=(hlx i hi).1 om;omega
 ·by_cases h2:cntX xs x=xs.length
  ·rw [tabV_end h1 h2]
   have hk:cntX xs x-1<xs.length:=by omega
   simp only
   rw [knAt_is hk]
   refine ⟨fun i hi hx=>hle i _ om hk,fun i hi hx=>?_⟩
   have:=(hlx i hi).1 om
   omega
  ·rw [tabV_mid h1 h2]
   simp only [not_or] at h1
   have hk:cntX xs x<xs.length:=by omega
   have hk1:cntX xs x-1<xs.length:=by omega
   simp only
   rw [knAt_is hk,knAt_is hk1]
   have ha:=(hlx (cntX xs x-1) hk1).1 om
   have hb:x<xs[cntX xs x].X:=by
    have q1:=(hlx (cntX xs x) hk)
    have q2:=h1.1
    simp only [hitX,Bool.and_eq_true,decide_eq_true_eq,not_and] at q2
    have q3:=q2 hk
    rw [knAt_is hk] at q3
    omega
   have hyy:=hle (cntX xs x-1) (cntX xs x) om hk
   have fA:∀ i (hi:i<xs.length),xs[i].X<=x->xs[i].Y<=xs[cntX xs x-1].Y:=by
    intro i hi hx
    refine hle i _ ?_ hk1
    by_cases q:i<=cntX xs x-1
    ·exact q
    ·exfalso
     by_cases q2:i=cntX xs x
     ·subst q2;omega
     ·have:=(tabB_lt h (cntX xs x) i om hi).1;omega
   have fB:∀ i (hi:i<xs.length),x<=xs[i].X->xs[cntX xs x].Y<=xs[i].Y:=by
    intro i hi hx
    refine hle _ i ?_ hi
    by_cases q:cntX xs x<=i
    ·exact q
    ·have:=(hlx i hi).1 om;omega
   clear hlx hle
   generalize xs[cntX xs x]=b at *
   generalize xs[cntX xs x-1]=a at *
   have n1:0<=(b.Y-a.Y)*(x-a.X) / (b.X-a.X):=Int.ediv_nonneg (Int.mul_nonneg om om) om
   have n2:(b.Y-a.Y)*(x-a.X) / (b.X-a.X)<=b.Y-a.Y:=by
    refine Int.ediv_le_of_le_mul om ?_
    exact Int.mul_le_mul_of_nonneg_left om om
   refine ⟨fun i hi hx=>?_,fun i hi hx=>?_⟩
   ·have:=fA i hi hx;omega
   ·have:=fB i hi hx;omega
theorem tabV_mono {xs:List Kn} (h:tabB xs=true) {x y:Int} (hxy:x<=y):tabV xs x<=tabV xs y:=by
 have hl:=tabB_len h
 have hcx:=cntX_le xs x
 have hcy:=cntX_le xs y
 have hlx:∀ i (hi:i<xs.length),i<cntX xs x↔xs[i].X<x:=fun i hi=>cntX_lt h x i hi
 have hly:∀ i (hi:i<xs.length),i<cntX xs y↔xs[i].X<y:=fun i hi=>cntX_lt h y i hi
 obtain ⟨_,bx⟩:=tabV_between h x
 obtain ⟨ay,_⟩:=tabV_between h y
 by_cases hm:∃ i,∃ hi:i<xs.length,x<=xs[i].X/\xs[i].X<=y
 ·obtain ⟨i,hi,h1,h2⟩:=hm
  have:=bx i hi h1
  have:=ay i hi h2
  omega
 ·have hno:∀ i (hi:i<xs.length),x<=xs[i].X->y<xs[i].X:=by
   intro i hi h1
   by_cases q:xs[i].X<=y
   ·exact absurd ⟨i,hi,h1,q⟩ hm
   ·omega
  have hk:cntX xs x=cntX xs y:=by
   refine cntX_is h y (cntX xs x) hcx (fun i hi q=>?_) (fun i hi q=>?_)
   ·have:=(hlx i hi).1 q;omega
   ·have h1:x<=xs[i].X:=by
     by_cases q2:xs[i].X<x
     ·have:=(hlx i hi).2 q2;omega
     ·omega
    have:=hno i hi h1;omega
  have hhx:hitX xs x=false:=by
   by_cases q:cntX xs x<xs.length
   ·have:=hno (cntX xs x) q
    simp only [hitX,q,decide_true,Bool.true_and,decide_eq_false_iff_not]
    rw [knAt_is q]
    intro e
    have:=this om
    omega
   ·simp [hitX,q]
  have hhy:hitX xs y=false:=by
   rw [<-Bool.not_eq_true]
   simp only [hitX,Bool.and_eq_true,decide_eq_true_eq,not_and]
   intro q e
   rw [<-hk] at q e
   rw [knAt_is q] at e
   have:=hno (cntX xs x) q om
   omega
  unfold tabV
  by_cases h0:cntX xs x=0
  ·rw [tabV_hit (.inr h0),tabV_hit (.inr (hk ▸ h0)),hk];exact Int.le_refl _
  ·have n1:¬ (hitX xs x=true\/cntX xs x=0):=by simp [hhx,h0]
   have n2:¬ (hitX xs y=true\/cntX xs y=0):=by rw [<-hk];simp [hhy,h0]
   by_cases h2:cntX xs x=xs.length
   ·rw [tabV_end n1 h2,tabV_end n2 (hk ▸ h2),hk];exact Int.le_refl _
   ·rw [tabV_mid n1 h2,tabV_mid n2 (hk ▸ h2),<-hk]
    have hkl:cntX xs x<xs.length:=by omega
    have hk1:cntX xs x-1<xs.length:=by omega
    simp only
    rw [knAt_is hkl,knAt_is hk1]
    have hs:=tabB_lt h (cntX xs x-1) (cntX xs x) om hkl
    generalize xs[cntX xs x]=b at *
    generalize xs[cntX xs x-1]=a at *
    have hmul:(b.Y-a.Y)*(x-a.X)<=(b.Y-a.Y)*(y-a.X):=Int.mul_le_mul_of_nonneg_left om om
    have:=Int.ediv_le_ediv (show 0<b.X-a.X by omega) hmul
    omega
theorem tabV_bd {xs:List Kn} (h:tabB xs=true) (x:Int):(xs[0]'(by have:=tabB_len h;omega)).Y<=tabV xs x/\tabV xs x<=(xs[xs.length-1]'(by have:=tabB_len h;omega)).Y:=by
 have hl:=tabB_len h
 have h0:=tabV_mono h (x:=min x (xs[0]'om).X) (y:=x) om
 have h1:=tabV_mono h (x:=x) (y:=max x (xs[xs.length-1]'om).X) om
 obtain ⟨a1,a2⟩:=tabV_between h x
 constructor
 ·by_cases q:(xs[0]'om).X<=x
  ·exact a1 0 om q
  ·have hc:cntX xs x=0:=by
    by_cases q2:cntX xs x=0
    ·exact q2
    ·have:=(cntX_lt h x 0 om).1 om;omega
   unfold tabV
   rw [tabV_hit (.inr hc),hc,knAt_is om]
   exact Int.le_refl _
 ·by_cases q:x<=(xs[xs.length-1]'om).X
  ·exact a2 (xs.length-1) om q
  ·have hc:cntX xs x=xs.length:=by
    have:=(cntX_lt h x (xs.length-1) om).2 om
    have:=cntX_le xs x
    omega
   have hn:¬ (hitX xs x=true\/cntX xs x=0):=by
    rw [hc];simp only [hitX,hc,Nat.lt_irrefl,decide_false,Bool.false_and]
    simp;intro e;rw [e] at hl;simp at hl
   unfold tabV
   rw [tabV_end hn hc,hc,knAt_is om]
   exact Int.le_refl _
def cmpX (k:Kn) (x:Int):Int:=if k.X<x then -1 else if x<k.X then 1 else 0
theorem piece1_any (k:Kn) (x:Int) (w:World):Calls Tryz.prog 244 #[vKn k,.int .i64 x] w fun e w'=>e=.returned (.int .i64 (cmpX k x))/\Below w.heap.size w w':=by
 unfold cmpX
 by_cases h1:k.X<x
 ·rw [if_pos h1]
  have u1:=decide_eq_true h1
  go_enter Tryz.func244,Tryz.ntmps244
  go_wp2_with fail
  go_ret
  exact ⟨rfl,bl⟩
 ·rw [if_neg h1]
  have u1:=decide_eq_false h1
  by_cases h2:x<k.X
  ·rw [if_pos h2]
   have u2:=decide_eq_true h2
   go_enter Tryz.func244,Tryz.ntmps244
   go_wp2_with fail
   go_ret
   exact ⟨rfl,bl⟩
  ·rw [if_neg h2]
   have u2:=decide_eq_false h2
   go_enter Tryz.func244,Tryz.ntmps244
   go_wp2_with fail
   go_ret
   exact ⟨rfl,bl⟩
theorem ent244:∀ args w,(callFunc 244 args).run Tryz.prog w=.ok (.enter 244 args) w:=by
 intro args w
 simp [go_sem]
theorem bsearch_any (xs:List Kn) (x:Int) (v:Value) (w:World) (hv:IsKns w v xs) (h:tabB xs=true) :
  Calls Tryz.prog 243 #[v,.int .i64 x,.func (.func 244) #[] #[]] w fun e w'=>e=.returned (.tuple #[.int .i64 (cntX xs x),.bool (hitX xs x)])/\Below w.heap.size w w':=by
 obtain ⟨a,cap,rfl,hcap,hbig,hs⟩:=hv
 have hlen:=tabB_len h
 have HT:=qh h
 have hent:=ent244
 clear h
 go_enter Tryz.func243,Tryz.ntmps243
 go_wp2_with fail
 go_loopw [9,10] (fun s9 s10 wr=>∃ i j:Nat,i<=j/\j<=xs.length/\s9=.int .i64 i/\s10=.int .i64 j/\Hid (∀ q (_:q<xs.length),q<i->xs[q].X<x)/\Hid (∀ q (_:q<xs.length),j<=q->x<=xs[q].X)/\Below w.heap.size w wr) (fun i j _=>(intOf j-intOf i).toNat)
 case atStart=>exact ⟨0,xs.length,Nat.zero_le _,Nat.le_refl _,rfl,rfl,fun q _ h=>absurd h (Nat.not_lt_zero _),fun q h1 h2=>absurd h1 om,qr⟩
 case round=>
  as_aux_lemma=>
  obtain ⟨i,j,hij,hjn,rfl,rfl,h1,h2,hb⟩:=hrel
  by_cases hlt:i<j
  ·obtain ⟨m,hm⟩:∃ m:Nat,((i:Int)+j) / 2=m:=⟨(i+j) / 2,by omega⟩
   have hmi:i<=m:=by omega
   have hmj:m<j:=by omega
   have hml:m<xs.length:=by omega
   obtain ⟨b,off,rfl,d1,d2⟩:=(hs.mono hb).kn m hml
   have hpc:=fun W=>piece1_any xs[m] x W
   have HLT:Hid (xs[m].X<x->∀ q (_:q<xs.length),q<m+1->xs[q].X<x):=by
    intro hx q hq hqm
    by_cases e:q=m
    ·subst e;exact hx
    ·have:=(tabB_lt HT.out q m om hml).1;omega
   have HGE:Hid (¬ xs[m].X<x->∀ q (_:q<xs.length),m<=q->x<=xs[q].X):=by
    intro hx q hq hqm
    by_cases e:q=m
    ·subst e;omega
    ·have:=(tabB_lt HT.out m q om hq).1;omega
   have x1:IntKind.i64.wrap ((i:Int)+(j:Int))=(i:Int)+j:=IntWalk.i64_in _ om
   have x2:IntKind.u64.wrap ((i:Int)+(j:Int))=(i:Int)+j:=by rw [IntKind.wrap_u64];omega
   have x3:IntKind.i64.wrap (m:Int)=(m:Int):=IntWalk.i64_in _ om
   have x4:IntKind.i64.wrap ((m:Int)+1)=(m:Int)+1:=IntWalk.i64_in _ om
   clear hs
   generalize xs[m]=k at *
   unfold cmpX at hpc
   by_cases hx:k.X<x
   ·rw [if_pos hx] at hpc
    have HX:=qh hx
    clear hx
    go_wp2_with fail
    refine Calls.to (hpc _) ?_
    rintro e w1 rfl hb1
    have hbb:=hb.trans (hb1.mono hb.size)
    go_wp2_with fail
    go_roundw
    case measure=>simp [intOf];omega
    case rel=>exact ⟨m+1,j,by omega,by omega,by go_num,rfl,HLT.out HX.out,h2,hbb⟩
   ·rw [if_neg hx] at hpc
    have HX:=qh hx
    obtain ⟨c,hc⟩:∃ c:Int,(if x<k.X then 1 else 0)=c:=⟨_,rfl⟩
    rw [hc] at hpc
    have g:=decide_eq_false (show ¬ c<0 by split at hc <;> omega)
    clear hx hc
    go_wp2_with fail
    refine Calls.to (hpc _) ?_
    rintro e w1 rfl hb1
    have hbb:=hb.trans (hb1.mono hb.size)
    go_wp2_with fail
    go_roundw
    case measure=>simp [intOf];omega
    case rel=>exact ⟨i,m,by omega,by omega,rfl,rfl,h1,HGE.out HX.out,hbb⟩
  ·obtain rfl:i=j:=by omega
   have HK:=qh (cntX_is HT.out x i om h1.out h2.out)
   by_cases hin:i<xs.length
   ·obtain ⟨b,off,rfl,d1,d2⟩:=(hs.mono hb).kn i hin
    have g1:=decide_eq_true hin
    have g1':=decide_eq_true (show (i:Int)<xs.length by omega)
    have hpc:=fun W=>piece1_any xs[i] x W
    have hge:=h2.out i hin (Nat.le_refl _)
    have HH:Hid (hitX xs x=decide (xs[i].X=x)):=by
     show _=_
     unfold hitX
     rw [<-HK.out,knAt_is hin]
     simp [hin]
    clear hs
    generalize xs[i]=k at *
    unfold cmpX at hpc
    rw [if_neg om] at hpc
    by_cases hx:x<k.X
    ·rw [if_pos hx] at hpc
     have hh2:=HH.out.trans (decide_eq_false (show ¬ k.X=x by omega))
     have HH2:=qh hh2
     clear hx hh2 hge
     go_wp2_with fail
     refine Calls.to (hpc _) ?_
     rintro e w1 rfl hb1
     have hbb:=hb.trans (hb1.mono hb.size)
     go_wp2_with fail
     go_ret2
     exact ⟨by rw [<-HK.out,HH2.out];rfl,hbb⟩
    ·rw [if_neg hx] at hpc
     have hh2:=HH.out.trans (decide_eq_true (show k.X=x by omega))
     have HH2:=qh hh2
     clear hx hh2 hge
     go_wp2_with fail
     refine Calls.to (hpc _) ?_
     rintro e w1 rfl hb1
     have hbb:=hb.trans (hb1.mono hb.size)
     go_wp2_with fail
     go_ret2
     exact ⟨by rw [<-HK.out,HH2.out];rfl,hbb⟩
   ·have g1:=decide_eq_false hin
    have g1':=decide_eq_false (show ¬ (i:Int)<xs.length by omega)
    have HH:Hid (hitX xs x=false):=by
     show _=_
     unfold hitX
     rw [<-HK.out]
     simp [hin]
    go_wp2_with fail
    go_ret2
    exact ⟨by rw [<-HK.out,HH.out];rfl,hb⟩
end Go.Proofs.YtoiakijmbghhlaaGreat
