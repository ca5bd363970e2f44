/- The first knot above a value, and the last one at most at it, plainly. No function of the program is named. Conditions: the table is right. | table.Most. Conditions: the table is right, and the value is at least its first one. | The value rounded up, plainly; the next place has more than the value. No function of the program is named. Conditions: the table is right. | (rows of the call's own) A function for each node and its number: storage.each, for any two functions that are called so. Conditions: the arguments read as data -/
import Derived.Test.YtoiakijmbghhlaaGreatS32
import Derived.Test.YtoiakijmbghhlaaGreatS12
import Derived.Test.YtoiakijmbghhlaaGreatS04
import Derived.Test.YtoiakijmbghhlaaGreatS17
import Derived.Test.YtoiakijmbghhlaaGreatS02
set_option linter.unusedVariables false
set_option linter.unusedSimpArgs false
set_option maxRecDepth 100000
set_option maxHeartbeats 32000000
namespace Go.Proofs.YtoiakijmbghhlaaGreat
open Go.RowKit
theorem idx_cntY:∀ {xs:List Kn},xs.Pairwise (fun a b=>a.Y<=b.Y)->∀ (y:Int) (i:Nat),idxFrom (fun k:Kn=>decide (y<k.Y)) xs i=if cntY xs y=xs.length then -1 else ((i+cntY xs y:Nat):Int)
 | [],_,y,i=>by simp [idxFrom,cntY]
 | k :: r,hp,y,i=>by
  rw [List.pairwise_cons] at hp
  have ih:=idx_cntY hp.2 y (i+1)
  have hle:=cntY_le r y
  by_cases h:y<k.Y
  ·have h0:cntY (k :: r) y=0:=by
    unfold cntY
    rw [List.length_eq_zero_iff,List.filter_eq_nil_iff]
    intro z hz
    rcases List.mem_cons.1 hz with rfl|q
    ·simp;omega
    ·have:=hp.1 z q;simp;omega
   rw [h0]
   simp [idxFrom,h]
  ·have h1:cntY (k :: r) y=cntY r y+1:=by
    unfold cntY
    rw [List.filter_cons,if_pos (by simp;omega)];simp
   rw [h1]
   simp only [idxFrom,List.length_cons]
   rw [if_neg (by simpa using h),ih]
   by_cases q:cntY r y=r.length
   ·rw [if_pos q,if_pos om]
   ·rw [if_neg q,if_neg om];omega
theorem cell_up {w w':World} {b off:Nat} {v:Value} (h:w.cell? ⟨b,off,none⟩=some v) (hb:Below w.heap.size w w'):w'.cell? ⟨b,off,none⟩=some v:=
 (hb.cell (p:=⟨b,off,none⟩) (lt_of_isSome (a:=⟨b,off,none⟩) (by rw [h];rfl))).trans h
theorem ent281:∀ args w,(callFunc 281 args).run Tryz.prog w=.ok (.enter 281 args) w:=by
 intro args w
 simp [go_sem]
theorem most1_any (k:Kn) (y:Int) (B:Nat) (w:World) (hy:w.cell? ⟨B,0,none⟩=some (.int .i64 y)):Calls Tryz.prog 281 #[vKn k,.pointer (some ⟨B,0,none⟩)] w fun e w'=>e=.returned (.bool (decide (y<k.Y)))/\Below w.heap.size w w':=by
 have hB:B<w.heap.size:=lt_of_isSome (a:=⟨B,0,none⟩) (by rw [hy];rfl)
 cases h:decide (y<k.Y)
 all_goals
  obtain ⟨kx,ky⟩:=k
  simp only at h
  go_enter Tryz.func281,Tryz.ntmps281
  go_wp2_with fail
  go_ret
  exact ⟨rfl,bl⟩
theorem most_any (xs:List Kn) (y:Int) (v:Value) (w:World) (hv:IsKns w v xs) (h:tabB xs=true) (h0:(xs[0]'(by have:=tabB_len h;omega)).Y<=y) :
  Calls Tryz.prog 236 #[v,.int .i64 y] w fun e w'=>e=.returned (.tuple #[.int .i64 (mostV xs y),.int .i64 0])/\Below w.heap.size w w':=by
 have hb0:=alloc_below w (.cells #[.int .i64 y] 3)
 have cy0:(w.alloc (.cells #[.int .i64 y] 3)).cell? ⟨w.heap.size,0,none⟩=some (.int .i64 y):=by simp [go_sem]
 have HV:=qh (hv.mono hb0)
 have hva:=tvalid_any xs v _ HV.out
 rw [h] at hva
 have hix:=fun W (hb:Below (w.alloc (.cells #[.int .i64 y] 3)).heap.size (w.alloc (.cells #[.int .i64 y] 3)) W)=>
  indexKn 281 #[.pointer (some ⟨w.heap.size,0,none⟩)] ent281 (fun k:Kn=>decide (y<k.Y)) xs v W (HV.out.mono hb) (fun W' hW' k _=>most1_any k y w.heap.size W' (cell_up (cell_up cy0 hb) hW'))
 rw [idx_cntY (tabB_pwY h) y 0,Nat.zero_add] at hix
 have hlen:=tabB_len h
 have hle:=cntY_le xs y
 have hk0:0<cntY xs y:=(cntY_lt h y 0 om).2 h0
 by_cases hk:cntY xs y=xs.length
 ·rw [mostV_end h y hk]
  rw [if_pos hk] at hix
  obtain ⟨a,cap,rfl,hcap,hbig,hs⟩:=hv
  have hl1:xs.length-1<xs.length:=by omega
  obtain ⟨⟨ax,ay⟩,hA⟩:∃ K,xs[xs.length-1]'hl1=K:=⟨_,rfl⟩
  rw [hA]
  show Calls _ _ _ _ fun e w'=>e=.returned (.tuple #[.int .i64 ax,.int .i64 0])/\Below w.heap.size w w'
  have x1:IntKind.i64.wrap ((xs.length:Int)-1)=((xs.length-1:Nat):Int):=by rw [IntKind.wrap_i64];omega
  have hqs:=hs
  clear hs h0 hk hk0 hle
  go_enter Tryz.func236,Tryz.ntmps236
  go_wp2_with fail
  refine Calls.to hva ?_
  rintro e w1 rfl hb1
  go_wp2_with fail
  refine Calls.to (hix w1 hb1) ?_
  rintro e w2 rfl hb2
  have hbb:=hb0.trans ((hb1.trans (hb2.mono hb1.size)).mono hb0.size)
  obtain ⟨b,off,rfl,d1,d2⟩:=(hqs.mono hbb).kn (xs.length-1) hl1
  rw [hA] at d1 d2
  simp only at d1 d2
  clear hix hva hqs hA
  generalize xs.length-1=m at *
  go_wp2_with fail
  go_ret2
  exact ⟨rfl,hbb⟩
 ·obtain ⟨m,hm⟩:∃ m,cntY xs y=m+1:=⟨cntY xs y-1,by omega⟩
  have hm0:m<xs.length:=by omega
  have hm1:m+1<xs.length:=by omega
  obtain ⟨e,e1,e2⟩:=mostV_mid h y m hm0 hm1 hm
  have hst:=tabB_lt h m (m+1) om hm1
  have t0:=tabB_at h m hm0
  have t1:=tabB_at h (m+1) hm1
  rw [if_neg hk,hm] at hix
  rw [e]
  clear e
  obtain ⟨a,cap,rfl,hcap,hbig,hs⟩:=hv
  obtain ⟨⟨ax,ay⟩,hA⟩:∃ K,xs[m]=K:=⟨_,rfl⟩
  obtain ⟨⟨bx,b_y⟩,hB⟩:∃ K,xs[m+1]=K:=⟨_,rfl⟩
  rw [hA] at e1 hst t0 ⊢
  rw [hB] at e2 hst t1 ⊢
  simp only at e1 e2 hst t0 t1 ⊢
  obtain ⟨U,eU⟩:∃ U:Nat,y-ay=U:=⟨(y-ay).toNat,by omega⟩
  obtain ⟨E,eE⟩:∃ E:Nat,bx-ax=E:=⟨(bx-ax).toNat,by omega⟩
  obtain ⟨D,eD⟩:∃ D:Nat,b_y-ay=D:=⟨(b_y-ay).toNat,by omega⟩
  have hUD:U<D:=by omega
  have hD0:0<D:=by omega
  have hqE:U*E / D<=E:=Nat.div_le_of_le_mul (Nat.mul_le_mul_right _ (Nat.le_of_lt hUD))
  have hsc:=fun W=>wscale_any U E D W om om hD0 om (by rw [quoN_up hD0];exact q_small _ _ (Nat.le_trans hqE om))
  have eq0:quoN (U*E) D false=U*E / D:=by simp [quoN]
  rw [eq0] at hsc
  rw [eU,eE,eD,<-Int.natCast_mul,<-Int.natCast_ediv]
  generalize U*E / D=q at *
  generalize quoN (U*E) D true=qu at *
  have x1:IntKind.i64.wrap (((m+1:Nat):Int)-1)=(m:Int):=by rw [IntKind.wrap_i64];omega
  have x2:IntKind.i64.wrap (y-ay)=(U:Int):=by rw [eU,IntKind.wrap_i64];omega
  have x3:IntKind.i64.wrap (bx-ax)=(E:Int):=by rw [eE,IntKind.wrap_i64];omega
  have x4:IntKind.i64.wrap (b_y-ay)=(D:Int):=by rw [eD,IntKind.wrap_i64];omega
  have x5:IntKind.i64.wrap (ax+(q:Int))=ax+(q:Int):=by rw [IntKind.wrap_i64];omega
  have g0:(((m+1:Nat):Int)==0)=false:=by rw [beq_eq_false_iff_ne];omega
  have g1:(((m+1:Nat):Int) == -1)=false:=by rw [beq_eq_false_iff_ne];omega
  have hqs:=hs
  clear hs h0 hk hk0 hle hm e1 e2 hst t0 t1 eU eE eD hUD hD0 hqE eq0 h
  go_enter Tryz.func236,Tryz.ntmps236
  go_wp2_with fail
  refine Calls.to hva ?_
  rintro e w1 rfl hb1
  go_wp2_with fail
  refine Calls.to (hix w1 hb1) ?_
  rintro e w2 rfl hb2
  have cy:=cell_up (cell_up cy0 hb1) hb2
  have hb2:=hb0.trans ((hb1.trans (hb2.mono hb1.size)).mono hb0.size)
  obtain ⟨b,off,rfl,d1,d2⟩:=(hqs.mono hb2).kn m hm0
  obtain ⟨b',off',e',d3,d4⟩:=(hqs.mono hb2).kn (m+1) hm1
  obtain ⟨rfl,rfl⟩:b'=b/\off'=off:=by cases e';exact ⟨rfl,rfl⟩
  rw [hA] at d1 d2
  rw [hB] at d3 d4
  simp only at d1 d2 d3 d4
  clear hix hva hqs hA hB hb1 hb0 cy0
  go_wp2_with fail
  go_region
  ·have hX:Sp2 (((w2.alloc (.cells #[.int .i64 ax,.int .i64 ay] 100)).alloc (.cells #[.int .i64 bx,.int .i64 b_y] 100)).drew) w2.heap.size ax ay:=⟨by simp [go_sem],by simp [go_sem]⟩
   have hZ:Sp2 (((w2.alloc (.cells #[.int .i64 ax,.int .i64 ay] 100)).alloc (.cells #[.int .i64 bx,.int .i64 b_y] 100)).drew) (w2.heap.size+1) bx b_y:=⟨by simp [go_sem],by simp [go_sem]⟩
   have hbW:Below w.heap.size w (((w2.alloc (.cells #[.int .i64 ax,.int .i64 ay] 100)).alloc (.cells #[.int .i64 bx,.int .i64 b_y] 100)).drew):=by
    have:=hb2.size
    exact bl
   have cy2:(((w2.alloc (.cells #[.int .i64 ax,.int .i64 ay] 100)).alloc (.cells #[.int .i64 bx,.int .i64 b_y] 100)).drew).cell? ⟨w.heap.size,0,none⟩=some (.int .i64 y):=by
    have hlt:w.heap.size<w2.heap.size:=lt_of_isSome (a:=⟨w.heap.size,0,none⟩) (by rw [cy];rfl)
    exact (show Below w2.heap.size w2 (((w2.alloc (.cells #[.int .i64 ax,.int .i64 ay] 100)).alloc (.cells #[.int .i64 bx,.int .i64 b_y] 100)).drew) from bl).cell (p:=⟨w.heap.size,0,none⟩) hlt |>.trans cy
   have HX:=qh hX
   obtain ⟨p0,p1⟩:=hX
   obtain ⟨q0,q1⟩:=hZ
   clear d1 d2 d3 d4 cy hb2
   go_wp2_with fail
   refine Calls.go hbW (hsc _) ?_
   rintro e w3 rfl hb3' hb3
   clear p0 p1 q0 q1 cy2
   have hX:=HX.out.mono hb3'
   obtain ⟨p0,p1⟩:=hX
   clear hb3' hsc hbW
   go_wp2_with fail
   go_ret2
   exact ⟨rfl,hb3⟩
  ·have hX:Sp2 (((w2.alloc (.cells #[.int .i64 bx,.int .i64 b_y] 100)).alloc (.cells #[.int .i64 ax,.int .i64 ay] 100)).drew) (w2.heap.size+1) ax ay:=⟨by simp [go_sem],by simp [go_sem]⟩
   have hZ:Sp2 (((w2.alloc (.cells #[.int .i64 bx,.int .i64 b_y] 100)).alloc (.cells #[.int .i64 ax,.int .i64 ay] 100)).drew) w2.heap.size bx b_y:=⟨by simp [go_sem],by simp [go_sem]⟩
   have hbW:Below w.heap.size w (((w2.alloc (.cells #[.int .i64 bx,.int .i64 b_y] 100)).alloc (.cells #[.int .i64 ax,.int .i64 ay] 100)).drew):=by
    have:=hb2.size
    exact bl
   have cy2:(((w2.alloc (.cells #[.int .i64 bx,.int .i64 b_y] 100)).alloc (.cells #[.int .i64 ax,.int .i64 ay] 100)).drew).cell? ⟨w.heap.size,0,none⟩=some (.int .i64 y):=by
    have hlt:w.heap.size<w2.heap.size:=lt_of_isSome (a:=⟨w.heap.size,0,none⟩) (by rw [cy];rfl)
    exact (show Below w2.heap.size w2 (((w2.alloc (.cells #[.int .i64 bx,.int .i64 b_y] 100)).alloc (.cells #[.int .i64 ax,.int .i64 ay] 100)).drew) from bl).cell (p:=⟨w.heap.size,0,none⟩) hlt |>.trans cy
   have HX:=qh hX
   obtain ⟨p0,p1⟩:=hX
   obtain ⟨q0,q1⟩:=hZ
   clear d1 d2 d3 d4 cy hb2
   go_wp2_with fail
   refine Calls.go hbW (hsc _) ?_
   rintro e w3 rfl hb3' hb3
   clear p0 p1 q0 q1 cy2
   have hX:=HX.out.mono hb3'
   obtain ⟨p0,p1⟩:=hX
   clear hb3' hsc hbW
   go_wp2_with fail
   go_ret2
   exact ⟨rfl,hb3⟩
def fitGo (fit:Nd->Int->Bool):List Nd->List Int->Bool
 | x :: xs,v :: vs=>fit x v&&fitGo fit xs vs
 | _,_=>true
def eachM (fit:Nd->Int->Bool) (val:Nd->Int->Int) (n:Net) (l:List Int):List Int×Int:=
 if netB n=false then ([],1) else if ¬ l.length=n.Ns.xs.length then ([],3) else if fitGo fit n.Ns.xs l=false then ([],2) else (List.zipWith val n.Ns.xs l,0)
theorem fitGo_at {fit:Nd->Int->Bool}:∀ {ns:List Nd} {l:List Int},fitGo fit ns l=true->∀ k (h1:k<ns.length) (h2:k<l.length),fit ns[k] l[k]=true
 | x :: xs,v :: vs,h,0,_,_=>by simp [fitGo] at h;exact h.1
 | x :: xs,v :: vs,h,k+1,h1,h2=>by
  simp [fitGo] at h
  simpa using fitGo_at h.2 k (by simpa using h1) (by simpa using h2)
 | [],_,_,k,h1,_=>by simp at h1
 | _ :: _,[],_,k,_,h2=>by simp at h2
structure NdFun (g:Nat) (w:World) (res:Nd->Int->Value) (ok:Nd->Int->Prop):Prop where
 ent:∀ args w,(callFunc g args).run Tryz.prog w=.ok (.enter g args) w
 run:∀ W,Below w.heap.size w W->∀ x v,gNd W x->ok x v->Calls Tryz.prog g #[vNd x,.int .i64 v] W fun e w'=>e=.returned (res x v)/\Below W.heap.size W w'
theorem each_any (g1 g2:Nat) (n:Net) (l:Sl Int) (fit:Nd->Int->Bool) (val:Nd->Int->Int) (w:World) (hg:gNet w n) (hl:gInts w l)
  (hf:NdFun g1 w (fun x v=>.bool (fit x v)) (fun x _=>ndB x=true)) (hd:NdFun g2 w (fun x v=>.tuple #[.int .i64 (val x v),.int .i64 0]) (fun x v=>ndB x=true/\fit x v=true)) :
  Calls Tryz.prog 186 #[vNet n,vSl l,.func (.func g1) #[] #[],.func (.func g2) #[] #[]] w fun e w'=>
   (∃ v,e=.returned (.tuple #[v,.int .i64 (eachM fit val n l.xs).2])/\Own w.heap.size 3 eInt 1 w' v (eachM fit val n l.xs).1)/\Below w.heap.size w w':=by
 obtain ⟨⟨na,nc,nxs⟩,⟨la,lc,lxs⟩⟩:=n
 obtain ⟨va,vc,vs⟩:=l
 have hb0:Below w.heap.size w (w.alloc (.cells #[.slice na nxs.length nc,.slice la lxs.length lc] 25)):=qr.alloc (Nat.le_refl _) _
 have hva:=nvalid_any ⟨⟨na,nc,nxs⟩,⟨la,lc,lxs⟩⟩ _ (rdNet.mono hg hb0)
 obtain ⟨⟨R,E⟩,hres⟩:∃ r,eachM fit val ⟨⟨na,nc,nxs⟩,⟨la,lc,lxs⟩⟩ vs=r:=⟨_,rfl⟩
 simp only at hres ⊢
 rw [hres]
 obtain ⟨vb,hvb⟩:∃ vb,netB ⟨⟨na,nc,nxs⟩,⟨la,lc,lxs⟩⟩=vb:=⟨_,rfl⟩
 rw [hvb] at hva
 have HR:Hid ((R,E)=if vb=false then ([],1) else if ¬ vs.length=nxs.length then ([],3) else if fitGo fit nxs vs=false then ([],2) else (List.zipWith val nxs vs,0)):=qh (hres.symm.trans (by unfold eachM;rw [hvb]))
 have HND:Hid (vb=true->∀ k (h:k<nxs.length),ndB nxs[k]=true):=qh (fun h k hk=>(netB_nd (hvb.trans h) k hk).1)
 have HLB:Hid (vb=true->nxs.length<=300):=qh (fun h=>by have:=hvb.trans h;simp [netB] at this;omega)
 have hV:IsC eInt 1 w va vs:=hl.2.2.1
 have HBV:Hid (vs.length<=9223372036854775807):=qh (Nat.le_trans hl.1 hl.2.1)
 have hN:=hg.1.2.2
 simp only at hN
 have HE0:=qh (boxNet w · 25 ⟨⟨na,nc,nxs⟩,⟨la,lc,lxs⟩⟩ _ rfl _ rfl)
 clear hres hvb hg hl
 simp only [vNet,vSl] at hva ⊢
 have ent1:=hf.ent
 have ent2:=hd.ent
 cases vb
 ·have h2:=HR.out
  rw [if_pos rfl] at h2
  simp only [Prod.mk.injEq] at h2
  obtain ⟨rfl,rfl⟩:=h2
  clear HR hV hN
  go_enter Tryz.func186,Tryz.ntmps186
  go_wp2_with fail
  refine Calls.go hb0 hva ?_
  rintro e w1 rfl _ hb1
  go_wp2_with fail
  go_ret2
  exact ⟨⟨_,rfl,World.ownsRow_nil _ _ _ _⟩,hb1⟩
 by_cases hlen:vs.length=nxs.length
 rotate_left
 ·have h2:=HR.out
  rw [if_neg (by simp),if_pos hlen] at h2
  simp only [Prod.mk.injEq] at h2
  obtain ⟨rfl,rfl⟩:=h2
  have q:=bneT (a:=(vs.length:Int)) (b:=(nxs.length:Int)) om
  have q':(vs.length != nxs.length)=true:=by simpa using hlen
  clear HR hV hN hlen
  go_enter Tryz.func186,Tryz.ntmps186
  go_wp2_with fail
  refine Calls.go hb0 hva ?_
  rintro e w1 rfl hb1' hb1
  obtain ⟨e0,e1⟩:=HE0.out w1 (hb1'.mono (by simp))
  simp only [vSl] at e0 e1
  clear hb1'
  go_wp2_with fail
  go_ret2
  exact ⟨⟨_,rfl,World.ownsRow_nil _ _ _ _⟩,hb1⟩
 have q:=bneF (a:=(vs.length:Int)) (b:=(nxs.length:Int)) om
 have q':(vs.length != nxs.length)=false:=by simpa using hlen
 have h2:=HR.out
 rw [if_neg (by simp),if_neg (by simpa using hlen)] at h2
 have HR:=qh h2
 have HLN:=qh hlen
 have hND:=HND.out rfl
 clear h2 hlen HND
 go_enter Tryz.func186,Tryz.ntmps186
 go_wp2_with fail
 refine Calls.go hb0 hva ?_
 rintro e w1 rfl hb1' hb1
 have hbN:Below (w.heap.size+1) (w.alloc (.cells #[.slice na nxs.length nc,.slice la lxs.length lc] 25)) w1:=hb1'.mono (by simp)
 obtain ⟨e0,e1⟩:=HE0.out w1 hbN
 simp only [vSl] at e0 e1
 clear hb1' hva
 go_wp2_with fail
 go_loopw [10,11,31] (fun _ _ s31 wr=>∃ k:Nat,k<=nxs.length/\s31=.int .i64 k/\Below (w.heap.size+1) (w.alloc (.cells #[.slice na nxs.length nc,.slice la lxs.length lc] 25)) wr/\Hid (fitGo fit nxs vs=fitGo fit (nxs.drop k) (vs.drop k))) (fun _ _ i _=>nxs.length-(intOf i).toNat)
 case atStart=>exact ⟨0,Nat.zero_le _,rfl,hbN,rfl⟩
 clear hb1 hbN e0 e1
 case round=>
  as_aux_lemma=>
  obtain ⟨k,hk,rfl,hb,hm⟩:=hrel
  have hbw:Below w.heap.size w wr:=hb0.trans (hb.mono om)
  obtain ⟨e0,e1⟩:=HE0.out wr hb
  simp only [vSl] at e0 e1
  by_cases hlt:k<nxs.length
  ·have kv:k<vs.length:=by have:=HLN.out;omega
   obtain ⟨b,off,rfl,c0,c1,c2,c3,c4,c5,c6,c7,c8⟩:=(hN.1.mono hbw).nd k hlt
   obtain ⟨vb,vo,rfl,cv⟩:=(hV.mono hbw).int k kv
   have gx:=rdNd.mono (hN.2 _ (List.getElem_mem hlt)) hbw
   have hnk:=hND k hlt
   have hstep:Hid (fitGo fit (nxs.drop k) (vs.drop k)=(fit nxs[k] vs[k]&&fitGo fit (nxs.drop (k+1)) (vs.drop (k+1)))):=by
    rw [List.drop_eq_getElem_cons hlt,List.drop_eq_getElem_cons kv];rfl
   have i1:(0:Int)<=k:=by omega
   have i2:(k:Int)<vs.length:=by omega
   have x1:IntKind.i64.wrap ((k:Int)+1)=k+1:=IntWalk.i64_in _ (by have:=HBV.out;omega)
   have hff:=fun W (hW:Below w.heap.size w W) (gW:gNd W (nxs[k]'hlt))=>hf.run W hW (nxs[k]'hlt) (vs[k]'kv) gW hnk
   clear hN hV hND hf hd
   generalize nxs[k]=x at *
   generalize vs[k]=v at *
   obtain ⟨fb,hfb⟩:∃ fb,fit x v=fb:=⟨_,rfl⟩
   simp only [hfb] at hstep hff
   clear hfb
   have hbA:=hbw.alloc hbw.size (.cells #[.string x.Name,.int .i64 x.Kind,.int .i64 x.AX,.int .i64 x.AY,.int .i64 x.Inv,.int .i64 x.Gr,.slice x.Sh.a x.Sh.xs.length x.Sh.cap,.bool x.Pro,.int .i64 x.Res] 48)
   have gx1:=rdNd.mono gx (alloc_below wr (.cells #[.string x.Name,.int .i64 x.Kind,.int .i64 x.AX,.int .i64 x.AY,.int .i64 x.Inv,.int .i64 x.Gr,.slice x.Sh.a x.Sh.xs.length x.Sh.cap,.bool x.Pro,.int .i64 x.Res] 48))
   have hbB:=hb.alloc (by simpa using hb.size) (.cells #[.string x.Name,.int .i64 x.Kind,.int .i64 x.AX,.int .i64 x.AY,.int .i64 x.Inv,.int .i64 x.Gr,.slice x.Sh.a x.Sh.xs.length x.Sh.cap,.bool x.Pro,.int .i64 x.Res] 48)
   cases fb
   ·have h2:=HR.out
    rw [if_pos (by rw [hm.out,hstep.out];rfl)] at h2
    simp only [Prod.mk.injEq] at h2
    obtain ⟨rfl,rfl⟩:=h2
    clear HR hm hstep
    go_wp2_with fail
    refine wp_region_more_lit (by kernel_rfl) (by kernel_rfl) ?_
    repeat (go_big_quiet_step ((exact Calls.more_of (hff _ (hbA.trans ((below_more _ _).mono hbA.size)) (rdNd.mono gx1 (below_more _ _))))))
    refine wpQuiet_nil ?_
    intro _ hwq
    obtain ⟨xq,hwq⟩:=hwq
    subst hwq
    go_wp2_with fail
    go_ret2
    exact ⟨⟨_,rfl,World.ownsRow_nil _ _ _ _⟩,Below.more hbA hbA.size xq⟩
   ·have HM:=qh (hm.out.trans (hstep.out.trans (Bool.true_and _)))
    clear hm hstep HR
    go_wp2_with fail
    refine wp_region_more_lit (by kernel_rfl) (by kernel_rfl) ?_
    repeat (go_big_quiet_step ((exact Calls.more_of (hff _ (hbA.trans ((below_more _ _).mono hbA.size)) (rdNd.mono gx1 (below_more _ _))))))
    refine wpQuiet_nil ?_
    intro _ hwq
    obtain ⟨xq,hwq⟩:=hwq
    subst hwq
    have hbC:=Below.more hbB (by have h:=hbB.size;simp at h ⊢;omega) xq
    go_wp2_with fail
    go_roundw
    case measure=>simp [intOf];omega
    case rel=>exact ⟨k+1,by omega,by go_num,hbC,HM.out⟩
  ·have HFT:Hid (fitGo fit nxs vs=true):=by
    refine qh (hm.out.trans ?_)
    rw [List.drop_eq_nil_of_le (by omega:nxs.length<=k)]
    cases vs.drop k <;> rfl
   have h2:=HR.out
   rw [if_neg (by rw [HFT.out];simp)] at h2
   simp only [Prod.mk.injEq] at h2
   obtain ⟨rfl,rfl⟩:=h2
   clear HR hm hf
   go_wp2_with fail
   go_loopw [12,48] (fun s12 s48 wr=>∃ k:Nat,k<=nxs.length/\s48=.int .i64 k/\Own (w.heap.size+1) 3 eInt 1 wr s12 ((List.zipWith val nxs vs).take k)/\Below (w.heap.size+1) (w.alloc (.cells #[.slice na nxs.length nc,.slice la lxs.length lc] 25)) wr) (fun _ i _=>nxs.length-(intOf i).toNat)
   case atStart=>exact ⟨0,Nat.zero_le _,rfl,by rw [List.take_zero];exact World.ownsRow_nil _ _ _ _,hb⟩
   clear hb hbw e0 e1
   case round=>
    as_aux_lemma=>
    obtain ⟨k,hk,rfl,hown,hb⟩:=hrel
    have hbw:Below w.heap.size w wr:=hb0.trans (hb.mono om)
    obtain ⟨e0,e1⟩:=HE0.out wr hb
    simp only [vSl] at e0 e1
    have hol:((List.zipWith val nxs vs).take k).length=k:=by rw [List.length_take,List.length_zipWith];have:=HLN.out;omega
    by_cases hlt:k<nxs.length
    ·have kv:k<vs.length:=by have:=HLN.out;omega
     obtain ⟨b,off,rfl,c0,c1,c2,c3,c4,c5,c6,c7,c8⟩:=(hN.1.mono hbw).nd k hlt
     obtain ⟨vb,vo,rfl,cv⟩:=(hV.mono hbw).int k kv
     have gx:=rdNd.mono (hN.2 _ (List.getElem_mem hlt)) hbw
     have hnk:=hND k hlt
     have HT:Hid ((List.zipWith val nxs vs).take (k+1)=(List.zipWith val nxs vs).take k ++ [val nxs[k] vs[k]]):=by
      show _=_
      rw [List.take_succ_eq_append_getElem (by rw [List.length_zipWith];omega)]
      simp
     have i1:(0:Int)<=k:=by omega
     have i2:(k:Int)<vs.length:=by omega
     have x1:IntKind.i64.wrap ((k:Int)+1)=k+1:=IntWalk.i64_in _ (by have:=HBV.out;omega)
     have hdd:=fun W (hW:Below w.heap.size w W) (gW:gNd W (nxs[k]'hlt))=>hd.run W hW (nxs[k]'hlt) (vs[k]'kv) gW ⟨hnk,fitGo_at HFT.out k hlt kv⟩
     have HBN:=qh (show k<9223372036854775807 from by have:=HBV.out;omega)
     clear hN hV hND hd HFT
     generalize nxs[k]=x at *
     generalize vs[k]=v at *
     generalize (List.zipWith val nxs vs).take k=ys at *
     obtain ⟨R,hR⟩:∃ R,val x v=R:=⟨_,rfl⟩
     simp only [hR] at HT hdd
     clear hR
     have hbA:=hbw.alloc hbw.size (.cells #[.string x.Name,.int .i64 x.Kind,.int .i64 x.AX,.int .i64 x.AY,.int .i64 x.Inv,.int .i64 x.Gr,.slice x.Sh.a x.Sh.xs.length x.Sh.cap,.bool x.Pro,.int .i64 x.Res] 48)
     have gx1:=rdNd.mono gx (alloc_below wr (.cells #[.string x.Name,.int .i64 x.Kind,.int .i64 x.AX,.int .i64 x.AY,.int .i64 x.Inv,.int .i64 x.Gr,.slice x.Sh.a x.Sh.xs.length x.Sh.cap,.bool x.Pro,.int .i64 x.Res] 48))
     have hbB:=hb.alloc (by simpa using hb.size) (.cells #[.string x.Name,.int .i64 x.Kind,.int .i64 x.AX,.int .i64 x.AY,.int .i64 x.Inv,.int .i64 x.Gr,.slice x.Sh.a x.Sh.xs.length x.Sh.cap,.bool x.Pro,.int .i64 x.Res] 48)
     have hownA:=hown.below (alloc_below wr (.cells #[.string x.Name,.int .i64 x.Kind,.int .i64 x.AX,.int .i64 x.AY,.int .i64 x.Inv,.int .i64 x.Gr,.slice x.Sh.a x.Sh.xs.length x.Sh.cap,.bool x.Pro,.int .i64 x.Res] 48))
     have HOL:=qh hol
     clear hol hown
     go_wp2_with fail
     refine wp_region_more_lit (by kernel_rfl) (by kernel_rfl) ?_
     repeat (go_big_quiet_step ((exact Calls.more_of (hdd _ (hbA.trans ((below_more _ _).mono hbA.size)) (rdNd.mono gx1 (below_more _ _))))))
     refine wpQuiet_nil ?_
     intro _ hwq
     obtain ⟨xq,hwq⟩:=hwq
     subst hwq
     have hbC:=Below.more hbB (by have h:=hbB.size;simp at h ⊢;omega) xq
     have hownC:=hownA.below (below_more _ xq)
     have hsz:w.heap.size+1<=(more (wr.alloc (.cells #[.string x.Name,.int .i64 x.Kind,.int .i64 x.AX,.int .i64 x.AY,.int .i64 x.Inv,.int .i64 x.Gr,.slice x.Sh.a x.Sh.xs.length x.Sh.cap,.bool x.Pro,.int .i64 x.Res] 48)) xq).heap.size:=by have h:=hbC.size;simp at h ⊢;omega
     have hyl:ys.length<2147483648:=by have h1:=HOL.out;have h2:=HLB.out trivial;omega
     clear hbA gx1 gx hbB hownA hdd c0 c1 c2 c3 c4 c5 c6 c7 c8 cv
     generalize more (wr.alloc (.cells #[.string x.Name,.int .i64 x.Kind,.int .i64 x.AX,.int .i64 x.AY,.int .i64 x.Inv,.int .i64 x.Gr,.slice x.Sh.a x.Sh.xs.length x.Sh.cap,.bool x.Pro,.int .i64 x.Res] 48)) xq=W2 at *
     go_wp2_with (at_builtin;go_must (refine wpList_pushB rfl _ _ 28 rfl 3 _ 1 8 undInts infInt rfl (by decide) R (fun _=>rfl) (by simp [Value.oneCell']) _ ys rfl hownC _ rfl rfl hyl (by decide) hsz _ rfl ?_);intro g3 cap3 w1 hown1 hbg1 hgl1 hb1 hc11 hc21)
     go_roundw
     case measure=>simp [intOf];omega
     case rel=>exact ⟨k+1,by omega,by go_num,by rw [HT.out];exact hown1,hbC.trans hb1⟩
    ·obtain rfl:k=nxs.length:=by omega
     rw [List.take_of_length_le (by rw [List.length_zipWith];omega)] at hown
     have is:=hown.base (Nat.le_succ w.heap.size)
     obtain ⟨aO,cO,rfl⟩:=hown.isSlice
     clear hol hown
     go_wp2_with fail
     go_ret2
     exact ⟨⟨_,rfl,is⟩,hbw⟩
end Go.Proofs.YtoiakijmbghhlaaGreat
