/- Parts of the proof. -/
import Derived.Test.YtknegckgmklnhaaGreatDoorVbQ3
import Derived.Test.YtknegckgmklnhaaGreatDoorVbW8
namespace Go.Proofs.YtknegckgmklnhaaGreatDoor
open Go Go.CP
set_option maxRecDepth 100000
section
variable {st:aa} {R:LV→aa→Prop}
def rcz (v:T) (a:AT):List LV:=if a.own&&decide ((dx v a.nm).kind=0) then [i64 1,.bool false,i64 0,i64 0,.str [],.nils,.nils] else rc (rT (dx v a.nm))
def zs (v:T) (l:List AT):List LV:=(l.map (rcz v)).flatten
theorem wx {v:T} {a:AT}:(rcz v a).length=7:=by unfold rcz;split;rfl;exact ey
theorem JA {v:T} {a:AT}:(rcz v a).all LV.one=true:=by unfold rcz;split;rfl;exact mQ
theorem JB {v:T} {l:List AT} {a:AT}:zs v (l++[a])=zs v l++rcz v a:=by simp[zs]
theorem H0 {s:aa} {v:T}:∀ {l:List AT},dps s (rcs ((cM l v).map fun e=>rT e.2)) (zs v l)
 | []=>rfl
 | a::l=>by
  show dps s (rc (rT (gI v a))++rcs ((cM l v).map fun e=>rT e.2)) (rcz v a++zs v l)
  refine uQ ?_ H0
  unfold gI rcz
  split
  ·obtain ⟨_,e,h⟩:=dpR (s:=s) (r:=rT .unknown) rfl rfl
   cases e
   exact h
  ·exact bA _ nN
structure ko (st:aa) (n:Int) (S:ST) (v:T) (fL fK:Option Nat) (i k:Nat):Prop where
 s:SV st n S.l v
 c2:st[2]?=some (.cells .rw z7)
 c3:st[3]?=some (.cells .rw [i64 7,.bool false,i64 0,i64 0,.str [],osl fL 7 i,osl fK 1 k])
 oL:bB .rw st fL 7 i (zs v (S.l.take i))
 oK:bB .rw st fK 1 k ((S.l.take k).map fun a=>.str a.nm)
 nL:∀ o,fL=some o→4≤o∧fK≠some o
 nK:∀ o,fK=some o→4≤o
variable {n:Int} {S:ST} {v:T} {fL fK:Option Nat} {i k:Nat} {a:AT}
theorem ct.fr {st st':aa} {Q:Nat→Prop} {o:Nat} {r:RV} (h:ct st o r) (hf:Fr st st' Q) (hn:¬ Q o):ct st' o r:=hf.get h hn
theorem mW.fr {st st':aa} {Q:Nat→Prop} {o:Nat} {n:Int} {l:List AT} (h:mW st o n l) (hf:Fr st st' Q) (hn:¬ Q o):mW st' o n l:=hf.get h hn
theorem ko.fr {st':aa} {Q:Nat→Prop} (h:ko st n S v fL fK i k) (hf:Fr st st' Q) (h4:∀ o,o<4→¬ Q o) (hl:∀ o,fL=some o→¬ Q o) (hk:∀ o,fK=some o→¬ Q o):ko st' n S v fL fK i k:=
 ⟨⟨h.s.a.fr hf (h4 0 (by omega)),h.s.b.fr hf (h4 1 (by omega))⟩,hf.get h.c2 (h4 2 (by omega)),hf.get h.c3 (h4 3 (by omega)),h.oL.fr hf hl,h.oK.fr hf hk,h.nL,h.nK⟩
theorem ko.app {y:av} (h:ko st n S v fL fK i k):ko (st++[y]) n S v fL fK i k:=h.fr (Fr.app (S:=fun _=>False)) (fun _ _ h=>h) (fun _ _ h=>h) (fun _ _ h=>h)
theorem uk {l:List AT} {i:Nat} {a:AT} (h:l[i]?=some a):l.take (i+1)=l.take i++[a]:=by rw[List.take_add_one,h];rfl
theorem ko.key (h:ko st n S v fL fK i i) (hi:i<2 ^ 31) (hx:S.l[i]?=some a) :
  ∃ s2 f2,ar (st++[.cells .rw [.str a.nm]]) 1 16 .rw (osl fK 1 i) (.sl st.length 0 1 (.ex 1))=some (osl f2 1 (i+1),s2)∧∃ s3,stV s2 1 (.ptr 3 6) (osl f2 1 (i+1))=some s3∧ko s3 n S v fL f2 i (i+1)∧
   ∀ (o:Nat) (y:av),4≤o→fK≠some o→st[o]?=some y→s3[o]?=some y:=by
 obtain ⟨s2,f2,q1,q2,q3,q4⟩:=iQ h.oK (new:=[.str a.nm]) rfl rfl hi (b:=16)
 have l3:=bL h.c3
 have h3:s2[3]?=some (.cells .rw [i64 7,.bool false,i64 0,i64 0,.str [],osl fL 7 i,osl fK 1 i]):=q3.get h.c3 fun e=>by have:=h.nK 3 e;omega
 have fr1:Fr s2 (s2.set 3 (.cells .rw [i64 7,.bool false,i64 0,i64 0,.str [],osl fL 7 i,osl f2 1 (i+1)])) (fun j=>j=3):=Fr.set rfl
 have e1:stV s2 1 (.ptr 3 6) (osl f2 1 (i+1))=some (s2.set 3 (.cells .rw [i64 7,.bool false,i64 0,i64 0,.str [],osl fL 7 i,osl f2 1 (i+1)])):=by rw[cY h3 (by simp) nW];rfl
 have n2:∀ o,f2=some o→4≤o:=fun o e=>by
  rcases q4 o e with k|k
  ·exact h.nK o k
  ·omega
 have nl:∀ o,fL=some o→f2≠some o:=fun o e e'=>by
  rcases q4 o e' with k|k
  ·exact (h.nL o e).2 k
  ·subst e;have:=h.oL.lt;omega
 refine ⟨s2,f2,q1,_,e1,⟨⟨?_,?_⟩,?_,bq h3,?_,?_,fun o e=>⟨(h.nL o e).1,nl o e⟩,n2⟩,fun o y ho hn hy=>fr1.get (q3.get hy hn) (by omega)⟩
 ·exact (h.s.a.fr q3 fun e=>by have:=h.nK 0 e;omega).fr fr1 (by omega)
 ·exact (h.s.b.fr q3 fun e=>by have:=h.nK 1 e;omega).fr fr1 (by omega)
 ·exact fr1.get (q3.get h.c2 fun e=>by have:=h.nK 2 e;omega) (by omega)
 ·exact (h.oL.fr q3 fun o e e'=>(h.nL o e).2 e').fr fr1 fun o e e'=>by have:=(h.nL o e).1;omega
 ·rw[uk hx,List.map_append]
  exact q2.fr fr1 fun o e e'=>by have:=n2 o e;omega
theorem ko.val (h:ko st n S v fL fK i k) (hi:i<2 ^ 31) (hx:S.l[i]?=some a) :
  ∃ s2 f2,ar (st++[.cells .rw (rcz v a)]) 7 96 .rw (osl fL 7 i) (.sl st.length 0 1 (.ex 1))=some (osl f2 7 (i+1),s2)∧∃ s3,stV s2 1 (.ptr 3 5) (osl f2 7 (i+1))=some s3∧ko s3 n S v f2 fK (i+1) k:=by
 obtain ⟨s2,f2,q1,q2,q3,q4⟩:=iQ h.oL (new:=rcz v a) wx JA hi (b:=96)
 have l3:=bL h.c3
 have h3:s2[3]?=some (.cells .rw [i64 7,.bool false,i64 0,i64 0,.str [],osl fL 7 i,osl fK 1 k]):=q3.get h.c3 fun e=>by have:=(h.nL 3 e).1;omega
 have fr1:Fr s2 (s2.set 3 (.cells .rw [i64 7,.bool false,i64 0,i64 0,.str [],osl f2 7 (i+1),osl fK 1 k])) (fun j=>j=3):=Fr.set rfl
 have e1:stV s2 1 (.ptr 3 5) (osl f2 7 (i+1))=some (s2.set 3 (.cells .rw [i64 7,.bool false,i64 0,i64 0,.str [],osl f2 7 (i+1),osl fK 1 k])):=by rw[cY h3 (by simp) nW];rfl
 have n2:∀ o,f2=some o→4≤o∧fK≠some o:=fun o e=>by
  rcases q4 o e with k|k
  ·exact h.nL o k
  ·exact ⟨by omega,fun e'=>by subst e';have:=h.oK.lt;omega⟩
 refine ⟨s2,f2,q1,_,e1,⟨⟨?_,?_⟩,?_,bq h3,?_,?_,n2,h.nK⟩⟩
 ·exact (h.s.a.fr q3 fun e=>by have:=(h.nL 0 e).1;omega).fr fr1 (by omega)
 ·exact (h.s.b.fr q3 fun e=>by have:=(h.nL 1 e).1;omega).fr fr1 (by omega)
 ·exact fr1.get (q3.get h.c2 fun e=>by have:=(h.nL 2 e).1;omega) (by omega)
 ·rw[uk hx,JB]
  exact q2.fr fr1 fun o e e'=>by have:=(n2 o e).1;omega
 ·exact (h.oK.fr q3 fun o e e'=>(h.nL o e').2 e).fr fr1 fun o e e'=>by have:=h.nK o e;omega
theorem fill_eq {z:List LV} (h:z.length=7):ao (fun i=>some (i*7,7)) (List.replicate 1 z7).flatten [(0,.agg z)]=some z:=by
 match z,h with
 | [a,b,c,d,e,f,g],_=>rfl
theorem yU (hS:S.ok) (hv:v.ok):∀ (d i:Nat) (fL fK:Option Nat) (st:aa),i+d=S.l.length→ko st n S v fL fK i i→
  Ci (.ptr 0 0) (.ptr 1 0) (.ptr 2 0) (.ptr 3 0) (i64 i) (fun r s=>dp s (vR (rT (fp S.l v))) r) st:=by
 intro d
 have h16:=hS.len
 induction d with
 | zero=>
  intro i fL fK st hi h
  refine J2 _ _ _ _ _ ?_
  have c1:¬ ((i:Int)<S.l.length):=by omega
  have e1:=sZ h.c3 rfl
  have e2:=qt (vs:=[i64 7,.bool false,i64 0,i64 0,.str [],osl fL 7 i,osl fK 1 i]) h.c2 rfl rfl (by cases fL<;>cases fK<;>rfl)
  have e3:=sZ (st:=st.set 2 (.cells .rw [i64 7,.bool false,i64 0,i64 0,.str [],osl fL 7 i,osl fK 1 i])) (bq h.c2) rfl
  have F:Fr st (st.set 2 (.cells .rw [i64 7,.bool false,i64 0,i64 0,.str [],osl fL 7 i,osl fK 1 i])) (fun j=>j=2):=Fr.set rfl
  simp only[FH,aq,Nat.zero_add,ab,h.s.a.l,aR,ae,ax,c1,decide_false,af,e1,e2,ay,ag,e3]
  have oL:=h.oL.fr F fun o e e'=>by have:=(h.nL o e).1;omega
  have oK:=h.oK.fr F fun o e e'=>by have:=h.nK o e;omega
  rw[List.take_of_length_le (by omega)] at oL oK
  have hL:=dA oL rfl H0
  have hK:=dA oK rfl (bA _ (bD fun _ _=>rfl))
  have hil:i=S.l.length:=by omega
  unfold fp
  simp only[rT,vK]
  refine ⟨_,rfl,_,_,rfl,rfl,_,_,rfl,rfl,_,_,rfl,rfl,_,_,rfl,rfl,_,_,rfl,rfl,_,_,rfl,?_,_,_,rfl,?_,rfl⟩
  ·rw[List.length_map,show (cM S.l v).length=i by unfold cM;rw[List.length_map,hil]];exact hL
  ·show dp _ (.isl (((cM S.l v).map (·.1)).map .str) ((cM S.l v).map (·.1)).length none) _
   rw[pA,List.length_map,← hil,List.map_map];exact hK
 | succ d ih=>
  intro i fL fK st hi h
  refine J2 _ _ _ _ _ ?_
  have hlt:i<S.l.length:=by omega
  have c1:((i:Int)<S.l.length):=by omega
  have hx:S.l[i]?=some S.l[i]:=List.getElem?_eq_getElem hlt
  generalize S.l[i]=a at hx
  have g0:=ox hx
  have hw1:=aH (show i<2 ^ 40 by omega)
  have h4:4≤st.length:=by have:=bL h.c3;omega
  -- the values
  have ten:∀ (L:Nat) (fL fK:Option Nat) (st:aa),ko st n S v fL fK i (i+1)→st[L]?=some (.cells .rw (rcz v a))→pb (.ptr 0 0) (.ptr 1 0) (.ptr 2 0) (.ptr 3 0) (i64 i) (.ptr L 0) (fun r s=>dp s (vR (rT (fp S.l v))) r) st:=by
   intro L fL fK st h hL
   refine Ls _ _ _ _ _ _ ?_
   obtain ⟨s2,f2,q1,s3,q2,q3⟩:=h.val (by omega) hx
   have g:ldA st (.ptr L 0) 7=some (.agg (rcz v a)):=sZ hL wx
   have g3:ld1 st (.ptr 3 5)=some (osl fL 7 i):=by rw[a7 h.c3];rfl
   simp only[FJ,aq,Nat.zero_add,ab,g3,g,fill_eq wx,aY,ag,q1,q2,ay,ae,aG,hw1]
   exact ih (i+1) _ _ _ (by omega) q3
  -- the names
  have seven:∀ (L:Nat) (st:aa),ko st n S v fL fK i i→4≤L→fK≠some L→fL≠some L→st[L]?=some (.cells .rw (rc (rT (dx v a.nm))))→
    Cj (.ptr 0 0) (.ptr 1 0) (.ptr 2 0) (.ptr 3 0) (i64 i) (.ptr L 0) (fun r s=>dp s (vR (rT (fp S.l v))) r) st:=by
   intro L st h hl4 hLK hLL hL
   refine Nh _ _ _ _ _ _ ?_
   have ek:ao (fun i=>some (i*1,1)) (List.replicate 1 [LV.str []]).flatten [(0,.str a.nm)]=some [.str a.nm]:=rfl
   have g3:∀ {st:aa},ko st n S v fL fK i i→ld1 st (.ptr 3 6)=some (osl fK 1 i):=fun h=>by rw[a7 h.c3];rfl
   have hb:ct st L (rT (dx v a.nm)):=hL
   have fin:∀ {st:aa} (h:ko st n S v fL fK i i),st[L]?=some (.cells .rw (rcz v a))→
     bd2 (some (LV.sl st.length 0 1 (.ex 1),st++[av.cells .rw [.str a.nm]])) fun v46 st47=>ld1 st47 (.ptr 3 6)=some (osl fK 1 i)∧bd2 (ar st47 1 16 Md.rw (osl fK 1 i) v46) fun v48 st49=>bd (ad 6 (.ptr 3 0)) fun v50=>bd2 (lmk (stV st49 1 v50 v48)) fun _v51 st52=>
      pb (.ptr 0 0) (.ptr 1 0) (.ptr 2 0) (.ptr 3 0) (i64 i) (.ptr L 0) (fun r s=>dp s (vR (rT (fp S.l v))) r) st52:=by
    intro st h hL
    obtain ⟨s2,f2,q1,s3,q2,q3,q4⟩:=h.key (by omega) hx
    simp only[ag,aq,Nat.zero_add,ab,q1,q2,ay]
    exact ⟨g3 h.app,ten L fL f2 s3 q3 (q4 L _ hl4 hLK hL)⟩
   have eb:((dx v a.nm).kind==0)=decide ((dx v a.nm).kind=0):=by by_cases h:(dx v a.nm).kind=0<;>simp[h]
   have z1:aP (ao (aA [(0,1),(1,1),(2,1),(3,1),(4,1),(5,1),(6,1)]) z7 [(0,i64 1)])=some (.agg [i64 1,.bool false,i64 0,i64 0,.str [],.nils,.nils]):=rfl
   cases ho:a.own with
   | false=>
    have er:rcz v a=rc (rT (dx v a.nm)):=by unfold rcz;rw[ho,Bool.false_and,if_neg (by simp)]
    have f1:=fin h (by rw[er];exact hL)
    simp only[aq,Nat.zero_add,ab,ag] at f1
    simp only[FI,aq,Nat.zero_add,ab,h.s.a.l,jc hlt,bG,ba,HZ hx,ho,af,g3 h,Nat.add_zero,g0,ek,aY,ag]
    exact f1
   | true=>
    simp only[FI,aq,Nat.zero_add,ab,h.s.a.l,jc hlt,bG,ba,HZ hx,ho,ai,hb.kk,ae,aQ,eb]
    rw[aI]
    refine ⟨fun hk=>?_,fun hk=>?_⟩
    ·have er:rcz v a=[i64 1,.bool false,i64 0,i64 0,.str [],.nils,.nils]:=by unfold rcz;rw[ho,Bool.true_and,decide_eq_true hk,if_pos rfl]
     have e2:=qt (vs:=[i64 1,.bool false,i64 0,i64 0,.str [],.nils,.nils]) hL ey rfl rfl
     have F:Fr st (st.set L (.cells .rw [i64 1,.bool false,i64 0,i64 0,.str [],.nils,.nils])) (fun j=>j=L):=Fr.set rfl
     have h':ko (st.set L (.cells .rw [i64 1,.bool false,i64 0,i64 0,.str [],.nils,.nils])) n S v fL fK i i:=
      h.fr F (fun o ho e=>by omega) (fun o e e'=>hLL (by rw[e,e'])) (fun o e e'=>hLK (by rw[e,e']))
     have hL':=bq (y:=av.cells .rw [i64 1,.bool false,i64 0,i64 0,.str [],.nils,.nils]) hL
     have f1:=fin h' (by rw[er];exact hL')
     simp only[aq,Nat.zero_add,ab,ag] at f1
     simp only[z1,ab,e2,ay,ag,g3 h',h'.s.a.l,jc hlt,bG,Nat.add_zero,ba,g0,ek,aY]
     exact f1
    ·have er:rcz v a=rc (rT (dx v a.nm)):=by unfold rcz;rw[decide_eq_false hk,Bool.and_false,if_neg (by simp)]
     have f1:=fin h (by rw[er];exact hL)
     simp only[aq,Nat.zero_add,ab,ag] at f1
     simp only[g3 h,ab,Nat.add_zero,g0,ek,aY,ag]
     exact f1
  have hap:=h.app (y:=.cells .rw z7)
  have pm:stV (st++[av.cells .rw z7]) 7 (.ptr st.length 0) (vR (rT (dx v a.nm)))=some (st++[.cells .rw (rc (rT (dx v a.nm)))]):=by
   rw[qt aw rfl ey mQ];simp
  have nK:fK≠some st.length:=fun e=>by subst e;have:=h.oK.lt;omega
  have nL:fL≠some st.length:=fun e=>by subst e;have:=h.oL.lt;omega
  have go:=seven st.length _ (h.app (y:=.cells .rw (rc (rT (dx v a.nm))))) h4 nK nL aw
  simp only[FH,aq,Nat.zero_add,ab,h.s.a.l,h.s.b.ldA,aR,ae,ax,c1,decide_true,ai,jc hlt,bG,Nat.add_zero,ba,g0,b6,hap.s.a.l,hap.s.b.ldA,true_and]
  refine ⟨?_,?_⟩
  ·refine (Bo hv a.nm).call ?_
   simp only[pm,ay,ag]
   exact go
  ·refine (Bo hv a.nm).call ?_
   simp only[pm,ay,ag,hap.s.a.l,hap.s.b.ldA,true_and]
   exact go
theorem Mf (hS:S.ok) (hv:v.ok):Pu Tryz.prog 47 [bS n S.l,vR (rT v)] (vR (rT (fp S.l v))):=by
 refine Pu.of (c47 _ _ ?_) lO gp
 have z1:aP (ao (aA [(0,1),(1,1),(2,1),(3,1),(4,1),(5,1),(6,1)]) z7 [(0,i64 7)])=some (.agg [i64 7,.bool false,i64 0,i64 0,.str [],.nils,.nils]):=rfl
 have pt:=qt (st:=[av.cells .rw [i64 n,.isl (bCs S.l) S.l.length none],.cells .rw (rc (rT v)),.cells .rw z7,.cells .rw z7]) (o:=3) (l:=z7) (vs:=[i64 7,.bool false,i64 0,i64 0,.str [],.nils,.nils]) rfl rfl rfl rfl
 simp only[w47,oy,dK,ag,List.length_nil,List.nil_append,List.cons_append,List.length_cons,Nat.zero_add,b6,z1,ab,pt,ay]
 exact yU hS hv S.l.length 0 none none _ (by omega) ⟨⟨rfl,rfl⟩,rfl,rfl,bB.nil,bB.nil,(fun _ h=>by cases h),(fun _ h=>by cases h)⟩
end
end Go.Proofs.YtknegckgmklnhaaGreatDoor
namespace Go.CP
theorem Bq {n:Int} (h:n.natAbs≤2 ^ 53):(FloatKind.f64.decode (FloatKind.f64.nearest n)).toInt .zero=some n:=by
 obtain ⟨C,hC,hc⟩:=IU 1074
 obtain ⟨m,i,r,hi,hv⟩:=D3 h hC
 show (Ieee.double.read (FloatKind.f64.nearest n)).toInt .zero=some n
 rw[r]
 show some (Ieee.signed (decide (n<0)) (Ieee.Toward.zero.cut (decide (n<0)) (m <<< i.toNat) (-i).toNat) 0)=some n
 have hcut:Ieee.Toward.zero.cut (decide (n<0)) (m <<< i.toNat) (-i).toNat=n.natAbs:=by
  unfold Ieee.Toward.cut
  simp only[Bool.toNat_false,Nat.add_zero,Nat.shiftLeft_eq,Nat.one_mul]
  by_cases h0:0≤i
  ·rw[show (-i).toNat=0 by omega,Nat.zero_min,Nat.pow_zero,Nat.div_one]
   rw[show (i+1074).toNat=i.toNat+1074 by omega,Nat.pow_add,hC,← Nat.mul_assoc] at hv
   exact Nat.eq_of_mul_eq_mul_right hc hv
  ·obtain ⟨D,hD⟩:∃ D:Nat,(-i).toNat=D:=⟨_,rfl⟩
   obtain ⟨E,hE⟩:∃ E:Nat,(i+1074).toNat=E:=⟨_,rfl⟩
   have hC':2 ^ D*2 ^ E=C:=by rw[← Nat.pow_add,show D+E=1074 by omega];exact hC
   rw[hE,← hC',← Nat.mul_assoc] at hv
   have hm:m=n.natAbs*2 ^ D:=Nat.eq_of_mul_eq_mul_right (Nat.pow_pos (by omega)) hv
   rw[hD,show i.toNat=0 by omega,Nat.pow_zero,Nat.mul_one]
   rcases Nat.eq_zero_or_pos n.natAbs with hz|hz
   ·rw[hz,Nat.zero_mul] at hm
    rw[hm,hz,Nat.zero_div]
   ·have hle:2 ^ D≤m:=by rw[hm];exact Nat.le_mul_of_pos_left _ hz
    have hp:0<2 ^ D:=Nat.pow_pos (by omega)
    have hl:D≤m.log2:=(Nat.le_log2 (by omega)).2 hle
    rw[Nat.min_eq_left (by omega)]
    conv=>lhs;lhs;rw[hm]
    exact Nat.mul_div_cancel _ hp
 rw[hcut]
 unfold Ieee.signed
 simp only[Nat.shiftLeft_zero]
 by_cases hn:n<0
 ·rw[decide_eq_true hn,if_pos rfl];exact congrArg some (by omega)
 ·rw[decide_eq_false hn,if_neg (by simp)];exact congrArg some (by omega)
end Go.CP
namespace Go.Proofs.YtknegckgmklnhaaGreatDoor
open Go Go.CP
set_option maxRecDepth 100000
section
variable {st:aa} {R:LV→aa→Prop}
def Br:T→Bool
 | .bool b=>b
 | _=>false
def H2:T→Tx
 | .text s=>s
 | _=>[]
def Mg:T→Int
 | .point a _=>a
 | _=>0
def Mh:T→Int
 | .point _ b=>b
 | _=>0
theorem Er (t:T):Pu Tryz.prog 97 [vT t] (.tup [.bool (Br t),.bool (decide (t.kind=2))]):=by
 refine Pu.of (c97 _ ?_) gW rfl
 cases t<;>exact bn (v:=.tup [.bool _,.bool _]) _ rfl
theorem Bs (t:T):Pu Tryz.prog 100 [vT t] (.tup [.str (H2 t),.bool (decide (t.kind=5))]):=by
 refine Pu.of (N1 _ ?_) gW rfl
 cases t<;>exact bn (v:=.tup [.str _,.bool _]) _ rfl
theorem um {n:Int} (h : -9007199254740992≤n∧n≤9007199254740992):sP .i64 (.flt .f64 (fb n))=some (i64 n):=by
 have e:=Bq (n:=n) (by omega)
 have h2:IntKind.i64.min≤n∧n≤IntKind.i64.max:=⟨Int.le_trans (by decide) h.1,Int.le_trans h.2 (by decide)⟩
 show (match (FloatKind.f64.decode (FloatKind.f64.nearest n)).toInt .zero with
  | some n=>if IntKind.i64.min≤n∧n≤IntKind.i64.max then some (LV.int .i64 n) else none
  | none=>none)=_
 rw[e]
 exact if_pos h2
theorem Bt {t:T} (ht:t.ok):Pu Tryz.prog 99 [vT t] (.tup [i64 (Mg t),i64 (Mh t),.bool (decide (t.kind=4))]):=by
 refine Pu.of (c99 _ ?_) gW rfl
 have c0:sP .i64 (.flt .f64 0)=some (i64 0):=rfl
 have no:∀ {s:aa},bd (sP .i64 (.flt .f64 0)) (fun v8=>bd (sP .i64 (.flt .f64 0)) fun v10=>dp s (.tup [i64 0,i64 0,.bool false]) (.tup [v8,v10,.bool false])):=by
  intro s
  rw[c0]
  exact bn (v:=.tup [i64 _,i64 _,.bool _]) _ rfl
 cases t with
 | point a b=>
  simp only[T.ok] at ht
  show bd (sP .i64 (.flt .f64 (fb a))) fun v8=>bd (sP .i64 (.flt .f64 (fb b))) fun v10=>dp _ (.tup [i64 a,i64 b,.bool true]) (.tup [v8,v10,.bool true])
  rw[um ht.1,um ht.2]
  exact bn (v:=.tup [i64 _,i64 _,.bool _]) _ rfl
 | _=>exact no
theorem Es {a b:Bool}:mY .neq (.bool a) (.bool b)=some (.bool (a != b)):=rfl
theorem T.JC {es:List (Tx × T)} (hv:(T.map es).ok) {i:Nat} {e:Tx × T} (h:es[i]?=some e):(T.map es).at e.1=some e.2:=by
 simp only[T.ok] at hv
 exact T.kW (dB hv.2.2) (List.mem_of_getElem? h)
structure U2 (st:aa) (t:T):Prop where
 a:st[0]?=some (.cells .rw [lvT t])
 b:ct st 1 (rT t)
theorem U2.app {t:T} {y:av} (h:U2 st t):U2 (st++[y]) t:=
 ⟨gq h.a,by have:=h.b;unfold ct at this ⊢;rw[List.getElem?_append_left (bL this)];exact this⟩
theorem Mi {t:T} (ht:t.ok) (ih:∀ x ∈ t.items,Pu Tryz.prog 31 [vT x,vR (rT x)] (i64 0)) (hR:∀ st,R (i64 0) st) :
  ∀ (d i:Nat) (st:aa),i+d=t.items.length→U2 st t→gy (.ptr 0 0) (.ptr 1 0) (vL t.items) (sL t.keys) (i64 0) (i64 i) R st:=by
 have hbi:t.items.length≤big:=by
  cases t<;>simp only[T.items,List.length_nil,List.length_map]<;>first|exact Nat.zero_le _ | (simp only[T.ok] at ht;exact ht.1)
 have w0:IntKind.i64.wrap (0+0)=0:=rfl
 intro d
 induction d with
 | zero=>
  intro i st hi h
  refine FR _ _ _ _ _ _ ?_
  have c1:¬ ((i:Int)<t.items.length):=by omega
  simp only[Ai,aR,ae,ax,ab,c1,decide_false,af]
  exact hR st
 | succ d ihd=>
  intro i st hi h
  refine FR _ _ _ _ _ _ ?_
  have hlt:i<t.items.length:=by omega
  have c1:((i:Int)<t.items.length):=by omega
  have hw1:=aH (show i<2 ^ 40 by unfold big at hbi;omega)
  have e1:aK 1 (vL t.items) (i64 i)=some (.iptr (fk t.items) (i*1)):=bO hlt
  have g1:∀ s:aa,ldA s (.iptr (fk t.items) (i*1)) 1=some (vT t.items[i]):=fun s=>by
   rw[eB (by rw[dJ];simp;omega),Nat.mul_one,dJ,← List.map_drop,List.drop_eq_getElem_cons hlt];rfl
  have e5:aK 7 (.isl (rcs (t.items.map rT)) t.items.length none) (i64 i)=some (.iptr (rcs (t.items.map rT)) (i*7)):=bO hlt
  have hx5:(t.items.map rT)[i]?=some (rT t.items[i]):=by simp[hlt]
  have hxi:t.items[i]?=some t.items[i]:=List.getElem?_eq_getElem hlt
  have hm:=List.getElem_mem hlt
  generalize t.items[i]=x at g1 hx5 hm hxi
  have g5:∀ s:aa,ldA s (.iptr (rcs (t.items.map rT)) (i*7)) 7=some (vR (rT x)):=fun s=>fT hx5
  have hp:=ih x hm
  have e7:(t.kind==7)=decide (t.kind=7):=by by_cases h:t.kind=7<;>simp[h]
  simp only[Ai,aR,ae,ax,ab,c1,decide_true,ai,aq,Nat.zero_add,h.b.kk,aQ,e7]
  rw[aI]
  refine ⟨fun h7=>?_,fun h7=>?_⟩
  ·have hkl:i<t.keys.length:=by
    cases t<;>simp only[T.kind] at h7<;>try omega
    simpa[T.keys,T.items] using hlt
   have e6:aK 1 (.isl (t.keys.map .str) t.keys.length none) (i64 i)=some (.iptr (t.keys.map .str) (i*1)):=bO hkl
   have hg:(t.keys.map LV.str)[i*1]?=some (.str t.keys[i]):=by simp[hkl]
   have hat:t.at t.keys[i]=some x:=by
    cases t<;>simp only[T.kind] at h7<;>try omega
    rename_i es
    have hil:i<es.length:=by simpa[T.items] using hlt
    have hx':(es.map (·.2))[i]?=some x:=hxi
    rw[List.getElem?_map,List.getElem?_eq_getElem hil,Option.map_some,Option.some.injEq] at hx'
    have:=T.JC ht (List.getElem?_eq_getElem hil)
    rw[hx'] at this
    simpa[T.keys] using this
   generalize t.keys[i]=n at hg hat
   have ha:=xW ht n
   rw[hat] at ha
   have gx:∀ {s:aa},U2 s t→ldA s (.ptr 0 0) 1=some (vT t):=fun h=>gX h.a
   have h':=h.app (y:=.cells .rw [.nili])
   have fin:vm (.ptr 0 0) (.ptr 1 0) (vL t.items) (sL t.keys) (i64 0) (i64 i) (.ptr st.length 0) (.bool true) R (st++[.cells .rw [lvT x]]):=by
    refine Lv _ _ _ _ _ _ _ _ ?_
    have h2:=h.app (y:=.cells .rw [lvT x])
    have gb:ldA (st++[av.cells .rw [lvT x]]) (.ptr st.length 0) 1=some (vT x):=gX aw
    have en:(!(n==n))=false:=by simp
    have cg:¬ ((0:Int) > 0):=by omega
    simp only[FT,e6,ab,ba,hg,aq,Nat.zero_add,h2.b.ki,bN,ia,en,af,bF,Bool.not_true,gb,h2.b.li,e5,g5]
    refine hp.call ?_
    simp only[ae,cq,cg,decide_false,ab,af,e1,g1,h2.b.li,e5,g5]
    refine hp.call ?_
    simp only[ae,aG,w0,ab,hw1]
    exact ihd (i+1) _ (by omega) h2
   simp only[gx h,gx h',ab,h.b.ki,h'.b.ki,e6,ba,hg,b6,true_and]
   refine ⟨?_,?_⟩
   ·refine ha.call ?_
    simp only[au,List.getElem?_cons_zero,List.getElem?_cons_succ,ab,Option.getD_some,Option.isSome_some,eF,ay,ag]
    exact fin
   ·refine ha.call ?_
    simp only[au,List.getElem?_cons_zero,List.getElem?_cons_succ,ab,Option.getD_some,Option.isSome_some,eF,ay,ag,gx h',h'.b.ki,true_and]
    exact fin
  ·simp only[e1,ab,g1,h.b.li,e5,g5]
   refine hp.call ?_
   simp only[ae,aG,w0,ab,hw1]
   exact ihd (i+1) _ (by omega) h
theorem OV {t:T}:(rT t).b=Br t:=by cases t<;>rfl
theorem OW {t:T}:(rT t).s=H2 t:=by cases t<;>rfl
theorem NX {t:T} (h:t.kind=3):(rT t).n=intOf t:=by cases t<;>simp only[T.kind] at h<;>first|rfl|omega
theorem Kz {t:T} (h:t.kind=4):(rT t).n=Mg t∧(rT t).m=Mh t:=by cases t<;>simp only[T.kind] at h<;>first|exact ⟨rfl,rfl⟩ | omega
theorem Et {t:T} (h:t.kind≠2):Br t=false:=by cases t<;>first|rfl|exact absurd rfl h
theorem yV:∀ (n:Nat) (t:T),SizeOf.sizeOf t<n→t.ok→Pu Tryz.prog 31 [vT t,vR (rT t)] (i64 0)
 | 0,_,h,_=>by omega
 | n+1,t,hn,ht=>by
  have ih:∀ x ∈ t.items,Pu Tryz.prog 31 [vT x,vR (rT x)] (i64 0):=fun x hx=>yV n x (by have:=T.r6 hx;omega) (T.ik ht x hx)
  refine Pu.of (c31 _ _ ?_) (by simp only[LV.aB,b8,gp];rfl) rfl
  have h:U2 [av.cells .rw [lvT t],.cells .rw (rc (rT t))] t:=⟨rfl,rfl⟩
  have g:ldA [av.cells .rw [lvT t],.cells .rw (rc (rT t))] (.ptr 0 0) 1=some (vT t):=rfl
  have ek:∀ n:Int,(t.kind==n)=decide (t.kind=n):=fun n=>by by_cases h:t.kind=n<;>simp[h]
  have ne:∀ x:Int,(x != x)=false:=fun x=>by simp
  have nb:∀ x:Bool,(x != x)=false:=fun x=>by simp
  have ns:∀ x:Tx,(!(x==x))=false:=fun x=>by simp
  simp only[w31,iw,dK,ag,List.length_nil,List.nil_append,List.cons_append,List.length_cons,Nat.zero_add,g,ab]
  refine (Er t).call ?_
  simp only[au,List.getElem?_cons_zero,List.getElem?_cons_succ,ab,g]
  refine (yu t).call ?_
  simp only[au,List.getElem?_cons_zero,List.getElem?_cons_succ,ab,g]
  refine (Bt ht).call ?_
  simp only[au,List.getElem?_cons_zero,List.getElem?_cons_succ,ab,g]
  refine (Bs t).call ?_
  simp only[au,List.getElem?_cons_zero,List.getElem?_cons_succ,ab,g]
  refine (nM ht).call ⟨g,?_⟩
  refine (nJ ht).call ?_
  refine Nq _ _ _ _ _ _ _ _ _ _ _ _ _ ?_
  have rest:ij (.ptr 0 0) (.ptr 1 0) (i64 (intOf t)) (i64 (Mg t)) (i64 (Mh t)) (vL t.items) (sL t.keys) (.bool false) (fun r s=>dp s (i64 0) r) [av.cells .rw [lvT t],.cells .rw (rc (rT t))]:=by
   refine Nr _ _ _ _ _ _ _ _ ?_
   have lp:gy (.ptr 0 0) (.ptr 1 0) (vL t.items) (sL t.keys) (LV.int .i64 0) (LV.int .i64 0) (fun r s=>dp s (i64 0) r) [av.cells .rw [lvT t],.cells .rw (rc (rT t))]:=
    Mi ht ih (fun _=>rfl) t.items.length 0 _ (by omega) h
   simp only[Ka,af,aq,Nat.zero_add,ab,h.b.kk,h.b.n,h.b.m,ae,aQ,bx,ek,aI]
   refine ⟨fun h3=>?_,fun h3=>⟨fun h4=>?_,fun h4=>lp⟩⟩
   ·rw[NX h3]
    simp only[ne,af]
    exact ⟨fun h4=>by omega,fun _=>lp⟩
   ·rw[(Kz h4).1,(Kz h4).2]
    simp only[ne,af]
    exact lp
  simp only[J9,g,aq,Nat.zero_add,ab,h.b.kk]
  refine (jP t).call ⟨h.b.kk,?_⟩
  simp only[h.b.kk,ae,bx,aQ,ne,af,ab,ek,Es,nb,aI,h.b.b,h.b.s,OV,OW,bN,ia,ns,aR,h.b.li,h.b.ki]
  refine ⟨fun _=>rest,fun h2=>?_⟩
  rw[Et h2]
  exact rest
end
end Go.Proofs.YtknegckgmklnhaaGreatDoor
namespace Go.Proofs.YtknegckgmklnhaaGreatDoor
open Go Go.CP
set_option maxRecDepth 100000
abbrev Eu (u u':TypeId):List (Nat × List LV):=[(3,Lib.pow10Tab.map fun z=>.int .u64 z),(1,[.iface u .aL]),(2,[.iface u' .aL])]
theorem JD {u u':TypeId}:GlS (xx (Eu u u')):=⟨by simp[xx,Eu],⟨u,rfl⟩,⟨u',rfl⟩⟩
section
variable {st:aa}
theorem Ev (g:GlS st) {s:Tx} {r:RV} (hr:r.ok):w7 (.str s) (vR r) (fun v _=>v=.bool true) st:=by
 obtain ⟨n,hg⟩:=Gu hr
 have hb:ct (st++[av.cells .rw (rc r)]) st.length r:=aw
 simp only[w7,dK,ag,hb.ldA,ab]
 refine hg.call ?_
 simp only[ae,cq,ab,aI]
 refine ⟨fun _=>Da rfl,fun _=>Da ?_⟩
 simp only[bF,ab,Bool.not_true,af]
 have g1:GlS (st++[av.cells .rw (rc r)]):=g.fr (Fr.app (S:=fun _=>False)) id id id
 have hv:=L7 hr
 have boxF:∀ {S:aa},Fr (st++[av.cells .rw (rc r)]) S (fun _=>False)→ct S st.length r:=fun h=>h.get hb id
 refine OS g1 (fun st2 m0 m1 hm hf=>?_) fun st2 S n hS hf hl=>?_
 ·have pm:stV (st2++[av.cells .rw [i64 0,LV.nils]]) 2 (.ptr st2.length 0) (.agg [m0,m1])=some (st2++[.cells .rw [m0,m1]]):=by
   rw[ml aw hm];simp
  have c00:decide ((1:Int) > 0)=true:=rfl
  simp only[au,List.getElem?_cons_zero,List.getElem?_cons_succ,ab,b6,pm,ay,ag,ae,cq,c00,ai]
 ·have hSok:=A6 hS
  have pm:stV (st2++[av.cells .rw [i64 0,LV.nils]]) 2 (.ptr st2.length 0) (bS n S.l)=some (st2++[.cells .rw [i64 n,.isl (bCs S.l) S.l.length none]]):=by
   unfold bS
   rw[ml aw rfl];simp
  have f3:Fr (st++[av.cells .rw (rc r)]) (st2++[.cells .rw [i64 n,.isl (bCs S.l) S.l.length none]]) (fun _=>False):=hf.trans Fr.app fun _ _ h=>h
  have c00:decide ((0:Int) > 0)=false:=rfl
  simp only[au,List.getElem?_cons_zero,List.getElem?_cons_succ,ab,b6,pm,ay,ag,ae,cq,c00,af,(boxF f3).ldA]
  refine (GM hr).call ?_
  generalize cln r=v at hv
  generalize hS3:st2++[av.cells .rw [i64 n,.isl (bCs S.l) S.l.length none]]=S3
  have hA3:mW S3 st2.length n S.l:=by rw[← hS3];exact aw
  have pv:stV (S3++[av.cells .rw [i64 0,LV.bool false,i64 0,i64 0,LV.str [],LV.nils,LV.nils]]) 7 (.ptr S3.length 0) (vR (rT v))=some (S3++[.cells .rw (rc (rT v))]):=by
   rw[qt aw rfl ey mQ];simp
  simp only[pv,ay,ag]
  generalize hS4:S3++[av.cells .rw (rc (rT v))]=S4
  have hB4:ct S4 S3.length (rT v):=by rw[← hS4];exact aw
  have hA4:mW S4 st2.length n S.l:=by rw[← hS4];unfold mW;rw[List.getElem?_append_left (bL hA3)];exact hA3
  have toP:=Km _ v (Nat.lt_succ_self _) hv
  simp only[hB4.ldA,ab]
  refine toP.call ?_
  refine (Hm hSok hv).call ?_
  simp only[au,List.getElem?_cons_zero,List.getElem?_cons_succ,ab,hA4.ldA,hB4.ldA]
  refine (Me hSok hv).call ?_
  simp only[au,List.getElem?_cons_zero,List.getElem?_cons_succ,ab,hB4.ldA]
  refine toP.call ?_
  refine (CT hSok hv).call ?_
  simp only[au,List.getElem?_cons_zero,List.getElem?_cons_succ,ab,hA4.ldA,hB4.ldA]
  refine (Jz hSok hv).call ?_
  simp only[au,List.getElem?_cons_zero,List.getElem?_cons_succ,ab,hB4.ldA]
  refine toP.call ?_
  refine (LU hSok hv).call ?_
  have nt:∀ x:Tx,(!(x==x))=false:=fun x=>by simp
  have ni:∀ x:Int,(x != x)=false:=fun x=>by simp
  have en:((eu S.l v).2 != 0)=decide ((eu S.l v).2≠0):=by by_cases h:(eu S.l v).2=0<;>simp[h]
  simp only[au,List.getElem?_cons_zero,List.getElem?_cons_succ,ab,eF,ay,ag,bN,ia,nt,ni,af,ae,bx,en,aI]
  refine ⟨fun hne=>?_,fun he=>?_⟩
  ·rw[if_neg hne]
   rw[gX (v:=.null) aw,ab]
   refine (jP _).call ?_
   exact rfl
  ·have he0:(eu S.l v).2=0:=Classical.byContradiction he
   rw[if_pos he0]
   have hx:=HT hSok hv
   have hA5:mW (S4++[av.cells .rw [lvT (fp S.l v)]]) st2.length n S.l:=by unfold mW;rw[List.getElem?_append_left (bL hA4)];exact hA4
   have hB5:ct (S4++[av.cells .rw [lvT (fp S.l v)]]) S3.length (rT v):=by unfold ct;rw[List.getElem?_append_left (bL hB4)];exact hB4
   have gx:ldA (S4++[av.cells .rw [lvT (fp S.l v)]]) (.ptr S4.length 0) 1=some (vT (fp S.l v)):=gX aw
   simp only[gx,ab]
   refine (CT hSok hx).call ?_
   have e0:((0:Int)==0)=true:=rfl
   simp only[au,List.getElem?_cons_zero,List.getElem?_cons_succ,ab,gx,hA5.ldA,hB5.ldA]
   refine (Mf hSok hv).call ⟨by trivial,?_⟩
   refine (yV _ _ (Nat.lt_succ_self _) hx).call ?_
   rw[AH hSok he0]
   simp only[ae,aQ,e0,ab,ai]
   exact M5 _ rfl
theorem OX (g:GlS st) {s:Tx} {r:RV} (hr:r.ok):az Tryz.prog 7 [.str s,vR r] st fun v _=>v=.bool true:=c7 _ _ (Ev g hr)
end
theorem sM {H:Type} {u u':TypeId} {xs:List LV} {ds:List (DataW H)} (h:qH Tryz.prog [9,49] xs ds) (hb:Rows.uptoBulkAll ds≤1048576):az Tryz.prog 7 xs (xx (Eu u u')) fun v _=>v=.bool true:=by
 obtain ⟨x0,_,d0,_,rfl,rfl,⟨n0,cs0,_,a2,a3⟩,x1,_,d1,_,rfl,rfl,⟨n1,cs1,b1,_,b3⟩,rfl,rfl⟩:=h
 have i0:cr Tryz.prog 9=false:=by kernel_rfl
 have i1:cr Tryz.prog 49=true:=by kernel_rfl
 rw[a2 i0] at a3
 obtain ⟨s,e,_⟩:=Bj a3
 simp only[List.cons.injEq,and_true] at e
 subst e
 rw[if_pos i1] at b1
 subst b1
 simp only[Rows.uptoBulkAll] at hb
 obtain ⟨r,rfl,hr⟩:=yN (N:=1048576) (by unfold big;omega) n1 b3 (by omega)
 exact OX JD hr
end Go.Proofs.YtknegckgmklnhaaGreatDoor
