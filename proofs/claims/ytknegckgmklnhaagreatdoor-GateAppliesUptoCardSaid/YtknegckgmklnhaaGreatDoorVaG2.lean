/- Parts of the proof. -/
import Derived.Test.YtknegckgmklnhaaGreatDoorVbW11
import Derived.Test.YtknegckgmklnhaaGreatDoorVbQ3
import Derived.Lib.ItoaLen
namespace Go.Proofs.YtknegckgmklnhaaGreatDoor
open Go Go.CP Classical
set_option maxRecDepth 100000
theorem LB {l l':List (List UInt8)} (hl:l.length=l'.length) (hb:l.length≤big) {R:LV→aa→Prop} :
  ∀ (d i:Nat) (st:aa),i+d=l.length→(∀ s,R (.bool (decide (l.drop i=l'.drop i))) s)→wG (sL l) (sL l') (i64 l.length) (i64 i) R st:=by
 intro d
 induction d with
 | zero=>
  intro i st hi hR
  apply G5
  have:¬ ((i:Int)<l.length):=by omega
  simp only[wM,ad,au,ab,this,a8,ae]
  have:=hR st
  rw[bR (by omega),bR (by omega)] at this
  rwa [decide_eq_true rfl] at this
 | succ d ih=>
  intro i st hi hR
  apply G5
  have hlt:i<l.length:=by omega
  have hlt':i<l'.length:=by omega
  have c1:(i:Int)<l.length:=by omega
  have hx:l[i]?=some l[i]:=bg hlt
  have hy:l'[i]?=some l'[i]:=bg hlt'
  have dx:l.drop i=l[i]::l.drop (i+1):=b6 hlt
  have dy:l'.drop i=l'[i]::l'.drop (i+1):=b6 hlt'
  generalize l[i]=x at hx dx
  generalize l'[i]=y at hy dy
  have e1:bn 1 (sL l) (i64 i)=some (.iptr (l.map .str) (i*1)):=cj hlt
  have e2:bn 1 (sL l') (i64 i)=some (.iptr (l'.map .str) (i*1)):=cj hlt'
  have g1:(l.map LV.str)[i*1]?=some (.str x):=by simp[hx]
  have g2:(l'.map LV.str)[i*1]?=some (.str y):=by simp[hy]
  simp only[wM,ad,au,ab,c1,aZ,ah,e1,e2,bA,g1,g2,ct,iV]
  rw[cd]
  refine ⟨fun h=>?_,fun h=>?_⟩
  ·have hne:x≠y:=by simpa using h
   have:=hR st
   rwa [decide_eq_false (fun e=>by rw[dx,dy] at e;exact hne (List.cons.inj e).1)] at this
  ·have he:x=y:=by simpa using h
   simp only[aH,ab,aK (show i<2 ^ 40 by unfold big at hb;omega)]
   refine ih (i+1) st (by omega) fun s=>?_
   have:=hR s
   by_cases hd:l.drop (i+1)=l'.drop (i+1)
   ·rw[decide_eq_true hd]
    rwa [decide_eq_true (by rw[dx,dy,he,hd])] at this
   ·rw[decide_eq_false hd]
    rwa [decide_eq_false (fun e=>by rw[dx,dy] at e;exact hd (List.cons.inj e).2)] at this
theorem JP {l l':List (List UInt8)} (hb:l.length≤big):Pu Tryz.prog 121 [sL l,sL l'] (.bool (decide (l=l'))):=by
 refine Pu.of (QO _ _ ?_) (by simp only[LV.aG,LV.plain,bV (f:=LV.str) fun _ _=>rfl,Bool.and_true]) rfl
 simp only[NB,aU,ab,ad,bJ,cd]
 refine ⟨fun h=>?_,fun h=>?_⟩
 ·have hne:l≠l':=fun e=>by simp[e] at h
  rw[decide_eq_false hne];rfl
 ·have he:l.length=l'.length:=by
   have h1:(l.length:Int)=l'.length:=by simpa using h
   omega
  exact LB he hb l.length 0 _ (by omega) fun s=>rfl
inductive Agr:T→T→Prop where
 | later {a b:T} (h:a.kind=1):Agr a b
 | parts {a b:T} (h:a.kind=b.kind) (hk:a.kind=6∨a.kind=7) (he:a.keys=b.keys) (hl:a.items.length=b.items.length) (hi:∀ (i:Nat) (x y:T),a.items[i]?=some x→b.items[i]?=some y→Agr x y):Agr a b
 | same {a:T} (hk:¬ (a.kind=6∨a.kind=7)):Agr a a
theorem sf {α β:Type} {p:α→β→Prop}:∀ {a:List α} {b:List β},a.length=b.length→(∀ (i:Nat) (x:α) (y:β),a[i]?=some x→b[i]?=some y→p x y)→fO p a b
 | [],[],_,_=>trivial
 | [],_::_,h,_=>by simp at h
 | _::_,[],h,_=>by simp at h
 | x::a,y::b,h,hi=>⟨hi 0 x y rfl rfl,sf (by simpa using h) fun i u v hu hv=>hi (i+1) u v (by simpa using hu) (by simpa using hv)⟩
theorem pQ {α β:Type} {p:α→β→Prop}:∀ {a:List α} {b:List β},fO p a b→∀ (i:Nat) (x:α) (y:β),a[i]?=some x→b[i]?=some y→p x y
 | x::a,y::b,h,0,u,v,hu,hv=>by simp at hu hv;subst hu hv;exact h.1
 | x::a,y::b,h,i+1,u,v,hu,hv=>pQ h.2 i u v (by simpa using hu) (by simpa using hv)
 | [],_,_,_,_,_,hu,_=>by simp at hu
theorem gO {a b:T}:Agr a b↔a.kind=1∨(a.kind=b.kind∧if a.kind=6∨a.kind=7 then a.keys=b.keys∧fO Agr a.items b.items else a=b):=by
 constructor
 ·intro h
  cases h with
  | later h=>exact .inl h
  | parts h hk he hl hi=>rw[if_pos hk];exact .inr ⟨h,he,sf hl hi⟩
  | same hk=>rw[if_neg hk];exact .inr ⟨rfl,rfl⟩
 ·rintro (h|⟨h,h2⟩)
  ·exact .later h
  ·by_cases hk:a.kind=6∨a.kind=7
   ·rw[if_pos hk] at h2
    exact .parts h hk h2.1 h2.2.len fun i x y hx hy=>pQ h2.2 i x y hx hy
   ·rw[if_neg hk] at h2
    obtain ⟨rfl⟩:=h2
    exact .same hk
theorem Gu:∀ (n:Nat) (a b:T),SizeOf.sizeOf a<n→every cK a=true→(Agr a b↔a=b)
 | 0,_,_,h,_=>by omega
 | n+1,a,b,hn,hk=>by
  rw[pk,bp] at hk
  have h1:¬ a.kind=1:=by have:=hk.1;unfold cK at this;simpa using this
  have hrec:∀ x ∈ a.items,∀ y,Agr x y↔x=y:=fun x hx y=>Gu n x y (by have:=T.fB hx;omega) (List.all_eq_true.1 hk.2 x hx)
  have hall:fO Agr a.items b.items↔a.items=b.items:=by
   rw[← fO.eq]
   constructor
   ·intro h;exact sf h.len fun i x y hx hy=>(hrec x (cr hx) y).1 (pQ h i x y hx hy)
   ·intro h;exact sf h.len fun i x y hx hy=>(hrec x (cr hx) y).2 (pQ h i x y hx hy)
  rw[gO,hall]
  constructor
  ·rintro (h|⟨h,h2⟩)
   ·exact absurd h h1
   ·split at h2
    ·rename_i hk67
     obtain ⟨e1,e2⟩:=h2
     cases a<;>simp only[T.kind] at hk67 h<;>try (exact absurd hk67 (by decide))
     ·cases b<;>simp only[] at h<;>try (exact absurd h (by decide))
      simp only[T.items] at e2;rw[e2]
     ·cases b<;>simp only[] at h<;>try (exact absurd h (by decide))
      simp only[T.items,T.keys] at e1 e2
      rename_i es es'
      congr 1
      clear hall hrec hk hn h1 h hk67
      induction es generalizing es' with
      | nil=>cases es'<;>simp_all
      | cons e es ih=>
       cases es' with
       | nil=>simp at e1
       | cons e' es'=>
        simp only[List.map_cons,List.cons.injEq] at e1 e2
        rw[ih es' e1.2 e2.2]
        congr 1
        exact Prod.ext e1.1 e2.1
    ·exact h2
  ·rintro rfl
   refine .inr ⟨rfl,?_⟩
   split
   ·exact ⟨rfl,rfl⟩
   ·rfl
theorem LC {t:T} (h:t.ok):t.keys.length≤big:=by
 cases t<;>simp only[T.keys,aR,Nat.zero_le,bH]
 exact h.1
theorem OG {t:T} (h:t.ok):t.items.length≤big:=by
 cases t<;>simp only[T.items,aR,Nat.zero_le,bH]
 ·exact h.1
 ·exact h.1
theorem mR:∀ (n:Nat) (a b:T),SizeOf.sizeOf a<n→a.ok→b.ok→Pu Tryz.prog 56 [vT a,vT b] (.bool (decide (Agr a b)))
 | 0,_,_,h,_,_=>by omega
 | n+1,a,b,hn,ha,hb=>by
  have hrec:∀ x ∈ a.items,∀ y,y.ok→Pu Tryz.prog 56 [vT x,vT y] (.bool (decide (Agr x y))):=fun x hx y hy=>mR n x y (by have:=T.fB hx;omega) (T.dY ha x hx) hy
  refine Pu.of (c56 _ _ ?_) (by simp only[LV.aG,LV.plain,eX,Bool.and_true]) rfl
  have g0:ldA [ar.cells .rw [lvT a],.cells .rw [lvT b]] (.ptr 0 0) 1=some (vT a):=rfl
  have g1:ldA [ar.cells .rw [lvT a],.cells .rw [lvT b]] (.ptr 1 0) 1=some (vT b):=rfl
  have no:∀ {p:Prop} {st:aa},¬ p→dp st (.bool (decide p)) (.bool false):=fun h=>by rw[decide_eq_false h];rfl
  have yes:∀ {p q:Prop} {dq:Decidable q} {st:aa},(q↔p)→dp st (.bool (decide p)) (.bool (@decide q dq)):=fun {p q dq st} h=>by
   by_cases hp:p
   ·rw[decide_eq_true hp,decide_eq_true (h.2 hp)];rfl
   ·rw[decide_eq_false hp,decide_eq_false fun hq=>hp (h.1 hq)];rfl
  have parts:(a.kind=6∨a.kind=7)→¬ a.kind=1→a.kind=b.kind→aw Tryz.prog 49 [vT a] [ar.cells .rw [lvT a],.cells .rw [lvT b]] fun v32 st33=>ldA st33 (.ptr 1 0) 1=some (vT b)∧aw Tryz.prog 49 [vT b] st33 fun v34 st35=>aw Tryz.prog 121 [v32,v34] st35 fun v36 st37=>
    aq v36 (bd (ldA st37 (.ptr 0 0) 1) fun v38=>bd (ldA st37 (.ptr 1 0) 1) fun v39=>aw Tryz.prog 101 [v38] st37 fun v40 st41=>ldA st41 (.ptr 1 0) 1=some v39∧aw Tryz.prog 101 [v39] st41 fun v42 st43=>
     aw Tryz.prog 122 [v40,v42,LV.fn (Fn.func 56) [] []] st43 fun v44 st45=>dp st45 (.bool (decide (Agr a b))) v44) (dp st37 (.bool (decide (Agr a b))) (.bool false)):=by
   intro hk h1 hkk
   refine (mL ha).call ⟨g1,(mL hb).call ((JP (LC ha)).call ?_)⟩
   rw[cd]
   refine ⟨fun h=>?_,fun h=>?_⟩
   ·have he:a.keys=b.keys:=of_decide_eq_true h
    simp only[g0,g1,ab]
    refine (jV ha).call ⟨g1,(jV hb).call ?_⟩
    refine (N4 (p:=Agr) (OG ha) fun i x y hx hy=>hrec x (cr hx) y (T.dY hb y (cr hy))).call ?_
    refine yes ?_
    rw[gO,if_pos hk]
    exact ⟨fun h=>.inr ⟨hkk,he,h⟩,fun h=>by
     rcases h with h|h
     ·exact absurd h h1
     ·exact h.2.2⟩
   ·have he:¬ a.keys=b.keys:=of_decide_eq_false h
    refine no fun hA=>?_
    rw[gO,if_pos hk] at hA
    rcases hA with hA|hA
    ·exact h1 hA
    ·exact he hA.2.1
  simp only[w56,dV,af,bD,List.cons_append,aR,aW,aj,g0,ab]
  refine (kN a).call ?_
  simp only[ad,bj,ab]
  rw[cd]
  refine ⟨fun h=>?_,fun h=>?_⟩
  ·have h1:a.kind=1:=by simpa using h
   rw[decide_eq_true (Agr.later h1)];rfl
  have h1:¬ a.kind=1:=by simpa using h
  simp only[g1,ab]
  refine (kN b).call ?_
  simp only[ad,bJ,ab]
  rw[cd]
  refine ⟨fun h=>?_,fun h=>?_⟩
  ·have hne:¬ a.kind=b.kind:=by simpa using h
   refine no fun hA=>?_
   rw[gO] at hA
   rcases hA with hA|hA
   ·exact h1 hA
   ·exact hne hA.1
  have hkk:a.kind=b.kind:=by simpa using h
  rw[cd]
  refine ⟨fun h=>?_,fun h=>?_⟩
  ·simp only[g0,g1,ab]
   exact parts (.inl (by simpa using h)) h1 hkk
  have h6:¬ a.kind=6:=by simpa using h
  rw[cd]
  refine ⟨fun h=>?_,fun h=>?_⟩
  ·simp only[g0,g1,ab]
   exact parts (.inr (by simpa using h)) h1 hkk
  have h7:¬ a.kind=7:=by simpa using h
  simp only[g0,g1,ab]
  refine (Ev _ a b (Nat.lt_succ_self _) ha hb).call ?_
  refine yes ?_
  rw[gO,if_neg (by omega)]
  exact ⟨fun e=>.inr ⟨hkk,e⟩,fun h=>by
   rcases h with h|h
   ·exact absurd h h1
   ·exact h.2⟩
end Go.Proofs.YtknegckgmklnhaaGreatDoor
namespace Go.Proofs.YtknegckgmklnhaaGreatDoor
open Go Go.CP
set_option maxRecDepth 100000
section
variable {st:aa} {R:LV→aa→Prop}
theorem C1 {t:T}:cK t=(t.kind != 1):=by cases t<;>rfl
theorem vN {t:T} (ht:t.ok):t.items.length≤big:=by
 cases t<;>simp only[T.items,aR,bH]<;>first|exact Nat.zero_le _ | (simp only[T.ok] at ht;exact ht.1)
theorem LD {t:T} (ht:t.ok) (ih:∀ x ∈ t.items,Pu Tryz.prog 126 [vR (rT x)] (.bool (every cK x))) {o:Nat} (hb:cH st o (rT t)) (hR:R (.bool (every cK t)) st) :
  ∀ (d i:Nat),i+d=t.items.length→(∀ j x,j<i→t.items[j]?=some x→every cK x=true)→xf (.ptr o 0) (i64 i) R st:=by
 have hbi:=vN ht
 intro d
 induction d with
 | zero=>
  intro i hi hh
  refine Hy _ _ ?_
  have c1:¬ ((i:Int)<t.items.length):=by omega
  have e:every cK t=(t.kind != 1):=by
   rw[pk,C1]
   have:t.items.all (every cK)=true:=List.all_eq_true.2 fun x hx=>by
    obtain ⟨j,hj⟩:=List.getElem?_of_mem hx
    exact hh j x (by have:=(List.getElem?_eq_some_iff.1 hj).1;omega) hj
   rw[this,Bool.and_true]
  simp only[BQ,ao,aj,ab,hb.li,aU,ad,au,c1,a8,ae,hb.kk,bJ]
  rw[e] at hR
  exact hR
 | succ d ihd=>
  intro i hi hh
  refine Hy _ _ ?_
  have hlt:i<t.items.length:=by omega
  have c1:((i:Int)<t.items.length):=by omega
  have hx:t.items[i]?=some t.items[i]:=bg hlt
  have hm:=List.getElem_mem hlt
  have e5:bn 7 (.isl (rcs (t.items.map rT)) t.items.length none) (i64 i)=some (.iptr (rcs (t.items.map rT)) (i*7)):=cj hlt
  have hx5:(t.items.map rT)[i]?=some (rT t.items[i]):=by simp[hlt]
  generalize t.items[i]=x at hx hm hx5
  have hw1:=aK (show i<2 ^ 40 by unfold big at hbi;omega)
  simp only[BQ,ao,aj,ab,hb.li,aU,ad,au,c1,aZ,ah,e5,eF hx5]
  refine (ih x hm).call ?_
  cases hk:every cK x with
  | true=>
   simp only[bw,bM,ab,ae,aH,hw1]
   refine ihd (i+1) (by omega) fun j y hj hy=>?_
   rcases Nat.lt_or_ge j i with h|h
   ·exact hh j y h hy
   ·have:j=i:=by omega
    subst this
    rw[hx] at hy;cases hy
    exact hk
  | false=>
   have e:every cK t=false:=by
    rw[pk,Bool.and_eq_false_iff]
    right
    rw[Bool.eq_false_iff]
    intro h
    have:=List.all_eq_true.1 h x hm
    rw[hk] at this;cases this
   simp only[bw,bL,ab,ah]
   rw[e] at hR
   exact hR
theorem AJ:∀ (n:Nat) (t:T),SizeOf.sizeOf t<n→t.ok→Pu Tryz.prog 126 [vR (rT t)] (.bool (every cK t))
 | 0,_,h,_=>by omega
 | n+1,t,hn,ht=>by
  refine Pu.of (Q0 _ ?_) (by simp only[LV.aG,fX,Bool.and_true]) rfl
  simp only[PC,ec,af,aR]
  exact LD (R:=fun v s=>dp s (.bool (every cK t)) v) ht (fun x hx=>AJ n x (by have:=T.fB hx;omega) (T.dY ht x hx)) ay rfl t.items.length 0 (by omega) fun _ _ h=>by omega
theorem vO {a b:RV}:LV.aG [vR a,vR b]=true:=by simp only[LV.aG,fX];rfl
theorem LF {a b:T} (h:a.kind=b.kind) (h6:a.kind<6):a=b↔((rT a).b=(rT b).b∧(rT a).n=(rT b).n∧(rT a).m=(rT b).m∧(rT a).s=(rT b).s):=by
 cases a<;>cases b<;>simp only[T.kind] at h h6<;>first|omega|simp[rT,RV.b,RV.n,RV.m,RV.s]
open Classical in
theorem LG {a b:T} (h:a.kind=b.kind) (h6:a.kind<6):Pu Tryz.prog 125 [vR (rT a),vR (rT b)] (.bool (decide (a=b))):=by
 refine Pu.of (QZ _ _ ?_) vO rfl
 have ha:cH [ar.cells .rw (rc (rT a)),.cells .rw (rc (rT b))] 0 (rT a):=rfl
 have hb:cH [ar.cells .rw (rc (rT a)),.cells .rw (rc (rT b))] 1 (rT b):=rfl
 have no:∀ {s:aa},¬ (a=b)→dp s (.bool (decide (a=b))) (.bool false):=fun h=>by rw[decide_eq_false h];rfl
 have ek:(a.kind != b.kind)=false:=by rw[h];simp
 have la:a.items.length=0:=by cases a<;>simp only[T.kind] at h6<;>first|rfl|omega
 have lb:b.items.length=0:=by cases b<;>simp only[T.kind] at h h6<;>first|rfl|omega
 have hl:=LF h h6
 have c0:(((0:Nat):Int) != ((0:Nat):Int))=false:=rfl
 have c1:decide ((0:Int)<((0:Nat):Int))=false:=rfl
 simp only[PB,ec,af,aR,bD,List.cons_append,aW,aj,ao,ha.kk,hb.kk,ab,ad,bJ,ek,ae,ha.b,hb.b,qN]
 rw[cd]
 refine ⟨fun q=>no fun e=>by rw[(hl.1 e).1] at q;simp at q,fun q1=>?_⟩
 simp only[ha.n,hb.n,ab,ad,bJ]
 rw[cd]
 refine ⟨fun q=>no fun e=>by rw[(hl.1 e).2.1] at q;simp at q,fun q2=>?_⟩
 simp only[ha.m,hb.m,ab,ad,bJ]
 rw[cd]
 refine ⟨fun q=>no fun e=>by rw[(hl.1 e).2.2.1] at q;simp at q,fun q3=>?_⟩
 simp only[ha.s,hb.s,ab,ct,iV]
 rw[cd]
 refine ⟨fun q=>no fun e=>by rw[(hl.1 e).2.2.2] at q;simp at q,fun q4=>?_⟩
 simp only[ha.li,hb.li,aU,ab,ad,bJ,la,lb,c0,ae]
 refine NP _ _ _ ?_
 simp only[Hx,ao,aj,ha.li,aU,ab,ad,au,la,c1,ae]
 have e:a=b:=hl.2 ⟨by simpa using q1,by simpa using q2,by simpa using q3,by simpa using q4⟩
 rw[decide_eq_true e]
 exact rfl
open Classical in
theorem OH {p v:T} (hp:p.ok) (hv:v.ok) (hk:p.kind=v.kind) (h67:p.kind=6∨p.kind=7) (hl:p.items.length=v.items.length) (ih:∀ x ∈ p.items,∀ y ∈ v.items,Pu Tryz.prog 60 [vR (rT x),vR (rT y)] (.bool (decide (Agr x y))))
  (ha:cH st 0 (rT p)) (hb:cH st 1 (rT v)) (hR:R (.bool (decide (Agr p v))) st) :
  ∀ (d i:Nat),i+d=p.items.length→(∀ j,j<i→(p.kind=7→p.keys[j]?=v.keys[j]?)∧∀ x y,p.items[j]?=some x→v.items[j]?=some y→Agr x y)→u5 (.ptr 0 0) (.ptr 1 0) (i64 i) R st:=by
 have hbi:=vN hp
 have hkl:p.kind=7→p.keys.length=p.items.length∧v.keys.length=v.items.length:=fun h=>by
  have h':v.kind=7:=by omega
  constructor
  ·cases p<;>simp only[T.kind] at h<;>first|omega|simp[T.keys,T.items]
  ·cases v<;>simp only[T.kind] at h'<;>first|omega|simp[T.keys,T.items]
 have no:¬ Agr p v→R (.bool false) st:=fun h=>by rw[decide_eq_false h] at hR;exact hR
 have h1:¬ p.kind=1:=by omega
 intro d
 induction d with
 | zero=>
  intro i hi hh
  refine L9 _ _ _ ?_
  have c1:¬ ((i:Int)<p.items.length):=by omega
  have hA:Agr p v:=by
   refine .parts hk h67 ?_ hl fun j x y hx hy=>(hh j (by have:=(List.getElem?_eq_some_iff.1 hx).1;omega)).2 x y hx hy
   rcases h67 with h|h
   ·have h':v.kind=6:=by omega
    have e1:p.keys=[]:=by cases p<;>simp only[T.kind] at h<;>first|omega|rfl
    have e2:v.keys=[]:=by cases v<;>simp only[T.kind] at h'<;>first|omega|rfl
    rw[e1,e2]
   ·obtain ⟨k1,k2⟩:=hkl h
    refine List.ext_getElem? fun j=>?_
    by_cases hj:j<i
    ·exact (hh j hj).1 h
    ·rw[List.getElem?_eq_none (by omega),List.getElem?_eq_none (by omega)]
  rw[decide_eq_true hA] at hR
  simp only[Hv,ao,aj,ab,ha.li,aU,ad,au,c1,a8,ae]
  exact hR
 | succ d ihd=>
  intro i hi hh
  refine L9 _ _ _ ?_
  have hlt:i<p.items.length:=by omega
  have hlt':i<v.items.length:=by omega
  have c1:((i:Int)<p.items.length):=by omega
  have hx:p.items[i]?=some p.items[i]:=bg hlt
  have hy:v.items[i]?=some v.items[i]:=bg hlt'
  have hm:=List.getElem_mem hlt
  have hm':=List.getElem_mem hlt'
  have e5:bn 7 (.isl (rcs (p.items.map rT)) p.items.length none) (i64 i)=some (.iptr (rcs (p.items.map rT)) (i*7)):=cj hlt
  have e5':bn 7 (.isl (rcs (v.items.map rT)) v.items.length none) (i64 i)=some (.iptr (rcs (v.items.map rT)) (i*7)):=cj hlt'
  have hx5:(p.items.map rT)[i]?=some (rT p.items[i]):=by simp[hlt]
  have hy5:(v.items.map rT)[i]?=some (rT v.items[i]):=by simp[hlt']
  generalize p.items[i]=x at hx hm hx5
  generalize v.items[i]=y at hy hm' hy5
  have hw1:=aK (show i<2 ^ 40 by unfold big at hbi;omega)
  have e7:(p.kind==7)=decide (p.kind=7):=by by_cases h:p.kind=7<;>simp[h]
  -- one part
  have part:(p.kind=7→p.keys[i]?=v.keys[i]?)→aw Tryz.prog 60 [vR (rT x),vR (rT y)] st fun v24 st25=>bd (lun UnOp.not v24) fun v26=>aq v26 (R (LV.bool false) st25) (bd (al BinOp.add (i64 i) (i64 1)) fun v27=>u5 (.ptr 0 0) (.ptr 1 0) v27 R st25):=by
   intro hkey
   refine (ih x hm y hm').call ?_
   by_cases hg:Agr x y
   ·rw[decide_eq_true hg]
    simp only[bw,bM,ab,ae,ad,aH,hw1]
    refine ihd (i+1) (by omega) fun j hj=>?_
    rcases Nat.lt_or_ge j i with h|h
    ·exact hh j h
    ·have:j=i:=by omega
     subst this
     exact ⟨hkey,fun x' y' h1 h2=>by rw[hx] at h1;rw[hy] at h2;cases h1;cases h2;exact hg⟩
   ·rw[decide_eq_false hg]
    simp only[bw,bL,ab,ah]
    refine no fun hA=>hg ?_
    rw[gO,if_pos h67] at hA
    rcases hA with hA|hA
    ·exact absurd hA h1
    ·exact pQ hA.2.2 i x y hx hy
  simp only[ad] at part
  simp only[Hv,ao,aj,ab,ha.li,aU,ad,au,c1,aZ,ah,ha.kk,bj,e7]
  rw[aL]
  refine ⟨fun h7=>?_,fun h7=>?_⟩
  ·obtain ⟨k1,k2⟩:=hkl h7
   have l1:i<p.keys.length:=by omega
   have l2:i<v.keys.length:=by omega
   have e6:bn 1 (.isl (p.keys.map .str) p.keys.length none) (i64 i)=some (.iptr (p.keys.map .str) (i*1)):=cj l1
   have e6':bn 1 (.isl (v.keys.map .str) v.keys.length none) (i64 i)=some (.iptr (v.keys.map .str) (i*1)):=cj l2
   have hg:(p.keys.map LV.str)[i*1]?=some (.str p.keys[i]):=by simp[l1]
   have hg':(v.keys.map LV.str)[i*1]?=some (.str v.keys[i]):=by simp[l2]
   have hp1:p.keys[i]?=some p.keys[i]:=bg l1
   have hp2:v.keys[i]?=some v.keys[i]:=bg l2
   generalize p.keys[i]=n1 at hg hp1
   generalize v.keys[i]=n2 at hg' hp2
   simp only[ha.ki,hb.ki,ab,e6,e6',bA,hg,hg',ct,iV]
   rw[cd]
   refine ⟨fun q=>no fun hA=>?_,fun q=>?_⟩
   ·rw[gO,if_pos h67] at hA
    rcases hA with hA|hA
    ·exact h1 hA
    ·rw[hA.2.1,hp2] at hp1
     cases hp1
     simp at q
   ·have en:n1=n2:=by simpa using q
    simp only[hb.li,ab,e5,e5',eF hx5,eF hy5]
    exact part fun _=>by rw[hp1,hp2,en]
  ·simp only[hb.li,ab,e5,e5',eF hx5,eF hy5]
   exact part fun h=>absurd h h7
open Classical in
theorem pR:∀ (n:Nat) (p v:T),SizeOf.sizeOf p<n→p.ok→v.ok→Pu Tryz.prog 60 [vR (rT p),vR (rT v)] (.bool (decide (Agr p v)))
 | 0,_,_,h,_,_=>by omega
 | n+1,p,v,hn,hp,hv=>by
  refine Pu.of (c60 _ _ ?_) vO rfl
  have ha:cH [ar.cells .rw (rc (rT p)),.cells .rw (rc (rT v))] 0 (rT p):=rfl
  have hb:cH [ar.cells .rw (rc (rT p)),.cells .rw (rc (rT v))] 1 (rT v):=rfl
  have no:∀ {s:aa},¬ Agr p v→dp s (.bool (decide (Agr p v))) (.bool false):=fun h=>by rw[decide_eq_false h];rfl
  have e1:(p.kind==1)=decide (p.kind=1):=by by_cases h:p.kind=1<;>simp[h]
  have ek:(p.kind != v.kind)=decide (p.kind≠v.kind):=by by_cases h:p.kind=v.kind<;>simp[h]
  have el:((p.items.length:Int) != (v.items.length:Int))=decide (p.items.length≠v.items.length):=by
   by_cases h:p.items.length=v.items.length
   ·simp[h]
   ·have:¬ (p.items.length:Int)=v.items.length:=by omega
    simp[h,bne,this]
  simp only[w60,ec,af,aR,bD,List.cons_append,aW,aj,ao,ha.kk,hb.kk,ab,ad,bj,e1,aL]
  refine ⟨fun h=>?_,fun h=>?_⟩
  ·rw[decide_eq_true (Agr.later h)];exact rfl
  simp only[bJ,ab,ek,aL]
  refine ⟨fun hk=>no fun hA=>?_,fun hk=>?_⟩
  ·rw[gO] at hA
   rcases hA with hA|hA
   ·exact h hA
   ·exact hk hA.1
  have hk':p.kind=v.kind:=Classical.byContradiction hk
  simp only[ha.li,hb.li,aU,ad,bJ,ab,el,aL]
  refine ⟨fun hl=>no fun hA=>?_,fun hl=>?_⟩
  ·rw[gO] at hA
   rcases hA with hA|⟨_,hA⟩
   ·exact h hA
   ·split at hA
    ·exact hl hA.2.len
    ·exact hl (by rw[hA])
  have hl':p.items.length=v.items.length:=Classical.byContradiction hl
  simp only[au,ab,aL,ha.ldA,hb.ldA]
  refine ⟨fun h6=>?_,fun h6=>?_⟩
  ·refine (LG hk' h6).call ?_
   have:Agr p v↔p=v:=by
    rw[gO,if_neg (by omega)]
    exact ⟨fun hA=>by
     rcases hA with hA|hA
     ·exact absurd hA h
     ·exact hA.2,fun hA=>.inr ⟨hk',hA⟩⟩
   by_cases hpv:p=v
   ·rw[decide_eq_true hpv,decide_eq_true (this.2 hpv)];rfl
   ·rw[decide_eq_false hpv,decide_eq_false fun hA=>hpv (this.1 hA)];rfl
  ·have h67:p.kind=6∨p.kind=7:=by have:=T.ur (v:=p);omega
   exact OH (R:=fun r s=>dp s (.bool (decide (Agr p v))) r) hp hv hk' h67 hl' (fun x hx y hy=>pR n x y (by have:=T.fB hx;omega) (T.dY hp x hx) (T.dY hv y hy)) ha hb rfl p.items.length 0 (by omega) fun _ h=>by omega
end
def OI (a0 a1:LV) (R:LV.RT) (st:aa):Prop:=
 bd2 (cu st a1) fun v0 gT=>nw gT [i64 0,LV.str []] fun v2 gE=>bd (ldA gE v0 1) fun v4=>LZ 43 [a0,v4] gE fun v5 iD=>bd (ai v5 0) fun v7=>bd (ai v5 1) fun v8=>bd (bh (aB (aF [(0,1),(1,1)]) [i64 0,LV.str []] [(0,i64 1),(1,v7)])) fun v9=>bd (al BinOp.eql v8 (i64 0)) fun iF=>bd2 (lmk (stV iD 2 v2 v9)) fun _ eQ=>bd (ldA eQ v2 2) fun iN=>R (LV.tup [iN,iF]) eQ
theorem c124 (a0 a1:LV) {R:LV.RT} {st:aa} (h:OI a0 a1 R st):LZ 124 [a0,a1] st R:=
 cz [] [] [.cell 4 92,.tmp 5] Tryz.func124 h
def EU (x4 x5 x6 x25 x26 x27:LV) (R:LV.RT) (st:aa):Prop:=LTg Tryz.prog (kindOf false) [.cell 6 92] (br Tryz.f58 6) [] R (LV.jk 4 (x4::x5::x6::(LV.jk 18 (x25::x26::x27::(LV.jk 34 []))))) st
def QC:List Nat:=(LV.gx 0 62 [4,5,6,25,26,27])
def w58 (a0 a1 a2:LV) (R:LV.RT) (st:aa):Prop:=
 bd2 (cu st a1) fun v0 mK=>bd2 (cu mK a2) fun v2 nE=>nw nE [i64 0,LV.str []] fun v4 iF=>bd (ldA iF v2 1) fun v6=>LZ 124 [a0,v6] iF fun v7 oF=>bd (ai v7 0) fun v9=>bd (ai v7 1) fun oR=>nw oF [i64 0,LV.str []] fun iN gT=>bd2 (lmk (stV gT 2 iN v9)) fun _ eQ=>bd (lun UnOp.not oR) fun rW=>aq rW (bd (ldA eQ iN 2) fun aS=>bd2 (lmk (stV eQ 2 v4 aS)) fun _ gE=>bd (ldA gE v4 2) fun aT=>R aT gE)
 (LZ 36 [a0] eQ fun iS iD=>bd (bB iS) fun bY=>EU v0 v2 v4 iS bY (i64 0) R iD)
theorem c58 (a0 a1 a2:LV) {R:LV.RT} {st:aa} (h:w58 a0 a1 a2 R st):LZ 58 [a0,a1,a2] st R:=
 cz QC [] [.cell 6 92] Tryz.func58 h
def JQ (x4 x5 x6 x25 x26 x27:LV) (R:LV.RT) (st:aa):Prop:=
 bd (al BinOp.lss x27 x26) fun v0=>aq v0
 (bd (bn 6 x25 x27) fun v1=>bd (ldA st v1 6) fun v2=>nw st [LV.str [],LV.nilp,LV.bool false,LV.bool false,LV.bool false,LV.bool false] fun v3 lE=>bd2 (lmk (stV lE 6 v3 v2)) fun _v5 mK=>bd (ldA mK x4 1) fun v7=>bd (ag 0 v3) fun v8=>bd (ld1 mK v8) fun v9=>LZ 50 [v7,v9] mK fun aT nE=>bd (ai aT 0) fun lT=>bd (ai aT 1) fun _=>nw nE [LV.nili] fun bY oF=>bd2 (lmk (stV oF 1 bY lT)) fun _ gE=>bd (ldA gE x5 1) fun p7=>bd (ag 0 v3) fun p8=>bd (ld1 gE p8) fun p9=>LZ 50 [p7,p9] gE fun dO oR=>bd (ai dO 0) fun tO=>bd (ai dO 1) fun _=>nw oR [LV.nili] fun rW aS=>bd2 (lmk (stV aS 1 rW tO)) fun _ iD=>bd (ldA iD rW 1) fun v29=>LZ 55 [v29] iD fun v30 eQ=>bd (lun UnOp.not v30) fun v32=>aq v32
 (bd (ag 0 v3) fun v33=>bd (ld1 eQ v33) fun v34=>bd (bh (aB (aF [(0,1),(1,1)]) [i64 0,LV.str []] [(0,i64 4),(1,v34)])) fun v35=>bd2 (lmk (stV eQ 2 x6 v35)) fun _v36 iF=>bd (ldA iF x6 2) fun v38=>R v38 iF)
 (bd (ldA eQ bY 1) fun v39=>bd (ldA eQ rW 1) fun v40=>LZ 56 [v39,v40] eQ fun v41 gT=>bd (lun UnOp.not v41) fun v43=>aq v43
 (bd (ag 0 v3) fun v44=>bd (ld1 gT v44) fun v45=>bd (bh (aB (aF [(0,1),(1,1)]) [i64 0,LV.str []] [(0,i64 5),(1,v45)])) fun v46=>bd2 (lmk (stV gT 2 x6 v46)) fun _v47 iN=>bd (ldA iN x6 2) fun v49=>R v49 iN)
 (bd (al BinOp.add x27 (i64 1)) fun v50=>EU x4 x5 x6 x25 x26 v50 R gT)))
 (bd (bh (aB (aF [(0,1),(1,1)]) [i64 0,LV.str []] [])) fun v51=>bd2 (lmk (stV st 2 x6 v51)) fun _v52 iS=>bd (ldA iS x6 2) fun v54=>R v54 iS)
theorem MQ (x4 x5 x6 x25 x26 x27:LV) {R:LV.RT} {st:aa} (h:JQ x4 x5 x6 x25 x26 x27 R st):EU x4 x5 x6 x25 x26 x27 R st:=
 pz QC [] h
def EV (x3 x4 x21 x22 x23:LV) (R:LV.RT) (st:aa):Prop:=LTg Tryz.prog (kindOf false) [.cell 4 92] (br Tryz.f59 6) [] R (LV.jk 3 (x3::x4::(LV.jk 16 (x21::x22::x23::(LV.jk 18 []))))) st
def QD:List Nat:=(LV.gx 0 42 [3,4,21,22,23])
def w59 (a0 a1:LV) (R:LV.RT) (st:aa):Prop:=
 bd2 (cu st a1) fun v0 iS=>nw iS [i64 0,LV.str []] fun v2 iF=>bd (ldA iF v0 1) fun v4=>LZ 124 [a0,v4] iF fun v5 mK=>bd (ai v5 0) fun v7=>bd (ai v5 1) fun v8=>nw mK [i64 0,LV.str []] fun v9 gT=>bd2 (lmk (stV gT 2 v9 v7)) fun _ eQ=>bd (lun UnOp.not v8) fun nE=>aq nE (bd (ldA eQ v9 2) fun oF=>bd2 (lmk (stV eQ 2 v2 oF)) fun _ gE=>bd (ldA gE v2 2) fun oR=>R oR gE)
 (LZ 36 [a0] eQ fun iN iD=>bd (bB iN) fun rW=>EV v0 v2 iN rW (i64 0) R iD)
theorem c59 (a0 a1:LV) {R:LV.RT} {st:aa} (h:w59 a0 a1 R st):LZ 59 [a0,a1] st R:=
 cz QD [] [.cell 4 92] Tryz.func59 h
def JR (x3 x4 x21 x22 x23:LV) (R:LV.RT) (st:aa):Prop:=
 bd (al BinOp.lss x23 x22) fun v0=>aq v0
 (bd (bn 6 x21 x23) fun v1=>bd (ldA st v1 6) fun v2=>nw st [LV.str [],LV.nilp,LV.bool false,LV.bool false,LV.bool false,LV.bool false] fun v3 oF=>bd2 (lmk (stV oF 6 v3 v2)) fun _ iF=>bd (ldA iF x3 1) fun v7=>bd (ag 0 v3) fun v8=>bd (ld1 iF v8) fun v9=>LZ 50 [v7,v9] iF fun mK iN=>bd (ai mK 0) fun oR=>bd (ai mK 1) fun _=>nw iN [LV.nili] fun nE iS=>bd2 (lmk (stV iS 1 nE oR)) fun _ gE=>bd (ldA gE nE 1) fun rW=>LZ 55 [rW] gE fun aS eQ=>bd (lun UnOp.not aS) fun aT=>aq aT
 (bd (ag 0 v3) fun bY=>bd (ld1 eQ bY) fun dO=>bd (bh (aB (aF [(0,1),(1,1)]) [i64 0,LV.str []] [(0,i64 4),(1,dO)])) fun lE=>bd2 (lmk (stV eQ 2 x4 lE)) fun _ gT=>bd (ldA gT x4 2) fun lT=>R lT gT)
 (bd (al BinOp.add x23 (i64 1)) fun p7=>EV x3 x4 x21 x22 p7 R eQ))
 (bd (bh (aB (aF [(0,1),(1,1)]) [i64 0,LV.str []] [])) fun p8=>bd2 (lmk (stV st 2 x4 p8)) fun _ iD=>bd (ldA iD x4 2) fun p9=>R p9 iD)
theorem MR (x3 x4 x21 x22 x23:LV) {R:LV.RT} {st:aa} (h:JR x3 x4 x21 x22 x23 R st):EV x3 x4 x21 x22 x23 R st:=
 pz QD [] h
def EW (x0 x1 x5 x6 x7 x8:LV) (R:LV.RT) (st:aa):Prop:=LTg Tryz.prog (kindOf false) [.tmp 4] (br Tryz.f3 12) [] R (x0::x1::(LV.jk 3 (x5::x6::x7::x8::(LV.jk 167 [])))) st
def gl3:List Nat:=(LV.gx 2 174 [5,6,7,8])
def rc3:List (Nat × List Nat):=[(16,(LV.gx 2 174 [5,6,7,8,11]))]
def w3 (a0 a1:LV) (R:LV.RT) (st:aa):Prop:=
 bd (bB a1) fun v0=>bd (al BinOp.gtr v0 (i64 20)) fun v1=>aq v1 (LZ 17 [] st fun v2 gE=>R v2 gE)
 (LZ 17 [] st fun v4 eQ=>bd (lun UnOp.not v4) fun v6=>aq v6 (LZ 17 [] eQ fun v7 gT=>R v7 gT)
 (bd (al BinOp.lss a0 (i64 0)) fun v9=>aq v9 (EW a0 a1 LV.nils (i64 2) (LV.str []) (i64 0) R eQ)
 (bd (al BinOp.gtr a0 (i64 1000)) fun iD=>aq iD (EW a0 a1 LV.nils (i64 2) (LV.str []) (i64 0) R eQ)
 (bd (bB a1) fun iF=>bd (al BinOp.gtr iF (i64 16)) fun iN=>aq iN (EW a0 a1 LV.nils (i64 3) (LV.str []) (i64 0) R eQ)
 (EW a0 a1 LV.nils (i64 0) (LV.str []) (i64 0) R eQ)))))
theorem c3 (a0 a1:LV) {R:LV.RT} {st:aa} (h:w3 a0 a1 R st):LZ 3 [a0,a1] st R:=
 cz gl3 rc3 [.tmp 4] Tryz.func3 h
def Gv (x1 x5 x8 x11 x90:LV) (R:LV.RT) (st:aa):Prop:=LTg Tryz.prog (kindOf false) [.tmp 4] (br Tryz.f5 8) [] R (.aY::x1::(LV.jk 3 (x5::.aY::.aY::x8::.aY::.aY::x11::(LV.jk 78 (x90::(LV.jk 101 [])))))) st
def w5 (a0 a1:LV) (R:LV.RT) (st:aa):Prop:=
 bd (cm a0) fun v0=>bd (al BinOp.gtr v0 (i64 600)) fun v1=>aq v1 (LZ 17 [] st fun v2 p9=>R v2 p9)
 (bd (cm a1) fun v4=>bd (al BinOp.gtr v4 (i64 60)) fun v5=>aq v5 (LZ 17 [] st fun v6 tO=>R v6 tO)
 (LZ 17 [] st fun v8 bY=>bd (lun UnOp.not v8) fun v10=>aq v10 (LZ 17 [] bY fun v11 mK=>R v11 mK)
 (LZ 21 [a0] bY fun nE oF=>bd (ai nE 0) fun eQ=>bd (ai nE 1) fun dO=>bd (ai nE 2) fun lE=>LZ 35 [a0] oF fun oR rW=>bd (ai oR 0) fun v20=>bd (ai oR 1) fun v21=>bd (ai oR 2) fun lT=>nw rW [i64 0,LV.nils] fun gT aS=>bd2 (lmk (stV aS 2 gT v20)) fun _v25 iD=>bd (al BinOp.neq lT (i64 0)) fun v27=>aq v27
 (bd (eqB BinOp.eql (eI true eQ LV.nilp)) fun v28=>aq v28 (bd (al BinOp.eql dO v21) fun v29=>aq v29 (bd (al BinOp.eql lE lT) fun v30=>R v30 iD) (R (LV.bool false) iD))
 (R (LV.bool false) iD))
 (LZ 36 [eQ] iD fun iF iN=>bd (al BinOp.neq dO (i64 0)) fun v33=>aq v33 (Gv a1 eQ gT iF (LV.bool true) R iN)
 (bd (al BinOp.neq lE (i64 0)) fun v34=>aq v34 (Gv a1 eQ gT iF (LV.bool true) R iN)
 (LZ 22 [eQ] iN fun v35 iS=>bd (ck BinOp.neq v35 a0) fun v37=>aq v37 (Gv a1 eQ gT iF (LV.bool true) R iS)
 (bd (ag 0 gT) fun p7=>bd (ld1 iS p7) fun p8=>LZ 37 [eQ] iS fun v40 gE=>ld1 gE p7=some p8∧
 bd (al BinOp.neq v40 p8) fun v42=>aq v42 (Gv a1 eQ gT iF (LV.bool true) R gE)
 (bd (bB iF) fun v43=>bd (ag 1 gT) fun v44=>bd (ld1 gE v44) fun v45=>bd (bB v45) fun v46=>bd (al BinOp.neq v43 v46) fun v47=>aq v47 (Gv a1 eQ gT iF (LV.bool true) R gE)
 (LZ 23 [eQ,eQ] gE fun v48 aT=>bd (lun UnOp.not v48) fun v50=>Gv a1 eQ gT iF v50 R aT)))))))))
abbrev Gw (u u':TypeId):List (Nat × List LV):=[(3,Lib.pow10Tab.map fun z=>.int .u64 z),(1,[.iface u .aY]),(2,[.iface u' .aY])]
theorem LH {u u':TypeId}:GlS (zq (Gw u u')):=⟨by simp[zq,Gw],⟨u,rfl⟩,⟨u',rfl⟩⟩
section
variable {st:aa} {R:LV→aa→Prop}
theorem C2:cZ Tryz.prog 78:=⟨Tryz.f78,bG Tryz.f78,Tryz.func78,by kernel_rfl,by kernel_rfl⟩
theorem JS {cs:List LV} {n:Nat} (hc:cs.length=n*6) (hp:LV.aG cs=true) (h1:cs.all LV.one=true) (hn:n≤2 ^ 30):Pu Tryz.prog 78 [.isl cs n none] (.isl cs n none):=by
 have hpl:(LV.isl cs n none).plain=true:=by simp only[LV.plain,hp]
 refine Pu.of ?_ (by simp only[LV.aG,hpl];rfl) hpl
 have ef:aB (fun i=>some (i*6,6)) (List.replicate 0 [LV.str [],LV.nilp,LV.bool false,LV.bool false,LV.bool false,LV.bool false]).flatten []=some []:=rfl
 by_cases h0:n=0
 ·subst h0
  have:cs=[]:=List.eq_nil_of_length_eq_zero (by omega)
  subst this
  refine aw.Na C2 (c78 _ ?_) (c78 _ ?_)
  ·exact .inr (.inr ⟨.inr rfl,rfl,rfl⟩)
  ·have e0:sj .emp .nils=some false:=rfl
   simp only[w78,e0,dL,dz,ab,ae,ef,bE,af]
   refine .inl ⟨_,_,_,.rw,[],rfl,rfl,rfl,Nat.le_refl _,rfl⟩
 ·refine c78 _ ?_
  have e0:sj (.isl cs n none) .nils=some false:=by
   show (if 0<n then some false else none)=_
   rw[if_pos (by omega)]
  have hs:=th (st:=[ar.cells .rw []]) (c:=none) hc
  have hr:eJ n 32=true:=dR (by omega) (by omega)
  have hap:bo [ar.cells .rw []] 6 32 .rw (.sl 0 0 0 (.ex 0)) (.isl cs n none)=some (.sl 1 0 n (.rest 6),[.cells .rw [],.cells .rw cs]):=by
   have c2:¬ (n≤0):=by omega
   simp[bo,hs,h0,hr]
  simp only[w78,e0,dL,dz,ab,ae,ef,bE,af,bD,aR]
  rw[hap,af]
  refine .inl ⟨_,_,_,.rw,cs,rfl,rfl,rfl,by rw[hc];omega,?_⟩
  rw[List.drop_zero,List.take_of_length_le (Nat.le_refl _)]
  exact bU _ hp
theorem EX:∀ {l:List AT},(atC l).all LV.one=true
 | []=>rfl
 | a::l=>by
  have:=EX (l:=l)
  unfold atC at this ⊢
  rw[List.map_cons,ga,List.all_append,this];rfl
theorem EY {S:ST} (hS:S.ok):Pu Tryz.prog 36 [sV S] (.isl (atC S.l) S.l.length none):=by
 have hpl:(LV.isl (atC S.l) S.l.length none).plain=true:=by simp only[LV.plain,kf]
 refine Pu.of (c36 _ ?_) (by simp only[LV.aG,ie,Bool.and_true]) hpl
 have ep:eI true (sV S) .nilp=some false:=rfl
 have h16:=hS.len
 simp only[w36,ep,dL,dz,ab,ae]
 show bd (ak (.iptr (sC S) 0)) _
 simp only[cf,ab,b9,aj,EB]
 refine (JS Ey kf EX (by omega)).call ?_
 exact bu _ hpl
end
end Go.Proofs.YtknegckgmklnhaaGreatDoor
