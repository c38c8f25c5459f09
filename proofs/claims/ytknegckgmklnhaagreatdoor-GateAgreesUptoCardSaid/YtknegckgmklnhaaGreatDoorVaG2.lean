/- Parts of the proof. -/
import Derived.Test.YtknegckgmklnhaaGreatDoorVbB3
import Derived.Test.YtknegckgmklnhaaGreatDoorRows
namespace Go.Proofs.YtknegckgmklnhaaGreatDoor
open Go Go.CP Classical
set_option maxRecDepth 100000
theorem zp {l l':List (List UInt8)} (hl:l.length=l'.length) (hb:l.length≤big) {R:LV→aa→Prop} :
  ∀ (d i:Nat) (st:aa),i+d=l.length→(∀ s,R (.bool (decide (l.drop i=l'.drop i))) s)→qc (sL l) (sL l') (i64 l.length) (i64 i) R st:=by
 intro d
 induction d with
 | zero=>
  intro i st hi hR
  apply xi
  have:¬ ((i:Int)<l.length):=by omega
  simp only[qi,aq,aY,ad,this,ft,aA]
  have:=hR st
  rw[dw (by omega),dw (by omega)] at this
  rwa [decide_eq_true rfl] at this
 | succ d ih=>
  intro i st hi hR
  apply xi
  have hlt:i<l.length:=by omega
  have hlt':i<l'.length:=by omega
  have c1:(i:Int)<l.length:=by omega
  have hx:l[i]?=some l[i]:=ba hlt
  have hy:l'[i]?=some l'[i]:=ba hlt'
  have dx:l.drop i=l[i]::l.drop (i+1):=gf hlt
  have dy:l'.drop i=l'[i]::l'.drop (i+1):=gf hlt'
  generalize l[i]=x at hx dx
  generalize l'[i]=y at hy dy
  have e1:bF 1 (sL l) (i64 i)=some (.iptr (l.map .str) (i*1)):=dj hlt
  have e2:bF 1 (sL l') (i64 i)=some (.iptr (l'.map .str) (i*1)):=dj hlt'
  have g1:(l.map LV.str)[i*1]?=some (.str x):=by simp[hx]
  have g2:(l'.map LV.str)[i*1]?=some (.str y):=by simp[hy]
  simp only[qi,aq,aY,ad,c1,dT,aH,e1,e2,fD,g1,g2,gv,wP]
  rw[bA]
  refine ⟨fun h=>?_,fun h=>?_⟩
  ·have hne:x≠y:=by simpa using h
   have:=hR st
   rwa [decide_eq_false (fun e=>by rw[dx,dy] at e;exact hne (List.cons.inj e).1)] at this
  ·have he:x=y:=by simpa using h
   simp only[bI,ad,bR (show i<2 ^ 40 by unfold big at hb;omega)]
   refine ih (i+1) st (by omega) fun s=>?_
   have:=hR s
   by_cases hd:l.drop (i+1)=l'.drop (i+1)
   ·rw[decide_eq_true hd]
    rwa [decide_eq_true (by rw[dx,dy,he,hd])] at this
   ·rw[decide_eq_false hd]
    rwa [decide_eq_false (fun e=>by rw[dx,dy] at e;exact hd (List.cons.inj e).2)] at this
theorem yo {l l':List (List UInt8)} (hb:l.length≤big):Pu Tryz.prog 121 [sL l,sL l'] (.bool (decide (l=l'))):=by
 refine Pu.of (CL _ _ ?_) (by simp only[LV.ar,LV.plain,bP (f:=LV.str) fun _ _=>rfl,Bool.and_true]) rfl
 simp only[AY,bj,ad,aq,cC,bA]
 refine ⟨fun h=>?_,fun h=>?_⟩
 ·have hne:l≠l':=fun e=>by simp[e] at h
  rw[decide_eq_false hne];rfl
 ·have he:l.length=l'.length:=by
   have h1:(l.length:Int)=l'.length:=by simpa using h
   omega
  exact zp he hb l.length 0 _ (by omega) fun s=>rfl
inductive Agr:T→T→Prop where
 | later {a b:T} (h:a.kind=1):Agr a b
 | parts {a b:T} (h:a.kind=b.kind) (hk:a.kind=6∨a.kind=7) (he:a.keys=b.keys) (hl:a.items.length=b.items.length) (hi:∀ (i:Nat) (x y:T),a.items[i]?=some x→b.items[i]?=some y→Agr x y):Agr a b
 | same {a:T} (hk:¬ (a.kind=6∨a.kind=7)):Agr a a
theorem mP {α β:Type} {p:α→β→Prop}:∀ {a:List α} {b:List β},a.length=b.length→(∀ (i:Nat) (x:α) (y:β),a[i]?=some x→b[i]?=some y→p x y)→dR p a b
 | [],[],_,_=>trivial
 | [],_::_,h,_=>by simp at h
 | _::_,[],h,_=>by simp at h
 | x::a,y::b,h,hi=>⟨hi 0 x y rfl rfl,mP (by simpa using h) fun i u v hu hv=>hi (i+1) u v (by simpa using hu) (by simpa using hv)⟩
theorem mQ {α β:Type} {p:α→β→Prop}:∀ {a:List α} {b:List β},dR p a b→∀ (i:Nat) (x:α) (y:β),a[i]?=some x→b[i]?=some y→p x y
 | x::a,y::b,h,0,u,v,hu,hv=>by simp at hu hv;subst hu hv;exact h.1
 | x::a,y::b,h,i+1,u,v,hu,hv=>mQ h.2 i u v (by simpa using hu) (by simpa using hv)
 | [],_,_,_,_,_,hu,_=>by simp at hu
theorem kM {a b:T}:Agr a b↔a.kind=1∨(a.kind=b.kind∧if a.kind=6∨a.kind=7 then a.keys=b.keys∧dR Agr a.items b.items else a=b):=by
 constructor
 ·intro h
  cases h with
  | later h=>exact .inl h
  | parts h hk he hl hi=>rw[if_pos hk];exact .inr ⟨h,he,mP hl hi⟩
  | same hk=>rw[if_neg hk];exact .inr ⟨rfl,rfl⟩
 ·rintro (h|⟨h,h2⟩)
  ·exact .later h
  ·by_cases hk:a.kind=6∨a.kind=7
   ·rw[if_pos hk] at h2
    exact .parts h hk h2.1 h2.2.len fun i x y hx hy=>mQ h2.2 i x y hx hy
   ·rw[if_neg hk] at h2
    obtain ⟨rfl⟩:=h2
    exact .same hk
theorem wq:∀ (n:Nat) (a b:T),SizeOf.sizeOf a<n→every iZ a=true→(Agr a b↔a=b)
 | 0,_,_,h,_=>by omega
 | n+1,a,b,hn,hk=>by
  rw[ot,aF] at hk
  have h1:¬ a.kind=1:=by have:=hk.1;unfold iZ at this;simpa using this
  have hrec:∀ x ∈ a.items,∀ y,Agr x y↔x=y:=fun x hx y=>wq n x y (by have:=T.eH hx;omega) (List.all_eq_true.1 hk.2 x hx)
  have hall:dR Agr a.items b.items↔a.items=b.items:=by
   rw[← dR.eq]
   constructor
   ·intro h;exact mP h.len fun i x y hx hy=>(hrec x (cd hx) y).1 (mQ h i x y hx hy)
   ·intro h;exact mP h.len fun i x y hx hy=>(hrec x (cd hx) y).2 (mQ h i x y hx hy)
  rw[kM,hall]
  constructor
  ·rintro (h|⟨h,h2⟩)
   ·exact absurd h h1
   ·split at h2
    ·rename_i hk67
     obtain ⟨e1,e2⟩:=h2
     cases a<;>simp only[T.kind] at hk67 h<;>try (exact absurd hk67 (by decide))
     ·cases b<;>simp only[] at h<;>try (exact absurd h (by decide))
      simp only[T.items] at e2;rw[e2]
     ·cases b<;>simp only[] at h<;>try (exact absurd h (by decide))
      simp only[T.items,T.keys] at e1 e2
      rename_i es es'
      congr 1
      clear hall hrec hk hn h1 h hk67
      induction es generalizing es' with
      | nil=>cases es'<;>simp_all
      | cons e es ih=>
       cases es' with
       | nil=>simp at e1
       | cons e' es'=>
        simp only[List.map_cons,List.cons.injEq] at e1 e2
        rw[ih es' e1.2 e2.2]
        congr 1
        exact Prod.ext e1.1 e2.1
    ·exact h2
  ·rintro rfl
   refine .inr ⟨rfl,?_⟩
   split
   ·exact ⟨rfl,rfl⟩
   ·rfl
theorem zq {t:T} (h:t.ok):t.keys.length≤big:=by
 cases t<;>simp only[T.keys,a8,Nat.zero_le,cb]
 exact h.1
theorem Bu {t:T} (h:t.ok):t.items.length≤big:=by
 cases t<;>simp only[T.items,a8,Nat.zero_le,cb]
 ·exact h.1
 ·exact h.1
theorem po:∀ (n:Nat) (a b:T),SizeOf.sizeOf a<n→a.ok→b.ok→Pu Tryz.prog 56 [vT a,vT b] (.bool (decide (Agr a b)))
 | 0,_,_,h,_,_=>by omega
 | n+1,a,b,hn,ha,hb=>by
  have hrec:∀ x ∈ a.items,∀ y,y.ok→Pu Tryz.prog 56 [vT x,vT y] (.bool (decide (Agr x y))):=fun x hx y hy=>po n x y (by have:=T.eH hx;omega) (T.gD ha x hx) hy
  refine Pu.of (c56 _ _ ?_) (by simp only[LV.ar,LV.plain,bQ,Bool.and_true]) rfl
  have g0:ldA [al.cells .rw [lvT a],.cells .rw [lvT b]] (.ptr 0 0) 1=some (vT a):=rfl
  have g1:ldA [al.cells .rw [lvT a],.cells .rw [lvT b]] (.ptr 1 0) 1=some (vT b):=rfl
  have no:∀ {p:Prop} {st:aa},¬ p→dp st (.bool (decide p)) (.bool false):=fun h=>by rw[decide_eq_false h];rfl
  have yes:∀ {p q:Prop} {dq:Decidable q} {st:aa},(q↔p)→dp st (.bool (decide p)) (.bool (@decide q dq)):=fun {p q dq st} h=>by
   by_cases hp:p
   ·rw[decide_eq_true hp,decide_eq_true (h.2 hp)];rfl
   ·rw[decide_eq_false hp,decide_eq_false fun hq=>hp (h.1 hq)];rfl
  have parts:(a.kind=6∨a.kind=7)→¬ a.kind=1→a.kind=b.kind→ak Tryz.prog 49 [vT a] [al.cells .rw [lvT a],.cells .rw [lvT b]] fun v32 st33=>ldA st33 (.ptr 1 0) 1=some (vT b)∧ak Tryz.prog 49 [vT b] st33 fun v34 st35=>ak Tryz.prog 121 [v32,v34] st35 fun v36 st37=>
    aL v36 (bd (ldA st37 (.ptr 0 0) 1) fun v38=>bd (ldA st37 (.ptr 1 0) 1) fun v39=>ak Tryz.prog 101 [v38] st37 fun v40 st41=>ldA st41 (.ptr 1 0) 1=some v39∧ak Tryz.prog 101 [v39] st41 fun v42 st43=>
     ak Tryz.prog 122 [v40,v42,LV.fn (Fn.func 56) [] []] st43 fun v44 st45=>dp st45 (.bool (decide (Agr a b))) v44) (dp st37 (.bool (decide (Agr a b))) (.bool false)):=by
   intro hk h1 hkk
   refine (qt ha).call ⟨g1,(qt hb).call ((yo (zq ha)).call ?_)⟩
   rw[bA]
   refine ⟨fun h=>?_,fun h=>?_⟩
   ·have he:a.keys=b.keys:=of_decide_eq_true h
    simp only[g0,g1,ad]
    refine (oe ha).call ⟨g1,(oe hb).call ?_⟩
    refine (Ba (p:=Agr) (Bu ha) fun i x y hx hy=>hrec x (cd hx) y (T.gD hb y (cd hy))).call ?_
    refine yes ?_
    rw[kM,if_pos hk]
    exact ⟨fun h=>.inr ⟨hkk,he,h⟩,fun h=>by
     rcases h with h|h
     ·exact absurd h h1
     ·exact h.2.2⟩
   ·have he:¬ a.keys=b.keys:=of_decide_eq_false h
    refine no fun hA=>?_
    rw[kM,if_pos hk] at hA
    rcases hA with hA|hA
    ·exact h1 hA
    ·exact he hA.2.1
  simp only[w56,dJ,aj,aR,List.cons_append,a8,aN,av,g0,ad]
  refine (qo a).call ?_
  simp only[aq,cP,ad]
  rw[bA]
  refine ⟨fun h=>?_,fun h=>?_⟩
  ·have h1:a.kind=1:=by simpa using h
   rw[decide_eq_true (Agr.later h1)];rfl
  have h1:¬ a.kind=1:=by simpa using h
  simp only[g1,ad]
  refine (qo b).call ?_
  simp only[aq,cC,ad]
  rw[bA]
  refine ⟨fun h=>?_,fun h=>?_⟩
  ·have hne:¬ a.kind=b.kind:=by simpa using h
   refine no fun hA=>?_
   rw[kM] at hA
   rcases hA with hA|hA
   ·exact h1 hA
   ·exact hne hA.1
  have hkk:a.kind=b.kind:=by simpa using h
  rw[bA]
  refine ⟨fun h=>?_,fun h=>?_⟩
  ·simp only[g0,g1,ad]
   exact parts (.inl (by simpa using h)) h1 hkk
  have h6:¬ a.kind=6:=by simpa using h
  rw[bA]
  refine ⟨fun h=>?_,fun h=>?_⟩
  ·simp only[g0,g1,ad]
   exact parts (.inr (by simpa using h)) h1 hkk
  have h7:¬ a.kind=7:=by simpa using h
  simp only[g0,g1,ad]
  refine (u9 _ a b (Nat.lt_succ_self _) ha hb).call ?_
  refine yes ?_
  rw[kM,if_neg (by omega)]
  exact ⟨fun e=>.inr ⟨hkk,e⟩,fun h=>by
   rcases h with h|h
   ·exact absurd h h1
   ·exact h.2⟩
end Go.Proofs.YtknegckgmklnhaaGreatDoor
namespace Go.Proofs.YtknegckgmklnhaaGreatDoor
open Go Go.CP
set_option maxRecDepth 100000
theorem sB:∀ (n:Nat) (t:T),SizeOf.sizeOf t<n→Agr t t
 | 0,_,h=>by omega
 | n+1,t,h=>by
  by_cases hk:t.kind=6∨t.kind=7
  ·refine .parts rfl hk rfl rfl fun i x y hx hy=>?_
   rw[hx] at hy
   cases hy
   exact sB n x (by have:=T.eH (cd hx);omega)
  ·exact .same hk
theorem sC (t:T):Agr t t:=sB _ t (Nat.lt_succ_self _)
theorem pq {k:Tx} {z:T}:∀ {es:List (Tx × T)},(es.map (·.1)).Pairwise ltB→∀ {y:T},T.find es k=some y→
  (T.ins k z es).map (·.1)=es.map (·.1)∧∃ i:Nat,es[i]?=some (k,y)∧T.ins k z es=es.set i (k,z)
 | [],_,y,hf=>by simp[T.find] at hf
 | e::es,h,y,hf=>by
  simp only[List.map_cons,List.pairwise_cons] at h
  unfold T.ins
  by_cases hk:k=e.1
  ·subst hk
   have:y=e.2:=by
    unfold T.find at hf
    rw[List.find?_cons_of_pos (by simp)] at hf
    simpa using hf.symm
   subst this
   rw[if_pos rfl]
   exact ⟨rfl,0,rfl,rfl⟩
  ·have hf':T.find es k=some y:=by
    unfold T.find at hf ⊢
    rwa [List.find?_cons_of_neg (by simpa using Ne.symm hk)] at hf
   have hm:k ∈ es.map (·.1):=List.mem_map.2 ⟨_,T.ky hf',rfl⟩
   have hb:Op.bytesLess k e.1=false:=xA (h.1 _ hm)
   rw[if_neg hk,if_neg (by rw[hb];simp)]
   obtain ⟨h1,i,h2,h3⟩:=pq (z:=z) h.2 hf'
   refine ⟨by simp only[List.map_cons,h1],i+1,by simpa using h2,?_⟩
   rw[h3,List.set_cons_succ]
theorem pr {q:T→Bool} {t x:T} (hx:x ∈ t.items) (h:every q x=false):every q t=false:=by
 rw[ot,Bool.and_eq_false_iff]
 right
 rw[Bool.eq_false_iff]
 intro hc
 have:=List.all_eq_true.1 hc x hx
 rw[h] at this
 cases this
theorem px {l:List T} {i:Nat} {y z:T} (hy:l[i]?=some y) (hz:Agr z y):∀ (j:Nat) (a b:T),(l.set i z)[j]?=some a→l[j]?=some b→Agr a b:=by
 intro j a b ha hb
 rw[List.getElem?_set] at ha
 split at ha
 ·rename_i e
  subst e
  split at ha
  ·cases ha
   rw[hy] at hb;cases hb
   exact hz
  ·cases ha
 ·rw[ha] at hb;cases hb
  exact sC _
theorem ou:∀ (l:List Stp) {a y p:T},a.ok→goT a l=some y→b9 a .unknown l=some (some p)→Agr p a∧p.ok∧every iZ p=false
 | [],a,y,p,_,_,hw=>by
  simp only[b9,ao] at hw
  subst hw
  exact ⟨.later rfl,trivial,rfl⟩
 | s::l,a,y,p,ha,hg,hw=>by
  simp only[goT] at hg
  split at hg
  case h_2=>cases hg
  rename_i x e hin
  split at hg
  case isFalse=>cases hg
  rename_i he
  subst he
  simp only[b9,hin] at hw
  rw[if_neg (by simp)] at hw
  split at hw
  ·cases hw
  ·cases hw
  rename_i z hz
  simp only[ao] at hw
  subst hw
  obtain ⟨k1,k2,k3⟩:=ou l (mO ha hin) hg hz
  unfold T.dS at hin
  split at hin
  ·split at hin
   case h_2=>cases hin
   rename_i L
   simp only[ao] at hin
   split at hin
   case h_2=>cases hin
   rename_i x' hx
   cases hin
   have hlt:=(List.getElem?_eq_some_iff.1 hx).1
   have hs0:s.2≠(L.length:Int):=by omega
   have hp:wk (.list L) s z=.list (L.set s.2.toNat z):=by simp only[wk,oI,if_neg hs0]
   rw[hp]
   simp only[T.ok] at ha
   refine ⟨.parts rfl (.inl rfl) rfl (by simp[T.items]) (px hx k1),?_,?_⟩
   ·simp only[T.ok,List.length_set]
    refine ⟨ha.1,T.eL.2 fun u hu=>?_⟩
    rcases List.mem_or_eq_of_mem_set hu with hu|rfl
    ·exact T.eL.1 ha.2 u hu
    ·exact k2
   ·exact pr (x:=z) (by simp only[T.items];exact List.mem_set hlt z) k3
  ·split at hin
   case h_2=>cases hin
   rename_i es
   simp only[ao] at hin
   split at hin
   case h_2=>cases hin
   rename_i x' hx
   cases hin
   simp only[T.ok] at ha
   obtain ⟨h1,i,h2,h3⟩:=pq (z:=z) ha.2.2 hx
   have hlt:=(List.getElem?_eq_some_iff.1 h2).1
   show Agr (.map (T.ins s.1 z es)) (.map es)∧T.ok (.map (T.ins s.1 z es))∧every iZ (.map (T.ins s.1 z es))=false
   have hi:(es.set i (s.1,z)).map (·.2)=(es.map (·.2)).set i z:=by rw[List.map_set]
   refine ⟨.parts rfl (.inr rfl) h1 (by rw[h3];simp[T.items]) ?_,?_,?_⟩
   ·rw[h3]
    simp only[T.items,hi]
    exact px (by simp[h2]) k1
   ·simp only[T.ok]
    refine ⟨by rw[h3,List.length_set];exact ha.1,T.fi.2 fun u hu=>?_,by rw[h1];exact ha.2.2⟩
    rw[h3] at hu
    rcases List.mem_or_eq_of_mem_set hu with hu|rfl
    ·exact T.fi.1 ha.2.1 u hu
    ·exact ⟨(T.fi.1 ha.2.1 _ (cd h2)).1,k2⟩
   ·refine pr (x:=z) ?_ k3
    rw[h3]
    simp only[T.items,hi]
    exact List.mem_set (by simpa using hlt) z
end Go.Proofs.YtknegckgmklnhaaGreatDoor
namespace Go.Proofs.YtknegckgmklnhaaGreatDoor
open Go Go.CP Go.ChangeShapes
set_option maxRecDepth 100000
theorem Cz:Tryz.prog.cellsOf 49=7:=by kernel_rfl
theorem ce3:Tryz.prog.cellsOf 3=1:=by kernel_rfl
theorem ce4:Tryz.prog.cellsOf 4=1:=by kernel_rfl
theorem ce9:Tryz.prog.cellsOf 9=1:=by kernel_rfl
theorem CW:Tryz.prog.cellsOf 47=1:=by kernel_rfl
theorem CX:Tryz.prog.cellsOf 26=1:=by kernel_rfl
section
variable {H:Type}
theorem yp {d:DataW H}:1≤Rows.uptoBulk d:=by
 cases d with
 | lit l=>cases l<;>simp[Rows.uptoBulk]
 | _=>simp[Rows.uptoBulk]
theorem kN:∀ {l:List (DataW H)},l.length≤Rows.uptoBulkAll l
 | []=>by simp
 | x::r=>by have:=kN (l:=r);have:=yp (d:=x);simp only[Rows.uptoBulkAll,aN];omega
theorem qF {n:Nat} {xs:List LV} {d:DataW H} (h:bn Tryz.prog n 3 xs d):∃ k:Int,xs=[i64 k]∧-9223372036854775808≤k∧k<9223372036854775808:=by
 cases n with
 | zero=>exact h.elim
 | succ n=>
  unfold bn at h
  rw[Tryz.underlying3] at h
  obtain ⟨m,rfl,hw⟩:=h
  have h1:IntKind.min .i64 = -9223372036854775808:=rfl
  have h2:IntKind.max .i64=9223372036854775807:=rfl
  simp only[Lit.wf,aF,decide_eq_true_eq,h1,h2] at hw
  exact ⟨m,rfl,hw.1,by omega⟩
theorem zr {n:Nat} {xs:List LV} {d:DataW H} (h:bn Tryz.prog n 4 xs d):∃ b,xs=[.bool b]:=by
 cases n with
 | zero=>exact h.elim
 | succ n=>unfold bn at h;rw[Tryz.underlying4] at h;exact h
theorem tZ {n:Nat} {xs:List LV} {d:DataW H} (h:bn Tryz.prog n 9 xs d):∃ s:List UInt8,xs=[.str s]∧s.length≤Rows.uptoBulk d:=by
 cases n with
 | zero=>exact h.elim
 | succ n=>
  unfold bn at h;rw[Tryz.underlying9] at h
  obtain ⟨s,rfl,_,rfl⟩:=h
  exact ⟨s,rfl,by simp[Rows.uptoBulk]⟩
theorem sD {n N:Nat}:∀ {rows:List (List LV)} {elems:List (DataW H)},elems.length=rows.length→(∀ (i:Nat) (r:List LV) (di:DataW H),rows[i]?=some r→elems[i]?=some di→r.length=1∧bn Tryz.prog n 9 r di)→
  Rows.uptoBulkAll elems≤N→∃ l:List (List UInt8),rows.flatten=l.map .str∧l.length=rows.length∧∀ x ∈ l,x.length≤N
 | [],_,_,_,_=>⟨[],rfl,rfl,fun _ h=>(by cases h)⟩
 | r::rows,[],h,_,_=>by simp at h
 | r::rows,d::elems,h,hr,hb=>by
  simp only[Rows.uptoBulkAll] at hb
  obtain ⟨s,rfl,hs⟩:=tZ (hr 0 r d rfl rfl).2
  obtain ⟨l,h1,h2,h3⟩:=sD (n:=n) (N:=N) (rows:=rows) (elems:=elems) (by simpa using h) (fun i r di a b=>hr (i+1) r di (by simpa using a) (by simpa using b)) (by omega)
  refine ⟨s::l,by simp[h1],by simp[h2],fun x hx=>?_⟩
  rcases List.mem_cons.1 hx with rfl|hx
  ·omega
  ·exact h3 x hx
theorem zt {n:Nat} {xs:List LV} {d:DataW H} (h:bn Tryz.prog n 26 xs d):∃ l:List (List UInt8),xs=[sI l]∧l.length≤Rows.uptoBulk d∧∀ x ∈ l,x.length≤Rows.uptoBulk d:=by
 cases n with
 | zero=>exact h.elim
 | succ n=>
  unfold bn at h;rw[Tryz.underlying26] at h
  obtain ⟨rows,elems,rfl,hl,hd,hr⟩:=h
  rcases hd with rfl|⟨rest,rfl⟩
  ·exact ⟨[],rfl,by simp,fun _ h=>(by cases h)⟩
  ·rw[ce9] at hr
   obtain ⟨l,h1,h2,h3⟩:=sD hl hr (Nat.le_refl _)
   have h4:=kN (l:=elems)
   refine ⟨l,by rw[h1,← h2],by simp only[Rows.uptoBulk];omega,fun x hx=>?_⟩
   have:=h3 x hx
   simp only[Rows.uptoBulk];omega
theorem vf {n N:Nat} (ih:∀ {xs:List LV} {d:DataW H},bn Tryz.prog n 49 xs d→Rows.uptoBulk d≤N→∃ r,xs=rc r∧r.ok):∀ {rows:List (List LV)} {elems:List (DataW H)},elems.length=rows.length→
  (∀ (i:Nat) (r:List LV) (di:DataW H),rows[i]?=some r→elems[i]?=some di→r.length=7∧bn Tryz.prog n 49 r di)→Rows.uptoBulkAll elems≤N→∃ l:List RV,rows.flatten=rcs l∧l.length=rows.length∧∀ x ∈ l,x.ok
 | [],_,_,_,_=>⟨[],rfl,rfl,fun _ h=>(by cases h)⟩
 | r::rows,[],h,_,_=>by simp at h
 | r::rows,d::elems,h,hr,hb=>by
  simp only[Rows.uptoBulkAll] at hb
  obtain ⟨s,rfl,hs⟩:=ih (hr 0 r d rfl rfl).2 (by omega)
  obtain ⟨l,h1,h2,h3⟩:=vf ih (rows:=rows) (elems:=elems) (by simpa using h) (fun i r di a b=>hr (i+1) r di (by simpa using a) (by simpa using b)) (by omega)
  refine ⟨s::l,by simp[h1,rcs],by simp[h2],fun x hx=>?_⟩
  rcases List.mem_cons.1 hx with rfl|hx
  ·exact hs
  ·exact h3 x hx
theorem sE {N:Nat} (hN:N≤big):∀ (n:Nat) {xs:List LV} {d:DataW H},bn Tryz.prog n 49 xs d→Rows.uptoBulk d≤N→∃ r,xs=rc r∧r.ok
 | 0,_,_,h,_=>h.elim
 | n+1,xs,d,h,hb=>by
  unfold bn at h;rw[Tryz.underlying49] at h
  obtain ⟨hlen,parts,rfl,hp,hf⟩:=h
  rw[Cz] at hlen
  simp only[Rows.uptoBulk] at hb
  obtain ⟨x0,x1,x2,x3,x4,x5,x6,rfl⟩:∃ x0 x1 x2 x3 x4 x5 x6,xs=[x0,x1,x2,x3,x4,x5,x6]:=by
   match xs,hlen with
   | [x0,x1,x2,x3,x4,x5,x6],_=>exact ⟨x0,x1,x2,x3,x4,x5,x6,rfl⟩
  obtain ⟨p0,p1,p2,p3,p4,p5,p6,rfl⟩:∃ x0 x1 x2 x3 x4 x5 x6,parts=[x0,x1,x2,x3,x4,x5,x6]:=by
   match parts,hp with
   | [x0,x1,x2,x3,x4,x5,x6],_=>exact ⟨x0,x1,x2,x3,x4,x5,x6,rfl⟩
  simp only[Rows.uptoBulkAll] at hb
  have f0:bn Tryz.prog n 3 (([x0,x1,x2,x3,x4,x5,x6].drop 0).take (Tryz.prog.cellsOf 3)) p0:=hf 0 _ _ rfl rfl
  have f1:bn Tryz.prog n 4 (([x0,x1,x2,x3,x4,x5,x6].drop 1).take (Tryz.prog.cellsOf 4)) p1:=hf 1 _ _ rfl rfl
  have f2:bn Tryz.prog n 3 (([x0,x1,x2,x3,x4,x5,x6].drop 2).take (Tryz.prog.cellsOf 3)) p2:=hf 2 _ _ rfl rfl
  have f3:bn Tryz.prog n 3 (([x0,x1,x2,x3,x4,x5,x6].drop 3).take (Tryz.prog.cellsOf 3)) p3:=hf 3 _ _ rfl rfl
  have f4:bn Tryz.prog n 9 (([x0,x1,x2,x3,x4,x5,x6].drop 4).take (Tryz.prog.cellsOf 9)) p4:=hf 4 _ _ rfl rfl
  have f5:bn Tryz.prog n 47 (([x0,x1,x2,x3,x4,x5,x6].drop 5).take (Tryz.prog.cellsOf 47)) p5:=hf 5 _ _ rfl rfl
  have f6:bn Tryz.prog n 26 (([x0,x1,x2,x3,x4,x5,x6].drop 6).take (Tryz.prog.cellsOf 26)) p6:=hf 6 _ _ rfl rfl
  rw[ce3] at f0 f2 f3
  rw[ce4] at f1
  rw[ce9] at f4
  rw[CW] at f5
  rw[CX] at f6
  simp only[List.drop_zero,List.drop_succ_cons,List.take_succ_cons,List.take_zero] at f0 f1 f2 f3 f4 f5 f6
  obtain ⟨k,e0,k0⟩:=qF f0
  obtain ⟨b,e1⟩:=zr f1
  obtain ⟨a,e2,k2⟩:=qF f2
  obtain ⟨m,e3,k3⟩:=qF f3
  obtain ⟨s,e4,k4⟩:=tZ f4
  obtain ⟨ks,e6,k6,k7⟩:=zt f6
  cases n with
  | zero=>exact f0.elim
  | succ n=>
   unfold bn at f5;rw[Tryz.underlying47] at f5
   obtain ⟨rows,elems,e5,hl,hd,hr⟩:=f5
   rw[Cz] at hr
   obtain ⟨l,h1,h2,h3⟩:∃ l:List RV,rows.flatten=rcs l∧l.length=rows.length∧(∀ x ∈ l,x.ok)∧l.length≤N:=by
    rcases hd with rfl|⟨rest,rfl⟩
    ·exact ⟨[],rfl,rfl,(fun _ h=>by cases h),by simp⟩
    ·simp only[Rows.uptoBulk] at hb
     obtain ⟨l,g1,g2,g3⟩:=vf (n:=n) (N:=N) (fun a b=>sE hN n a b) hl hr (by omega)
     have:=kN (l:=elems)
     exact ⟨l,g1,g2,g3,by omega⟩
   simp only[List.cons.injEq,and_true] at e0 e1 e2 e3 e4 e5 e6
   subst e0 e1 e2 e3 e4 e5 e6
   refine ⟨.mk k b a m s l ks,by rw[rc,← h1,← h2],⟨k0,k2,k3⟩,by omega,by omega,⟨by omega,fun x hx=>by have:=k7 x hx;omega⟩,RV.eL.2 h3.1⟩
end
theorem yq {es:List (List UInt8 × T)} {k:List UInt8} {t:T} {q:List UInt8 × T→Prop} (h:∀ e ∈ es,q e) (hk:q (k,t)):∀ e ∈ ins es k t,q e:=by
 unfold ins
 split
 ·exact h
 ·intro e he
  rcases List.mem_append.1 he with he|he
  ·exact h e (List.mem_of_mem_take he)
  ·rcases List.mem_cons.1 he with rfl|he
   ·exact hk
   ·exact h e (List.mem_of_mem_drop he)
theorem kL {es:List (List UInt8 × T)} {k:List UInt8} {t:T} (h:(es.map (·.1)).Pairwise ltB):((ins es k t).map (·.1)).Pairwise ltB:=by
 unfold ins
 split
 ·exact h
 rename_i hne
 have hsp:es=es.take (pos es k)++es.drop (pos es k):=(List.take_append_drop _ _).symm
 rw[List.map_append,List.map_cons,List.pairwise_append]
 rw[hsp,List.map_append,List.pairwise_append] at h
 obtain ⟨h1,h2,h3⟩:=h
 have lo:∀ a ∈ (es.take (pos es k)).map (·.1),ltB a k:=by
  intro a ha
  obtain ⟨e,he,rfl⟩:=List.mem_map.1 ha
  obtain ⟨j,hj⟩:=List.getElem?_of_mem he
  rw[List.getElem?_take] at hj
  split at hj
  ·rename_i hlt
   exact gd (q:=fun e:List UInt8 × T=>Op.bytesLess e.1 k) hlt hj
  ·cases hj
 have hi:∀ a ∈ (es.drop (pos es k)).map (·.1),ltB k a:=by
  intro a ha
  cases hd:es.drop (pos es k) with
  | nil=>rw[hd] at ha;simp at ha
  | cons e rest=>
   have he:es[pos es k]?=some e:=by
    have:(es.drop (pos es k))[0]?=some e:=by rw[hd];rfl
    rw[List.getElem?_drop] at this;simpa using this
   have hs:Op.bytesLess e.1 k=false:=fH (q:=fun e:List UInt8 × T=>Op.bytesLess e.1 k) he
   have hke:ltB k e.1:=by
    rcases hb:Op.bytesLess k e.1 with _|_
    ·exact absurd (by rw[he];exact congrArg some (qn hs hb)) hne
    ·exact hb
   rw[hd] at ha h2
   simp only[List.map_cons,List.mem_cons] at ha
   rcases ha with rfl|ha
   ·exact hke
   ·simp only[List.map_cons,List.pairwise_cons] at h2
    exact fG hke (h2.1 a ha)
 refine ⟨h1,List.pairwise_cons.2 ⟨hi,h2⟩,fun a ha b hb=>?_⟩
 rcases List.mem_cons.1 hb with rfl|hb
 ·exact lo a ha
 ·exact h3 a ha b hb
theorem wu {l:List (List UInt8 × T)} {q:List UInt8 × T→Prop} (h:∀ e ∈ l,q e):(∀ e ∈ et l,q e)∧((et l).map (·.1)).Pairwise ltB:=by
 have go:∀ (l es:List (List UInt8 × T)),(∀ e ∈ l,q e)→(∀ e ∈ es,q e)→(es.map (·.1)).Pairwise ltB→(∀ e ∈ l.foldl (fun es e=>ins es e.1 e.2) es,q e)∧((l.foldl (fun es e=>ins es e.1 e.2) es).map (·.1)).Pairwise ltB:=by
  intro l
  induction l with
  | nil=>intro es _ h2 h3;exact ⟨h2,h3⟩
  | cons e l ih=>
   intro es h1 h2 h3
   exact ih _ (fun x hx=>h1 x (List.mem_cons_of_mem _ hx)) (yq h2 (h1 e (by simp))) (kL h3)
 exact go l [] h (by simp) (by simp)
theorem sF {x:Int} : -9007199254740992≤oh x∧oh x≤9007199254740992:=by
 unfold oh;omega
theorem Bv:∀ {r:RV},r.ok→(cln r).ok:=fun {r}=>by
 refine RV.ind (p:=fun r=>r.ok→(cln r).ok) ?_ _ r (Nat.lt_succ_self _)
 intro r ih hr
 have hl:=RV.qw hr
 have hk:=RV.Cd hr
 have hn : -9223372036854775808≤r.n∧r.n<9223372036854775808:=by cases r;exact hr.1.2.1
 have hs:r.s.length≤big:=by cases r;exact hr.2.1
 rw[xS]
 split
 ·trivial
 split
 ·trivial
 split
 ·exact hn
 split
 ·exact ⟨sF,sF⟩
 split
 ·exact hs
 split
 ·refine ⟨by simpa using hl.1,T.eL.2 fun t ht=>?_⟩
  obtain ⟨x,hx,rfl⟩:=List.mem_map.1 ht
  exact ih x hx (hl.2 x hx)
 split
 ·have h:=wu (l:=r.ks.zip (r.l.map cln)) (q:=fun e=>e.1.length≤big∧e.2.ok) (by
   intro e he
   obtain ⟨k,t⟩:=e
   have h1:=(List.of_mem_zip he).1
   have h2:=(List.of_mem_zip he).2
   obtain ⟨x,hx,rfl⟩:=List.mem_map.1 h2
   exact ⟨hk.2 k h1,ih x hx (hl.2 x hx)⟩)
  refine ⟨?_,T.fi.2 h.1,h.2⟩
  have:=oi (l:=r.ks.zip (r.l.map cln))
  simp at this;omega
 ·trivial
end Go.Proofs.YtknegckgmklnhaaGreatDoor
namespace Go.Proofs.YtknegckgmklnhaaGreatDoor
open Go Go.CP Go.RowKit Go.Maps Go.Sort Go.Shelf
set_option maxRecDepth 100000
def Bx:List (FuncId × rJ):=[(242,.same),(263,.indexByte),(270,.count),(288,.clone),(245,.noZero 5)]
theorem zv:∀ p ∈ Bx,zK Tryz.prog p.1 p.2:=by
 intro p hp
 simp only[Bx,List.mem_cons,List.not_mem_nil,or_false] at hp
 rcases hp with rfl|rfl|rfl|rfl|rfl
 ·exact ⟨Tryz.f242,Tryz.func242,by kernel_rfl,by kernel_rfl,by kernel_rfl,(by kernel_rfl:Extern.find Tryz.f242=some Extern.AbiNoEscape.same)⟩
 ·exact ⟨Tryz.f263,Tryz.func263,by kernel_rfl,by kernel_rfl,by kernel_rfl,(by kernel_rfl:Extern.find Tryz.f263=some Extern.BytealgIndexByte.indexByte)⟩
 ·exact ⟨Tryz.f270,Tryz.func270,by kernel_rfl,by kernel_rfl,by kernel_rfl,(by kernel_rfl:Extern.find Tryz.f270=some Extern.BytealgCount.count)⟩
 ·exact ⟨Tryz.f288,Tryz.func288,by kernel_rfl,by kernel_rfl,by kernel_rfl,(by kernel_rfl:Extern.find Tryz.f288=some Extern.MapsClone.clone)⟩
 ·exact ⟨Tryz.f245,Tryz.func245,by kernel_rfl,by kernel_rfl,by kernel_rfl,Tryz.f245.params,78,(by kernel_rfl:Extern.find Tryz.f245=some (Extern.BytealgMakeNoZero.makeNoZero Tryz.f245.params #[78])),Tryz.underlying78⟩
def ua (k:List UInt8):List (List UInt8)→List (List UInt8)
 | []=>[k]
 | a::l=>match Op.bytesLess k a with
  | true=>k::a::l
  | false=>a::ua k l
def lG:List (List UInt8)→List (List UInt8)
 | []=>[]
 | k::l=>ua k (lG l)
theorem lH {k:List UInt8}:∀ {l:List (List UInt8)},(ua k l).Perm (k::l)
 | []=>.refl _
 | a::l=>by
  unfold ua
  split
  ·exact .refl _
  ·exact ((lH (l:=l)).cons a).trans (.swap k a l)
theorem iK:∀ {l:List (List UInt8)},(lG l).Perm l
 | []=>.refl _
 | k::_=>lH.trans (iK.cons k)
theorem py {k:List UInt8}:∀ {l:List (List UInt8)},l.Pairwise ltB→k ∉ l→(ua k l).Pairwise ltB
 | [],_,_=>by simp[ua]
 | a::l,h,hk=>by
  rw[List.pairwise_cons] at h
  simp only[List.mem_cons,not_or] at hk
  unfold ua
  split
  ·rename_i hlt
   exact List.pairwise_cons.2 ⟨fun b hb=>by
    rcases List.mem_cons.1 hb with rfl|hb
    ·exact hlt
    ·exact fG hlt (h.1 b hb),List.pairwise_cons.2 h⟩
  ·rename_i hlt
   refine List.pairwise_cons.2 ⟨fun b hb=>?_,py h.2 hk.2⟩
   rcases List.mem_cons.1 (lH.mem_iff.1 hb) with rfl|hb
   ·rcases hc:Op.bytesLess a b with _|_
    ·exact absurd (qn hlt hc) hk.1
    ·exact hc
   ·exact h.1 b hb
theorem mh:∀ {l:List (List UInt8)},l.Nodup→(lG l).Pairwise ltB
 | [],_=>by simp[lG]
 | k::l,h=>by
  rw[List.nodup_cons] at h
  exact py (mh h.2) (fun hc=>h.1 (iK.mem_iff.1 hc))
theorem wv {l:List (List UInt8)} (h:l.Nodup):l.mergeSort leB=lG l:=by
 rw[← mergeSort_of_perm (iK (l:=l)),pb (mh h)]
def vg (k:List UInt8):List (List UInt8)→Bool
 | []=>true
 | a::l=>match decide (k=a) with
  | true=>false
  | false=>vg k l
def okK:List (List UInt8)→Bool
 | []=>true
 | k::l=>match vg k l with
  | true=>(match Nat.ble k.length big with
   | true=>okK l
   | false=>false)
  | false=>false
theorem sG {k:List UInt8}:∀ {l:List (List UInt8)},vg k l=true→k ∉ l
 | [],_=>by simp
 | a::l,h=>by
  unfold vg at h
  split at h
  ·cases h
  ·rename_i e
   simp only[List.mem_cons,not_or]
   exact ⟨of_decide_eq_false e,sG h⟩
theorem yr:∀ {l:List (List UInt8)},okK l=true→l.Nodup∧∀ s ∈ l,s.length≤big
 | [],_=>by simp
 | k::l,h=>by
  unfold okK at h
  split at h
  ·rename_i e
   split at h
   ·rename_i e2
    obtain ⟨h1,h2⟩:=yr h
    refine ⟨List.nodup_cons.2 ⟨sG e,h1⟩,fun s hs=>?_⟩
    rcases List.mem_cons.1 hs with rfl|hs
    ·exact Nat.le_of_ble_eq_true e2
    ·exact h2 s hs
   ·cases h
  ·cases h
def z8 (x:LV) (st:aa):Option (LV × aa):=match x with
 | .map o=>some (.fn (.func 166) [] [.ptr st.length 0],st++[.cells (.bt 173) [.map o]])
 | .nilm=>some (.fn (.func 166) [] [.ptr st.length 0],st++[.cells (.bt 173) [.nilm]])
 | _=>none
def Aa (o:Nat) (st:aa):Option (LV × aa):=match st[o]? with
 | some (.cells (.bt t) [x])=>match Nat.beq t 173 with
  | true=>(match x with
   | .nilm=>some (.nils,st)
   | .map om=>(match st[om]? with
    | some (.map _ es _ _)=>(match fZ es with
     | some ks=>(match okK ks with
      | true=>(match Nat.ble ks.length big with
       | true=>(match ks with
        | []=>some (.nils,st)
        | k::l=>some (.sl st.length 0 (k::l).length (.rest 1),st++[.cells .rw ((lG (k::l)).map .str)]))
       | false=>none)
      | false=>none)
     | none=>none)
    | _=>none)
   | _=>none)
  | false=>none
 | _=>none
def yu:Ora:=fun f xs st=>match Nat.beq f 116 with
 | true=>(match xs with
  | [x]=>z8 x st
  | _=>none)
 | false=>match Nat.beq f 115 with
  | true=>(match xs with
   | [.fn (.func g) [] [.ptr o k]]=>(match Nat.beq g 166 with
    | true=>(match Nat.beq k 0 with
     | true=>Aa o st
     | false=>none)
    | false=>none)
   | _=>none)
  | false=>Ar Bx f xs st
theorem yv:jn Tryz.prog yu:=by
 intro f xs st v st' h K hK
 unfold yu at h
 split at h
 ·rename_i e
  obtain rfl:=Nat.eq_of_beq_eq_true e
  split at h
  ·unfold z8 at h
   split at h
   ·cases h
    exact ly (M:=173) call116 eM (.inr ⟨_,rfl⟩) hK
   ·cases h
    exact ly (M:=173) call116 eM (.inl rfl) hK
   ·cases h
  ·cases h
 ·split at h
  ·rename_i e
   obtain rfl:=Nat.eq_of_beq_eq_true e
   split at h
   ·split at h
    ·rename_i e1
     obtain rfl:=Nat.eq_of_beq_eq_true e1
     split at h
     ·rename_i e2
      obtain rfl:=Nat.eq_of_beq_eq_true e2
      unfold Aa at h
      split at h
      ·rename_i o t x ho
       split at h
       ·rename_i e3
        obtain rfl:=Nat.eq_of_beq_eq_true e3
        split at h
        ·cases h
         exact nM (K:=9) call115 dF pd ho hK
        ·split at h
         ·rename_i om m es bs n hom
          split at h
          ·rename_i ks hks
           split at h
           ·rename_i hok
            obtain ⟨k1,k2⟩:=yr hok
            split at h
            ·rename_i hlen
             have hlen':=Nat.le_of_ble_eq_true hlen
             have l1:∀ s ∈ ks,s.length≤maxLen:=fun s hs=>by have:=k2 s hs;unfold big at this;unfold maxLen;omega
             refine rN (K:=9) (by kernel_rfl) call115 dF sg ho hom hks k1 l1 (by unfold big at hlen';unfold maxLen;omega) (by unfold big at hlen';omega) (fun e0=>?_) (fun e0=>?_)
             ·subst e0;cases h;exact hK
             ·rw[wv k1]
              split at h
              ·exact absurd rfl e0
              ·cases h;exact hK
            ·cases h
           ·cases h
          ·cases h
         ·cases h
        ·cases h
       ·cases h
      ·cases h
     ·cases h
    ·cases h
   ·cases h
  ·exact yE zv _ _ _ _ _ h K hK
end Go.Proofs.YtknegckgmklnhaaGreatDoor
namespace Go.Proofs.YtknegckgmklnhaaGreatDoor
open Go Go.CP
set_option maxRecDepth 100000
theorem sH:(jr Tryz.prog [116,115] yu 100000 60 false 54 [] []).map (·.1)=some (.bool true):=by kernel_rfl
theorem qG {st:aa} {R:LV→aa→Prop} (h:R (.bool true) st):ak Tryz.prog 54 [] st R:=ql ag yv sH rfl rfl h
end Go.Proofs.YtknegckgmklnhaaGreatDoor
