/- Same: whether two values are the same. -/
import Derived.Test.YtknegckgmklnhaaGreatDoorVaC3
import Derived.Test.YtknegckgmklnhaaGreatDoorCp41
import Derived.Test.YtknegckgmklnhaaGreatDoorCp50
import Derived.Test.YtknegckgmklnhaaGreatDoorVbW2
import Derived.Test.YtknegckgmklnhaaGreatDoorVbR7
import Derived.Test.YtknegckgmklnhaaGreatDoorVbF
namespace Go.Proofs.YtknegckgmklnhaaGreatDoor
open Go Go.CP Classical
set_option maxRecDepth 100000
theorem ra {α:Type}:∀ {l:List α} {p:α × List α},p ∈ gd l→(p.1::p.2).Perm l
 | [],p,h=>by simp[gd] at h
 | x::xs,p,h=>by
  simp only[gd,List.mem_cons,List.mem_map] at h
  rcases h with rfl|⟨q,hq,rfl⟩
  ·exact .refl _
  ·exact (List.Perm.swap x q.1 q.2).trans ((ra hq).cons x)
theorem sq {α β:Type} {f:α→β}:∀ {l:List α},gd (l.map f)=(gd l).map fun p=>(f p.1,p.2.map f)
 | []=>rfl
 | x::xs=>by
  simp only[List.map_cons,gd,sq (l:=xs),List.map_map]
  rfl
theorem GZ {es:List (List UInt8 × T)}:(es.map fun e=>LV.str e.1).zip (hU es)=mE es:=by
 rw[pL]
 induction es with
 | nil=>rfl
 | cons e es ih=>simp only[List.map_cons,List.zip_cons_cons,ih,mE]
def InE (p:T→T→Prop) (es' rest:List (List UInt8 × T)):Prop:=∀ e ∈ rest,∃ y,T.find es' e.1=some y∧p e.2 y
theorem DL {es es':List (List UInt8 × T)} {p:T→T→Prop} (hn:(es'.map (·.1)).Nodup) {g:FuncId} (hg:∀ e ∈ es,∀ y,T.find es' e.1=some y→Pu Tryz.prog g [vT e.2,vT y] (.bool (decide (p e.2 y)))) {R:LV→aa→Prop} :
  ∀ (n:Nat) (rest:List (List UInt8 × T)),rest.length=n→(∀ e ∈ rest,e ∈ es)→∀ (st:aa) (o:Nat) (cur:Option (LV × LV)),st[o]?=some (.fiter cur (mE rest))→(∀ s,R (.bool (decide (InE p es' rest))) s)→
   P114_1 (.imap (es'.map fun e=>.str e.1) (hU es')) (.fn (.func g) [] []) (.ptr o 0) R st:=by
 intro n
 induction n with
 | zero=>
  intro rest hl _ st o cur ho hR
  obtain rfl:=List.eq_nil_of_length_eq_zero hl
  apply p114_1
  have e:dm st (.ptr o 0)=some [(.tup [.bool false],st)]:=by simp only[dm,ho,mE,List.map_nil]
  have:=hR st
  rw[decide_eq_true (show InE p es' [] from fun e h=>by cases h)] at this
  simp only[w114_1,jL,e,ab,AW,ax,List.getElem?_cons_zero,af,and_true]
  exact this
 | succ n ih=>
  intro rest hl hsub st o cur ho hR
  apply p114_1
  obtain ⟨x,xs,rfl⟩:∃ x xs,rest=x::xs:=by
   cases rest with
   | nil=>simp at hl
   | cons x xs=>exact ⟨x,xs,rfl⟩
  have e:dm st (.ptr o 0)=some ((gd (mE (x::xs))).map fun q=>(.tup [.bool true,q.1.1,q.1.2],st.set o (.fiter (some q.1) q.2))):=by
   simp only[dm,ho,mE,List.map_cons]
  simp only[w114_1,jL,e,ab]
  refine yy fun q hq=>?_
  obtain ⟨q',hq',rfl⟩:=List.mem_map.1 hq
  simp only[mE] at hq'
  rw[sq] at hq'
  obtain ⟨⟨⟨k,t⟩,l⟩,hpk,rfl⟩:=List.mem_map.1 hq'
  have hperm:=ra hpk
  have ho1:(st.set o (.fiter (some (.str k,vT t)) (mE l)))[o]?=some (.fiter (some (.str k,vT t)) (mE l)):=bu ho
  have hin:(k,t) ∈ x::xs:=hperm.mem_iff.1 List.mem_cons_self
  generalize st.set o (.fiter (some (.str k,vT t)) (mE l))=st1 at ho1
  have e2:nI st1 (.ptr o 0)=some (.tup [.str k,vT t]):=by simp only[nI,ho1]
  simp only[ax,List.getElem?_cons_zero,List.getElem?_cons_succ,ab,ai,e2,bV,cU,ay,ag,xw hn,if_true]
  have hl2:l.length=n:=by have:=hperm.length_eq;simp at this hl;omega
  rcases hf:T.find es' k with _|y
  ·simp only[Option.getD_none,Option.isSome_none,bx,ab,Bool.not_false,ai]
   have:=hR (st1++[.cells .rw [lvT t]]++[.cells .rw [lvT .null]])
   rwa [decide_eq_false (fun h=>by obtain ⟨y,h1,_⟩:=h _ hin;rw[hf] at h1;cases h1)] at this
  ·have e3:wL (.fn (.func g) [] []) [vT t,vT y]=some (g,[vT t,vT y]):=rfl
   simp only[Option.getD_some,Option.isSome_some,ag,bx,ab,Bool.not_true,af,pM,vB,e3]
   refine (hg _ (hsub _ hin) y hf).call ?_
   simp only[bx,ab,cp]
   refine ⟨fun h=>?_,fun h=>?_⟩
   ·have hp:¬ p t y:=by simpa using h
    have:=hR (st1++[.cells .rw [lvT t]]++[.cells .rw [lvT y]])
    rwa [decide_eq_false (fun h=>by obtain ⟨y',h1,h2⟩:=h _ hin;rw[hf] at h1;cases h1;exact hp h2)] at this
   ·have hp:p t y:=by simpa using h
    refine ih l hl2 (fun e he=>hsub e (hperm.mem_iff.1 (List.mem_cons_of_mem _ he))) _ o _ (bM (bM ho1)) fun s=>?_
    have:=hR s
    have e4:InE p es' (x::xs)=InE p es' l:=propext ⟨fun h e he=>h e (hperm.mem_iff.1 (List.mem_cons_of_mem _ he)),fun h e he=>by
     rcases List.mem_cons.1 (hperm.mem_iff.2 he) with rfl|he
     ·exact ⟨y,hf,hp⟩
     ·exact h e he⟩
    rwa [e4] at this
theorem FP {es es':List (List UInt8 × T)} {p:T→T→Prop} (hn:(es'.map (·.1)).Nodup) {g:FuncId} (hg:∀ e ∈ es,∀ y,T.find es' e.1=some y→Pu Tryz.prog g [vT e.2,vT y] (.bool (decide (p e.2 y)))) :
  Pu Tryz.prog 114 [.imap (es.map fun e=>.str e.1) (hU es),.imap (es'.map fun e=>.str e.1) (hU es'),.fn (.func g) [] []] (.bool (decide (es.length=es'.length∧InE p es' es))):=by
 refine Pu.of (c114 _ _ _ ?_) (by simp only[LV.aB,LV.plain,mc,Bool.and_true,bA (f:=fun e:List UInt8 × T=>LV.str e.1) fun _ _=>rfl]) rfl
 have e1:∀ {es:List (List UInt8 × T)} {st:aa},nJ st (.imap (es.map fun e=>.str e.1) (hU es))=some (i64 es.length):=fun {es st}=>by simp only[nJ,List.length_map]
 simp only[w114,e1,ab,ae,bE,cp]
 refine ⟨fun h=>?_,fun h=>?_⟩
 ·have hne:es.length≠es'.length:=fun e=>by simp[e] at h
  rw[decide_eq_false (fun k=>hne k.1)];rfl
 ·have he:es.length=es'.length:=by
   have h1:(es.length:Int)=es'.length:=by simpa using h
   omega
  have e2:∀ {st:aa},nH Tryz.prog st 173 (.imap (es.map fun e=>.str e.1) (hU es))=some (.ptr st.length 0,st++[.fiter none (mE es)]):=fun {st}=>by
   unfold nH
   rw[Tryz.underlying173]
   simp only[List.length_map,qP,if_true,GZ]
  rw[e2]
  simp only[ag]
  refine DL hn hg es.length es rfl (fun _ h=>h) _ _ none (by simp) fun s=>?_
  by_cases hI:InE p es' es
  ·rw[decide_eq_true hI,decide_eq_true ⟨he,hI⟩];rfl
  ·rw[decide_eq_false hI,decide_eq_false fun h=>hI h.2];rfl
theorem B9 {x y:Bool}:gG Tryz.prog 4 (.bool x) (.bool y)=some (x==y):=by kernel_rfl
theorem DM {x y:Int}:gG Tryz.prog 3 (.int .i64 x) (.int .i64 y)=some (x==y):=by kernel_rfl
theorem DN {x y:List UInt8}:gG Tryz.prog 9 (.str x) (.str y)=some (x==y):=by kernel_rfl
theorem Ca {a b c d:Nat}:gG Tryz.prog 170 (.cplx .f64 a b) (.cplx .f64 c d)=some (Op.floatEq .f64 a c&&Op.floatEq .f64 b d):=by kernel_rfl
theorem zh:∀ {a b:List (List UInt8)},a.Nodup→(∀ x ∈ a,x ∈ b)→a.length≤b.length
 | [],_,_,_=>by simp
 | x::a,b,h,hs=>by
  rw[List.nodup_cons] at h
  have hx:=hs x (by simp)
  have h1:=zh (a:=a) (b:=b.erase x) h.2 fun y hy=>by
   have hne:y≠x:=fun e=>h.1 (e ▸ hy)
   exact (List.mem_erase_of_ne hne).2 (hs y (List.mem_cons_of_mem _ hy))
  rw[List.length_erase_of_mem hx] at h1
  have:=List.length_pos_of_mem hx
  simp only[List.length_cons];omega
theorem zi:∀ {es es':List (List UInt8 × T)},(es.map (·.1)).Pairwise ltB→(es'.map (·.1)).Pairwise ltB→es.length=es'.length→(∀ e ∈ es,e ∈ es')→es=es'
 | [],[],_,_,_,_=>rfl
 | [],_::_,_,_,h,_=>by simp at h
 | _::_,[],_,_,h,_=>by simp at h
 | e::l,e'::l',h,h',hl,hs=>by
  simp only[List.map_cons,List.pairwise_cons] at h h'
  have hll:l.length=l'.length:=by simpa using hl
  rcases List.mem_cons.1 (hs e (by simp)) with rfl|he
  ·congr 1
   refine zi h.2 h'.2 hll fun x hx=>?_
   rcases List.mem_cons.1 (hs x (List.mem_cons_of_mem _ hx)) with rfl|hx'
   ·exact absurd rfl (qL (h.1 x.1 (List.mem_map.2 ⟨x,hx,rfl⟩)))
   ·exact hx'
  ·exfalso
   have h1:ltB e'.1 e.1:=h'.1 e.1 (List.mem_map.2 ⟨e,he,rfl⟩)
   have h2:∀ x ∈ (e::l).map (·.1),x ∈ l'.map (·.1):=by
    intro x hx
    obtain ⟨y,hy,rfl⟩:=List.mem_map.1 hx
    have h3:ltB e'.1 y.1:=by
     rcases List.mem_cons.1 hy with rfl|hy
     ·exact h1
     ·exact iT h1 (h.1 y.1 (List.mem_map.2 ⟨y,hy,rfl⟩))
    rcases List.mem_cons.1 (hs y hy) with rfl|hy'
    ·exact absurd rfl (qL h3)
    ·exact List.mem_map.2 ⟨y,hy',rfl⟩
   have h4:=zh (a:=(e::l).map (·.1)) (by
    refine cQ ?_
    simp only[List.map_cons,List.pairwise_cons];exact h) h2
   simp at h4;omega
theorem Cb {es es':List (List UInt8 × T)} (h:(es.map (·.1)).Pairwise ltB) (h':(es'.map (·.1)).Pairwise ltB):(es.length=es'.length∧InE (· = ·) es' es)↔T.map es=T.map es':=by
 constructor
 ·rintro ⟨h1,h2⟩
  rw[zi h h' h1 fun e he=>by
   obtain ⟨y,h3,h4⟩:=h2 e he
   have:=T.mO h3
   rw[← h4] at this;exact this]
 ·intro e
  cases e
  exact ⟨rfl,fun e he=>⟨e.2,T.ko (cQ h) he,rfl⟩⟩
def scalar:T→Prop
 | .list _ | .map _=>False
 | _=>True
theorem G0 {a b:T} (ha:a.ok) (hb:b.ok) (sa:scalar a) (sb:scalar b):pQ true (gG Tryz.prog) (lvT a) (lvT b)=some (decide (a=b)):=by
 have dt:∀ {p:Prop},p→some true=some (decide p):=fun h=>by rw[decide_eq_true h]
 have df:∀ {p:Prop},¬ p→some false=some (decide p):=fun h=>by rw[decide_eq_false h]
 have db:∀ {p:Prop} {c:Bool},(c=true↔p)→some c=some (decide p):=fun {p c} h=>by
  cases c
  ·exact df fun hp=>by have:=h.2 hp;cases this
  ·exact dt (h.1 rfl)
 cases a<;>cases b<;>first|exact sa.elim|exact sb.elim|exact df (by simp) | exact dt rfl|skip
 ·rename_i x y
  exact (show pQ true (gG Tryz.prog) (lvT (.bool x)) (lvT (.bool y))=some (x==y) from B9).trans (db (by simp))
 ·rename_i x y
  exact (show pQ true (gG Tryz.prog) (lvT (.int x)) (lvT (.int y))=some (x==y) from DM).trans (db (by simp))
 ·rename_i x y z w
  refine (show pQ true (gG Tryz.prog) (lvT (.point x y)) (lvT (.point z w))=some (Op.floatEq .f64 (fb x) (fb z)&&Op.floatEq .f64 (fb y) (fb w)) from Ca).trans ?_
  simp only[T.ok] at ha hb
  rw[show fb x=FloatKind.f64.nearest x from rfl,show fb z=FloatKind.f64.nearest z from rfl,show fb y=FloatKind.f64.nearest y from rfl,show fb w=FloatKind.f64.nearest w from rfl,
   nk (by omega) (by omega),nk (by omega) (by omega)]
  exact db (by simp)
 ·rename_i x y
  exact (show pQ true (gG Tryz.prog) (lvT (.text x)) (lvT (.text y))=some (x==y) from DN).trans (db (by simp))
theorem DP {a:T}:asC 171 (some .nils) (lvT a) true=some (.tup [match a with | .list l=>vL l|_=>.nils,.bool (match a with | .list _=>true|_=>false)]):=by cases a<;>rfl
theorem FQ {a:T}:asC 173 (some .nilm) (lvT a) true=some (.tup [match a with | .map es=>.imap (es.map fun e=>.str e.1) (hU es) | _=>.nilm,.bool (match a with | .map _=>true|_=>false)]):=by cases a<;>rfl
theorem tV:∀ (n:Nat) (a b:T),SizeOf.sizeOf a<n→a.ok→b.ok→Pu Tryz.prog 48 [vT a,vT b] (.bool (decide (a=b)))
 | 0,_,_,h,_,_=>by omega
 | n+1,a,b,hn,ha,hb=>by
  have hrec:∀ x ∈ a.items,∀ y,y.ok→Pu Tryz.prog 48 [vT x,vT y] (.bool (decide (x=y))):=fun x hx y hy=>tV n x y (by have:=T.qJ hx;omega) (T.iU ha x hx) hy
  refine Pu.of (c48 _ _ ?_) (by simp only[LV.aB,LV.plain,kU,Bool.and_true]) rfl
  have lb:∀ {st:aa} {t:T},cL st (vT t)=some (.ptr st.length 0,st++[.cells .rw [lvT t]]):=rfl
  have g0:ld1 [av.cells .rw [lvT a],.cells .rw [lvT b]] (.ptr 0 0)=some (lvT a):=rfl
  have g1:ld1 [av.cells .rw [lvT a],.cells .rw [lvT b]] (.ptr 1 0)=some (lvT b):=rfl
  simp only[w48,lb,ag,ar,Nat.zero_add,List.nil_append,List.cons_append,List.length_nil,List.length_cons,g0,g1,ab,DP,FQ,ax,List.getElem?_cons_zero,List.getElem?_cons_succ]
  have no:∀ {p:Prop} {st:aa},¬ p→dp st (.bool (decide p)) (.bool false):=fun h=>by rw[decide_eq_false h];rfl
  have yes:∀ {p q:Prop} {dq:Decidable q} {st:aa},(q↔p)→dp st (.bool (decide p)) (.bool (@decide q dq)):=fun {p q dq st} h=>by
   by_cases hp:p
   ·rw[decide_eq_true hp,decide_eq_true (h.2 hp)];rfl
   ·rw[decide_eq_false hp,decide_eq_false fun hq=>hp (h.1 hq)];rfl
  by_cases sa:scalar a
  ·by_cases sb:scalar b
   ·have he:=G0 ha hb sa sb
    cases a<;>first|exact sa.elim|skip
    all_goals cases b<;>first|exact sb.elim|skip
    all_goals simp only[af,rK,cond_false,ab,he,dE,du]
    all_goals exact rfl
   ·cases b<;>first|exact (sb trivial).elim|skip
    all_goals cases a<;>first|exact sa.elim|skip
    all_goals simp only[af,ai,rK,cond_false,cond_true,ab]
    all_goals exact no (by simp)
  ·cases a<;>first|exact (sa trivial).elim|skip
   ·rename_i l
    cases b<;>simp only[af,ai]<;>first|exact no (by simp) | skip
    rename_i l'
    refine (FH (p:=(· = ·)) (l:=l) (l':=l') ha.1 fun i x y hx hy=>hrec x (List.mem_of_getElem? hx) y (T.iU hb y (List.mem_of_getElem? hy))).call ?_
    exact yes (iW.eq.trans (by simp))
   ·rename_i es
    cases b<;>simp only[af,ai]<;>first|exact no (by simp) | skip
    rename_i es'
    refine (FP (p:=(· = ·)) (cQ hb.2.2) fun e he y hy=>hrec e.2 (List.mem_map.2 ⟨e,he,rfl⟩) y ((T.kS.1 hb.2.1 _ (T.mO hy)).2)).call ?_
    exact yes (Cb ha.2.2 hb.2.2)
end Go.Proofs.YtknegckgmklnhaaGreatDoor
namespace Go.Proofs.YtknegckgmklnhaaGreatDoor
open Go Go.CP
set_option maxRecDepth 100000
theorem jy {st:aa} {t:T}:cL st (vT t)=some (.ptr st.length 0,st++[.cells .rw [lvT t]]):=rfl
end Go.Proofs.YtknegckgmklnhaaGreatDoor
namespace Go.CP
theorem aw.G1 {P:Program} {f:FuncId} {xs:List LV} {st:aa} {R:LV→aa→Prop} (h:aw P f xs [] fun r s=>∃ v,dp s v r∧v.plain=true∧R v st) (hx:LV.aB xs=true):aw P f xs st R:=by
 have go:∀ {w0:World} {β:Lay} {w w':World} {u:Value} {β':Lay} {r v:LV} {st':aa},Rel w0 β st w→dp st' v r→v.plain=true→Rp β' r u→Rel w β' st' w'→(β.bare w.heap.size).le β'→
   ∃ β2,Rp β2 v u∧Rel w0 β2 st w'∧β.le β2:=by
  intro w0 β w w' u β' r v st' h1 hd hv hr hrel hle
  have e:=Ba hrel hle fun _=>rfl
  obtain ⟨k1,k2⟩:=h1.behind hrel.below e (qB hrel)
  exact ⟨_,Rp.dy (β:=β'.frz st' w') (β':=β.fz (β'.frz st' w')) (fun _ _ e=>e) hv (kc hrel hd hr),k1,k2⟩
 rcases h with h|h
 ·refine .inl ⟨h.1,fun w0 β w vs h1 h2=>?_⟩
  refine (h.2 w _ w vs h1.bare (Rps.dy (β:=β) (β':=β.bare w.heap.size) (fun _ _ e=>e) hx h2)).mono ?_
  rintro e w' ⟨β',r,st',u,⟨v,hd,hv,hR⟩,rfl,h4,h5,h6⟩
  obtain ⟨β2,k1,k2,k3⟩:=go h1 hd hv h4 h5 h6
  exact ⟨β2,v,st,u,hR,rfl,k1,k2,k3⟩
 ·refine .inr fun w0 β w vs h1 h2=>?_
  obtain ⟨u,w',h3,β',r,st',⟨v,hd,hv,hR⟩,h5,h6,h7⟩:=h w _ w vs h1.bare (Rps.dy (β:=β) (β':=β.bare w.heap.size) (fun _ _ e=>e) hx h2)
  obtain ⟨β2,k1,k2,k3⟩:=go h1 hd hv h5 h6 h7
  exact ⟨u,w',h3,β2,v,st,hR,k1,k2,k3⟩
structure Pb (P:Program) (f:FuncId) (xs:List LV) (Q:LV→Prop):Prop where
 call:∀ {st:aa} {R:LV→aa→Prop},(∀ v,Q v→R v st)→aw P f xs st R
def Dp (Q:LV→Prop) (r:LV) (s:aa):Prop:=∃ v,dp s v r∧v.plain=true∧Q v
theorem Pb.of {P:Program} {f:FuncId} {xs:List LV} {Q:LV→Prop} (h:aw P f xs [] (Dp Q)) (hx:LV.aB xs=true):Pb P f xs Q:=
 ⟨fun hR=>aw.G1 (h.mono fun _ _ ⟨v,h1,h2,h3⟩=>⟨v,h1,h2,hR v h3⟩) hx⟩
end Go.CP
namespace Go.Proofs.YtknegckgmklnhaaGreatDoor
open Go Go.CP
set_option maxRecDepth 100000
section
variable {st st':aa} {R:LV→aa→Prop}
theorem ja {t:KT} {v:T}:LV.aB [kV t,vT v]=true:=by simp[LV.aB,dz,b9]
theorem kl0 {t:KT}:ld1 st (.iptr (kC t) 0)=some (i64 t.f):=by rw[bB,qX];rfl
theorem kl1 {t:KT}:ld1 st (.iptr (kC t) 1)=some (.isl (kVs t.l) t.l.length none):=by rw[bB,qX];rfl
theorem kl2 {t:KT}:ld1 st (.iptr (kC t) 2)=some (sL t.ns):=by rw[bB,qX];rfl
theorem tW (k:Tx):Pu Tryz.prog 214 [.str k] (.agg [.str k,i64 (-1)]):=by
 refine Pu.of (c214 _ ?_) rfl rfl
 have e:aP (ao (az [(0,1),(1,1)]) [LV.str [],i64 0] [(0,.str k),(1,i64 (-1))])=some (.agg [.str k,i64 (-1)]):=rfl
 have p:stV [av.cells .rw [LV.str [],i64 0]] 2 (.ptr 0 0) (.agg [.str k,i64 (-1)])=some [av.cells .rw [.str k,i64 (-1)]]:=rfl
 have g:ldA [av.cells .rw [LV.str k,i64 (-1)]] (.ptr 0 0) 2=some (.agg [.str k,i64 (-1)]):=rfl
 simp only[w214,bV,List.nil_append,List.length_nil,e,ab,p,ay,ag,g]
 exact bp _ rfl
theorem DQ (i:Int):Pu Tryz.prog 215 [i64 i] (.agg [.str [],i64 i]):=by
 refine Pu.of (c215 _ ?_) rfl rfl
 have e:aP (ao (az [(0,1),(1,1)]) [LV.str [],i64 0] [(1,i64 i)])=some (.agg [.str [],i64 i]):=rfl
 have p:stV [av.cells .rw [LV.str [],i64 0]] 2 (.ptr 0 0) (.agg [.str [],i64 i])=some [av.cells .rw [.str [],i64 i]]:=rfl
 have g:ldA [av.cells .rw [LV.str [],i64 i]] (.ptr 0 0) 2=some (.agg [.str [],i64 i]):=rfl
 simp only[w215,bV,List.nil_append,List.length_nil,e,ab,p,ay,ag,g]
 exact bp _ rfl
def StQ (n:Nat) (v:LV):Prop:=∃ cs,v=.isl cs n none∧cs.length=n*2∧LV.aB cs=true∧cs.all LV.one=true
theorem zj {f:Option Nat} {n:Nat} {acc:List LV} {x y:LV} (h:bD .rw st f 2 n acc) (hx:x.one=true) (hy:y.one=true) (hl:n<2 ^ 31) :
  ∃ st2 f2,ak (st++[.cells .rw [x,y]]) 2 24 .rw (osl f 2 n) (.sl st.length 0 1 (.ex 1))=some (osl f2 2 (n+1),st2)∧bD .rw st2 f2 2 (n+1) (acc++[x,y]):=by
 have h1:=h.fr (st':=st++[.cells .rw [x,y]]) (S:=fun _=>False) Fr.app (fun _ _ h=>h)
 obtain ⟨st2,f2,q1,q2,_⟩:=h1.append (x:=.sl st.length 0 1 (.ex 1)) (k:=1) (new:=[x,y]) (bytes:=24) (by simp[dC]) (by omega) rfl (by simp[hx,hy]) (cS (by omega) (by omega))
 exact ⟨st2,f2,q1,q2⟩
theorem Av {ks:List Tx} (hb:ks.length≤big):∀ (d i:Nat) (f:Option Nat) (acc:List LV) (st:aa),i+d=ks.length→bD .rw st f 2 i acc→LV.aB acc=true→acc.all LV.one=true→
  P175_4 (osl f 2 i) (sL ks) (i64 ks.length) (i64 i) (Dp (StQ ks.length)) st:=by
 intro d
 induction d with
 | zero=>
  intro i f acc st hi ho hp h1
  refine p175_4 _ _ _ _ ?_
  have c1:¬ ((i:Int)<ks.length):=by omega
  simp only[w175_4,ae,aA,ab,c1,decide_false,af]
  have hi:i=ks.length:=by omega
  subst hi
  exact ⟨.isl acc ks.length none,dM ho rfl (bz _ hp),by simp[LV.plain,hp],acc,rfl,ho.1,hp,h1⟩
 | succ d ih=>
  intro i f acc st hi ho hp h1
  refine p175_4 _ _ _ _ ?_
  have hlt:i<ks.length:=by omega
  have c1:((i:Int)<ks.length):=by omega
  have e1:aW 1 (sL ks) (i64 i)=some (.iptr (ks.map .str) (i*1)):=ca hlt
  have hg:(ks.map LV.str)[i*1]?=some (.str ks[i]):=by simp[hlt]
  simp only[w175_4,ae,aA,ab,c1,decide_true,ai,e1,bB,hg]
  refine (tW _).call ?_
  have ef:ao (fun i=>some (i*2,2)) (List.replicate 1 [LV.str [],i64 0]).flatten [(0,.agg [.str ks[i],i64 (-1)])]=some [.str ks[i],i64 (-1)]:=rfl
  rw[ef]
  simp only[bw,ag]
  obtain ⟨st2,f2,q1,q2⟩:=zj ho (x:=.str ks[i]) (y:=i64 (-1)) rfl rfl (by unfold big at hb;omega)
  rw[q1]
  simp only[ag,aH,ab,aI (show i<2 ^ 40 by unfold big at hb;omega)]
  exact ih (i+1) f2 _ st2 (by omega) q2 (by rw[cP,hp];rfl) (by rw[List.all_append,h1];rfl)
theorem DR {ks:List Tx} (hb:ks.length≤big):Pb Tryz.prog 175 [sL ks] (StQ ks.length):=by
 refine Pb.of (c175 _ ?_) (by simp only[LV.aB,LV.plain,bA (f:=LV.str) fun _ _=>rfl,Bool.and_true])
 show P175_4 (osl none 2 0) (sL ks) (i64 ks.length) (i64 (0:Nat)) _ _
 exact Av hb ks.length 0 none [] _ (by omega) bD.nil rfl rfl
theorem vY {n:Nat} (hb:n≤big):∀ (d i:Nat) (f:Option Nat) (acc:List LV) (st:aa),i+d=n→bD .rw st f 2 i acc→LV.aB acc=true→acc.all LV.one=true→
  P176_4 (osl f 2 i) (i64 n) (i64 i) (Dp (StQ n)) st:=by
 intro d
 induction d with
 | zero=>
  intro i f acc st hi ho hp h1
  refine p176_4 _ _ _ ?_
  have c1:¬ ((i:Int)<n):=by omega
  simp only[w176_4,ae,aA,ab,c1,decide_false,af]
  have hi:i=n:=by omega
  subst hi
  exact ⟨.isl acc i none,dM ho rfl (bz _ hp),by simp[LV.plain,hp],acc,rfl,ho.1,hp,h1⟩
 | succ d ih=>
  intro i f acc st hi ho hp h1
  refine p176_4 _ _ _ ?_
  have c1:((i:Int)<n):=by omega
  simp only[w176_4,ae,aA,ab,c1,decide_true,ai]
  refine (DQ _).call ?_
  have ef:ao (fun i=>some (i*2,2)) (List.replicate 1 [LV.str [],i64 0]).flatten [(0,.agg [.str [],i64 i])]=some [.str [],i64 i]:=rfl
  rw[ef]
  simp only[bw,ag]
  obtain ⟨st2,f2,q1,q2⟩:=zj ho (x:=.str []) (y:=i64 i) rfl rfl (by unfold big at hb;omega)
  rw[q1]
  simp only[ag,aH,ab,aI (show i<2 ^ 40 by unfold big at hb;omega)]
  exact ih (i+1) f2 _ st2 (by omega) q2 (by rw[cP,hp];rfl) (by rw[List.all_append,h1];rfl)
theorem Aw {n:Nat} (hb:n≤big):Pb Tryz.prog 176 [i64 n] (StQ n):=by
 refine Pb.of (c176 _ ?_) rfl
 show P176_4 (osl none 2 0) (i64 n) (i64 (0:Nat)) _ _
 exact vY hb n 0 none [] _ (by omega) bD.nil rfl rfl
def ixI (k:Tx) (ns:List Tx):Int:=match oi k ns 0 with
 | some i=>i
 | none=>-1
theorem rb {k:Tx} {ns:List Tx} (hb:ns.length≤big) (hR:R (i64 (ixI k ns)) st):∀ (d i:Nat),i+d=ns.length→oi k ns 0=oi k (ns.drop i) i→P158_3 (sL ns) (.str k) (i64 ns.length) (i64 i) R st
 | 0,i,hi,hp=>by
  refine p158_3 _ _ _ _ ?_
  have c1:¬ ((i:Int)<ns.length):=by omega
  have e:ixI k ns = -1:=by unfold ixI;rw[hp,List.drop_eq_nil_of_le (by omega)];rfl
  rw[e] at hR
  simp only[w158_3,ae,aA,ab,c1,decide_false,af]
  exact hR
 | d+1,i,hi,hp=>by
  refine p158_3 _ _ _ _ ?_
  have hlt:i<ns.length:=by omega
  have c1:((i:Int)<ns.length):=by omega
  have e1:aW 1 (sL ns) (i64 i)=some (.iptr (ns.map .str) (i*1)):=ca hlt
  have hg:(ns.map LV.str)[i*1]?=some (.str ns[i]):=by simp[hlt]
  have hd:ns.drop i=ns[i]::ns.drop (i+1):=List.drop_eq_getElem_cons hlt
  generalize ns[i]=n at hg hd
  simp only[w158_3,ae,aA,ab,c1,decide_true,ai,e1,bB,hg,bW,cZ]
  rw[hd,oi] at hp
  by_cases h:n=k
  ·subst h
   rw[if_pos rfl] at hp
   have e:ixI n ns=i:=by unfold ixI;rw[hp]
   rw[e] at hR
   simp only[beq_self_eq_true,ai]
   exact hR
  ·rw[if_neg h] at hp
   have e2:(k==n)=false:=by simpa using Ne.symm h
   simp only[e2,af,aH,ab,aI (show i<2 ^ 40 by unfold big at hb;omega)]
   exact rb hb hR d (i+1) (by omega) hp
theorem Cc {k:Tx} {ns:List Tx} (hb:ns.length≤big):Pu Tryz.prog 158 [sL ns,.str k] (i64 (ixI k ns)):=by
 refine Pu.of (c158 _ _ ?_) (by simp only[LV.aB,LV.plain,bA (f:=LV.str) fun _ _=>rfl,Bool.and_true]) rfl
 show P158_3 (sL ns) (.str k) (i64 ns.length) (i64 (0:Nat)) _ _
 exact rb hb (R:=fun v s=>dp s (i64 (ixI k ns)) v) rfl ns.length 0 (by omega) rfl
theorem tX {k:Tx}:∀ {ns:List Tx} {i j:Nat},oi k ns i=some j→i≤j∧j<i+ns.length∧ns[j-i]?=some k
 | n::ns,i,j,h=>by
  unfold oi at h
  split at h
  ·rename_i e
   simp only[Option.some.injEq] at h
   subst h;subst e
   simp
  ·obtain ⟨h1,h2,h3⟩:=tX h
   refine ⟨by omega,by simp;omega,?_⟩
   have:j-i=(j-(i+1))+1:=by omega
   rw[this];simpa using h3
theorem tY {l:List KT} {i:Nat}:(kVs l)[i]?=(l[i]?).map kV:=by rw[tI];simp
theorem Cd {t:KT} {k:Tx} (hb:t.ns.length≤big) (hl:t.ns.length=t.l.length):Pu Tryz.prog 213 [kV t,.str k] (match (oi k t.ns 0).bind (t.l[·]?) with
  | some x=>.tup [kV x,.bool true]
  | none=>.tup [.nilp,.bool false]):=by
 refine Pu.of (c213 _ _ ?_) (by simp[LV.aB,LV.plain,et]) (by split<;>simp[LV.plain,LV.aB,et])
 simp only[w213,gO,dE,du,ab,af,bH,bR,Nat.zero_add,kl2]
 refine (Cc hb).call ?_
 unfold ixI
 cases h:oi k t.ns 0 with
 | none=>
  have c1:((-1:Int)<0):=by omega
  simp only[ae,aA,ab,c1,decide_true,ai,Option.bind_none]
  exact bp _ rfl
 | some i=>
  obtain ⟨_,h2,_⟩:=tX h
  have c1:¬ ((i:Int)<0):=by omega
  have hlt:i<t.l.length:=by omega
  have e1:aW 1 (.isl (kVs t.l) t.l.length none) (i64 i)=some (.iptr (kVs t.l) (i*1)):=ca hlt
  have hx:t.l[i]?=some t.l[i]:=List.getElem?_eq_getElem hlt
  simp only[ae,aA,ab,c1,decide_false,af,kl1]
  simp only[ab,e1,bB,Nat.mul_one,tY,hx,Option.map_some,Option.bind_some]
  exact bp (v:=.tup [kV t.l[i],.bool true]) _ (by simp[LV.plain,LV.aB,et])
theorem Ce {t:KT}:Pu Tryz.prog 167 [kV t] (i64 (eJ t.f)):=by
 refine Pu.of (c167 _ ?_) (by simp[LV.aB,LV.plain,et]) rfl
 have e6:((t.f:Int)==6)=decide (t.f=6):=by by_cases h:t.f=6<;>simp[h];omega
 have e8:((t.f:Int)==8)=decide (t.f=8):=by by_cases h:t.f=8<;>simp[h];omega
 simp only[w167,gO,dE,du,ab,af,bH,bR,Nat.zero_add,kl0,ae,aA,aR,e6,e8,aL]
 unfold eJ
 refine ⟨fun h=>?_,fun h=>⟨fun h6=>?_,fun h6=>⟨fun h8=>?_,fun h8=>?_⟩⟩⟩
 ·rw[if_pos (by omega)];exact (rfl:_=_)
 ·rw[if_neg (by omega),if_pos (.inl h6)];exact (rfl:_=_)
 ·rw[if_neg (by omega),if_pos (.inr h8)];exact (rfl:_=_)
 ·rw[if_neg (by omega),if_neg (by intro h;rcases h with h|h;exact h6 h;exact h8 h)];exact (rfl:_=_)
def intOf:T→Int
 | .int n=>n
 | _=>0
theorem Cf (t:T):Pu Tryz.prog 98 [vT t] (.tup [i64 (intOf t),.bool (decide (t.kind=3))]):=by
 refine Pu.of (c98 _ ?_) od rfl
 cases t<;>exact bp (v:=.tup [i64 _,.bool _]) _ rfl
theorem DS (n:Int):Pu Tryz.prog 156 [i64 n] (.bool (decide (-9007199254740992≤n∧n≤9007199254740992))):=by
 refine Pu.of (c156 _ ?_) rfl rfl
 simp only[w156,ae,dx,dw,ab]
 rw[aL]
 refine ⟨fun h=>?_,fun h=>?_⟩
 ·have:decide (-9007199254740992≤n∧n≤9007199254740992)=decide (n≤9007199254740992):=decide_eq_decide.2 (by omega)
  rw[this];exact (rfl:_=_)
 ·have:decide (-9007199254740992≤n∧n≤9007199254740992)=false:=decide_eq_false (by omega)
  rw[this];exact (rfl:_=_)
theorem Ax {n:Int} (h:¬ (-9007199254740992≤n∧n≤9007199254740992)):Pu Tryz.prog 93 [i64 n,i64 0] (.tup [vT .null,i64 2]):=by
 refine Pu.of (c93 _ _ ?_) rfl rfl
 simp only[w93,bV]
 refine (DS n).call ?_
 rw[decide_eq_false h]
 simp only[bx,ab,Bool.not_false,ai]
 exact mk1 (st:=[]) (v:=.nili) rfl rfl (Q:=fun v s=>dp s (.tup [vT .null,i64 2]) (.tup [v,i64 2])) fun s=>bp s rfl
theorem DT {v:T}:Pu Tryz.prog 212 [vT v] (.bool (na v)):=by
 refine Pu.of (c212 _ ?_) od rfl
 have g:ldA ([]++[av.cells .rw [lvT v]]) (.ptr 0 0) 1=some (vT v):=rfl
 simp only[w212,jy,ag,List.length_nil,g,ab]
 refine (Cf v).call ?_
 simp only[ax,List.getElem?_cons_zero,List.getElem?_cons_succ,ab]
 have fin:∀ {w:T} {e:Int} {s:aa} {b:Bool},(b=true→na v=decide (e=0))→(b=false→na v=false)→nw s [LV.nili] fun v11 st12=>bd2 (lmk (stV st12 1 v11 (vT w))) fun _v13 st14=>aq (.bool b) (bd (al BinOp.eql (i64 e) (i64 0)) fun v15=>dp st14 (.bool (na v)) v15) (dp st14 (.bool (na v)) (LV.bool false)):=by
  intro w e s b h1 h2
  simp only[bV,cU,ay,ag,ae,aR,ab]
  cases b with
  | true=>
   rw[h1 rfl]
   have:(e==0)=decide (e=0):=by by_cases h:e=0<;>simp[h]
   simp only[ai,this];exact rfl
  | false=>rw[h2 rfl];exact rfl
 by_cases hn:∃ n,v=.int n
 ·obtain ⟨n,rfl⟩:=hn
  by_cases hr : -9007199254740992≤n∧n≤9007199254740992
  ·refine (q9 hr (by omega)).call ?_
   simp only[ax,List.getElem?_cons_zero,List.getElem?_cons_succ,ab]
   exact fin (fun _=>by simp only[na];exact decide_eq_true hr) fun h=>by cases h
  ·refine (Ax hr).call ?_
   simp only[ax,List.getElem?_cons_zero,List.getElem?_cons_succ,ab]
   exact fin (fun _=>by simp only[na];rw[decide_eq_false hr];rfl) fun h=>by cases h
 ·have e0:intOf v=0:=by cases v<;>first|rfl | (exact absurd ⟨_,rfl⟩ hn)
  have ek:decide (v.kind=3)=false:=by cases v<;>first|rfl | (exact absurd ⟨_,rfl⟩ hn)
  have en:na v=false:=by cases v<;>first|rfl | (exact absurd ⟨_,rfl⟩ hn)
  rw[e0,ek]
  refine (q9 (a:=0) (b:=0) (by omega) (by omega)).call ?_
  simp only[ax,List.getElem?_cons_zero,List.getElem?_cons_succ,ab]
  exact fin (fun h=>by cases h) fun _=>en
theorem Cg {t:KT} {v:T}:Pu Tryz.prog 172 [kV t,vT v] (.bool (me t.f v)):=by
 refine Pu.of (c172 _ _ ?_) ja rfl
 have g:ldA ([]++[av.cells .rw [lvT v]]) (.ptr 0 0) 1=some (vT v):=rfl
 simp only[w172,jy,ag,List.length_nil,g,ab]
 refine (jv v).call ?_
 have e1:((t.f:Int)==1)=decide (t.f=1):=by by_cases h:t.f=1<;>simp[h];omega
 have e2:((t.f:Int)==2)=decide (t.f=2):=by by_cases h:t.f=2<;>simp[h];omega
 have e3:((t.f:Int)==3)=decide (t.f=3):=by by_cases h:t.f=3<;>simp[h];omega
 have e4:((t.f:Int)==4)=decide (t.f=4):=by by_cases h:t.f=4<;>simp[h];omega
 have ek:∀ n:Int,(v.kind==n)=decide (v.kind=n):=fun n=>by by_cases h:v.kind=n<;>simp[h]
 simp only[bH,bR,Nat.zero_add,kl0,ab,ae,aR,e1,e2,e3,e4,ek,aL]
 unfold me
 refine ⟨fun h1=>?_,fun h1=>⟨fun h2=>?_,fun h2=>⟨fun h3=>⟨fun h4=>?_,fun h4=>?_⟩,fun h3=>⟨fun h4=>?_,fun h4=>?_⟩⟩⟩⟩
 ·rw[if_pos (by omega)];exact rfl
 ·rw[if_neg (by omega),if_pos (by omega)];exact rfl
 ·rw[if_neg (by omega),if_neg (by omega),if_pos (by omega),decide_eq_true (by omega)];exact rfl
 ·rw[if_neg (by omega),if_neg (by omega),if_pos (by omega),decide_eq_false (by omega),Bool.false_or]
  exact DT.call (bp _ rfl)
 ·rw[if_neg (by omega),if_neg (by omega),if_neg (by omega),if_pos (by omega)];exact rfl
 ·rw[if_neg (by omega),if_neg (by omega),if_neg (by omega),if_neg (by omega)];exact rfl
end
end Go.Proofs.YtknegckgmklnhaaGreatDoor
