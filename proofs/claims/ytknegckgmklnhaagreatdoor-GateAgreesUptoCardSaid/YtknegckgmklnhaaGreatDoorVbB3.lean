/- Parts of the proof. -/
import Derived.Test.YtknegckgmklnhaaGreatDoorVbR5
namespace Go.CP
namespace T
def fresh (t:T) (s:Stp) (e:Int):Bool:=e==8||(e==2&&s.2==(match t with | .list l=>(l.length:Int) | _=>0))
end T
end Go.CP
namespace Go.Proofs.YtknegckgmklnhaaGreatDoor
open Go Go.CP
set_option maxRecDepth 100000
def wk (t:T) (s:Stp) (y:T):T:=match t with
 | .list l=>.list (oI l s.2 y)
 | .map es=>.map (T.ins s.1 y es)
 | t=>t
def b9:T→T→List Stp→Option (Option T)
 | _,x,[]=>some (some x)
 | t,x,s::l=>match t.dS s with
  | none=>none
  | some (y,e)=>if e≠0∧(l≠[]∨t.fresh s e=false) then some none else match b9 y x l with
   | none=>none
   | some none=>some none
   | some (some z)=>some (some (wk t s z))
section
variable {st:aa} {R:LV→aa→Prop}
theorem zl {es:List (Tx × T)} (hm:(T.map es).ok) (s:Stp) (y:T) (hs:T.jK s=false):Pu Tryz.prog 218 [vT (.map es),vT y,aS s] (vT (.map (T.ins s.1 y es))):=by
 refine Pu.of (c218 _ _ _ ?_) (by simp only[LV.ar,LV.plain,bQ];rfl) bW
 simp only[T.ok] at hm
 have lk:∀ {st:aa},cy st (aS s)=some (.ptr st.length 0,st++[.cells .rw [.str s.1,i64 s.2]]):=rfl
 have g0:ld1 [al.cells .rw [lvT (.map es)],.cells .rw [lvT y],.cells .rw [.str s.1,i64 s.2],.cells .rw [.nili]] (.ptr 0 0)=some (.iface 173 (.imap (es.map fun e=>.str e.1) (dI es))):=rfl
 have g1:ld1 [al.cells .rw [lvT (.map es)],.cells .rw [lvT y],.cells .rw [.str s.1,i64 s.2],.cells .rw [.nili]] (.ptr 2 1)=some (i64 s.2):=rfl
 have g2:ld1 [al.cells .rw [lvT (.map es)],.cells .rw [lvT y],.cells .rw [.str s.1,i64 s.2],.cells .rw [.nili]] (.ptr 2 0)=some (.str s.1):=rfl
 have ea:asC 173 (some LV.nilm) (.iface 173 (.imap (es.map fun e=>.str e.1) (dI es))) false=some (.imap (es.map fun e=>.str e.1) (dI es)):=rfl
 have br:bd (asC 173 (some LV.nilm) (.iface 173 (.imap (es.map fun e=>.str e.1) (dI es))) false) (fun v=>ak Tryz.prog 259 [v] [al.cells .rw [lvT (.map es)],.cells .rw [lvT y],.cells .rw [.str s.1,i64 s.2],.cells .rw [.nili]] fun v45 st46=>bd (ld1 st46 (.ptr 2 0)) fun v48=>bd (ldA st46 (.ptr 1 0) 1) fun v49=>bd2 (lmk (ox st46 true v45 v48 v49)) fun _ st51=>bd (bG (aV (aQ [(0,1)]) [LV.nili] [(0,LV.iface 173 v45)])) fun v52=>bd2 (lmk (stV st51 1 (.ptr 3 0) v52)) fun _ st54=>bd (ldA st54 (.ptr 3 0) 1) fun v55=>dp st54 (vT (.map (T.ins s.1 y es))) v55):=by
  simp only[ea,ad]
  refine yk fun es' bs n hp=>?_
  generalize hX:al.map Md.rw (mE es') bs n=X
  have h2:ld1 [al.cells .rw [lvT (.map es)],.cells .rw [lvT y],.cells .rw [.str s.1,i64 s.2],.cells .rw [.nili],X] (.ptr 2 0)=some (.str s.1):=rfl
  have h3:ldA [al.cells .rw [lvT (.map es)],.cells .rw [lvT y],.cells .rw [.str s.1,i64 s.2],.cells .rw [.nili],X] (.ptr 1 0) 1=some (vT y):=gX rfl
  have h4:∃ bs' n',ox [al.cells .rw [lvT (.map es)],.cells .rw [lvT y],.cells .rw [.str s.1,i64 s.2],.cells .rw [.nili],X] true (.map 4) (.str s.1) (vT y)=some [al.cells .rw [lvT (.map es)],.cells .rw [lvT y],.cells .rw [.str s.1,i64 s.2],.cells .rw [.nili],.map .rw (mE (T.upd s.1 y es')) bs' n']:=by
   have hx:([al.cells .rw [lvT (.map es)],.cells .rw [lvT y],.cells .rw [.str s.1,i64 s.2],.cells .rw [.nili],X]:aa)[4]?=some (.map .rw (mE es') bs n):=by rw[← hX];rfl
   simp only[ox,plainKey,if_true,hx,sy]
   unfold jN
   split
   ·exact ⟨_,_,rfl⟩
   ·exact ⟨_,_,rfl⟩
  obtain ⟨bs',n',h4⟩:=h4
  have e1:bG (aV (aQ [(0,1)]) [LV.nili] [(0,LV.iface 173 (.map 4))])=some (.agg [.iface 173 (.map 4)]):=rfl
  have e2:∀ {Y:al},stV [al.cells .rw [lvT (.map es)],.cells .rw [lvT y],.cells .rw [.str s.1,i64 s.2],.cells .rw [.nili],Y] 1 (.ptr 3 0) (.agg [.iface 173 (.map 4)])=some [al.cells .rw [lvT (.map es)],.cells .rw [lvT y],.cells .rw [.str s.1,i64 s.2],.cells .rw [.iface 173 (.map 4)],Y]:=fun {Y}=>dE (k:=0) (vs:=[.iface 173 (.map 4)]) (n:=1) (l:=[.nili]) rfl (by simp) rfl rfl
  have e3:∀ {Y:al},ldA [al.cells .rw [lvT (.map es)],.cells .rw [lvT y],.cells .rw [.str s.1,i64 s.2],.cells .rw [.iface 173 (.map 4)],Y] (.ptr 3 0) 1=some (.agg [.iface 173 (.map 4)]):=fun {Y}=>eE (l:=[.iface 173 (.map 4)]) rfl (by simp)
  simp only[List.cons_append,aR,aN,a8,av,Nat.reduceAdd,h2,h3,ad,h4,aB,aj,e1,e2,e3]
  exact xH (es':=T.upd s.1 y es') (bs:=bs') (n:=n') rfl (T.zk hm.2.2 hp) (cH (T.kL hm.2.2))
 simp only[Bn,dJ,lk,aj,dB,aR,List.cons_append,a8,aN,av,Nat.reduceAdd,aP,g1,ad,aq,eV,g0]
 cases hd:decide (s.2≥0) with
 | true=>
  have hk:(s.1==([]:List UInt8))=false:=by
   simp only[T.jK,hd,Bool.true_and] at hs
   exact hs
  simp only[aH,g2,ad,gv,kf,hk,aA]
  exact br
 | false=>
  simp only[aA]
  exact br
theorem wm {t:T} {s:Stp} {e:Int}:Pu Tryz.prog 217 [vT t,aS s,i64 e] (.bool (t.fresh s e)):=by
 refine Pu.of (CO _ _ _ ?_) (by simp only[LV.ar,LV.plain,bQ];rfl) rfl
 have lk:∀ {st:aa},cy st (aS s)=some (.ptr st.length 0,st++[.cells .rw [.str s.1,i64 s.2]]):=rfl
 have g0:ld1 [al.cells .rw [lvT t],.cells .rw [.str s.1,i64 s.2]] (.ptr 0 0)=some (lvT t):=rfl
 have g1:ld1 [al.cells .rw [lvT t],.cells .rw [.str s.1,i64 s.2]] (.ptr 1 1)=some (i64 s.2):=rfl
 simp only[Cp,dJ,lk,aj,aq,cP,ad,aR,List.cons_append,a8,aN,av,aP,g0,u7,aO,bh,bE,g1]
 cases h8:e==8 with
 | true=>
  simp only[aH,T.fresh,h8,Bool.true_or]
  exact rfl
 | false=>
  cases h2:e==2 with
  | false=>
   simp only[aA,T.fresh,h8,h2,Bool.false_and,Bool.or_self]
   exact rfl
  | true=>
   simp only[aA,aH,T.fresh,h8,h2,Bool.true_and,Bool.false_or]
   cases t<;>exact rfl
def sCs (l:List Stp):List LV:=l.flatMap fun s=>[.str s.1,i64 s.2]
abbrev slS (l:List Stp):LV:=.isl (sCs l) l.length none
theorem mN:∀ {l:List Stp},(sCs l).length=l.length*2
 | []=>rfl
 | s::l=>by simp only[sCs,List.flatMap_cons,gg,aN,a8];have:=mN (l:=l);simp only[sCs] at this;rw[this];omega
theorem fq:∀ {l:List Stp},LV.ar (sCs l)=true
 | []=>rfl
 | s::l=>by have:=fq (l:=l);simp only[sCs] at this;simp only[sCs,List.flatMap_cons,List.cons_append,aR,LV.ar,LV.plain,this,Bool.and_self]
theorem yl {st:aa} {s:Stp} {l:List Stp}:(ob3 (some (i64 1)) none none fun l' h m=>cq st 2 (slS (s::l)) l' h m)=some (slS l):=by
 have h1:(sCs (s::l)).length=(s::l).length*2:=mN
 have e:(ob3 (some (i64 1)) none none fun l' h m=>cq st 2 (slS (s::l)) l' h m)=mU 2 (slS (s::l)) (some 1) none none:=rfl
 rw[e]
 refine (if_pos ⟨h1,by simp,by simp,by simp,by simp⟩).trans ?_
 have e2:((sCs (s::l)).drop ((some 1).getD 0*2)).take (((none:Option Nat).getD (s::l).length-(some 1).getD 0)*2)=sCs l:=by
  have:sCs (s::l)=[.str s.1,i64 s.2]++sCs l:=rfl
  rw[this]
  show ((([.str s.1,i64 s.2]:List LV)++sCs l).drop 2).take (((s::l).length-1)*2)=_
  rw[show (([.str s.1,i64 s.2]:List LV)++sCs l).drop 2=sCs l from rfl,List.take_of_length_le]
  rw[mN]
  simp
 rw[e2]
 rfl
theorem mO {t:T} (ht:t.ok) {s:Stp} {y:T} {e:Int} (h:t.dS s=some (y,e)):y.ok:=by
 unfold T.dS at h
 split at h
 ·split at h
  ·rename_i l
   simp only[T.ok] at ht
   simp only[ao] at h
   split at h
   ·rename_i x hx
    cases h
    exact T.eL.1 ht.2 _ (cd hx)
   ·cases h;trivial
  ·cases h
 ·split at h
  ·rename_i es
   simp only[T.ok] at ht
   simp only[ao] at h
   split at h
   ·rename_i x hx
    cases h
    exact (T.fi.1 ht.2.1 _ (T.ky hx)).2
   ·cases h;trivial
  ·cases h
theorem Bt {t:T} (ht:t.ok) {s:Stp} {y:T} {e:Int} (h:t.dS s=some (y,e)) (hf:e=0∨t.fresh s e=true) (z:T):Pu Tryz.prog 218 [vT t,vT z,aS s] (vT (wk t s z)):=by
 unfold T.dS at h
 split at h
 ·rename_i hs
  split at h
  ·rename_i l
   simp only[ao] at h
   simp only[T.ok] at ht
   refine zj ht.1 s z hs ?_
   split at h
   ·rename_i x hx
    have:=(List.getElem?_eq_some_iff.1 hx).1
    omega
   ·cases h
    rcases hf with hf|hf
    ·cases hf
    ·simp only[T.fresh,show ((2:Int)==8)=false from rfl,Bool.false_or,show ((2:Int)==2)=true from rfl,Bool.true_and,beq_iff_eq] at hf
     omega
  ·cases h
 ·rename_i hs
  split at h
  ·exact zl ht s z hs
  ·cases h
def wA (r:Option T) (v:LV):Prop:=match r with
 | some z=>v=.tup [vT z,i64 0]
 | none=>∃ y e,v=.tup [vT y,i64 e]∧e≠0
theorem ym:∀ (l:List Stp) {t x:T},t.ok→l.length≤big→PuZ Tryz.prog 181 [vT t,vT x,slS l] (fun v=>∃ r,b9 t x l=some r∧wA r v) (b9 t x l=none)
 | [],t,x,ht,_=>by
  refine PuZ.of (zR _ _ _ ?_) (by simp only[LV.ar,LV.plain,bQ];rfl)
  have c0:((0:Int)==0)=true:=rfl
  have g1:ldA [al.cells .rw [lvT t],.cells .rw [lvT x],.cells .rw [.nili]] (.ptr 1 0) 1=some (vT x):=gX rfl
  have e1:stV [al.cells .rw [lvT t],.cells .rw [lvT x],.cells .rw [.nili]] 1 (.ptr 2 0) (vT x)=some [al.cells .rw [lvT t],.cells .rw [lvT x],.cells .rw [lvT x]]:=iJ (x:=.nili) rfl
  have g2:ldA [al.cells .rw [lvT t],.cells .rw [lvT x],.cells .rw [lvT x]] (.ptr 2 0) 1=some (vT x):=gX rfl
  have hl:bg (slS [])=some (i64 0):=rfl
  simp only[uM,dJ,aj,dB,aR,List.cons_append,a8,aN,av,Nat.reduceAdd,hl,ad,aq,cP,c0,aH,g1,e1,aB,g2]
  exact ⟨.tup [vT x,i64 0],bO _ (by simp[LV.plain,LV.ar]),by simp[LV.plain,LV.ar],some x,rfl,rfl⟩
 | s::l,t,x,ht,hb=>by
  refine PuZ.of (zR _ _ _ ?_) (by simp only[LV.ar,LV.plain,bQ,fq];rfl)
  have hbl:l.length≤big:=by simp at hb;omega
  have c0:(((s::l).length:Int)==0)=false:=by simp;omega
  have hl:bg (slS (s::l))=some (i64 ((s::l).length:Int)):=rfl
  have i0:bF 2 (slS (s::l)) (i64 0)=some (.iptr (sCs (s::l)) 0):=by
   show bF 2 (slS (s::l)) (.int .i64 ((0:Nat):Int))=some (.iptr _ (0*2))
   exact dj (by simp)
  have gk:∀ {S:aa},ldA S (.iptr (sCs (s::l)) 0) 2=some (aS s):=rfl
  have g0:∀ {l':aa},ldA (al.cells .rw [lvT t]::l') (.ptr 0 0) 1=some (vT t):=gX rfl
  have g1:∀ {x':al} {l':aa},ldA (x'::al.cells .rw [lvT x]::l') (.ptr 1 0) 1=some (vT x):=gX rfl
  have g2:∀ {x y:al} {t:T} {l:aa},ldA (x::y::al.cells .rw [lvT t]::l) (.ptr 2 0) 1=some (vT t):=gX rfl
  have g3:∀ {x y z:al} {t:T} {l:aa},ldA (x::y::z::al.cells .rw [lvT t]::l) (.ptr 3 0) 1=some (vT t):=gX rfl
  have g4:∀ {x y z u:al} {t:T} {l:aa},ldA (x::y::z::u::al.cells .rw [lvT t]::l) (.ptr 4 0) 1=some (vT t):=gX rfl
  have e2:∀ {x y:al} {l:aa} {t:T},stV (x::y::.cells .rw [.nili]::l) 1 (.ptr 2 0) (vT t)=some (x::y::.cells .rw [lvT t]::l):=fun {x y l t}=>iJ (x:=.nili) rfl
  have e3:∀ {x y z:al} {t:T},stV [x,y,z,.cells .rw [.nili]] 1 (.ptr 3 0) (vT t)=some [x,y,z,.cells .rw [lvT t]]:=fun {x y z t}=>iJ (x:=.nili) rfl
  have e4:∀ {x y z u:al} {t:T},stV [x,y,z,u,.cells .rw [.nili]] 1 (.ptr 4 0) (vT t)=some [x,y,z,u,.cells .rw [lvT t]]:=fun {x y z u t}=>iJ (x:=.nili) rfl
  have fin:∀ {S:aa} {r:Option T} {v:LV},b9 t x (s::l)=some r→wA r v→v.plain=true→Dp (fun v=>∃ r,b9 t x (s::l)=some r∧wA r v) v S:=fun {S r v} h hw hv=>
   ⟨v,bO _ hv,hv,r,h,hw⟩
  have pl:∀ {z:T} {e:Int},(LV.tup [vT z,i64 e]).plain=true:=by simp[LV.plain,LV.ar]
  have err:∀ {S:aa} {e:Int},b9 t x (s::l)=some none→e≠0→Dp (fun v=>∃ r,b9 t x (s::l)=some r∧wA r v) (.tup [vT .null,i64 e]) S:=fun {S e} h he=>fin h ⟨.null,e,rfl,he⟩ pl
  -- behind the step
  have next:∀ {y:T} {e:Int},t.dS s=some (y,e)→mD (slS (s::l)) (.ptr 0 0) (.ptr 1 0) (.ptr 2 0) (.ptr 3 0) (i64 e) (Dp fun v=>∃ r,b9 t x (s::l)=some r∧wA r v) (fun _=>b9 t x (s::l)=none) [al.cells .rw [lvT t],.cells .rw [lvT x],.cells .rw [.nili],.cells .rw [lvT y]]:=by
   intro y e hin
   have hw:b9 t x (s::l)=if e≠0∧(l≠[]∨t.fresh s e=false) then some none else match b9 y x l with
     | none=>none
     | some none=>some none
     | some (some z)=>some (some (wk t s z)):=by simp only[b9,hin]
   have bad:e≠0∧(l≠[]∨t.fresh s e=false)→iV (slS (s::l)) (.ptr 0 0) (.ptr 1 0) (.ptr 2 0) (.ptr 3 0) (i64 e) (.bool true) (Dp fun v=>∃ r,b9 t x (s::l)=some r∧wA r v) (fun _=>b9 t x (s::l)=none) [al.cells .rw [lvT t],.cells .rw [lvT x],.cells .rw [.nili],.cells .rw [lvT y]]:=by
    intro h
    refine uN _ _ _ _ _ _ _ ?_
    simp only[mG,aH,Bs,ad,e2,aB,aj,g2]
    exact err (by rw[hw,if_pos h]) h.1
   have good:¬(e≠0∧(l≠[]∨t.fresh s e=false))→iV (slS (s::l)) (.ptr 0 0) (.ptr 1 0) (.ptr 2 0) (.ptr 3 0) (i64 e) (.bool false) (Dp fun v=>∃ r,b9 t x (s::l)=some r∧wA r v) (fun _=>b9 t x (s::l)=none) [al.cells .rw [lvT t],.cells .rw [lvT x],.cells .rw [.nili],.cells .rw [lvT y]]:=by
    intro h
    rw[if_neg h] at hw
    have hf:e=0∨t.fresh s e=true:=by
     rcases Decidable.em (e=0) with h0|h0
     ·exact .inl h0
     ·right
      cases hc:t.fresh s e with
      | true=>rfl
      | false=>exact absurd ⟨h0,.inr hc⟩ h
    refine uN _ _ _ _ _ _ _ ?_
    have six:∀ {v:LV},(∃ r,b9 y x l=some r∧wA r v)→∃ z e',v=.tup [vT z,i64 e']∧mF (slS (s::l)) (.ptr 0 0) (.ptr 2 0) (i64 e') (.ptr 4 0) (Dp fun v=>∃ r,b9 t x (s::l)=some r∧wA r v) (fun _=>b9 t x (s::l)=none) [al.cells .rw [lvT t],.cells .rw [lvT x],.cells .rw [.nili],.cells .rw [lvT y],.cells .rw [lvT z]]:=by
     rintro v ⟨r,hr,hv⟩
     cases r with
     | none=>
      obtain ⟨z,e',rfl,he'⟩:=hv
      refine ⟨z,e',rfl,uO _ _ _ _ _ ?_⟩
      have c1:(e' != 0)=true:=by simpa using he'
      simp only[mH,aq,cC,c1,ad,aH,Bs,e2,aB,aj,g2]
      exact err (by rw[hw,hr]) he'
     | some z=>
      have hv:v=.tup [vT z,i64 0]:=hv
      subst hv
      refine ⟨z,0,rfl,uO _ _ _ _ _ ?_⟩
      have c1:((0:Int) != 0)=false:=rfl
      simp only[mH,aq,cC,c1,ad,aA,g0,g4,i0,gk]
      refine ((Bt ht hin hf z).call ?_).z
      simp only[e2,aB,aj]
      refine yW _ _ ?_
      simp only[qm,g2,ad]
      exact fin (r:=some (wk t s z)) (by rw[hw,hr]) rfl pl
    have pan:b9 y x l=none→b9 t x (s::l)=none:=fun h=>by rw[hw,h]
    simp only[mG,aA,g3,g1,ad,yl,dB,List.cons_append,aR,aN,a8,av,Nat.reduceAdd,true_and]
    refine ⟨?_,?_⟩
    ·refine (ym l (x:=x) (mO ht hin) hbl).call (fun v hv=>?_) pan
     obtain ⟨z,e',rfl,h6⟩:=six hv
     simp only[aO,bh,bE,ad,e4,aB,aj]
     exact h6
    ·refine (ym l (x:=x) (mO ht hin) hbl).call (fun v hv=>?_) pan
     obtain ⟨z,e',rfl,h6⟩:=six hv
     simp only[aO,bh,bE,ad,List.cons_append,aR,aN,a8,av,Nat.reduceAdd,g3,g1,e4,aB,aj,true_and]
     exact h6
   refine yV _ _ _ _ _ _ ?_
   by_cases he:e=0
   ·subst he
    have c1:((0:Int) != 0)=false:=rfl
    simp only[kx,aq,cC,c1,ad,aA]
    exact good fun h=>h.1 rfl
   ·have c1:(e != 0)=true:=by simpa using he
    by_cases hl0:l=[]
    ·subst hl0
     have c2:decide ((([s]:List Stp).length:Int) > 1)=false:=rfl
     simp only[kx,aq,cC,c1,ad,aH,hl,ke,c2,aA,g0,i0,gk]
     refine (wm.call ?_).z
     simp only[cM,ad]
     cases hc:t.fresh s e with
     | true=>exact good fun h=>by rcases h.2 with h|h;exact h rfl;rw[hc] at h;cases h
     | false=>exact bad ⟨he,.inr hc⟩
    ·have c2:decide (((s::l).length:Int) > 1)=true:=by
      have:=List.length_pos_iff.2 hl0
      simp
      omega
     simp only[kx,aq,cC,c1,ad,aH,hl,ke,c2]
     exact bad ⟨he,.inl hl0⟩
  have pan:t.dS s=none→b9 t x (s::l)=none:=fun h=>by simp only[b9,h]
  simp only[uM,dJ,aj,dB,aR,List.cons_append,a8,aN,av,Nat.reduceAdd,hl,ad,aq,cP,g0,i0,gk,true_and]
  refine ⟨?_,?_⟩
  ·refine (ye ht s).call (fun v hv=>?_) pan
   obtain ⟨⟨y,e⟩,h1,rfl⟩:=hv
   simp only[aO,bh,bE,ad,e3,aB,aj]
   exact next h1
  ·refine (ye ht s).call (fun v hv=>?_) pan
   obtain ⟨⟨y,e⟩,h1,rfl⟩:=hv
   simp only[aO,bh,bE,ad,aR,List.cons_append,a8,aN,av,Nat.reduceAdd,g0,true_and,e3,aB,aj]
   exact next h1
end
end Go.Proofs.YtknegckgmklnhaaGreatDoor
namespace Go.Proofs.YtknegckgmklnhaaGreatDoor
open Go Go.CP
set_option maxRecDepth 100000
def w67 (a0 a1:LV) (R:LV.RT) (st:aa):Prop:=
 bd2 (cy st a0) fun v0 gT=>nw gT [LV.nili] fun v2 gE=>bd (ldA gE v0 1) fun v4=>LZ 130 [v4,a1] gE fun v5 iD=>bd (ah v5 0) fun v7=>bd (ah v5 1) fun v8=>bd2 (lmk (stV iD 1 v2 v7)) fun _ eQ=>bd (ldA eQ v2 1) fun iF=>R (LV.tup [iF,v8]) eQ
theorem c67 (a0 a1:LV) {R:LV.RT} {st:aa} (h:w67 a0 a1 R st):LZ 67 [a0,a1] st R:=
 cz [] [] [.cell 4 57,.tmp 5] Tryz.func67 h
theorem zm (a0:LV) (K:aa→Prop) (st:aa):jI Tryz.prog [] K 3000 false [.code (ay Tryz.f179)] ([a0]++List.replicate (Tryz.f179.ntmps-1) af) st =
  (false=false∧bd (eqB BinOp.neq (mi true (e9 Tryz.prog) (.iface Tryz.prog.rt.typeAssertionError .aJ) LV.nili)) fun v0=>aL v0 (bd (de a0) fun v1=>bd2 (lmk (stV st 1 v1 (i64 6))) fun _ st3=>(true=true∧K st3)) (true=true∧K st)):=by kernel_rfl
section
variable {st:aa} {R:LV→aa→Prop} {K:aa→Prop}
theorem yn {o:Nat} {e0:Int} (h:st[o]?=some (.cells .rw [i64 e0])) (hK:K (st.set o (.cells .rw [i64 6]))):gS Tryz.prog 179 [.ptr o 0] st K:=by
 refine gS.of (n:=3000) Tryz.func179 (show Tryz.f179.body=some (ay Tryz.f179) by kernel_rfl) (show Tryz.f179.results.toList=[] by kernel_rfl) ((zm (.ptr o 0) K st).mpr ⟨rfl,?_⟩)
 have e1:eqB BinOp.neq (mi true (e9 Tryz.prog) (.iface Tryz.prog.rt.typeAssertionError .aJ) LV.nili)=some (.bool true):=by kernel_rfl
 have e2:de (.ptr o 0)=some (.ptr o 0):=rfl
 have e3:stV st 1 (.ptr o 0) (i64 6)=some (st.set o (.cells .rw [i64 6])):=eY (l:=[i64 e0]) h (by simp) rfl
 simp only[e1,ad,aH,e2,e3,aB,aj]
 exact ⟨trivial,hK⟩
theorem tY {o:Nat} (hK:K st):cG Tryz.prog 179 [.ptr o 0] st K:=by
 refine CR _ ?_
 have en:eqB .neq (mi true (e9 Tryz.prog) LV.nili LV.nili)=some (.bool false):=by kernel_rfl
 simp only[Cr,en,ad,aA]
 exact hK
def goT:T→List Stp→Option T
 | t,[]=>some t
 | t,s::l=>match t.dS s with
  | some (y,e)=>if e=0 then goT y l else none
  | none=>none
theorem ve:∀ {l:List Stp} {i:Nat} {s:Stp},l[i]?=some s→(sCs l)[i*2]?=some (.str s.1)∧(sCs l)[i*2+1]?=some (i64 s.2)
 | [],i,s,h=>by simp at h
 | a::l,0,s,h=>by
  simp only[bh,ao] at h
  subst h
  exact ⟨rfl,rfl⟩
 | a::l,i+1,s,h=>by
  have:=ve (l:=l) (i:=i) (s:=s) (by simpa using h)
  have e:sCs (a::l)=.str a.1::i64 a.2::sCs l:=rfl
  rw[e,show (i+1)*2=i*2+1+1 by omega]
  simpa using this
theorem zn {l:List Stp} {i:Nat} {s:Stp} (h:l[i]?=some s):ldA st (.iptr (sCs l) (i*2)) 2=some (aS s):=by
 obtain ⟨h1,h2⟩:=ve h
 have hl:i<l.length:=(List.getElem?_eq_some_iff.1 h).1
 have hb:i*2+2≤(sCs l).length:=by rw[mN];omega
 have e:((sCs l).drop (i*2)).take 2=[.str s.1,i64 s.2]:=by
  apply List.ext_getElem?
  intro k
  match k with
  | 0=>simp[h1]
  | 1=>simp[h2]
  | k+2=>simp;omega
 show (if i*2+2≤(sCs l).length then some (LV.agg (((sCs l).drop (i*2)).take 2)) else none)=_
 rw[if_pos hb,e]
structure Gx (st:aa) (x a:T) (e:Int):Prop where
 x1:st[1]?=some (.cells .rw [lvT x])
 x2:st[2]?=some (.cells .rw [i64 e])
 x3:st[3]?=some (.cells .rw [lvT a])
theorem Gx.app {x a:T} {e:Int} (h:Gx st x a e) (y:al):Gx (st++[y]) x a e:=⟨cF h.1,cF h.2,cF h.3⟩
theorem Gx.s1 {x a:T} {e:Int} (h:Gx st x a e) (y:T):Gx (st.set 1 (.cells .rw [lvT y])) y a e:=
 ⟨by rw[List.getElem?_set_self (b6 h.1)],by rw[List.getElem?_set_ne (by omega)];exact h.2,by rw[List.getElem?_set_ne (by omega)];exact h.3⟩
theorem Gx.s2 {x a:T} {e:Int} (h:Gx st x a e) (y:Int):Gx (st.set 2 (.cells .rw [i64 y])) x a y:=
 ⟨by rw[List.getElem?_set_ne (by omega)];exact h.1,by rw[List.getElem?_set_self (b6 h.2)],by rw[List.getElem?_set_ne (by omega)];exact h.3⟩
theorem Gx.s3 {x a:T} {e:Int} (h:Gx st x a e) (y:T):Gx (st.set 3 (.cells .rw [lvT y])) x y e:=
 ⟨by rw[List.getElem?_set_ne (by omega)];exact h.1,by rw[List.getElem?_set_ne (by omega)];exact h.2,by rw[List.getElem?_set_self (b6 h.3)]⟩
theorem ca {z:T} {e:Int}:(LV.tup [vT z,i64 e]).plain=true:=by simp[LV.plain,LV.ar]
theorem wo {t:T} {l:List Stp} (hb:l.length≤big):∀ (d i:Nat),i+d=l.length→∀ {st:aa} {x a:T},Gx st x a 0→a.ok→goT a (l.drop i)=goT t l→
  mI (.ptr 1 0) (.ptr 2 0) (.ptr 3 0) (slS l) (i64 l.length) (i64 i) (.ptr 2 0) (Dp (wA (goT t l))) (fun _=>False) st:=by
 intro d
 induction d with
 | zero=>
  intro i hi st x a hg ha hgo
  have hi:i=l.length:=by omega
  subst hi
  rw[List.drop_length] at hgo
  refine uP _ _ _ _ _ _ _ ?_
  have c1:¬ ((l.length:Int)<l.length):=by omega
  have e1:=sq (t:=a) hg.x1
  have hg1:=hg.s1 a
  have e2:stV (st.set 1 (.cells .rw [lvT a])) 1 (.ptr 2 0) (i64 0)=some ((st.set 1 (.cells .rw [lvT a])).set 2 (.cells .rw [i64 0])):=eY (l:=[i64 0]) hg1.x2 (by simp) rfl
  have hg2:=hg1.s2 0
  simp only[mJ,aq,aY,c1,ft,ad,aA,gY hg.x3,e1,e2,aB,aj]
  refine tY ?_
  simp only[gY hg2.x1,ad,dr hg2.x2,bh]
  refine ⟨.tup [vT a,i64 0],bO _ ca,ca,?_⟩
  rw[← hgo]
  exact rfl
 | succ d ih=>
  intro i hi st x a hg ha hgo
  have hlt:i<l.length:=by omega
  have hx:l[i]?=some l[i]:=ba hlt
  generalize l[i]=s at hx
  have hdr:l.drop i=s::l.drop (i+1):=by
   rw[gf hlt]
   congr 1
   have:=(List.getElem?_eq_some_iff.1 hx).2
   exact this
  rw[hdr] at hgo
  refine uP _ _ _ _ _ _ _ ?_
  have c1:((i:Int)<l.length):=by omega
  have e1:bF 2 (slS l) (i64 i)=some (.iptr (sCs l) (i*2)):=dj hlt
  have hw1:=bR (show i<2 ^ 40 by unfold big at hb;omega)
  have e2:stV (st++[.cells .rw [.str [],i64 0]]) 2 (.ptr st.length 0) (aS s)=some (st++[.cells .rw [.str s.1,i64 s.2]]):=by
   have:=dE (st:=st++[.cells .rw [.str [],i64 0]]) (o:=st.length) (k:=0) (vs:=[.str s.1,i64 s.2]) (n:=2) (l:=[.str [],i64 0]) bq (by simp) rfl rfl
   rw[this]
   simp[bu]
  have hg':=hg.app (.cells .rw [.str s.1,i64 s.2])
  have e3:ldA (st++[.cells .rw [.str s.1,i64 s.2]]) (.ptr st.length 0) 2=some (aS s):=eE (l:=[.str s.1,i64 s.2]) bq (by simp)
  simp only[mJ,aq,aY,c1,dT,ad,aH,e1,zn hx,dB,e2,aB,aj,gY hg'.x3,e3]
  generalize st++[al.cells .rw [.str s.1,i64 s.2]]=S at hg'
  refine (ye ha s).call (fun v hv=>?_) fun hp=>?_
  ·obtain ⟨⟨y,e⟩,h1,rfl⟩:=hv
   have q1:=sq (t:=y) hg'.x3
   have k1:=hg'.s3 y
   have q2:stV (S.set 3 (.cells .rw [lvT y])) 1 (.ptr 2 0) (i64 e)=some ((S.set 3 (.cells .rw [lvT y])).set 2 (.cells .rw [i64 e])):=eY (l:=[i64 0]) k1.x2 (by simp) rfl
   have k2:=k1.s2 e
   simp only[goT,h1] at hgo
   simp only[aO,bh,bE,ad,q1,q2,aB,aj,dr k2.x2,aq,cC]
   by_cases he:e=0
   ·subst he
    have c2:((0:Int) != 0)=false:=rfl
    simp only[if_true] at hgo
    simp only[c2,aA,bI,ad,hw1]
    exact ih (i+1) (by omega) k2 (mO ha h1) hgo
   ·have c2:(e != 0)=true:=by simpa using he
    rw[if_neg he] at hgo
    have q3:=sq (t:=.null) k2.x1
    have k3:=k2.s1 .null
    have q4:stV (((S.set 3 (.cells .rw [lvT y])).set 2 (.cells .rw [i64 e])).set 1 (.cells .rw [lvT .null])) 1 (.ptr 2 0) (i64 e)=some ((((S.set 3 (.cells .rw [lvT y])).set 2 (.cells .rw [i64 e])).set 1 (.cells .rw [lvT .null])).set 2 (.cells .rw [i64 e])):=eY (l:=[i64 e]) k3.x2 (by simp) rfl
    have k4:=k3.s2 e
    simp only[c2,aH,Bs,ad,q3,aB,aj,dr k3.x2,bh,q4,true_and]
    refine xx _ _ _ ?_
    simp only[nY]
    refine tY ?_
    simp only[gY k4.x1,ad,dr k4.x2,bh]
    refine ⟨.tup [vT .null,i64 e],bO _ ca,ca,?_⟩
    rw[← hgo]
    exact ⟨.null,e,rfl,he⟩
  ·simp only[goT,hp] at hgo
   refine yn hg'.x2 ?_
   have k:=hg'.s2 6
   simp only[gY k.x1,ad,dr k.x2,bh]
   refine ⟨.tup [vT x,i64 6],bO _ ca,ca,?_⟩
   rw[← hgo]
   exact ⟨x,6,rfl,by omega⟩
theorem zo {t:T} (ht:t.ok) {l:List Stp} (hb:l.length≤big):Pb Tryz.prog 130 [vT t,slS l] (wA (goT t l)):=by
 refine Pb.of (a7.calls (Cb _ _ ?_)) (by simp only[LV.ar,LV.plain,bQ,fq];rfl)
 have g0:∀ {l':aa},ldA (al.cells .rw [lvT t]::l') (.ptr 0 0) 1=some (vT t):=gX rfl
 have e3:∀ {x y z:al},stV [x,y,z,.cells .rw [.nili]] 1 (.ptr 3 0) (vT t)=some [x,y,z,.cells .rw [lvT t]]:=fun {x y z}=>iJ (x:=.nili) rfl
 have hl:bg (slS l)=some (i64 (l.length:Int)):=rfl
 simp only[xv,dJ,aj,dB,aR,List.cons_append,a8,aN,av,Nat.reduceAdd,g0,ad,e3,aB,hl]
 exact wo hb l.length 0 (by omega) (x:=.null) (a:=t) ⟨rfl,rfl,rfl⟩ ht rfl
theorem CV {t:T} (ht:t.ok) {l:List Stp} (hb:l.length≤big):Pb Tryz.prog 67 [vT t,slS l] (wA (goT t l)):=by
 refine Pb.of (c67 _ _ ?_) (by simp only[LV.ar,LV.plain,bQ,fq];rfl)
 have g0:∀ {l':aa},ldA (al.cells .rw [lvT t]::l') (.ptr 0 0) 1=some (vT t):=gX rfl
 have e1:∀ {x:al} {t:T},stV [x,.cells .rw [.nili]] 1 (.ptr 1 0) (vT t)=some [x,.cells .rw [lvT t]]:=fun {x t}=>iJ (x:=.nili) rfl
 have g1:∀ {x:al} {t:T},ldA [x,.cells .rw [lvT t]] (.ptr 1 0) 1=some (vT t):=gX rfl
 simp only[w67,dJ,aj,dB,aR,List.cons_append,a8,aN,av,g0,ad]
 refine (zo ht hb).call fun v hv=>?_
 have:∃ z e,v=.tup [vT z,i64 e]:=by
  cases h:goT t l with
  | none=>rw[h] at hv;obtain ⟨z,e,rfl,_⟩:=hv;exact ⟨z,e,rfl⟩
  | some z=>rw[h] at hv;exact ⟨z,0,hv⟩
 obtain ⟨z,e,rfl⟩:=this
 simp only[aO,bh,bE,ad,e1,aB,aj,g1]
 exact ⟨_,bO _ ca,ca,hv⟩
def wU (r:Option (Option T)):Option T:=match r with
 | some (some z)=>some z
 | _=>none
theorem sA {t x:T} (ht:t.ok) {l:List Stp} (hb:l.length≤big):Pb Tryz.prog 131 [vT t,vT x,slS l] (wA (wU (b9 t x l))):=by
 refine Pb.of (a7.calls (Cc _ _ _ ?_)) (by simp only[LV.ar,LV.plain,bQ,fq];rfl)
 have g0:∀ {l':aa},ldA (al.cells .rw [lvT t]::l') (.ptr 0 0) 1=some (vT t):=gX rfl
 have g1:∀ {x':al} {l':aa},ldA (x'::al.cells .rw [lvT x]::l') (.ptr 1 0) 1=some (vT x):=gX rfl
 have g2:∀ {x y:al} {t:T} {l:aa},ldA (x::y::al.cells .rw [lvT t]::l) (.ptr 2 0) 1=some (vT t):=gX rfl
 have e2:∀ {x y z:al} {t:T},stV [x,y,.cells .rw [.nili],z] 1 (.ptr 2 0) (vT t)=some [x,y,.cells .rw [lvT t],z]:=fun {x y z t}=>iJ (x:=.nili) rfl
 have e3:∀ {x y z:al} {e:Int},stV [x,y,z,.cells .rw [i64 0]] 1 (.ptr 3 0) (i64 e)=some [x,y,z,.cells .rw [i64 e]]:=fun {x y z e}=>rfl
 have g3:∀ {x y z:al} {e:Int},ld1 [x,y,z,.cells .rw [i64 e]] (.ptr 3 0)=some (i64 e):=rfl
 simp only[xy,dJ,aj,dB,aR,List.cons_append,a8,aN,av,Nat.reduceAdd,g0,g1,ad]
 refine (ym l ht hb).call (fun v hv=>?_) fun hp=>?_
 ·obtain ⟨r,hr,hv⟩:=hv
  have e:wU (b9 t x l)=r:=by rw[hr];cases r<;>rfl
  rw[e]
  have:∃ z e,v=.tup [vT z,i64 e]:=by
   cases r with
   | none=>obtain ⟨z,e,rfl,_⟩:=hv;exact ⟨z,e,rfl⟩
   | some z=>exact ⟨z,0,hv⟩
  obtain ⟨z,e,rfl⟩:=this
  simp only[aO,bh,bE,ad,e2,e3,aB,aj]
  refine tY ?_
  simp only[g2,g3,ad]
  exact ⟨_,bO _ ca,ca,hv⟩
 ·have e:wU (b9 t x l)=none:=by rw[hp];rfl
  rw[e]
  refine yn (e0:=0) rfl ?_
  simp only[List.set_cons_succ,List.set_cons_zero,g3,ad]
  have g2':ldA [al.cells .rw [lvT t],.cells .rw [lvT x],.cells .rw [.nili],.cells .rw [i64 6]] (.ptr 2 0) 1=some (vT .null):=gX (v:=.null) rfl
  simp only[g2',ad]
  exact ⟨.tup [vT .null,i64 6],bO _ ca,ca,.null,6,rfl,by omega⟩
theorem qE {t x:T} (ht:t.ok) {l:List Stp} (hb:l.length≤big):Pb Tryz.prog 68 [vT t,vT x,slS l] (wA (wU (b9 t x l))):=by
 refine Pb.of (c68 _ _ _ ?_) (by simp only[LV.ar,LV.plain,bQ,fq];rfl)
 have g0:∀ {l':aa},ldA (al.cells .rw [lvT t]::l') (.ptr 0 0) 1=some (vT t):=gX rfl
 have g1:∀ {x':al} {l':aa},ldA (x'::al.cells .rw [lvT x]::l') (.ptr 1 0) 1=some (vT x):=gX rfl
 have g2:∀ {x y:al} {t:T} {l:aa},ldA (x::y::al.cells .rw [lvT t]::l) (.ptr 2 0) 1=some (vT t):=gX rfl
 have e2:∀ {x y:al} {t:T},stV [x,y,.cells .rw [.nili]] 1 (.ptr 2 0) (vT t)=some [x,y,.cells .rw [lvT t]]:=fun {x y t}=>iJ (x:=.nili) rfl
 simp only[w68,dJ,aj,dB,aR,List.cons_append,a8,aN,av,Nat.reduceAdd,g0,g1,ad]
 refine (sA ht hb).call fun v hv=>?_
 have:∃ z e,v=.tup [vT z,i64 e]:=by
  cases h:wU (b9 t x l) with
  | none=>rw[h] at hv;obtain ⟨z,e,rfl,_⟩:=hv;exact ⟨z,e,rfl⟩
  | some z=>rw[h] at hv;exact ⟨z,0,hv⟩
 obtain ⟨z,e,rfl⟩:=this
 simp only[aO,bh,bE,ad,e2,aB,aj,g2]
 exact ⟨_,bO _ ca,ca,hv⟩
end
end Go.Proofs.YtknegckgmklnhaaGreatDoor
