/- Parts of the proof. -/
import Derived.Test.YtknegckgmklnhaaGreatDoorCp46
namespace Go.Proofs.YtknegckgmklnhaaGreatDoor
open Go Go.CP
set_option maxRecDepth 100000
mutual
def every (q:T→Bool):T→Bool
 | .list l=>q (.list l)&&qB q l
 | .map es=>q (.map es)&&qC q es
 | .null=>q .null
 | .unknown=>q .unknown
 | .bool b=>q (.bool b)
 | .int n=>q (.int n)
 | .point a b=>q (.point a b)
 | .text s=>q (.text s)
def qB (q:T→Bool):List T→Bool
 | []=>true
 | t::ts=>every q t&&qB q ts
def qC (q:T→Bool):List (List UInt8 × T)→Bool
 | []=>true
 | e::es=>every q e.2&&qC q es
end
theorem pj {q:T→Bool}:∀ {l:List T},qB q l=l.all (every q)
 | []=>rfl
 | t::ts=>by simp[qB,pj (l:=ts)]
theorem pk {q:T→Bool}:∀ {l:List (List UInt8 × T)},qC q l=(l.map (·.2)).all (every q)
 | []=>rfl
 | t::ts=>by simp[qC,pk (l:=ts)]
theorem ot {q:T→Bool} {t:T}:every q t=(q t&&t.items.all (every q)):=by
 cases t<;>simp[every,T.items,pj,pk]
theorem dJ {st:aa} {t:T}:cy st (vT t)=some (.ptr st.length 0,st++[.cells .rw [lvT t]]):=rfl
theorem zh {q:T→Bool} {g:FuncId} {x:T} (hx:Pu Tryz.prog 119 [vT x,.fn (.func g) [] []] (.bool (every q x))) {st:aa} {o:Nat} (ho:st[o]?=some (.cells .rw [.fn (.func g) [] []])) {R:LV→aa→Prop}
  (hR:∀ s,s[o]?=some (.cells .rw [.fn (.func g) [] []])→R (.bool (!(every q x))) s):ak Tryz.prog 178 [vT x,.ptr o 0] st R:=by
 refine CJ _ _ ?_
 have e1:ld1 (st++[.cells .rw [lvT x]]) (.ptr o 0)=some (.fn (.func g) [] []):=by rw[dr (cF ho)];rfl
 simp only[AW,dJ,aj,fS,ad,e1]
 refine hx.call ?_
 simp only[cM,ad]
 exact hR _ (cF ho)
theorem zi {q:T→Bool} {g:FuncId} {l:List T} (hb:l.length≤big) (hl:∀ x ∈ l,Pu Tryz.prog 119 [vT x,.fn (.func g) [] []] (.bool (every q x))) {o:Nat} {R:LV→aa→Prop}
  (h1:∀ (k:Nat) s,l.all (every q)=false→R (i64 k) s) (h2:∀ s,l.all (every q)=true→R (i64 (-1)) s) :
  ∀ (d i:Nat) (st:aa),i+d=l.length→(l.take i).all (every q)=true→st[o]?=some (.cells .rw [.fn (.func g) [] []])→nR (vL l) (.fn (.func 178) [] [.ptr o 0]) (i64 l.length) (i64 i) R st:=by
 intro d
 induction d with
 | zero=>
  intro i st hi ht ho
  apply xh
  have:¬ ((i:Int)<l.length):=by omega
  simp only[qh,aq,aY,ad,this,ft,aA]
  rw[List.take_of_length_le (by omega)] at ht
  exact h2 _ ht
 | succ d ih=>
  intro i st hi ht ho
  apply xh
  have hlt:i<l.length:=by omega
  have c1:(i:Int)<l.length:=by omega
  have hx:l[i]?=some l[i]:=ba hlt
  have hp:=hl _ (List.getElem_mem hlt)
  generalize l[i]=x at hx hp
  have e1:bF 1 (vL l) (i64 i)=some (.iptr (cn l) (i*1)):=dj hlt
  have e2:jO (.fn (.func 178) [] [.ptr o 0]) [vT x]=some (178,[vT x,.ptr o 0]):=rfl
  simp only[qh,aq,aY,ad,c1,dT,aH,e1,lC hx,e2,aj]
  refine zh hp ho fun s hs=>?_
  rcases hq:every q x with _|_
  ·simp only[eN,aH]
   exact h1 i s (List.all_eq_false.2 ⟨x,cd hx,by simp[hq]⟩)
  ·simp only[dU,aA,bI,ad,bR (show i<2 ^ 40 by unfold big at hb;omega)]
   refine ih (i+1) s (by omega) ?_ hs
   rw[List.take_add_one,List.all_append,ht,hx]
   simp[hq]
theorem va {q:T→Bool} {g:FuncId} (hg:∀ t:T,Pu Tryz.prog g [vT t] (.bool (q t))):∀ (n:Nat) (t:T),SizeOf.sizeOf t<n→t.ok→Pu Tryz.prog 119 [vT t,.fn (.func g) [] []] (.bool (every q t))
 | 0,_,h,_=>by omega
 | n+1,t,hn,ht=>by
  have hrec:∀ x ∈ t.items,Pu Tryz.prog 119 [vT x,.fn (.func g) [] []] (.bool (every q x)):=fun x hx=>va hg n x (by have:=T.eH hx;omega) (T.gD ht x hx)
  have hb:t.items.length≤big:=by
   cases t<;>simp only[T.items,a8,Nat.zero_le,cb]
   ·exact ht.1
   ·exact ht.1
  refine Pu.of (c119 _ _ ?_) (by simp only[LV.ar,LV.plain,bQ,Bool.and_true]) rfl
  have lb2:cy [al.cells .rw [lvT t]] (.fn (.func g) [] [])=some (.ptr 1 0,[al.cells .rw [lvT t],.cells .rw [.fn (.func g) [] []]]):=rfl
  have g0:ldA [al.cells .rw [lvT t],.cells .rw [.fn (.func g) [] []]] (.ptr 0 0) 1=some (vT t):=rfl
  have g1:ld1 [al.cells .rw [lvT t],.cells .rw [.fn (.func g) [] []]] (.ptr 1 0)=some (.fn (.func g) [] []):=rfl
  have e2:jO (.fn (.func g) [] []) [vT t]=some (g,[vT t]):=rfl
  simp only[AU,dJ,aj,aR,a8,lb2,g0,g1,e2,ad]
  refine (hg t).call ?_
  rw[ot]
  rcases hq:q t with _|_
  ·simp only[aA,Bool.false_and];exact rfl
  ·simp only[aH,g0,ad,Bool.true_and]
   refine (oe ht).call ?_
   refine CI _ _ ?_
   show ak Tryz.prog 216 _ _ _
   refine CK _ _ ?_
   show nR (vL t.items) _ (i64 t.items.length) (i64 (0:Nat)) _ _
   refine zi (q:=q) (g:=g) (o:=1) hb hrec (fun k s h=>?_) (fun s h=>?_) t.items.length 0 _ (by omega) rfl rfl
   ·have c:((k:Int)≥0):=by omega
    simp only[aq,eV,ad,c,dT,cM,dU,h]
    exact rfl
   ·have c:¬ ((-1:Int)≥0):=by omega
    simp only[aq,eV,ad,c,ft,cM,eN,h]
    exact rfl
def iZ (t:T):Bool:=t.kind != 1
theorem yb (t:T):Pu Tryz.prog 120 [vT t] (.bool (iZ t)):=by
 refine Pu.of (CH _ ?_) lB rfl
 simp only[AV,dJ,aj,fS,ad]
 refine (qo t).call ?_
 simp only[aq,cC,ad]
 exact rfl
theorem yc {t:T} (h:t.ok):Pu Tryz.prog 55 [vT t] (.bool (every iZ t)):=by
 refine Pu.of (c55 _ ?_) lB rfl
 simp only[w55,dJ,aj,fS,ad]
 refine (va yb _ t (Nat.lt_succ_self _) h).call ?_
 exact rfl
end Go.Proofs.YtknegckgmklnhaaGreatDoor
namespace Go.CP
abbrev Stp:=List UInt8 × Int
namespace T
def jK (s:Stp):Bool:=decide (s.2≥0)&&s.1==[]
def dS (t:T) (s:Stp):Option (T × Int):=match jK s with
 | true=>(match t with
  | .list l=>some (match l[s.2.toNat]? with
   | some x=>(x,0)
   | none=>(.null,2))
  | _=>none)
 | false=>(match t with
  | .map es=>some (match T.find es s.1 with
   | some x=>(x,0)
   | none=>(.null,8))
  | _=>none)
end T
end Go.CP
namespace Go.Proofs.YtknegckgmklnhaaGreatDoor
open Go Go.CP
set_option maxRecDepth 100000
abbrev aS (s:Stp):LV:=.agg [.str s.1,i64 s.2]
abbrev iA (r:T × Int):LV:=.tup [vT r.1,i64 r.2]
theorem Co:bG (aV (aQ [(0,1)]) [LV.nili] [])=some (vT .null):=rfl
theorem sq {st:aa} {o:Nat} {x:LV} {t:T} (h:st[o]?=some (.cells .rw [x])):stV st 1 (.ptr o 0) (vT t)=some (st.set o (.cells .rw [lvT t])):=
 dE (k:=0) (vs:=[lvT t]) (n:=1) h (by simp) (by simp[fj]) rfl
theorem gY {st:aa} {o:Nat} {t:T} (h:st[o]?=some (.cells .rw [lvT t])):ldA st (.ptr o 0) 1=some (vT t):=eE h (by simp)
theorem yd {t:T} {K:LV→Prop} {Y:Prop} (h:match t with | .list l=>K (vL l) | _=>Y):asZ 171 (some LV.nils) (lvT t) K Y:=by cases t<;>exact h
theorem vb {t:T} {K:LV→Prop} {Y:Prop} (h:match t with | .map es=>K (.imap (es.map fun e=>.str e.1) (dI es)) | _=>Y):asZ 173 (some LV.nilm) (lvT t) K Y:=by cases t<;>exact h
theorem ye {t:T} (ht:t.ok) (s:Stp):PuZ Tryz.prog 180 [vT t,aS s] (fun v=>∃ r,t.dS s=some r∧v=iA r) (t.dS s=none):=by
 refine PuZ.of (Ca _ _ ?_) (by simp only[LV.ar,LV.plain,bQ];rfl)
 have lk:∀ {st:aa},cy st (aS s)=some (.ptr st.length 0,st++[.cells .rw [.str s.1,i64 s.2]]):=rfl
 have g0:∀ {x y:al} {l:aa},ld1 (al.cells .rw [lvT t]::x::y::l) (.ptr 0 0)=some (lvT t):=rfl
 have g1:∀ {x y:al} {l:aa},ld1 (x::al.cells .rw [.str s.1,i64 s.2]::y::l) (.ptr 1 1)=some (i64 s.2):=rfl
 have g2:∀ {x y:al} {l:aa},ld1 (x::al.cells .rw [.str s.1,i64 s.2]::y::l) (.ptr 1 0)=some (.str s.1):=rfl
 have e4:∀ {x y:al} {l:aa} {t:T},stV (x::y::.cells .rw [.nili]::l) 1 (.ptr 2 0) (vT t)=some (x::y::.cells .rw [lvT t]::l):=fun {x y l t}=>sq (x:=.nili) rfl
 have e5:∀ {x y:al} {l:aa} {t:T},ldA (x::y::.cells .rw [lvT t]::l) (.ptr 2 0) 1=some (vT t):=fun {x y l t}=>gY rfl
 have e6:∀ {x y z:al} {l:aa} {t:T},stV (x::y::z::.cells .rw [.nili]::l) 1 (.ptr 3 0) (vT t)=some (x::y::z::.cells .rw [lvT t]::l):=fun {x y z l t}=>sq (x:=.nili) rfl
 have e7:∀ {x y z:al} {l:aa} {t:T},ldA (x::y::z::.cells .rw [lvT t]::l) (.ptr 3 0) 1=some (vT t):=fun {x y z l t}=>gY rfl
 have fin:∀ {r:T × Int} {st:aa},t.dS s=some r→Dp (fun v=>∃ r,t.dS s=some r∧v=iA r) (.tup [vT r.1,i64 r.2]) st:=fun {r st} h=>
  ⟨iA r,bO _ (by simp[LV.plain,LV.ar]),by simp[LV.plain,LV.ar],r,h,rfl⟩
 have six:∀ {es:List (List UInt8 × T)},T.jK s=false→t=.map es→fR (.ptr 2 0) (.ptr 3 0) (.bool (T.find es s.1).isSome) (Dp fun v=>∃ r,t.dS s=some r∧v=iA r) (fun _=>t.dS s=none) [al.cells .rw [lvT t],.cells .rw [.str s.1,i64 s.2],.cells .rw [.nili],.cells .rw [lvT ((T.find es s.1).getD .null)]]:=by
  intro es hs he
  refine yU _ _ _ ?_
  cases hf:T.find es s.1 with
  | none=>
   simp only[mC,Option.getD_none,Option.isSome_none,cM,eN,ad,aH,Co,e4,aB,aj,e5]
   exact fin (r:=(.null,8)) (by subst he;simp only[T.dS,hs,hf])
  | some y=>
   simp only[mC,Option.getD_some,Option.isSome_some,cM,dU,ad,aA,e7,e4,aB,aj,e5]
   exact fin (r:=(y,0)) (by subst he;simp only[T.dS,hs,hf])
 have nomap:T.jK s=false→(∀ es,t≠.map es)→t.dS s=none:=by
  intro hs hn
  unfold T.dS
  rw[hs]
  cases t<;>first|rfl|exact absurd rfl (hn _)
 simp only[xo,dJ,lk,aj,dB,aR,List.cons_append,a8,aN,av,Nat.reduceAdd,aP,g1,ad,aq,eV,g0,g2,true_and]
 have maps:T.jK s=false→∀ {K1 K2:LV→Prop},(∀ es,t=.map es→K1 (.imap (es.map fun e=>.str e.1) (dI es)))→(∀ es,t=.map es→K2 (.imap (es.map fun e=>.str e.1) (dI es)))→
   asZ 173 (some LV.nilm) (lvT t) K1 (t.dS s=none)∧asZ 173 (some LV.nilm) (lvT t) K2 (t.dS s=none):=by
  intro hs K1 K2 h1 h2
  refine ⟨vb ?_,vb ?_⟩
  ·split
   ·exact h1 _ rfl
   ·rename_i hn;exact nomap hs fun es e=>hn es e
  ·split
   ·exact h2 _ rfl
   ·rename_i hn;exact nomap hs fun es e=>hn es e
 have both:T.jK s=false→((asZ 173 (some LV.nilm) (lvT t) (fun v=>bd (jb [al.cells .rw [lvT t],.cells .rw [.str s.1,i64 s.2],.cells .rw [.nili],.cells .rw [.nili]] true (some (LV.agg [LV.nili])) v (.str s.1) true) fun v1=>bd (ah v1 0) fun v2=>bd (ah v1 1) fun v3=>bd2 (lmk (stV [al.cells .rw [lvT t],.cells .rw [.str s.1,i64 s.2],.cells .rw [.nili],.cells .rw [.nili]] 1 (.ptr 3 0) v2)) fun _ st=>fR (.ptr 2 0) (.ptr 3 0) v3 (Dp fun v=>∃ r,t.dS s=some r∧v=iA r) (fun _=>t.dS s=none) st) (t.dS s=none))∧
   asZ 173 (some LV.nilm) (lvT t) (fun v=>bd (jb [al.cells .rw [lvT t],.cells .rw [.str s.1,i64 s.2],.cells .rw [.nili]] true (some (LV.agg [LV.nili])) v (.str s.1) true) fun v1=>bd (ah v1 0) fun v2=>bd (ah v1 1) fun v3=>jb [al.cells .rw [lvT t],.cells .rw [.str s.1,i64 s.2],.cells .rw [.nili],.cells .rw [.nili]] true (some (LV.agg [LV.nili])) v (.str s.1) true=some v1∧bd2 (lmk (stV [al.cells .rw [lvT t],.cells .rw [.str s.1,i64 s.2],.cells .rw [.nili],.cells .rw [.nili]] 1 (.ptr 3 0) v2)) fun _ st=>fR (.ptr 2 0) (.ptr 3 0) v3 (Dp fun v=>∃ r,t.dS s=some r∧v=iA r) (fun _=>t.dS s=none) st) (t.dS s=none)):=by
  intro hs
  refine maps hs (fun es he=>?_) fun es he=>?_
  ·have hm:(es.map (·.1)).Nodup:=by subst he;simp only[T.ok] at ht;exact cH ht.2.2
   simp only[qp hm,if_true,ad,aO,bh,bE,e6,aB,aj]
   exact six hs he
  ·have hm:(es.map (·.1)).Nodup:=by subst he;simp only[T.ok] at ht;exact cH ht.2.2
   simp only[qp hm,if_true,ad,aO,bh,bE,e6,aB,aj,true_and]
   exact six hs he
 cases hd:decide (s.2≥0) with
 | true=>
  have h0:0≤s.2:=by simpa using hd
  simp only[aH,gv,kf,ad]
  cases hk:s.1==[] with
  | true=>
   have hs:T.jK s=true:=by simp only[T.jK,hd,hk,Bool.and_self]
   simp only[aH]
   refine yd ?_
   split
   ·rename_i l
    cases hl:decide (s.2≥(l.length:Int)) with
    | true=>
     simp only[bj,ad,aq,eV,hl,aH,Co,e4,aB,aj,e5]
     refine fin (r:=(.null,2)) ?_
     have:l[s.2.toNat]?=none:=by
      rw[List.getElem?_eq_none_iff]
      have:s.2≥(l.length:Int):=by simpa using hl
      omega
     simp only[T.dS,hs,this]
    | false=>
     have hlt:s.2.toNat<l.length:=by
      have:¬ s.2≥(l.length:Int):=by simpa using hl
      omega
     have ei:(s.2.toNat:Int)=s.2:=by omega
     have e1:bF 1 (vL l) (i64 s.2)=some (.iptr (cn l) (s.2.toNat*1)):=by
      have:=dj (sz:=1) (cs:=cn l) (cap:=none) (k:=.i64) hlt
      rw[ei] at this
      exact this
     have hx:=ba hlt
     simp only[bj,ad,aq,eV,hl,aA,e1,lC hx,e4,aB,aj,e5]
     refine fin (r:=(l[s.2.toNat],0)) ?_
     simp only[T.dS,hs,hx]
   ·rename_i hn
    unfold T.dS
    rw[hs]
    cases t<;>first|rfl|exact absurd rfl (hn _)
  | false=>
   have hs:T.jK s=false:=by simp only[T.jK,hk,Bool.and_false]
   simp only[aA]
   exact both hs
 | false=>
  have hs:T.jK s=false:=by simp only[T.jK,hd,Bool.false_and]
  simp only[aA]
  exact both hs
end Go.Proofs.YtknegckgmklnhaaGreatDoor
namespace Go.Proofs.YtknegckgmklnhaaGreatDoor
open Go Go.CP
set_option maxRecDepth 100000
def w68 (a0 a1 a2:LV) (R:LV.RT) (st:aa):Prop:=
 bd2 (cy st a0) fun v0 gT=>bd2 (cy gT a1) fun v2 iD=>nw iD [LV.nili] fun v4 gE=>bd (ldA gE v0 1) fun v6=>bd (ldA gE v2 1) fun v7=>LZ 131 [v6,v7,a2] gE fun v8 iF=>bd (ah v8 0) fun iN=>bd (ah v8 1) fun iS=>bd2 (lmk (stV iF 1 v4 iN)) fun _ eQ=>bd (ldA eQ v4 1) fun mK=>R (LV.tup [mK,iS]) eQ
theorem c68 (a0 a1 a2:LV) {R:LV.RT} {st:aa} (h:w68 a0 a1 a2 R st):LZ 68 [a0,a1,a2] st R:=
 cz [] [] [.cell 6 57,.tmp 7] Tryz.func68 h
def Bn (a0 a1 a2:LV) (R:LV.RT) (st:aa):Prop:=
 bd2 (cy st a0) fun v0 c8=>bd2 (cy c8 a1) fun v2 dO=>bd2 (cy dO a2) fun v4 lE=>nw lE [LV.nili] fun v6 gE=>bd (aK 1 v4) fun v8=>bd (ld1 gE v8) fun v9=>bd (aU BinOp.geq v9 (i64 0)) fun lT=>aL lT
 (bd (aK 0 v4) fun p7=>bd (ld1 gE p7) fun p8=>bd (pC BinOp.eql p8 (LV.str [])) fun p9=>aL p9
 (bd (aK 0 v0) fun tO=>bd (ld1 gE tO) fun v15=>bd (asC 171 (some LV.nils) v15 false) fun v16=>LZ 159 [v16] gE fun nE eQ=>bd (aK 1 v4) fun v19=>bd (ld1 eQ v19) fun v20=>bd (bg nE) fun v21=>bd (aU BinOp.eql v20 v21) fun v22=>aL v22
 (bd (ldA eQ v2 1) fun v23=>bd2 (eO eQ 1 (aV (fun i=>some (i*1,1)) (List.replicate 1 [LV.nili]).flatten [(0,v23)])) fun v24 oF=>bd2 (a6 oF 1 16 Md.rw nE v24) fun v26 oR=>bd (bG (aV (aQ [(0,1)]) [LV.nili] [(0,LV.iface 171 v26)])) fun v28=>bd2 (lmk (stV oR 1 v6 v28)) fun _v29 iF=>bd (ldA iF v6 1) fun v31=>R v31 iF)
 (bd (aK 1 v4) fun v32=>bd (ld1 eQ v32) fun v33=>bd (ldA eQ v2 1) fun v34=>bd (bF 1 nE v33) fun v35=>bd2 (lmk (stV eQ 1 v35 v34)) fun _v36 rW=>bd (bG (aV (aQ [(0,1)]) [LV.nili] [(0,LV.iface 171 nE)])) fun v38=>bd2 (lmk (stV rW 1 v6 v38)) fun _v39 iN=>bd (ldA iN v6 1) fun v41=>R v41 iN))
 (bd (aK 0 v0) fun v42=>bd (ld1 gE v42) fun v43=>bd (asC 173 (some LV.nilm) v43 false) fun v44=>LZ 259 [v44] gE fun bY gT=>bd (aK 0 v4) fun v47=>bd (ld1 gT v47) fun v48=>bd (ldA gT v2 1) fun v49=>bd2 (lmk (ox gT true bY v48 v49)) fun _v50 aC=>bd (bG (aV (aQ [(0,1)]) [LV.nili] [(0,LV.iface 173 bY)])) fun v52=>bd2 (lmk (stV aC 1 v6 v52)) fun _v53 iS=>bd (ldA iS v6 1) fun v55=>R v55 iS))
 (bd (aK 0 v0) fun v56=>bd (ld1 gE v56) fun v57=>bd (asC 173 (some LV.nilm) v57 false) fun v58=>LZ 259 [v58] gE fun c7 iD=>bd (aK 0 v4) fun v61=>bd (ld1 iD v61) fun v62=>bd (ldA iD v2 1) fun v63=>bd2 (lmk (ox iD true c7 v62 v63)) fun _v64 aT=>bd (bG (aV (aQ [(0,1)]) [LV.nili] [(0,LV.iface 173 c7)])) fun v66=>bd2 (lmk (stV aT 1 v6 v66)) fun _v67 mK=>bd (ldA mK v6 1) fun v69=>R v69 mK)
theorem c218 (a0 a1 a2:LV) {R:LV.RT} {st:aa} (h:Bn a0 a1 a2 R st):LZ 218 [a0,a1,a2] st R:=
 cz [] [] [.cell 6 57] Tryz.func218 h
def Cp (a0 a1 a2:LV) (R:LV.RT) (st:aa):Prop:=
 bd2 (cy st a0) fun v0 gE=>bd2 (cy gE a1) fun v2 eQ=>bd (aU BinOp.eql a2 (i64 8)) fun v4=>aL v4 (R (LV.bool true) eQ)
 (bd (aK 0 v0) fun v5=>bd (ld1 eQ v5) fun v6=>bd (asC 171 (some LV.nils) v6 true) fun v7=>bd (ah v7 0) fun v8=>bd (ah v7 1) fun _=>bd (aU BinOp.eql a2 (i64 2)) fun gT=>aL gT (bd (aK 1 v2) fun iD=>bd (ld1 eQ iD) fun iF=>bd (bg v8) fun iN=>bd (aU BinOp.eql iF iN) fun iS=>R iS eQ) (R (LV.bool false) eQ))
theorem CO (a0 a1 a2:LV) {R:LV.RT} {st:aa} (h:Cp a0 a1 a2 R st):LZ 217 [a0,a1,a2] st R:=
 cz [] [] [.tmp 6] Tryz.func217 h
def Cq (a0:LV) (R:LV.RT) (st:aa):Prop:=
 bd (eqB BinOp.eql (uc a0 LV.nilm)) fun v0=>aL v0 (R LV.nilm st) (LZ 288 [LV.iface 173 a0] st fun v1 eQ=>bd (asC 173 (some LV.nilm) v1 false) fun v3=>R v3 eQ)
theorem CQ (a0:LV) {R:LV.RT} {st:aa} (h:Cq a0 R st):LZ 259 [a0] st R:=
 cz [] [] [.tmp 2] Tryz.func259 h
section
variable {st:aa} {R:LV→aa→Prop}
theorem wj {l:List T} (hb:l.length≤big) (h0:l=[]→R .nils st∧R (.sl st.length 0 0 (.ex 0)) (st++[.cells .rw []]))
  (h1:l≠[]→R (.sl (st.length+1) 0 l.length (.rest 1)) (st++[.cells .rw [],.cells .rw (cn l)])):ak Tryz.prog 159 [vL l] st R:=by
 have call:b5 Tryz.prog 159:=⟨Tryz.f159,ay Tryz.f159,Tryz.func159,by kernel_rfl,by kernel_rfl⟩
 cases l with
 | nil=>
  obtain ⟨k1,k2⟩:=h0 rfl
  refine ak.Aw call (c159 _ ?_) (c159 _ ?_)
  ·exact k1
  ·show bd2 (a6 (st++[.cells .rw []]) 1 16 Md.rw (.sl st.length 0 0 (.ex 0)) .emp) _
   exact k2
 | cons x l=>
  have h1:=h1 (by simp)
  generalize hL:x::l=L at h1 hb
  have hn:0<L.length:=by rw[← hL];simp
  apply c159
  show bd (eqB .eql (qK (.isl (cn L) L.length none) .nils)) _
  rw[nP hn]
  show bd2 (a6 (st++[.cells .rw []]) 1 16 Md.rw (.sl st.length 0 0 (.ex 0)) (.isl (cn L) L.length none)) _
  have hg:(st++[al.cells .rw []])[st.length]?=some (.cells .rw []):=by simp
  have hr:dn L.length 16=true:=eo (by unfold big at hb;omega) (by omega)
  unfold a6
  rw[rQ (by rw[er];omega)]
  simp only[if_neg (Nat.ne_of_gt hn),hg,av]
  rw[if_neg (by omega),if_pos ⟨hr,by simp⟩]
  simpa using h1
def oI (l:List T) (i:Int) (y:T):List T:=if i=(l.length:Int) then l++[y] else l.set i.toNat y
theorem mM {o:Nat} {ci:cK} {l:List T} {n:Nat} (h:st[o]?=some (.cells .rw (cn l))) (hn:n=l.length):dp st (vT (.list l)) (.agg [.iface 171 (.sl o 0 n ci)]):=by
 subst hn
 refine ⟨_,rfl,_,_,rfl,⟨_,rfl,.inl ⟨o,0,ci,.rw,cn l,rfl,h,rfl,by simp,?_⟩⟩,rfl⟩
 rw[List.drop_zero,List.take_length]
 exact bx _ eI
theorem sr:∀ {l:List T} {i:Nat} {y:T},(cn l).set i (lvT y)=cn (l.set i y)
 | [],_,_=>rfl
 | _::_,0,_=>rfl
 | _::l,i+1,_=>by simp only[cn,List.set_cons_succ,sr (l:=l)]
theorem zj {l:List T} (hb:l.length≤big) (s:Stp) (y:T) (hs:T.jK s=true) (hi:s.2≤l.length):Pu Tryz.prog 218 [vT (.list l),vT y,aS s] (vT (.list (oI l s.2 y))):=by
 refine Pu.of (c218 _ _ _ ?_) (by simp only[LV.ar,LV.plain,bQ];rfl) bW
 simp only[T.jK,aF,decide_eq_true_eq,beq_iff_eq] at hs
 obtain ⟨hs0,hk⟩:=hs
 have lk:∀ {st:aa},cy st (aS s)=some (.ptr st.length 0,st++[.cells .rw [.str s.1,i64 s.2]]):=rfl
 have g0:∀ {l':aa},ld1 (al.cells .rw [lvT (.list l)]::l') (.ptr 0 0)=some (.iface 171 (vL l)):=rfl
 have g1:∀ {x y:al} {l':aa},ld1 (x::y::al.cells .rw [.str s.1,i64 s.2]::l') (.ptr 2 1)=some (i64 s.2):=rfl
 have g2:∀ {x y:al} {l':aa},ld1 (x::y::al.cells .rw [.str s.1,i64 s.2]::l') (.ptr 2 0)=some (.str s.1):=rfl
 have g3:∀ {x:al} {l':aa},ldA (x::al.cells .rw [lvT y]::l') (.ptr 1 0) 1=some (vT y):=gY rfl
 have ea:asC 171 (some LV.nils) (.iface 171 (vL l)) false=some (vL l):=rfl
 have c1:decide (s.2≥0)=true:=by simpa using hs0
 have c2:(s.1==([]:List UInt8))=true:=by simp[hk]
 have en:∀ {st:aa},eO st 1 (aV (fun i=>some (i*1,1)) (List.replicate 1 [LV.nili]).flatten [(0,vT y)])=some (.sl st.length 0 1 (.ex 1),st++[.cells .rw [lvT y]]):=rfl
 have eg:∀ {v:LV},bG (aV (aQ [(0,1)]) [LV.nili] [(0,LV.iface 171 v)])=some (.agg [.iface 171 v]):=fun {v}=>rfl
 have ep:∀ {x y z:al} {v:LV} {l':aa},stV (x::y::z::.cells .rw [.nili]::l') 1 (.ptr 3 0) (.agg [.iface 171 v])=some (x::y::z::.cells .rw [.iface 171 v]::l'):=fun {x y z v l'}=>dE (k:=0) (vs:=[.iface 171 v]) (n:=1) (l:=[.nili]) rfl (by simp) rfl rfl
 have eq3:∀ {x y z:al} {v:LV} {l':aa},ldA (x::y::z::.cells .rw [.iface 171 v]::l') (.ptr 3 0) 1=some (.agg [.iface 171 v]):=fun {x y z v l'}=>eE (l:=[.iface 171 v]) rfl (by simp)
 have one:LV.one (lvT y)=true:=fj
 simp only[Bn,dJ,lk,aj,dB,aR,List.cons_append,a8,aN,av,Nat.reduceAdd,aP,g1,ad,aq,eV,c1,aH,g2,gv,kf,c2,g0,ea]
 refine wj hb (fun h0=>?_) fun h1=>?_
 ·subst h0
  have e0:s.2=0:=by
   have:s.2≤0:=by simpa using hi
   omega
  have c3:(s.2==(0:Int))=true:=by simp[e0]
  have hp:oI [] s.2 y=[y]:=by simp[oI,e0]
  rw[hp]
  constructor
  ·have l0:bg .nils=some (i64 0):=rfl
   simp only[g1,ad,l0,aq,cP,c3,aH,g3,en,aj,aN,a8,av,Nat.reduceAdd,List.cons_append,aR]
   have ap:∀ {x y' z u:al},a6 [x,y',z,u,.cells .rw [lvT y]] 1 16 Md.rw .nils (.sl 4 0 1 (.ex 1))=some (.sl 5 0 1 (.rest 1),[x,y',z,u,.cells .rw [lvT y],.cells .rw [lvT y]]):=rfl
   simp only[ap,aj,eg,ad,ep,aB,eq3]
   exact mM (l:=[y]) rfl rfl
  ·have l0:∀ {o:Nat},bg (.sl o 0 0 (.ex 0))=some (i64 0):=rfl
   simp only[g1,ad,l0,aq,cP,c3,aH,g3,en,aj,aN,a8,av,Nat.reduceAdd,List.cons_append,aR]
   have ap:∀ {x y' z u:al},a6 [x,y',z,u,.cells .rw [],.cells .rw [lvT y]] 1 16 Md.rw (.sl 4 0 0 (.ex 0)) (.sl 5 0 1 (.ex 1))=some (.sl 6 0 1 (.rest 1),[x,y',z,u,.cells .rw [],.cells .rw [lvT y],.cells .rw [lvT y]]):=rfl
   simp only[ap,aj,eg,ad,ep,aB,eq3]
   exact mM (l:=[y]) rfl rfl
 ·have hn:0<l.length:=List.length_pos_iff.2 h1
  have hlen:∀ {o:Nat} {ci:cK},bg (.sl o 0 l.length ci)=some (i64 (l.length:Int)):=fun {o ci}=>rfl
  simp only[aN,a8,av,Nat.reduceAdd,List.cons_append,aR,g1,ad,hlen,aq,cP]
  by_cases he:s.2=(l.length:Int)
  ·have c3:(s.2==(l.length:Int))=true:=by simp[he]
   simp only[c3,aH,g3,ad,en,aj,aN,a8,av,Nat.reduceAdd,List.cons_append,aR]
   have hr:dn (l.length+1) 16=true:=eo (by unfold big at hb;omega) (by omega)
   have ap:∀ {x y' z u v:al},a6 [x,y',z,u,v,.cells .rw (cn l),.cells .rw [lvT y]] 1 16 Md.rw (.sl 5 0 l.length (.rest 1)) (.sl 6 0 1 (.ex 1))=some (.sl 7 0 (l.length+1) (.rest 1),[x,y',z,u,v,.dead,.cells .rw [lvT y],.cells .rw (cn l++[lvT y])]):=by
    intro x y' z u v
    have hs:fT [x,y',z,u,v,.cells .rw (cn l),.cells .rw [lvT y]] 1 (.sl 6 0 1 (.ex 1))=some (1,[lvT y]):=rfl
    have hg:([x,y',z,u,v,.cells .rw (cn l),.cells .rw [lvT y]]:aa)[5]?=some (.cells .rw (cn l)):=rfl
    have ho:([lvT y]:List LV).all LV.one=true:=by simp[one]
    unfold a6
    simp only[hs,hg]
    rw[if_neg (by omega),if_pos (by simp[ho,Md.w]),if_neg (by rw[er];omega),if_pos ⟨hr,by rw[er];omega⟩]
    have hm:ez .rw .rw 0=.rw:=rfl
    rw[hm,List.drop_zero,Nat.mul_one,← er,List.take_length]
    rfl
   have e2:cn l++[lvT y]=cn (oI l s.2 y):=by rw[oI,if_pos he,oa];rfl
   simp only[ap,aj,eg,ad,ep,aB,eq3,e2]
   exact mM rfl (by rw[oI,if_pos he];simp)
  ·have c3:(s.2==(l.length:Int))=false:=by simpa using he
   have hlt:s.2.toNat<l.length:=by omega
   have ei:∀ {o:Nat},bF 1 (.sl o 0 l.length (.rest 1)) (i64 s.2)=some (.ptr o (0+s.2.toNat*1)):=uu hs0 (by omega)
   have sv:∀ {x y' z u v:al},stV [x,y',z,u,v,.cells .rw (cn l)] 1 (.ptr 5 (0+s.2.toNat*1)) (vT y)=some [x,y',z,u,v,.cells .rw (cn (l.set s.2.toNat y))]:=by
    intro x y' z u v
    have:=dE (st:=[x,y',z,u,v,.cells .rw (cn l)]) (o:=5) (k:=s.2.toNat) (vs:=[lvT y]) (n:=1) (l:=cn l) rfl (by rw[er];simp;omega) (by simp[one]) rfl
    rw[av,Nat.mul_one]
    refine this.trans ?_
    have es:bu (cn l) s.2.toNat [lvT y]=cn (l.set s.2.toNat y):=by
     rw[← sr,List.set_eq_take_append_cons_drop,if_pos (by rw[er];exact hlt)]
     simp[bu]
    rw[es];rfl
   simp only[c3,aA,g3,ad,ei,sv,aB,aj,eg,ep,eq3]
   have e2:oI l s.2 y=l.set s.2.toNat y:=by rw[oI,if_neg he]
   rw[e2]
   exact mM rfl (by simp)
end
def Cr (a0:LV) (R:LV.RT) (st:aa):Prop:=
 bd (eqB BinOp.neq (mi true (e9 Tryz.prog) LV.nili LV.nili)) fun v0=>aL v0 (bd (de a0) fun v1=>bd2 (lmk (stV st 1 v1 (i64 6))) fun _ eQ=>R (LV.tup []) eQ) (R (LV.tup []) st)
theorem CR (a0:LV) {K:aa→Prop} {st:aa} (h:Cr a0 (fun _ s=>K s) st):cG Tryz.prog 179 [a0] st K:=
 cG.ofE (gl:=[]) (cuts:=[]) (rc:=[]) (n:=3000) ag Tryz.func179 (show Tryz.f179.body=some (ay Tryz.f179) by kernel_rfl) (show Tryz.f179.results.toList=[] by kernel_rfl) (by kernel_rfl) h
end Go.Proofs.YtknegckgmklnhaaGreatDoor
namespace Go.CP
namespace T
def ins (k:List UInt8) (y:T):List (List UInt8 × T)→List (List UInt8 × T)
 | []=>[(k,y)]
 | e::es=>if k=e.1 then (k,y)::es else if Op.bytesLess k e.1=true then (k,y)::e::es else e::ins k y es
theorem vc {k:List UInt8} {y:T}:∀ {es:List (List UInt8 × T)} {e:List UInt8 × T},e ∈ ins k y es→e=(k,y)∨e ∈ es
 | [],e,h=>by simp[ins] at h;exact .inl h
 | x::es,e,h=>by
  unfold ins at h
  split at h
  ·rcases List.mem_cons.1 h with h|h
   ·exact .inl h
   ·exact .inr (List.mem_cons_of_mem _ h)
  ·split at h
   ·rcases List.mem_cons.1 h with h|h
    ·exact .inl h
    ·exact .inr h
   ·rcases List.mem_cons.1 h with rfl|h
    ·exact .inr (by simp)
    ·rcases vc h with h|h
     ·exact .inl h
     ·exact .inr (List.mem_cons_of_mem _ h)
theorem kL {k:List UInt8} {y:T}:∀ {es:List (List UInt8 × T)},(es.map (·.1)).Pairwise ltB→((ins k y es).map (·.1)).Pairwise ltB
 | [],_=>by simp[ins]
 | x::es,h=>by
  simp only[List.map_cons,List.pairwise_cons] at h
  unfold ins
  split
  ·rename_i e;subst e
   simp only[List.map_cons,List.pairwise_cons];exact h
  ·rename_i hne
   split
   ·rename_i hl
    simp only[List.map_cons,List.pairwise_cons]
    refine ⟨fun z hz=>?_,h⟩
    rcases List.mem_cons.1 hz with rfl|hz
    ·exact hl
    ·exact fG hl (h.1 z hz)
   ·rename_i hl
    have hl:Op.bytesLess k x.1=false:=by simpa using hl
    simp only[List.map_cons,List.pairwise_cons]
    refine ⟨fun z hz=>?_,kL h.2⟩
    obtain ⟨e,he,rfl⟩:=List.mem_map.1 hz
    rcases vc he with rfl|he
    ·cases hx:Op.bytesLess x.1 k
     ·exact absurd (qn hl hx) hne
     ·exact hx
    ·exact h.1 _ (List.mem_map.2 ⟨e,he,rfl⟩)
end T
end Go.CP
namespace Go.CP
abbrev Tx:=List UInt8
inductive KT where
 | mk (f:Nat) (l:List KT) (ns:List Tx) (ls:List Bool)
namespace KT
def f:KT→Nat|mk f _ _ _=>f
def l:KT→List KT|mk _ l _ _=>l
def ns:KT→List Tx|mk _ _ ns _=>ns
def ls:KT→List Bool|mk _ _ _ ls=>ls
end KT
def Bo:List Tx:=[[97,110,121],[98,111,111,108],[105,110,116],[112,111,105,110,116],[116,101,120,116],[108,105,115,116],[109,97,112]]
def isLet (c:UInt8):Bool:=decide (97≤c.toNat∧c.toNat≤122)
def CS (c:UInt8):Bool:=isLet c||decide (48≤c.toNat∧c.toNat≤57)
def CT:Tx→Tx
 | []=>[]
 | c::s=>if isLet c then c::s.takeWhile CS else []
def named (s:Tx):Bool:=decide (CT s=s)&&decide (s≠[])&&decide (s.length≤20)
def yf:List Tx→Tx
 | []=>[]
 | [a]=>a
 | a::b::l=>a++44::yf (b::l)
def Bp (n:Tx) (l:Bool) (t:Tx):Tx:=n++((if l then [63,58] else [58])++t)
def vd:List Tx→List Bool→List Tx→List Tx
 | n::ns,l::ls,t::ts=>Bp n l t::vd ns ls ts
 | _,_,ts=>ts
def Cs (f:Nat) (ts:List Tx) (ns:List Tx) (ls:List Bool):Tx:=
 if f=5 then [108,105,115,116,40]++(ts.getD 0 []++[41])
 else if f=6 then [109,97,112,40]++(ts.getD 0 []++[41])
 else if f=7 then 91::(yf ts++[93])
 else if f=8 then 123::(yf (vd ns ls ts)++[125])
 else Bo.getD f []
mutual
def kpr:KT→Tx
 | .mk f l ns ls=>Cs f (Ct l) ns ls
def Ct:List KT→List Tx
 | []=>[]
 | t::ts=>kpr t::Ct ts
end
mutual
def KT.wf:Nat→KT→Prop
 | 0,_=>False
 | d+1,.mk f l ns ls=>f≤8∧(f<5→l=[])∧(f=5∨f=6→l.length=1)∧(f<8→ns=[]∧ls=[])∧(f=8→ns.length=l.length∧ls.length=l.length)∧l.length≤16∧ns.Pairwise ltB∧(∀ n ∈ ns,named n=true)∧KT.wfs d l
def KT.wfs:Nat→List KT→Prop
 | _,[]=>True
 | d,t::ts=>KT.wf d t∧KT.wfs d ts
end
end Go.CP
namespace Go.Proofs.YtknegckgmklnhaaGreatDoor
open Go Go.CP
set_option maxRecDepth 100000
abbrev rdC (s:Tx) (a:Nat) (e:Int) (d:Nat):List LV:=[.str s,i64 a,i64 e,i64 d]
abbrev rdO (s:Tx) (a:Nat) (e:Int) (d:Nat):al:=.cells .rw (rdC s a e d)
def Rd (st:aa) (o:Nat) (s:Tx) (a:Nat) (e:Int) (d:Nat):Prop:=st[o]?=some (rdO s a e d)
section
variable {st st':aa} {o:Nat} {s:Tx} {a d n:Nat} {e:Int} {R:LV→aa→Prop}
theorem Rd.lt (h:Rd st o s a e d):o<st.length:=b6 h
theorem Rd.l0 (h:Rd st o s a e d):ld1 st (.ptr o 0)=some (.str s):=by rw[dr h];rfl
theorem Rd.l1 (h:Rd st o s a e d):ld1 st (.ptr o 1)=some (i64 a):=by rw[dr h];rfl
theorem Rd.s1 (h:Rd st o s a e d) (n:Nat):stV st 1 (.ptr o 1) (i64 n)=some (st.set o (rdO s n e d)):=by rw[eY h (by simp) rfl];rfl
theorem Rd.s2 (h:Rd st o s a e d) (n:Int):stV st 1 (.ptr o 2) (i64 n)=some (st.set o (rdO s a n d)):=by rw[eY h (by simp) rfl];rfl
theorem Rd.s3 (h:Rd st o s a e d) (n:Nat):stV st 1 (.ptr o 3) (i64 n)=some (st.set o (rdO s a e n)):=by rw[eY h (by simp) rfl];rfl
theorem Rd.set (h:Rd st o s a e d) {s':Tx} {a' d':Nat} {e':Int}:Rd (st.set o (rdO s' a' e' d')) o s' a' e' d':=cN h
theorem Rd.app {y:al} (h:Rd st o s a e d):Rd (st++[y]) o s a e d:=cF h
theorem Rd.fr {S:Nat→Prop} (h:Rd st o s a e d) (hf:Fr st st' S) (hs:¬ S o):Rd st' o s a e d:=hf.get h hs
theorem Rd.id (h:Rd st o s a e d):st.set o (rdO s a e d)=st:=by
 apply List.ext_getElem?
 intro j
 by_cases hj:j=o
 ·subst hj;rw[List.getElem?_set_self h.lt,h]
 ·rw[List.getElem?_set_ne (Ne.symm hj)]
end
section
variable {st st':aa} {o:Nat} {s:Tx} {a d n:Nat} {e:Int} {R:LV→aa→Prop}
structure SlT (st:aa) (A:LV) (ws:List Tx):Prop where
 len:bg A=some (i64 ws.length)
 ix:∀ i:Nat,i<ws.length→∃ p,bF 1 A (i64 i)=some p∧ld1 st p=(ws[i]?).map .str
end
mutual
def kC:KT→List LV
 | .mk f l ns ls=>[i64 f,.isl (kVs l) l.length none,.isl (ns.map .str) ns.length none,.isl (ls.map .bool) ls.length none]
def kVs:List KT→List LV
 | []=>[]
 | t::ts=>.iptr (kC t) 0::kVs ts
end
abbrev kV (t:KT):LV:=.iptr (kC t) 0
mutual
theorem su:∀ {t:KT},LV.ar (kC t)=true
 | .mk f l ns ls=>by
  simp only[kC,LV.ar,LV.plain,Bool.true_and,Bool.and_true,aF]
  exact ⟨pn,bP fun _ _=>rfl,bP fun _ _=>rfl⟩
theorem pn:∀ {l:List KT},LV.ar (kVs l)=true
 | []=>rfl
 | t::ts=>by simp only[kVs,LV.ar,LV.plain,aF];exact ⟨su,pn⟩
end
theorem yg {t:KT}:(kV t).plain=true:=by simp only[LV.plain];exact su
section
variable {st st' st0:aa} {o b:Nat} {s:Tx} {a d D n:Nat} {e:Int} {R:LV→aa→Prop}
structure TIn (st0:aa) (o b:Nat) (st:aa) (f:Option Nat) (acc:List LV):Prop where
 fr:Fr st0 st (fun j=>j=o)
 nb:st0.length≤b
 hb:st[b]?=some (.cells .rw [i64 7,osl f 1 acc.length,.nils,.nils])
 own:bS .rw st f 1 acc.length acc
 nf:∀ j,f=some j→st0.length≤j∧j≠b
 pl:LV.ar acc=true
def TQ (st0:aa) (o:Nat) (R:LV→aa→Prop) (r:LV) (st':aa):Prop:=
 ∃ v y,Fr st0 st' (fun j=>j=o)∧st'[o]?=some y∧y.lt st0.length=true∧dp (iG st0.length st') v r∧v.plain=true∧R v (st0.set o y)
theorem yh:(rdO s a e D).lt n=true:=rfl
theorem TIn.fin {f:Option Nat} {acc:List LV} (h:TIn st0 o b st f acc) (hr:Rd st o s a e D) (hR:R (.iptr [i64 7,.isl acc acc.length none,.isl [] 0 none,.isl [] 0 none] 0) (st0.set o (rdO s a e D))):TQ st0 o R (.ptr b 0) st:=by
 refine ⟨_,_,h.fr,hr,yh,?_,by simp[LV.plain,LV.ar,h.pl],hR⟩
 refine .inl ⟨b,.rw,_,rfl,(mA h.nb).trans h.hb,rfl,by simp,?_⟩
 simp only[aN,a8,List.take_succ_cons,List.take_zero]
 exact ⟨_,_,rfl,rfl,_,_,rfl,iB (h.own.iG fun j e=>(h.nf j e).1) rfl (bx _ h.pl),_,_,rfl,.inr (.inr ⟨.inr rfl,rfl,rfl⟩),_,_,rfl,.inr (.inr ⟨.inr rfl,rfl,rfl⟩),rfl⟩
end
section
variable {st st' st0:aa} {o b:Nat} {s:Tx} {a d D n:Nat} {e:Int} {R:LV→aa→Prop}
structure Two (st st3:aa) (fn fb fn2 fb2:Option Nat) (A B:List LV):Prop where
 fr:Fr st st3 (fun j=>fn=some j∨fb=some j)
 oA:bS .rw st3 fn2 1 A.length A
 oB:bS .rw st3 fb2 1 B.length B
 gA:∀ j,fn2=some j→fn=some j∨st.length≤j
 gB:∀ j,fb2=some j→fb=some j∨st.length≤j
 ne:∀ j,fn2=some j→fb2≠some j
theorem yi {f:Option Nat} {k:Nat} {acc:List LV} {j:Nat} (h:bS .rw st f 1 k acc) (e:f=some j):j<st.length:=by subst e;exact h.lt
end
end Go.Proofs.YtknegckgmklnhaaGreatDoor
