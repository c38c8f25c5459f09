/- Parts of the proof. -/
import Derived.Test.YtknegckgmklnhaaGreatDoorCp48
namespace Go.CP
section
variable {P:Program}
def hZ (P:Program) (dk:Bool) (rs:List ResultVar) (R:LV→aa→Prop) (gl:List Nat) (cuts rc:List (Nat × List Nat)):Nat→List Item→List eM→List LV→aa→Prop
 | 0,k,ds,t,st=>LTg P (kindOf dk) rs k ds R t st
 | n+1,k,ds,t,st=>match k with
  | []=>u4 P dk rs R ds t st
  | .code .skip::k=>hZ P dk rs R gl cuts rc n k ds t st
  | .code (.label _)::k=>hZ P dk rs R gl cuts rc n k ds t st
  | .code (.seq a b)::k=>hZ P dk rs R gl cuts rc n (.code a::.code b::k) ds t st
  | .code (.cond c a b)::k=>bd (ev t c) fun v=>aq v (hZ P dk rs R gl cuts rc n (.code a::k) ds t st) (hZ P dk rs R gl cuts rc n (.code b::k) ds t st)
  | .code (.block id c)::k=>hZ P dk rs R gl cuts rc n (.code c::.inBlock id::k) ds t st
  | .code (.loop c)::k=>LTg P (kindOf dk) rs (.inLoop c::k) ds R (aY gl t) st
  | .inLoop c::k=>LTg P (kindOf dk) rs (.inLoop c::k) ds R (aY gl t) st
  | .inBlock id::k=>match cuts.lookup id with
   | some g=>LTg P (kindOf dk) rs k ds R (aY g t) st
   | none=>hZ P dk rs R gl cuts rc n k ds t st
  | .inScope _::k=>hZ P dk rs R gl cuts rc n k ds t st
  | .code (.exit id)::k=>match exitTo id k with
   | some k'=>match cuts.lookup id with
    | some g=>LTg P (kindOf dk) rs k' ds R (aY g t) st
    | none=>hZ P dk rs R gl cuts rc n k' ds t st
   | none=>False
  | .code .ret::_=>u4 P dk rs R ds t st
  | .code (.region id ops draw)::k=>match draw with
   | false=>match eW ops with
    | none=>match lP dk ops with
     | some o=>cL P ops (List.range' 1 (ops.size-1)) (fun t st=>hZ P dk rs R gl cuts rc n k ds t st) (cC t o.dst .nili) st
     | none=>cL P ops (List.range ops.size) (fun t st=>match rc.lookup id with
      | some g=>LTg P (kindOf dk) rs k ds R (aY g t) st
      | none=>hZ P dk rs R gl cuts rc n k ds t st) t st
    | some p=>cL P ops (List.range (ops.size-1)) (fun t st=>match G9 P t p.2 with
     | some d=>hZ P dk rs R gl cuts rc n k (d::ds) (cC t p.1.dst aQ) st
     | none=>False) t st
   | true=>match qm ops (Region.before ops) with
    | true=>cX P ops (Region.before ops) (rowsOf P ops) (fun t st=>match rc.lookup id with
      | some g=>LTg P (kindOf dk) rs k ds R (aY g t) st
      | none=>hZ P dk rs R gl cuts rc n k ds t st) ops.size 0 [] t st
    | false=>False
  | _=>False
theorem iZ (hm:P.follows .mixedOrders=true) {dk:Bool} {rs:List ResultVar} {R:LV→aa→Prop} {gl:List Nat} {cuts rc:List (Nat × List Nat)}:∀ (n:Nat) {k:List Item} {ds:List eM} {t:List LV} {st:aa},
  hZ P dk rs R gl cuts rc n k ds t st→LTg P (kindOf dk) rs k ds R t st
 | 0,_,_,_,_,h=>h
 | n+1,k,ds,t,st,h=>by
  have go:∀ {k ds t st},hZ P dk rs R gl cuts rc n k ds t st→LTg P (kindOf dk) rs k ds R t st:=fun h=>iZ hm n h
  have behind:∀ {id:Nat} {k ds t st},(match rc.lookup id with
    | some g=>LTg P (kindOf dk) rs k ds R (aY g t) st
    | none=>hZ P dk rs R gl cuts rc n k ds t st)→LTg P (kindOf dk) rs k ds R t st:=by
   intro id k ds t st h
   split at h
   ·exact h.forget
   ·exact go h
  unfold hZ at h
  split at h
  ·exact jr (fun b a cs w=>step_end) h
  ·exact LTg.move (fun b a cs w=>step_skip) (go h)
  ·exact LTg.move (fun b a cs w=>step_label) (go h)
  ·exact LTg.move (fun b a cs w=>step_seq) (go h)
  ·unfold bd at h
   split at h
   ·rename_i v hv
    unfold aq at h
    split at h
    ·exact LTg.cond hv (go h)
    ·exact LTg.cond hv (go h)
    ·exact h.elim
   ·exact h.elim
  ·exact LTg.move (fun b a cs w=>step_block) (go h)
  ·rename_i c k
   intro w0 β w a fn h1 h2 h3 h4 b cs hf hk hc
   obtain ⟨e,w',fr,h5,h6,h7,h8⟩:=h.forget w0 β w a fn h1 h2 h3 h4 b cs hf hk hc
   refine ⟨e,w',fr,h5,?_,h7,h8⟩
   have hs1:step P (lone (b.at a (.code (.loop c)::k)) cs w)=.next (lone (b.at a (.code c::.inLoop c::k)) cs w):=step_loop
   have hs2:step P (lone (b.at a (.inLoop c::k)) cs w)=.next (lone (b.at a (.code c::.inLoop c::k)) cs w):=step_inLoop
   cases e with
   | returned v=>
    obtain ⟨m,hm'⟩:=h6
    cases m with
    | zero=>
     simp only[runN] at hm'
     have hfr:fr=b.at a (.inLoop c::k):=by
      simp only[lone,Stepped.next.injEq,Machine.mk.injEq] at hm'
      have:=hm'.2.1
      simp only[Array.mk.injEq,List.cons.injEq,Goroutine.mk.injEq] at this
      exact this.1.1.symm
     have hl:fr.mode=.returning:=by
      cases dk
      ·exact h8.1
      ·exact h8.2.1
     rw[hfr] at hl;simp[Frame.at] at hl
    | succ m=>
     simp only[runN,hs2] at hm'
     exact ⟨m+1,by simp only[runN,hs1];exact hm'⟩
   | panicked ch=>obtain ⟨_,r,_,v,_,he,_⟩:=h5;cases he
   | outgrown=>obtain ⟨_,r,_,v,_,he,_⟩:=h5;cases he
  ·exact h.forget
  ·split at h
   ·exact LTg.move (fun b a cs w=>step_inBlock) h.forget
   ·exact LTg.move (fun b a cs w=>step_inBlock) (go h)
  ·exact LTg.move (fun b a cs w=>step_inScope) (go h)
  ·split at h
   ·rename_i k' hx
    split at h
    ·exact LTg.move (fun b a cs w=>step_exit hx) h.forget
    ·exact LTg.move (fun b a cs w=>step_exit hx) (go h)
   ·exact h.elim
  ·exact jr (fun b a cs w=>step_ret) h
  ·rename_i id ops draw k
   split at h
   ·split at h
    ·split at h
     ·rename_i o hrf
      obtain ⟨rfl,ho,hg,c,hop,hcl⟩:=jD hrf
      obtain ⟨m,hm'⟩:∃ m,ops.size=m+1:=⟨ops.size-1,by have:=(Array.getElem?_eq_some_iff.1 ho).1;omega⟩
      rw[hm',Nat.add_sub_cancel] at h
      exact LTg.zE hm' ho hg hop hcl h fun _ _ h=>go h
     ·refine LTg.code fun w0 β w a h1 h2=>?_
      exact wp_region (dC h1 h2 rfl h fun β' t' st' a' w' k1 k2 k3 k4 k5=>⟨rfl,β',t',st',behind k1,k2,k3,k4,k5⟩)
    ·rename_i p hd
     obtain ⟨o,c⟩:=p
     refine LTg.G8 fun w0 β w a h1 h2=>?_
     refine wp_region ?_
     obtain ⟨m,hm'⟩:∃ m,ops.size=m+1:=by
      refine ⟨ops.size-1,?_⟩
      unfold eW at hd
      split at hd
      ·rename_i o' ho'
       have:=(Array.getElem?_eq_some_iff.1 ho').1
       omega
      ·cases hd
     have ho:ops[m]?=some o∧o.op=.defer c∧o.guard=none:=by
      unfold eW at hd
      rw[hm',Nat.add_sub_cancel] at hd
      split at hd
      ·rename_i o' ho'
       split at hd
       ·rename_i c' e1 e2
        cases hd
        exact ⟨ho',e1,e2⟩
       ·cases hd
      ·cases hd
     rw[hm',Nat.add_sub_cancel] at h
     rw[hm',List.range_succ]
     refine fH h1 h2 rfl h fun β' t' st'' a' w' k1 k2 k3 k4 k5=>?_
     split at k1
     ·rename_i d hl
      obtain ⟨dv,e1,e2⟩:=nO (w:=w') ho.2.1 hl k3
      simp only[wpOps,ho.1]
      have hw:Region.wanted o (yielded ops a'.tmps)=true:=by simp[Region.wanted,ho.2.2]
      rw[if_pos hw]
      refine .inl ?_
      unfold Oper.wp
      rw[e1]
      refine ⟨trivial,β',_,_,d,dv,go k1,k2,?_,?_,e2,k5⟩
      ·exact eV (a:={ a' with defers:=dv::a'.defers }) k3 Rp.undef
      ·rw[put_defers'];show dv::a'.defers=dv::a.defers;rw[k4]
     ·exact k1.elim
   ·split at h
    ·rename_i hok
     refine LTg.code fun w0 β w a h1 h2=>?_
     refine wp_region_any hm (oC (Di hok) _ (T0:=t) (T:=t) (TD:=t) (D:=Array.replicate _ false) (m:=0) (pend:=[]) (β:=β) ?_ h (h1.C7 (Nat.le_succ _)) h2 rfl ?_ ?_)
     ·have hn:∀ (N i:Nat),¬ In (Array.replicate N false) i:=by
       intro N i hi
       unfold In at hi
       simp[Array.getElem?_replicate] at hi
       split at hi<;>simp at hi
      have he:∀ N,cp N 0=Array.replicate N false:=fun N=>by apply Array.ext<;>simp[cp]
      rw[he]
      exact ⟨⟨by simp,fun i o hi=>absurd hi (hn _ i)⟩,⟨by simp,fun i o hi=>absurd hi (hn _ i)⟩,fun i hi=>hi,⟨rfl,fun i o d hi=>absurd hi (hn _ i),fun _ _=>rfl⟩,⟨rfl,fun i o d hi=>absurd hi (hn _ i),fun _ _=>rfl⟩,
       fun i o hi=>absurd hi (hn _ i),fun j o hj=>absurd hj (hn _ j)⟩
     ·unfold todo
      exact Nat.le_trans (List.length_filter_le _ _) (by simp)
     ·intro β' t' st' a' w' k1 k2 k3 k4 k5
      exact ⟨rfl,β',t',st',behind k1,k2,k3,k4,k5⟩
    ·exact h.elim
  ·exact h.elim
theorem LTg.NF (hm:P.follows .mixedOrders=true) {dk:Bool} {rs:List ResultVar} {R:LV→aa→Prop} {gl:List Nat} {cuts rc:List (Nat × List Nat)} (n:Nat) {c:Code} {k:List Item} {ds:List eM} {t:List LV} {st:aa} (h:hZ P dk rs R gl cuts rc n (.code c::.inLoop c::k) ds t st) :
  LTg P (kindOf dk) rs (.inLoop c::k) ds R t st:=LTg.move (fun b a cs w=>step_inLoop) (iZ hm n h)
theorem LTg.atC (hm:P.follows .mixedOrders=true) {dk:Bool} {rs:List ResultVar} {R:LV→aa→Prop} {gl:List Nat} {cuts rc:List (Nat × List Nat)} (n:Nat) {k:List Item} {ds:List eM} {t:List LV} {st:aa}
  (h:hZ P dk rs R gl cuts rc n (dK k) ds t st):LTg P (kindOf dk) rs k ds R t st:=by
 unfold dK at h
 split at h
 ·exact LTg.NF hm n h
 ·exact iZ hm n h
theorem aw.ofC {f:FuncId} {fn:Func} {c:Code} {xs:List LV} {st:aa} {rs:List ResultVar} {R:LV→aa→Prop} {gl:List Nat} {cuts rc:List (Nat × List Nat)} {n:Nat} (hm:P.follows .mixedOrders=true)
  (hf:P.funcs[f]?=some fn) (hb:fn.body=some c) (hn:(fn.name == "runtime.NumGoroutine")=false) (hrs:fn.results.toList=rs)
  (h:hZ P false rs R gl cuts rc n [.code c] [] (xs++List.replicate (fn.ntmps-xs.length) aQ) st):aw P f xs st R:=aw.ofG hf hb hn hrs (iZ hm n h)
theorem dD.ofC {f:FuncId} {fn:Func} {c:Code} {xs:List LV} {st:aa} {rs:List ResultVar} {K:aa→Prop} {gl:List Nat} {cuts rc:List (Nat × List Nat)} {n:Nat} (hm:P.follows .mixedOrders=true)
  (hf:P.funcs[f]?=some fn) (hb:fn.body=some c) (hrs:fn.results.toList=rs)
  (h:hZ P true rs (fun _ st'=>K st') gl cuts rc n [.code c] [] (xs++List.replicate (fn.ntmps-xs.length) aQ) st):dD P f xs st K:=dD.ofG hf hb hrs (iZ hm n h)
theorem LTg.atE (hm:P.follows .mixedOrders=true) {dk:Bool} {rs:List ResultVar} {R:LV→aa→Prop} {gl:List Nat} {cuts rc:List (Nat × List Nat)} {n:Nat} {k:List Item} {ds:List eM} {t:List LV} {st:aa} {W:Prop}
  (e:hZ P dk rs R gl cuts rc n (dK k) ds t st=W) (h:W):LTg P (kindOf dk) rs k ds R t st:=LTg.atC hm n (e.mpr h)
theorem aw.ofE {f:FuncId} {fn:Func} {c:Code} {xs:List LV} {st:aa} {rs:List ResultVar} {R:LV→aa→Prop} {gl:List Nat} {cuts rc:List (Nat × List Nat)} {n:Nat} {W:Prop} (hm:P.follows .mixedOrders=true)
  (hf:P.funcs[f]?=some fn) (hb:fn.body=some c) (hn:(fn.name == "runtime.NumGoroutine")=false) (hrs:fn.results.toList=rs)
  (e:hZ P false rs R gl cuts rc n [.code c] [] (xs++List.replicate (fn.ntmps-xs.length) aQ) st=W) (h:W):aw P f xs st R:=aw.ofC hm hf hb hn hrs (e.mpr h)
theorem dD.ofE {f:FuncId} {fn:Func} {c:Code} {xs:List LV} {st:aa} {rs:List ResultVar} {K:aa→Prop} {gl:List Nat} {cuts rc:List (Nat × List Nat)} {n:Nat} {W:Prop} (hm:P.follows .mixedOrders=true)
  (hf:P.funcs[f]?=some fn) (hb:fn.body=some c) (hrs:fn.results.toList=rs)
  (e:hZ P true rs (fun _ st'=>K st') gl cuts rc n [.code c] [] (xs++List.replicate (fn.ntmps-xs.length) aQ) st=W) (h:W):dD P f xs st K:=dD.ofC hm hf hb hrs (e.mpr h)
end
def nP:Code→List Item→List (List Item)
 | .region _ _ _,k=>[k]
 | .seq a b,k=>nP a (.code b::k)++nP b k
 | .cond _ a b,k=>nP a k++nP b k
 | .block id c,k=>k::nP c (.inBlock id::k)
 | .loop c,k=>(.inLoop c::k)::nP c (.inLoop c::k)
 | _,_=>[]
def br (fn:Func) (n:Nat):List Item:=match fn.body with
 | some c=>(nP c []).getD n []
 | none=>[]
end Go.CP
