/- Parts of the proof. -/
import Derived.Test.YtknegckgmklnhaaGreatDoorCp48
namespace Go.CP
section
variable {P:Program}
def gr (P:Program) (dk:Bool) (rs:List ResultVar) (R:LV→aa→Prop) (gl:List Nat) (cuts rc:List (Nat × List Nat)):Nat→List Item→List ec→List LV→aa→Prop
 | 0,k,ds,t,st=>LTg P (kindOf dk) rs k ds R t st
 | n+1,k,ds,t,st=>match k with
  | []=>tV P dk rs R ds t st
  | .code .skip::k=>gr P dk rs R gl cuts rc n k ds t st
  | .code (.label _)::k=>gr P dk rs R gl cuts rc n k ds t st
  | .code (.seq a b)::k=>gr P dk rs R gl cuts rc n (.code a::.code b::k) ds t st
  | .code (.cond c a b)::k=>bd (ev t c) fun v=>al v (gr P dk rs R gl cuts rc n (.code a::k) ds t st) (gr P dk rs R gl cuts rc n (.code b::k) ds t st)
  | .code (.block id c)::k=>gr P dk rs R gl cuts rc n (.code c::.inBlock id::k) ds t st
  | .code (.loop c)::k=>LTg P (kindOf dk) rs (.inLoop c::k) ds R (aN gl t) st
  | .inLoop c::k=>LTg P (kindOf dk) rs (.inLoop c::k) ds R (aN gl t) st
  | .inBlock id::k=>match cuts.lookup id with
   | some g=>LTg P (kindOf dk) rs k ds R (aN g t) st
   | none=>gr P dk rs R gl cuts rc n k ds t st
  | .inScope _::k=>gr P dk rs R gl cuts rc n k ds t st
  | .code (.exit id)::k=>match exitTo id k with
   | some k'=>match cuts.lookup id with
    | some g=>LTg P (kindOf dk) rs k' ds R (aN g t) st
    | none=>gr P dk rs R gl cuts rc n k' ds t st
   | none=>False
  | .code .ret::_=>tV P dk rs R ds t st
  | .code (.region id ops draw)::k=>match draw with
   | false=>match eB ops with
    | none=>match kW dk ops with
     | some o=>cg P ops (List.range' 1 (ops.size-1)) (fun t st=>gr P dk rs R gl cuts rc n k ds t st) (bV t o.dst .nili) st
     | none=>cg P ops (List.range ops.size) (fun t st=>match rc.lookup id with
      | some g=>LTg P (kindOf dk) rs k ds R (aN g t) st
      | none=>gr P dk rs R gl cuts rc n k ds t st) t st
    | some p=>cg P ops (List.range (ops.size-1)) (fun t st=>match Fy P t p.2 with
     | some d=>gr P dk rs R gl cuts rc n k (d::ds) (bV t p.1.dst aK) st
     | none=>False) t st
   | true=>match o7 ops (Region.before ops) with
    | true=>ct P ops (Region.before ops) (rowsOf P ops) (fun t st=>match rc.lookup id with
      | some g=>LTg P (kindOf dk) rs k ds R (aN g t) st
      | none=>gr P dk rs R gl cuts rc n k ds t st) ops.size 0 [] t st
    | false=>False
  | _=>False
theorem ir (hm:P.follows .mixedOrders=true) {dk:Bool} {rs:List ResultVar} {R:LV→aa→Prop} {gl:List Nat} {cuts rc:List (Nat × List Nat)}:∀ (n:Nat) {k:List Item} {ds:List ec} {t:List LV} {st:aa},
  gr P dk rs R gl cuts rc n k ds t st→LTg P (kindOf dk) rs k ds R t st
 | 0,_,_,_,_,h=>h
 | n+1,k,ds,t,st,h=>by
  have go:∀ {k ds t st},gr P dk rs R gl cuts rc n k ds t st→LTg P (kindOf dk) rs k ds R t st:=fun h=>ir hm n h
  have behind:∀ {id:Nat} {k ds t st},(match rc.lookup id with
    | some g=>LTg P (kindOf dk) rs k ds R (aN g t) st
    | none=>gr P dk rs R gl cuts rc n k ds t st)→LTg P (kindOf dk) rs k ds R t st:=by
   intro id k ds t st h
   split at h
   ·exact h.forget
   ·exact go h
  unfold gr at h
  split at h
  ·exact iM (fun b a cs w=>step_end) h
  ·exact LTg.move (fun b a cs w=>step_skip) (go h)
  ·exact LTg.move (fun b a cs w=>step_label) (go h)
  ·exact LTg.move (fun b a cs w=>step_seq) (go h)
  ·unfold bd at h
   split at h
   ·rename_i v hv
    unfold al at h
    split at h
    ·exact LTg.cond hv (go h)
    ·exact LTg.cond hv (go h)
    ·exact h.elim
   ·exact h.elim
  ·exact LTg.move (fun b a cs w=>step_block) (go h)
  ·rename_i c k
   intro w0 β w a fn h1 h2 h3 h4 b cs hf hk hc
   obtain ⟨e,w',fr,h5,h6,h7,h8⟩:=h.forget w0 β w a fn h1 h2 h3 h4 b cs hf hk hc
   refine ⟨e,w',fr,h5,?_,h7,h8⟩
   have hs1:step P (lone (b.at a (.code (.loop c)::k)) cs w)=.next (lone (b.at a (.code c::.inLoop c::k)) cs w):=step_loop
   have hs2:step P (lone (b.at a (.inLoop c::k)) cs w)=.next (lone (b.at a (.code c::.inLoop c::k)) cs w):=step_inLoop
   cases e with
   | returned v=>
    obtain ⟨m,hm'⟩:=h6
    cases m with
    | zero=>
     simp only[runN] at hm'
     have hfr:fr=b.at a (.inLoop c::k):=by
      simp only[lone,Stepped.next.injEq,Machine.mk.injEq] at hm'
      have:=hm'.2.1
      simp only[Array.mk.injEq,List.cons.injEq,Goroutine.mk.injEq] at this
      exact this.1.1.symm
     have hl:fr.mode=.returning:=by
      cases dk
      ·exact h8.1
      ·exact h8.2.1
     rw[hfr] at hl;simp[Frame.at] at hl
    | succ m=>
     simp only[runN,hs2] at hm'
     exact ⟨m+1,by simp only[runN,hs1];exact hm'⟩
   | panicked ch=>obtain ⟨_,r,_,v,_,he,_⟩:=h5;cases he
   | outgrown=>obtain ⟨_,r,_,v,_,he,_⟩:=h5;cases he
  ·exact h.forget
  ·split at h
   ·exact LTg.move (fun b a cs w=>step_inBlock) h.forget
   ·exact LTg.move (fun b a cs w=>step_inBlock) (go h)
  ·exact LTg.move (fun b a cs w=>step_inScope) (go h)
  ·split at h
   ·rename_i k' hx
    split at h
    ·exact LTg.move (fun b a cs w=>step_exit hx) h.forget
    ·exact LTg.move (fun b a cs w=>step_exit hx) (go h)
   ·exact h.elim
  ·exact iM (fun b a cs w=>step_ret) h
  ·rename_i id ops draw k
   split at h
   ·split at h
    ·split at h
     ·rename_i o hrf
      obtain ⟨rfl,ho,hg,c,hop,hcl⟩:=jc hrf
      obtain ⟨m,hm'⟩:∃ m,ops.size=m+1:=⟨ops.size-1,by have:=(Array.getElem?_eq_some_iff.1 ho).1;omega⟩
      rw[hm',Nat.add_sub_cancel] at h
      exact LTg.yh hm' ho hg hop hcl h fun _ _ h=>go h
     ·refine LTg.code fun w0 β w a h1 h2=>?_
      exact wp_region (cO h1 h2 rfl h fun β' t' st' a' w' k1 k2 k3 k4 k5=>⟨rfl,β',t',st',behind k1,k2,k3,k4,k5⟩)
    ·rename_i p hd
     obtain ⟨o,c⟩:=p
     refine LTg.Fx fun w0 β w a h1 h2=>?_
     refine wp_region ?_
     obtain ⟨m,hm'⟩:∃ m,ops.size=m+1:=by
      refine ⟨ops.size-1,?_⟩
      unfold eB at hd
      split at hd
      ·rename_i o' ho'
       have:=(Array.getElem?_eq_some_iff.1 ho').1
       omega
      ·cases hd
     have ho:ops[m]?=some o∧o.op=.defer c∧o.guard=none:=by
      unfold eB at hd
      rw[hm',Nat.add_sub_cancel] at hd
      split at hd
      ·rename_i o' ho'
       split at hd
       ·rename_i c' e1 e2
        cases hd
        exact ⟨ho',e1,e2⟩
       ·cases hd
      ·cases hd
     rw[hm',Nat.add_sub_cancel] at h
     rw[hm',List.range_succ]
     refine eX h1 h2 rfl h fun β' t' st'' a' w' k1 k2 k3 k4 k5=>?_
     split at k1
     ·rename_i d hl
      obtain ⟨dv,e1,e2⟩:=mS (w:=w') ho.2.1 hl k3
      simp only[wpOps,ho.1]
      have hw:Region.wanted o (yielded ops a'.tmps)=true:=by simp[Region.wanted,ho.2.2]
      rw[if_pos hw]
      refine .inl ?_
      unfold Oper.wp
      rw[e1]
      refine ⟨trivial,β',_,_,d,dv,go k1,k2,?_,?_,e2,k5⟩
      ·exact ez (a:={ a' with defers:=dv::a'.defers }) k3 Rp.undef
      ·rw[put_defers'];show dv::a'.defers=dv::a.defers;rw[k4]
     ·exact k1.elim
   ·split at h
    ·rename_i hok
     refine LTg.code fun w0 β w a h1 h2=>?_
     refine wp_region_any hm (nA (B1 hok) _ (T0:=t) (T:=t) (TD:=t) (D:=Array.replicate _ false) (m:=0) (pend:=[]) (β:=β) ?_ h (h1.BP (Nat.le_succ _)) h2 rfl ?_ ?_)
     ·have hn:∀ (N i:Nat),¬ In (Array.replicate N false) i:=by
       intro N i hi
       unfold In at hi
       simp[Array.getElem?_replicate] at hi
       split at hi<;>simp at hi
      have he:∀ N,bL N 0=Array.replicate N false:=fun N=>by apply Array.ext<;>simp[bL]
      rw[he]
      exact ⟨⟨by simp,fun i o hi=>absurd hi (hn _ i)⟩,⟨by simp,fun i o hi=>absurd hi (hn _ i)⟩,fun i hi=>hi,⟨rfl,fun i o d hi=>absurd hi (hn _ i),fun _ _=>rfl⟩,⟨rfl,fun i o d hi=>absurd hi (hn _ i),fun _ _=>rfl⟩,
       fun i o hi=>absurd hi (hn _ i),fun j o hj=>absurd hj (hn _ j)⟩
     ·unfold todo
      exact Nat.le_trans (List.length_filter_le _ _) (by simp)
     ·intro β' t' st' a' w' k1 k2 k3 k4 k5
      exact ⟨rfl,β',t',st',behind k1,k2,k3,k4,k5⟩
    ·exact h.elim
  ·exact h.elim
theorem LTg.LH (hm:P.follows .mixedOrders=true) {dk:Bool} {rs:List ResultVar} {R:LV→aa→Prop} {gl:List Nat} {cuts rc:List (Nat × List Nat)} (n:Nat) {c:Code} {k:List Item} {ds:List ec} {t:List LV} {st:aa} (h:gr P dk rs R gl cuts rc n (.code c::.inLoop c::k) ds t st) :
  LTg P (kindOf dk) rs (.inLoop c::k) ds R t st:=LTg.move (fun b a cs w=>step_inLoop) (ir hm n h)
theorem LTg.atC (hm:P.follows .mixedOrders=true) {dk:Bool} {rs:List ResultVar} {R:LV→aa→Prop} {gl:List Nat} {cuts rc:List (Nat × List Nat)} (n:Nat) {k:List Item} {ds:List ec} {t:List LV} {st:aa}
  (h:gr P dk rs R gl cuts rc n (cV k) ds t st):LTg P (kindOf dk) rs k ds R t st:=by
 unfold cV at h
 split at h
 ·exact LTg.LH hm n h
 ·exact ir hm n h
theorem ax.ofC {f:FuncId} {fn:Func} {c:Code} {xs:List LV} {st:aa} {rs:List ResultVar} {R:LV→aa→Prop} {gl:List Nat} {cuts rc:List (Nat × List Nat)} {n:Nat} (hm:P.follows .mixedOrders=true)
  (hf:P.funcs[f]?=some fn) (hb:fn.body=some c) (hn:(fn.name == "runtime.NumGoroutine")=false) (hrs:fn.results.toList=rs)
  (h:gr P false rs R gl cuts rc n [.code c] [] (xs++List.replicate (fn.ntmps-xs.length) aK) st):ax P f xs st R:=ax.ofG hf hb hn hrs (ir hm n h)
theorem cP.ofC {f:FuncId} {fn:Func} {c:Code} {xs:List LV} {st:aa} {rs:List ResultVar} {K:aa→Prop} {gl:List Nat} {cuts rc:List (Nat × List Nat)} {n:Nat} (hm:P.follows .mixedOrders=true)
  (hf:P.funcs[f]?=some fn) (hb:fn.body=some c) (hrs:fn.results.toList=rs)
  (h:gr P true rs (fun _ st'=>K st') gl cuts rc n [.code c] [] (xs++List.replicate (fn.ntmps-xs.length) aK) st):cP P f xs st K:=cP.ofG hf hb hrs (ir hm n h)
theorem LTg.atE (hm:P.follows .mixedOrders=true) {dk:Bool} {rs:List ResultVar} {R:LV→aa→Prop} {gl:List Nat} {cuts rc:List (Nat × List Nat)} {n:Nat} {k:List Item} {ds:List ec} {t:List LV} {st:aa} {W:Prop}
  (e:gr P dk rs R gl cuts rc n (cV k) ds t st=W) (h:W):LTg P (kindOf dk) rs k ds R t st:=LTg.atC hm n (e.mpr h)
theorem ax.ofE {f:FuncId} {fn:Func} {c:Code} {xs:List LV} {st:aa} {rs:List ResultVar} {R:LV→aa→Prop} {gl:List Nat} {cuts rc:List (Nat × List Nat)} {n:Nat} {W:Prop} (hm:P.follows .mixedOrders=true)
  (hf:P.funcs[f]?=some fn) (hb:fn.body=some c) (hn:(fn.name == "runtime.NumGoroutine")=false) (hrs:fn.results.toList=rs)
  (e:gr P false rs R gl cuts rc n [.code c] [] (xs++List.replicate (fn.ntmps-xs.length) aK) st=W) (h:W):ax P f xs st R:=ax.ofC hm hf hb hn hrs (e.mpr h)
theorem cP.ofE {f:FuncId} {fn:Func} {c:Code} {xs:List LV} {st:aa} {rs:List ResultVar} {K:aa→Prop} {gl:List Nat} {cuts rc:List (Nat × List Nat)} {n:Nat} {W:Prop} (hm:P.follows .mixedOrders=true)
  (hf:P.funcs[f]?=some fn) (hb:fn.body=some c) (hrs:fn.results.toList=rs)
  (e:gr P true rs (fun _ st'=>K st') gl cuts rc n [.code c] [] (xs++List.replicate (fn.ntmps-xs.length) aK) st=W) (h:W):cP P f xs st K:=cP.ofC hm hf hb hrs (e.mpr h)
end
def mT:Code→List Item→List (List Item)
 | .region _ _ _,k=>[k]
 | .seq a b,k=>mT a (.code b::k)++mT b k
 | .cond _ a b,k=>mT a k++mT b k
 | .block id c,k=>k::mT c (.inBlock id::k)
 | .loop c,k=>(.inLoop c::k)::mT c (.inLoop c::k)
 | _,_=>[]
def bg (fn:Func) (n:Nat):List Item:=match fn.body with
 | some c=>(mT c []).getD n []
 | none=>[]
end Go.CP
