/- Parts of the proof. -/
import Derived.Test.YtknegckgmklnhaaGreatDoorCp52
namespace Go.CP
def r6 (P:Program) (u:Value):List PanicEntry:=[{ v:=.iface P.rt.typeAssertionError u,recovered:=true }]
def gS (P:Program) (f:FuncId) (xs:List LV) (st:aa) (K:aa→Prop):Prop:=
 ∀ w0 β w vs u,Rel w0 β st w→Rps β xs vs→CallsD P f ⟨vs⟩ (.panicking (mq P u)) w fun e u' w'=>u'=.panicking (r6 P u)∧∃ β' st' r,e=.returned r∧K st'∧Rel w0 β' st' w'∧β.le β'
def mB (P:Program) (ds:List cm) (st:aa) (K Y:aa→Prop):Prop:=match ds with
 | []=>Y st
 | d::r=>gS P d.1 d.2 st fun st'=>fE P r st' K
def zY (ds:List cm) (Y:aa→Prop) (st:aa):Prop:=match ds with
 | []=>Y st
 | _=>False
def LTz (P:Program) (rs:List ResultVar) (k:List Item) (ds:List cm) (R:LV→aa→Prop) (Y:aa→Prop) (t:List LV) (st:aa):Prop:=
 ∀ w0 β w a fn,Rel w0 β st w→Rps β t a.tmps.toList→hG P β ds a.defers→fn.results.toList=rs→∀ (b:Frame) (cs:List Frame),P.funcs[b.fn]?=some fn→b.kind=.normal→
  ∃ e w' fr,(mj w0 R β e w'∨nU P w0 Y β e w')∧Comes P (lone (b.at a k) cs w) (lone fr cs w') e∧fr.fn=b.fn∧fr.leaving P w' e
section
variable {P:Program} {rs:List ResultVar} {R:LV→aa→Prop} {Y:aa→Prop}
theorem nU.le {w0:World} {β β':Lay} {e:Ending} {w':World} (hl:β.le β') (h:nU P w0 Y β' e w'):nU P w0 Y β e w':=
 let ⟨b,st,u,h1,h2,h3,h4⟩:=h;⟨b,st,u,h1,h2,h3,hl.trans h4⟩
theorem LTg.z {k:List Item} {ds:List cm} {t:List LV} {st:aa} (h:LTg P (kindOf false) rs k ds R t st):LTz P rs k ds R Y t st:=
 fun w0 β w a fn h1 h2 h3 h4 b cs hf hk=>
  let ⟨e,w',fr,h5,h6,h7,h8⟩:=h w0 β w a fn h1 h2 h3 h4 b cs hf hk trivial
  ⟨e,w',fr,.inl h5,h6,h7,h8⟩
theorem LTz.forget {k:List Item} {ds:List cm} {g:List Nat} {t:List LV} {st:aa} (h:LTz P rs k ds R Y (aJ g t) st):LTz P rs k ds R Y t st:=
 fun w0 β w a fn h1 h2=>h w0 β w a fn h1 (kb h2)
theorem LTz.move {k k':List Item} {ds:List cm} {t:List LV} {st:aa} (hs:∀ (b:Frame) (a:Act) (cs:List Frame) (w:World),step P (lone (b.at a k) cs w)=.next (lone (b.at a k') cs w))
  (h:LTz P rs k' ds R Y t st):LTz P rs k ds R Y t st:=
 fun w0 β w a fn h1 h2 h3 h4 b cs hf hk=>
  let ⟨e,w',fr,h5,h6,h7,h8⟩:=h w0 β w a fn h1 h2 h3 h4 b cs hf hk
  ⟨e,w',fr,h5,.of_steps (.one (hs b a cs w)) h6,h7,h8⟩
theorem LTz.cond {c:Operand} {x y:Code} {k:List Item} {ds:List cm} {t:List LV} {st:aa} {b0:Bool} (hv:ev t c=some (.bool b0)) (h:LTz P rs (.code (if b0 then x else y)::k) ds R Y t st) :
  LTz P rs (.code (.cond c x y)::k) ds R Y t st:=by
 intro w0 β w a fn h1 h2 h3 h4 b cs hf hk
 have hr:=au h2 hv
 simp only[Rp] at hr
 obtain ⟨e,w',fr,h5,h6,h7,h8⟩:=h w0 β w a fn h1 h2 h3 h4 b cs hf hk
 exact ⟨e,w',fr,h5,.of_steps (.one (step_cond hr)) h6,h7,h8⟩
theorem nW {fn:Func} {t:List LV} {tmps:Array Value} {w0:World} {β0:Lay} (hrs:fn.results.toList=rs):∀ {ds:List cm} {D:List Deferred} {st:aa} {β:Lay} {w:World},
  Rel w0 β st w→Rps β t tmps.toList→hG P β ds D→β0.le β→fE P ds st (fun st'=>fX P rs R t st')→Leaves P fn tmps (fun e w'=>mj w0 R β0 e w'∨nU P w0 Y β0 e w') D .returning w
 | [],D,st,β,w,h1,h2,h3,hl,h=>by
  simp only[hG] at h3
  subst h3
  simp only[fE,fX] at h
  obtain ⟨vs,hvs,h⟩:=dH h
  rw[← hrs] at hvs
  obtain ⟨u,h5,h6⟩:=dA h1 h2 hvs
  exact ⟨u,h5,.inl ⟨β,_,st,u,h,rfl,h6,h1,hl⟩⟩
 | d::r,D,st,β,w,h1,h2,h3,hl,h=>by
  obtain ⟨dv,D',rfl,⟨fv,cap,vs,e1,e2,e3⟩,h4⟩:=h3
  simp only[fE] at h
  refine ⟨by simp,fv,cap,d.1,⟨vs⟩,e1,e2 w,(h w0 β w vs h1 e3).mono ?_⟩
  rintro e u' w' ⟨rfl,β',st',v,rfl,k1,k2,k3⟩
  exact nW hrs k2 (h2.mono k3) (h4.mono k3) (hl.trans k3) k1
theorem tI {fn:Func} {t:List LV} {tmps:Array Value} {w0:World} {β0:Lay} (hrs:fn.results.toList=rs) {ds:List cm} {D:List Deferred} {st:aa} {β:Lay} {w:World} {u:Value}
  (h1:Rel w0 β st w) (h2:Rps β t tmps.toList) (h3:hG P β ds D) (hl:β0.le β) (h:mB P ds st (fun st'=>fX P rs R t st') Y):Leaves P fn tmps (fun e w'=>mj w0 R β0 e w'∨nU P w0 Y β0 e w') D (.panicking (mq P u)) w:=by
 cases ds with
 | nil=>
  simp only[hG] at h3
  subst h3
  exact .inr ⟨β,st,u,h,rfl,h1,hl⟩
 | cons d r=>
  obtain ⟨dv,D',rfl,⟨fv,cap,vs,e1,e2,e3⟩,h4⟩:=h3
  simp only[mB] at h
  refine ⟨by simp,fv,cap,d.1,⟨vs⟩,e1,e2 w,(h w0 β w vs u h1 e3).mono ?_⟩
  rintro e u' w' ⟨rfl,β',st',v,rfl,k1,k2,k3⟩
  exact nW hrs k2 (h2.mono k3) (h4.mono k3) (hl.trans k3) k1
theorem LTz.code {c:Code} {k:List Item} {ds:List cm} {t:List LV} {st:aa}
  (h:∀ (w0:World) (β:Lay) (w:World) (a:Act),Rel w0 β st w→Rps β t a.tmps.toList→
   c.wp P (fun e a' w'=>(e=.normal∧∃ β' t' st',LTz P rs k ds R Y t' st'∧Rel w0 β' st' w'∧Rps β' t' a'.tmps.toList∧a'.defers=a.defers∧β.le β')∨
    ∃ u β' t' st',e=.panic (mq P u)∧mB P ds st' (fun s=>fX P rs R t' s) Y∧Rel w0 β' st' w'∧Rps β' t' a'.tmps.toList∧a'.defers=a.defers∧β.le β') a w):LTz P rs (.code c::k) ds R Y t st:=by
 intro w0 β w a fn h1 h2 h3 h4 b cs hf hk
 obtain ⟨e,a',w',⟨he,β',t',st',k1,k2,k3,k4,k5⟩ | ⟨u,β',t',st',he,k1,k2,k3,k4,k5⟩,harr⟩:=h w0 β w a h1 h2 b k cs
 ·subst he
  obtain ⟨e,w'',fr,h5,h6,h7,h8⟩:=k1 w0 β' w' a' fn k2 k3 (by rw[k4];exact h3.mono k5) h4 b cs hf hk
  exact ⟨e,w'',fr,h5.imp (·.le k5) (·.le k5),.of_steps harr h6,h7,h8⟩
 ·subst he
  obtain ⟨todo,hs⟩:=harr
  have hL:=tI (fn:=fn) (u:=u) (β0:=β) h4 k2 k3 (D:=a'.defers) (by rw[k4];exact h3.mono k5) k5 k1
  obtain ⟨e',w'',fr',hR,hst,hfn,hl⟩:=leaves_steps a'.defers (.panicking (mq P u)) w' { b.at a' todo with mode:=.panicking (mq P u) } cs rfl rfl rfl hf hk hL
  exact ⟨e',w'',fr',hR,Comes.of_steps hs hst,hfn,hl⟩
theorem LTz.rY {c:Code} {k:List Item} {ds:List cm} {t:List LV} {st:aa}
  (h:∀ (w0:World) (β:Lay) (w:World) (a:Act),Rel w0 β st w→Rps β t a.tmps.toList→
   c.wp P (fun e a' w'=>e=.normal∧∃ β' t' st' d dv,LTz P rs k (d::ds) R Y t' st'∧Rel w0 β' st' w'∧Rps β' t' a'.tmps.toList∧a'.defers=dv::a.defers∧tE P β' d dv∧β.le β') a w):LTz P rs (.code c::k) ds R Y t st:=by
 intro w0 β w a fn h1 h2 h3 h4 b cs hf hk
 obtain ⟨e,a',w',⟨he,β',t',st',d,dv,k1,k2,k3,k4,kd,k5⟩,harr⟩:=h w0 β w a h1 h2 b k cs
 subst he
 obtain ⟨e,w'',fr,h5,h6,h7,h8⟩:=k1 w0 β' w' a' fn k2 k3 (by rw[k4];exact ⟨dv,_,rfl,kd,h3.mono k5⟩) h4 b cs hf hk
 exact ⟨e,w'',fr,h5.imp (·.le k5) (·.le k5),.of_steps harr h6,h7,h8⟩
theorem a7.ofG {f:FuncId} {fn:Func} {c:Code} {xs:List LV} {st:aa}
  (hf:P.funcs[f]?=some fn) (hb:fn.body=some c) (hn:(fn.name == "runtime.NumGoroutine")=false) (hrs:fn.results.toList=rs)
  (h:LTz P rs [.code c] [] R Y (xs++List.replicate (fn.ntmps-xs.length) af) st):a7 P f xs st R Y:=by
 refine .inl ⟨⟨fn,c,hf,hb,hn⟩,fun w0 β w vs h1 h2 cs=>?_⟩
 let b:Frame:={ (default:Frame) with fn:=f,kind:=.normal }
 have henter:Frame.enter P f ⟨vs⟩ .normal=b.at { tmps:=(⟨vs⟩:Array Value)++Array.replicate (fn.ntmps-vs.length) undef,defers:=[] } [.code c]:=by
  simp[Frame.enter,Frame.at,hf,hb,b]
 rw[henter]
 have htm:Rps β (xs++List.replicate (fn.ntmps-xs.length) af) ((⟨vs⟩:Array Value)++Array.replicate (fn.ntmps-vs.length) undef).toList:=by
  rw[show ((⟨vs⟩:Array Value)++Array.replicate (fn.ntmps-vs.length) undef).toList=vs++List.replicate (fn.ntmps-xs.length) undef by simp[h2.length]]
  exact h2.append (Rps.replicate Rp.undef _)
 obtain ⟨e,w',fr,h5,h6,h7,h8⟩:=h w0 β w { tmps:=(⟨vs⟩:Array Value)++Array.replicate (fn.ntmps-vs.length) undef,defers:=[] } fn h1 htm rfl hrs b cs hf rfl
 exact ⟨e,w',fr,h5,h6,h7,h8⟩
theorem a7.calls {f:FuncId} {xs:List LV} {st:aa} (h:a7 P f xs st R fun _=>False):ak P f xs st R:=
 h.imp (fun h=>⟨h.1,fun w0 β w vs h1 h2=>(h.2 w0 β w vs h1 h2).mono fun _ _ h=>h.resolve_right fun ⟨_,_,_,h,_⟩=>h⟩) id
def ej (P:Program) (rs:List ResultVar) (R:LV→aa→Prop) (Y:aa→Prop) (gl:List Nat) (cuts rc:List (Nat × List Nat)):Nat→List Item→List cm→List LV→aa→Prop
 | 0,k,ds,t,st=>LTz P rs k ds R Y t st
 | n+1,k,ds,t,st=>match k with
  | []=>mc P false rs R ds t st
  | .code .skip::k=>ej P rs R Y gl cuts rc n k ds t st
  | .code (.label _)::k=>ej P rs R Y gl cuts rc n k ds t st
  | .code (.seq a b)::k=>ej P rs R Y gl cuts rc n (.code a::.code b::k) ds t st
  | .code (.cond c a b)::k=>bd (ev t c) fun v=>aL v (ej P rs R Y gl cuts rc n (.code a::k) ds t st) (ej P rs R Y gl cuts rc n (.code b::k) ds t st)
  | .code (.block id c)::k=>ej P rs R Y gl cuts rc n (.code c::.inBlock id::k) ds t st
  | .code (.loop c)::k=>LTz P rs (.inLoop c::k) ds R Y (aJ gl t) st
  | .inLoop c::k=>LTz P rs (.inLoop c::k) ds R Y (aJ gl t) st
  | .inBlock id::k=>match cuts.lookup id with
   | some g=>LTz P rs k ds R Y (aJ g t) st
   | none=>ej P rs R Y gl cuts rc n k ds t st
  | .inScope _::k=>ej P rs R Y gl cuts rc n k ds t st
  | .code (.exit id)::k=>match exitTo id k with
   | some k'=>match cuts.lookup id with
    | some g=>LTz P rs k' ds R Y (aJ g t) st
    | none=>ej P rs R Y gl cuts rc n k' ds t st
   | none=>False
  | .code .ret::_=>mc P false rs R ds t st
  | .code (.region id ops draw)::k=>match draw with
   | false=>match cw ops with
    | none=>eZ P (fun t st=>mB P ds st (fun st'=>fX P rs R t st') Y) ops (List.range ops.size) (fun t st=>match rc.lookup id with
      | some g=>LTz P rs k ds R Y (aJ g t) st
      | none=>ej P rs R Y gl cuts rc n k ds t st) t st
    | some p=>bw P ops (List.range (ops.size-1)) (fun t st=>match vW P t p.2 with
     | some d=>ej P rs R Y gl cuts rc n k (d::ds) (aW t p.1.dst af) st
     | none=>False) t st
   | true=>match iu ops (Region.before ops) with
    | true=>cI P (zY ds Y) ops (Region.before ops) (cW P ops) (fun t st=>match rc.lookup id with
      | some g=>LTz P rs k ds R Y (aJ g t) st
      | none=>ej P rs R Y gl cuts rc n k ds t st) ops.size 0 [] t st
    | false=>False
  | _=>False
theorem gU (hm:P.follows .mixedOrders=true) {gl:List Nat} {cuts rc:List (Nat × List Nat)}:∀ (n:Nat) {k:List Item} {ds:List cm} {t:List LV} {st:aa},
  ej P rs R Y gl cuts rc n k ds t st→LTz P rs k ds R Y t st
 | 0,_,_,_,_,h=>h
 | n+1,k,ds,t,st,h=>by
  have go:∀ {k ds t st},ej P rs R Y gl cuts rc n k ds t st→LTz P rs k ds R Y t st:=fun h=>gU hm n h
  have behind:∀ {id:Nat} {k ds t st},(match rc.lookup id with
    | some g=>LTz P rs k ds R Y (aJ g t) st
    | none=>ej P rs R Y gl cuts rc n k ds t st)→LTz P rs k ds R Y t st:=by
   intro id k ds t st h
   split at h
   ·exact h.forget
   ·exact go h
  unfold ej at h
  split at h
  ·exact (dP (dk:=false) (fun b a cs w=>step_end) h).z
  ·exact LTz.move (fun b a cs w=>step_skip) (go h)
  ·exact LTz.move (fun b a cs w=>step_label) (go h)
  ·exact LTz.move (fun b a cs w=>step_seq) (go h)
  ·unfold bd at h
   split at h
   ·rename_i v hv
    unfold aL at h
    split at h
    ·exact LTz.cond hv (go h)
    ·exact LTz.cond hv (go h)
    ·exact h.elim
   ·exact h.elim
  ·exact LTz.move (fun b a cs w=>step_block) (go h)
  ·rename_i c k
   intro w0 β w a fn h1 h2 h3 h4 b cs hf hk
   obtain ⟨e,w',fr,h5,h6,h7,h8⟩:=h.forget w0 β w a fn h1 h2 h3 h4 b cs hf hk
   refine ⟨e,w',fr,h5,?_,h7,h8⟩
   have hs1:step P (lone (b.at a (.code (.loop c)::k)) cs w)=.next (lone (b.at a (.code c::.inLoop c::k)) cs w):=step_loop
   have hs2:step P (lone (b.at a (.inLoop c::k)) cs w)=.next (lone (b.at a (.code c::.inLoop c::k)) cs w):=step_inLoop
   have same:∀ {m:Nat},runN P m (lone (b.at a (.inLoop c::k)) cs w)=.next (lone fr cs w')→(fr.mode=.run→False)→Steps P (lone (b.at a (.code (.loop c)::k)) cs w) (lone fr cs w'):=by
    intro m hm' hne
    cases m with
    | zero=>
     simp only[runN] at hm'
     have hfr:fr=b.at a (.inLoop c::k):=by
      simp only[lone,Stepped.next.injEq,Machine.mk.injEq] at hm'
      have:=hm'.2.1
      simp only[Array.mk.injEq,List.cons.injEq,Goroutine.mk.injEq] at this
      exact this.1.1.symm
     exact (hne (by rw[hfr];rfl)).elim
    | succ m=>
     simp only[runN,hs2] at hm'
     exact ⟨m+1,by simp only[runN,hs1];exact hm'⟩
   cases e with
   | returned v=>
    obtain ⟨m,hm'⟩:=h6
    exact same hm' fun e=>by rw[h8.1] at e;cases e
   | panicked ch=>
    obtain ⟨m,hm'⟩:=h6
    exact same hm' fun e=>by rw[h8.1] at e;cases e
   | outgrown=>
    rcases h5 with ⟨_,r,_,v,_,he,_⟩ | ⟨_,_,_,_,he,_⟩<;>cases he
  ·exact h.forget
  ·split at h
   ·exact LTz.move (fun b a cs w=>step_inBlock) h.forget
   ·exact LTz.move (fun b a cs w=>step_inBlock) (go h)
  ·exact LTz.move (fun b a cs w=>step_inScope) (go h)
  ·split at h
   ·rename_i k' hx
    split at h
    ·exact LTz.move (fun b a cs w=>step_exit hx) h.forget
    ·exact LTz.move (fun b a cs w=>step_exit hx) (go h)
   ·exact h.elim
  ·exact (dP (dk:=false) (fun b a cs w=>step_ret) h).z
  ·rename_i id ops draw k
   split at h
   ·split at h
    ·refine LTz.code fun w0 β w a h1 h2=>?_
     exact wp_region (fh h1 h2 rfl h (fun β' t' st' a' w' k1 k2 k3 k4 k5=>.inl ⟨rfl,β',t',st',behind k1,k2,k3,k4,k5⟩)
      fun β' t' st' a' w' u k1 k2 k3 k4 k5=>.inr ⟨u,β',t',st',rfl,k1,k2,k3,k4,k5⟩)
    ·rename_i p hd
     obtain ⟨o,c⟩:=p
     refine LTz.rY fun w0 β w a h1 h2=>?_
     refine wp_region ?_
     obtain ⟨m,hm'⟩:∃ m,ops.size=m+1:=by
      refine ⟨ops.size-1,?_⟩
      unfold cw at hd
      split at hd
      ·rename_i o' ho'
       have:=(Array.getElem?_eq_some_iff.1 ho').1
       omega
      ·cases hd
     have ho:ops[m]?=some o∧o.op=.defer c∧o.guard=none:=by
      unfold cw at hd
      rw[hm',Nat.add_sub_cancel] at hd
      split at hd
      ·rename_i o' ho'
       split at hd
       ·rename_i c' e1 e2
        cases hd
        exact ⟨ho',e1,e2⟩
       ·cases hd
      ·cases hd
     rw[hm',Nat.add_sub_cancel] at h
     rw[hm',List.range_succ]
     refine dc h1 h2 rfl h fun β' t' st'' a' w' k1 k2 k3 k4 k5=>?_
     split at k1
     ·rename_i d hl
      obtain ⟨dv,e1,e2⟩:=gQ (w:=w') ho.2.1 hl k3
      simp only[wpOps,ho.1]
      have hw:Region.wanted o (yielded ops a'.tmps)=true:=by simp[Region.wanted,ho.2.2]
      rw[if_pos hw]
      refine .inl ?_
      unfold Oper.wp
      rw[e1]
      refine ⟨trivial,β',_,_,d,dv,go k1,k2,?_,?_,e2,k5⟩
      ·exact bZ (a:={ a' with defers:=dv::a'.defers }) k3 Rp.undef
      ·rw[put_defers'];show dv::a'.defers=dv::a.defers;rw[k4]
     ·exact k1.elim
   ·split at h
    ·rename_i hok
     refine LTz.code fun w0 β w a h1 h2=>?_
     refine wp_region_any hm (wa (rq hok) _ (T0:=t) (T:=t) (TD:=t) (D:=Array.replicate _ false) (m:=0) (pend:=[]) (β:=β) ?_ h (h1.qI (Nat.le_succ _)) h2 rfl ?_ ?_ ?_)
     ·have hn:∀ (N i:Nat),¬ In (Array.replicate N false) i:=by
       intro N i hi
       unfold In at hi
       simp[Array.getElem?_replicate] at hi
       split at hi<;>simp at hi
      have he:∀ N,aG N 0=Array.replicate N false:=fun N=>by apply Array.ext<;>simp[aG]
      rw[he]
      exact ⟨⟨by simp,fun i o hi=>absurd hi (hn _ i)⟩,⟨by simp,fun i o hi=>absurd hi (hn _ i)⟩,fun i hi=>hi,⟨rfl,fun i o d hi=>absurd hi (hn _ i),fun _ _=>rfl⟩,⟨rfl,fun i o d hi=>absurd hi (hn _ i),fun _ _=>rfl⟩,
       fun i o hi=>absurd hi (hn _ i),fun j o hj=>absurd hj (hn _ j)⟩
     ·unfold todo
      exact Nat.le_trans (List.length_filter_le _ _) (by simp)
     ·intro β' t' st' a' w' k1 k2 k3 k4 k5
      exact .inl ⟨rfl,β',t',st',behind k1,k2,k3,k4,k5⟩
     ·intro β' t' st' a' w' u k1 k2 k3 k4 k5
      refine .inr ⟨u,β',t',st',rfl,?_,k2,k3,k4,k5⟩
      unfold zY at k1
      split at k1
      ·exact k1
      ·exact k1.elim
    ·exact h.elim
  ·exact h.elim
theorem LTz.atE (hm:P.follows .mixedOrders=true) {gl:List Nat} {cuts rc:List (Nat × List Nat)} {n:Nat} {k:List Item} {ds:List cm} {t:List LV} {st:aa} {W:Prop}
  (e:ej P rs R Y gl cuts rc n (bB k) ds t st=W) (h:W):LTz P rs k ds R Y t st:=by
 have h:=e.mpr h
 unfold bB at h
 split at h
 ·exact LTz.move (fun b a cs w=>step_inLoop) (gU hm n h)
 ·exact gU hm n h
theorem a7.ofE {f:FuncId} {fn:Func} {c:Code} {xs:List LV} {st:aa} {gl:List Nat} {cuts rc:List (Nat × List Nat)} {n:Nat} {W:Prop} (hm:P.follows .mixedOrders=true)
  (hf:P.funcs[f]?=some fn) (hb:fn.body=some c) (hn:(fn.name == "runtime.NumGoroutine")=false) (hrs:fn.results.toList=rs)
  (e:ej P rs R Y gl cuts rc n [.code c] [] (xs++List.replicate (fn.ntmps-xs.length) af) st=W) (h:W):a7 P f xs st R Y:=a7.ofG hf hb hn hrs (gU hm n (e.mpr h))
end
theorem a7.deep {P:Program} {f:FuncId} {xs:List LV} {st:aa} {R:LV→aa→Prop} {Y:aa→Prop} {pc:Prop} (h:a7 P f xs [] (fun r s=>∃ v,dp s v r∧v.plain=true∧R v st) fun _=>pc) (hx:LV.ar xs=true)
  (hY:pc→Y st):a7 P f xs st R Y:=by
 have go:∀ {w0:World} {β:Lay} {w w':World} {u:Value} {β':Lay} {r v:LV} {st':aa},Rel w0 β st w→dp st' v r→v.plain=true→Rp β' r u→Rel w β' st' w'→(β.bare w.heap.size).le β'→
   ∃ β2,Rp β2 v u∧Rel w0 β2 st w'∧β.le β2:=by
  intro w0 β w w' u β' r v st' h1 hd hv hr hrel hle
  have e:=pY hrel hle fun _=>rfl
  obtain ⟨k1,k2⟩:=h1.behind hrel.below e (kj hrel)
  exact ⟨_,Rp.ct (β:=β'.frz st' w') (β':=β.fz (β'.frz st' w')) (fun _ _ e=>e) hv (iy hrel hd hr),k1,k2⟩
 rcases h with h|h
 ·refine .inl ⟨h.1,fun w0 β w vs h1 h2=>?_⟩
  refine (h.2 w _ w vs h1.bare (Rps.ct (β:=β) (β':=β.bare w.heap.size) (fun _ _ e=>e) hx h2)).mono ?_
  rintro e w' (⟨β',r,st',u,⟨v,hd,hv,hR⟩,rfl,h4,h5,h6⟩ | ⟨β',st',u,hp,rfl,h5,h6⟩)
  ·obtain ⟨β2,k1,k2,k3⟩:=go h1 hd hv h4 h5 h6
   exact .inl ⟨β2,v,st,u,hR,rfl,k1,k2,k3⟩
  ·have e:=pY h5 h6 fun _=>rfl
   obtain ⟨k1,k2⟩:=h1.behind h5.below e (kj h5)
   exact .inr ⟨_,st,u,hY hp,rfl,k1,k2⟩
 ·refine .inr fun w0 β w vs h1 h2=>?_
  obtain ⟨u,w',h3,β',r,st',⟨v,hd,hv,hR⟩,h5,h6,h7⟩:=h w _ w vs h1.bare (Rps.ct (β:=β) (β':=β.bare w.heap.size) (fun _ _ e=>e) hx h2)
  obtain ⟨β2,k1,k2,k3⟩:=go h1 hd hv h5 h6 h7
  exact ⟨u,w',h3,β2,v,st,hR,k1,k2,k3⟩
structure PuZ (P:Program) (f:FuncId) (xs:List LV) (Q:LV→Prop) (pc:Prop):Prop where
 call:∀ {st:aa} {R:LV→aa→Prop} {Y:aa→Prop},(∀ v,Q v→R v st)→(pc→Y st)→a7 P f xs st R Y
theorem a7.mono {P:Program} {f:FuncId} {xs:List LV} {st:aa} {R R':LV→aa→Prop} {Y Y':aa→Prop} (h:a7 P f xs st R Y) (hr:∀ v s,R v s→R' v s) (hy:∀ s,Y s→Y' s):a7 P f xs st R' Y':=by
 rcases h with h|h
 ·exact .inl ⟨h.1,fun w0 β w vs h1 h2=>(h.2 w0 β w vs h1 h2).mono fun _ _ h=>h.imp (fun ⟨β',r,st',v,k1,k2⟩=>⟨β',r,st',v,hr _ _ k1,k2⟩) fun ⟨β',st',u,k1,k2⟩=>⟨β',st',u,hy _ k1,k2⟩⟩
 ·exact .inr fun w0 β w vs h1 h2=>let ⟨u,w',h3,β',r,st',k1,k2⟩:=h w0 β w vs h1 h2;⟨u,w',h3,β',r,st',hr _ _ k1,k2⟩
theorem PuZ.of {P:Program} {f:FuncId} {xs:List LV} {Q:LV→Prop} {pc:Prop} (h:a7 P f xs [] (Dp Q) fun _=>pc) (hx:LV.ar xs=true):PuZ P f xs Q pc:=
 ⟨fun hR hY=>a7.deep (h.mono (fun _ _ ⟨v,h1,h2,h3⟩=>⟨v,h1,h2,hR v h3⟩) fun _ h=>h) hx hY⟩
theorem Pu.z {P:Program} {f:FuncId} {xs:List LV} {v:LV} {Q:LV→Prop} {pc:Prop} (h:Pu P f xs v) (hq:Q v):PuZ P f xs Q pc:=⟨fun hR _=>(h.call (hR v hq)).z⟩
def jI (P:Program) (rs:List ResultVar) (K:aa→Prop):Nat→Bool→List Item→List LV→aa→Prop
 | 0,_,_,_,_=>False
 | n+1,d,k,t,st=>match k with
  | []=>d=true∧fX P rs (fun _ s=>K s) t st
  | .code .skip::k=>jI P rs K n d k t st
  | .code (.label _)::k=>jI P rs K n d k t st
  | .code (.seq a b)::k=>jI P rs K n d (.code a::.code b::k) t st
  | .code (.cond c a b)::k=>bd (ev t c) fun v=>aL v (jI P rs K n d (.code a::k) t st) (jI P rs K n d (.code b::k) t st)
  | .code (.block id c)::k=>jI P rs K n d (.code c::.inBlock id::k) t st
  | .inBlock _::k=>jI P rs K n d k t st
  | .code (.exit id)::k=>match exitTo id k with
   | some k'=>jI P rs K n d k' t st
   | none=>False
  | .code .ret::_=>d=true∧fX P rs (fun _ s=>K s) t st
  | .code (.region _ ops draw)::k=>match draw with
   | false=>match gz true ops with
    | some o=>d=false∧bw P ops (List.range' 1 (ops.size-1)) (fun t st=>jI P rs K n true k t st) (aW t o.dst (.iface P.rt.typeAssertionError .aJ)) st
    | none=>bw P ops (List.range ops.size) (fun t st=>jI P rs K n d k t st) t st
   | true=>False
  | _=>False
section
variable {P:Program} {rs:List ResultVar} {K:aa→Prop}
theorem oH {b:Frame} {a:Act} {k:List Item} {c:Frame} {cs:List Frame} {w:World} {ops:Array Oper} {i:Nat} {rest:List Nat} {o:Oper} {cl:Call} {u:Value} (hb:b.kind=.deferred) (hc:c.mode=.panicking (mq P u)) (ho:ops[i]?=some o) (hg:o.guard=none)
  (hop:o.op=.call cl) (hcl:cl.callee=.builtin .recover) :
  step P (lone (b.at a (.inRegion ops (i::rest)::k)) (c::cs) w)=.next (lone (b.at (a.put o.dst (.iface P.rt.typeAssertionError u)) (.inRegion ops rest::k)) ({ c with mode:=.panicking (r6 P u) }::cs) w):=by
 have hw:Region.wanted o (yielded ops a.tmps)=true:=by simp[Region.wanted,hg]
 have hgo:=stepG_op (P:=P) (b:=b) (k:=k) (cs:=c::cs) (w:=w) (rest:=rest) ho hw
 have hfin:∀ v,(b.at a (.inRegion ops (i::rest)::k)).finish v=b.at (a.put o.dst v) (.inRegion ops rest::k):=by
  intro v;rw[Frame.finish_at,ho];rfl
 have hr:(execOp a.eval o).run P w=.ok .recover w:=by
  obtain ⟨bs,hcs⟩:=bp (P:=P) (w:=w) (ρ:=a.eval) hop hcl
  rw[hcs]
  rfl
 have hk:(b.at a (.inRegion ops (i::rest)::k)).kind=.deferred:=hb
 have htr:=tryRecover_deferred hk (c::cs)
 have hrec:recoverD (c::cs)=some (.iface P.rt.typeAssertionError u,{ c with mode:=.panicking (r6 P u) }::cs):=by simp[recoverD,hc,mq,r6]
 refine step_lone_go ?_
 rw[hgo,← hfin]
 simp only[Frame.at] at htr ⊢
 simp[stepG.apply,hr,htr,hrec]
def xn (P:Program) (u:Value):Bool→FrameMode
 | false=>.panicking (mq P u)
 | true=>.panicking (r6 P u)
def LTr (P:Program) (rs:List ResultVar) (K:aa→Prop) (d:Bool) (k:List Item) (t:List LV) (st:aa):Prop:=
 ∀ w0 β w a fn u,Rel w0 β st w→Rps β t a.tmps.toList→a.defers=[]→fn.results.toList=rs→∀ (b c:Frame) (cs:List Frame),P.funcs[b.fn]?=some fn→b.kind=.deferred→c.mode=xn P u d→
  ∃ β' st' r w' fr,K st'∧Rel w0 β' st' w'∧β.le β'∧Steps P (lone (b.at a k) (c::cs) w) (lone fr ({ c with mode:=xn P u true }::cs) w')∧fr.kind=.deferred∧fr.going P w' (.returned r)
theorem LTr.move {d:Bool} {k k':List Item} {t:List LV} {st:aa} (hs:∀ (b:Frame) (a:Act) (cs:List Frame) (w:World),step P (lone (b.at a k) cs w)=.next (lone (b.at a k') cs w))
  (h:LTr P rs K d k' t st):LTr P rs K d k t st:=
 fun w0 β w a fn u h1 h2 h3 h4 b c cs hf hk hc=>
  let ⟨β',st',r,w',fr,h5,h6,h7,h8,h9⟩:=h w0 β w a fn u h1 h2 h3 h4 b c cs hf hk hc
  ⟨β',st',r,w',fr,h5,h6,h7,.head (hs b a _ w) h8,h9⟩
theorem LTr.finish {k:List Item} {t:List LV} {st:aa} (hs:∀ (b:Frame) (a:Act) (cs:List Frame) (w:World),step P (lone (b.at a k) cs w)=.next (lone { b.at a k with mode:=.returning } cs w))
  (h:fX P rs (fun _ s=>K s) t st):LTr P rs K true k t st:=by
 intro w0 β w a fn u h1 h2 h3 h4 b c cs hf hk hc
 unfold fX at h
 obtain ⟨vs,hvs,h⟩:=dH h
 rw[← h4] at hvs
 obtain ⟨v,h5,h6⟩:=dA h1 h2 hvs
 have hc':({ c with mode:=xn P u true }:Frame)=c:=by rw[← hc]
 rw[hc']
 exact ⟨β,st,v,w,{ b.at a k with mode:=.returning },h,h1,Lay.le.refl _,.one (hs b a _ w),hk,rfl,h3,fn,hf,h5⟩
theorem nX:∀ (n:Nat) {d:Bool} {k:List Item} {t:List LV} {st:aa},jI P rs K n d k t st→LTr P rs K d k t st
 | 0,_,_,_,_,h=>h.elim
 | n+1,d,k,t,st,h=>by
  have go:∀ {d k t st},jI P rs K n d k t st→LTr P rs K d k t st:=fun h=>nX n h
  unfold jI at h
  split at h
  ·obtain ⟨rfl,h⟩:=h
   exact LTr.finish (fun b a cs w=>step_end) h
  ·exact LTr.move (fun b a cs w=>step_skip) (go h)
  ·exact LTr.move (fun b a cs w=>step_label) (go h)
  ·exact LTr.move (fun b a cs w=>step_seq) (go h)
  ·unfold bd at h
   split at h
   case h_2=>exact h.elim
   rename_i v hv
   unfold aL at h
   have cnd:∀ {o:Operand} {b0:Bool} {x y:Code} {k:List Item},ev t o=some (.bool b0)→LTr P rs K d (.code (if b0 then x else y)::k) t st→LTr P rs K d (.code (.cond o x y)::k) t st:=by
    intro o b0 x y k hv h w0 β w a fn u h1 h2 h3 h4 b c cs hf hk hc
    have hr:=au h2 hv
    simp only[Rp] at hr
    obtain ⟨β',st',r,w',fr,h5,h6,h7,h8,h9⟩:=h w0 β w a fn u h1 h2 h3 h4 b c cs hf hk hc
    exact ⟨β',st',r,w',fr,h5,h6,h7,.head (step_cond hr) h8,h9⟩
   split at h
   ·exact cnd hv (go h)
   ·exact cnd hv (go h)
   ·exact h.elim
  ·exact LTr.move (fun b a cs w=>step_block) (go h)
  ·exact LTr.move (fun b a cs w=>step_inBlock) (go h)
  ·split at h
   ·rename_i k' hx
    exact LTr.move (fun b a cs w=>step_exit hx) (go h)
   ·exact h.elim
  ·obtain ⟨rfl,h⟩:=h
   exact LTr.finish (fun b a cs w=>step_ret) h
  ·rename_i id ops draw k
   split at h
   case h_2=>exact h.elim
   split at h
   ·rename_i o hrf
    obtain ⟨rfl,h⟩:=h
    obtain ⟨_,ho,hg,cl,hop,hcl⟩:=eK hrf
    obtain ⟨m,hm'⟩:∃ m,ops.size=m+1:=⟨ops.size-1,by have:=(Array.getElem?_eq_some_iff.1 ho).1;omega⟩
    rw[hm',Nat.add_sub_cancel] at h
    intro w0 β w a fn u h1 h2 h3 h4 b c cs hf hk hc
    have s1:=step_region (P:=P) (b:=b) (a:=a) (k:=k) (cs:=c::cs) (w:=w) (id:=id) (ops:=ops)
    rw[hm',List.range_eq_range',List.range'_succ] at s1
    have s2:=oH (P:=P) (b:=b) (a:=a) (k:=k) (cs:=cs) (w:=w) (rest:=List.range' (0+1) m) hk hc ho hg hop hcl
    have hput:Rps β (aW t o.dst (.iface P.rt.typeAssertionError .aJ)) (a.put o.dst (.iface P.rt.typeAssertionError u)).tmps.toList:=bZ h2 ⟨u,rfl,trivial⟩
    have hops:=bN (dl:=[]) (Q:=fun e a' w'=>e=.normal∧∃ β' t' st',LTr P rs K true k t' st'∧Rel w0 β' st' w'∧Rps β' t' a'.tmps.toList∧a'.defers=[]∧β.le β') h1 hput (by rw[put_defers'];exact h3) h
     fun β' t' st' a' w' k1 k2 k3 k4 k5=>⟨rfl,β',t',st',go k1,k2,k3,k4,k5⟩
    obtain ⟨e,a',w',⟨he,β',t',st',k1,k2,k3,k4,k5⟩,harr⟩:=wp_ops _ _ _ hops b k ({ c with mode:=.panicking (r6 P u) }::cs)
    subst he
    obtain ⟨β2,st2,r,w2,fr,h5,h6,h7,h8,h9⟩:=k1 w0 β' w' a' fn u k2 k3 k4 h4 b { c with mode:=.panicking (r6 P u) } cs hf hk rfl
    exact ⟨β2,st2,r,w2,fr,h5,h6,k5.trans h7,.head s1 (.head s2 (Steps.trans harr h8)),h9⟩
   ·intro w0 β w a fn u h1 h2 h3 h4 b c cs hf hk hc
    have hops:=wp_region (P:=P) (id:=id) (bN (dl:=[]) (Q:=fun e a' w'=>e=.normal∧∃ β' t' st',LTr P rs K d k t' st'∧Rel w0 β' st' w'∧Rps β' t' a'.tmps.toList∧a'.defers=[]∧β.le β') h1 h2 h3 h
     fun β' t' st' a' w' k1 k2 k3 k4 k5=>⟨rfl,β',t',st',go k1,k2,k3,k4,k5⟩)
    obtain ⟨e,a',w',⟨he,β',t',st',k1,k2,k3,k4,k5⟩,harr⟩:=hops b k (c::cs)
    subst he
    obtain ⟨β2,st2,r,w2,fr,h5,h6,h7,h8,h9⟩:=k1 w0 β' w' a' fn u k2 k3 k4 h4 b c cs hf hk hc
    exact ⟨β2,st2,r,w2,fr,h5,h6,k5.trans h7,Steps.trans harr h8,h9⟩
  ·exact h.elim
theorem gS.of {f:FuncId} {fn:Func} {c:Code} {xs:List LV} {st:aa} {n:Nat} (hf:P.funcs[f]?=some fn) (hb:fn.body=some c) (hrs:fn.results.toList=rs)
  (h:jI P rs K n false [.code c] (xs++List.replicate (fn.ntmps-xs.length) af) st):gS P f xs st K:=by
 intro w0 β w vs u h1 h2 c0 cs hu
 let b:Frame:={ (default:Frame) with fn:=f,kind:=.deferred }
 have henter:Frame.enter P f ⟨vs⟩ .deferred=b.at { tmps:=(⟨vs⟩:Array Value)++Array.replicate (fn.ntmps-vs.length) undef,defers:=[] } [.code c]:=by
  simp[Frame.enter,Frame.at,hf,hb,b]
 have htm:Rps β (xs++List.replicate (fn.ntmps-xs.length) af) ((⟨vs⟩:Array Value)++Array.replicate (fn.ntmps-vs.length) undef).toList:=by
  rw[show ((⟨vs⟩:Array Value)++Array.replicate (fn.ntmps-vs.length) undef).toList=vs++List.replicate (fn.ntmps-xs.length) undef by simp[h2.length]]
  exact h2.append (Rps.replicate Rp.undef _)
 obtain ⟨β',st',r,w',fr,h5,h6,h7,h8,h9,h10⟩:=nX n h w0 β w { tmps:=(⟨vs⟩:Array Value)++Array.replicate (fn.ntmps-vs.length) undef,defers:=[] } fn u h1 htm rfl hrs b c0 cs hf rfl hu
 refine ⟨.returned r,.panicking (r6 P u),w',fr,⟨rfl,β',st',r,rfl,h5,h6,h7⟩,?_,h9,h10⟩
 rw[henter]
 exact h8
end
end Go.CP
