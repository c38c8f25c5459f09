/- Parts of the proof. -/
import Derived.Test.YtknegckgmklnhaaGreatDoorCp22
import Derived.ProofKit
import Derived.OpenShut
namespace Go.CP
def LX.then (x:LX) (next q:Prop):Prop:=match x with
 | .normal=>next
 | _=>q
def LX.inBlock (x:LX) (id:Nat) (next q:Prop):Prop:=match x with
 | .exit i=>cond (i==id) next q
 | _=>q
section
variable {P:Program}
theorem BV.le {w0:World} {Q:LX→List LV→aa→Prop} {β β':Lay} {e:Exit} {a:Act} {w:World} (h:BV w0 Q β' e a w) (hl:β.le β'):BV w0 Q β e a w:=
 let ⟨β'',x,t,st,h1,h2,h3,h4,h5,h6⟩:=h;⟨β'',x,t,st,h1,h2,h3,h4,h5,hl.trans h6⟩
theorem au.mono {f:FuncId} {xs:List LV} {st:aa} {R R':LV→aa→Prop} (h:au P f xs st R) (hr:∀ v st,R v st→R' v st):au P f xs st R':=by
 rcases h with h|h
 ·exact .inl ⟨h.1,fun w0 β w vs h1 h2=>(h.2 w0 β w vs h1 h2).mono fun _ _ ⟨β',r,st',v,h3,h4⟩=>⟨β',r,st',v,hr _ _ h3,h4⟩⟩
 ·exact .inr fun w0 β w vs h1 h2=>let ⟨u,w',h3,β',r,st',h4,h5⟩:=h w0 β w vs h1 h2;⟨u,w',h3,β',r,st',hr _ _ h4,h5⟩
def ta (P:Program) (t:List LV) (st:aa):ResultVar→Option LV
 | .tmp i=>some (t.getD i aB)
 | .cell a ty=>ox P st ty (t.getD a aB)
def nv (P:Program) (t:List LV) (st:aa):List ResultVar→Option (List LV)
 | []=>some []
 | r::rs=>match ta P t st r,nv P t st rs with
  | some v,some vs=>some (v::vs)
  | _,_=>none
def nx (P:Program) (t:List LV) (st:aa):List ResultVar→(List LV→Prop)→Prop
 | [],K=>K []
 | .tmp i::rs,K=>nx P t st rs fun vs=>K (t.getD i aB::vs)
 | .cell a ty::rs,K=>bd (ox P st ty (t.getD a aB)) fun v=>nx P t st rs fun vs=>K (v::vs)
theorem gj {t:List LV} {st:aa}:∀ {rs:List ResultVar} {K:List LV→Prop},nx P t st rs K→∃ vs,nv P t st rs=some vs∧K vs
 | [],K,h=>⟨[],rfl,h⟩
 | .tmp i::rs,K,h=>by
  simp only[nx] at h
  obtain ⟨vs,h1,h2⟩:=gj h
  exact ⟨_,by simp[nv,ta,h1],h2⟩
 | .cell a ty::rs,K,h=>by
  simp only[nx] at h
  unfold bd at h
  split at h
  ·rename_i v hv
   obtain ⟨vs,h1,h2⟩:=gj h
   exact ⟨_,by simp only[nv,ta,h1,hv],h2⟩
  ·exact h.elim
def wv:List LV→LV
 | [v]=>v
 | vs=>.tup vs
theorem ny {w0:World} {β:Lay} {st:aa} {w:World} {t:List LV} {tmps:Array Value} (h:Rel w0 β st w) (ht:Rps β t tmps.toList):∀ {rs:List ResultVar} {vs:List LV},nv P t st rs=some vs→
  ∃ us:List Value,(rs.mapM (fun
   | .tmp t=>pure (tmps.getD t undef)
   | .cell a t=>do loadVar t (← asAddr (tmps.getD a undef))):Sem (List Value)).run P w=.ok us w∧Rps β vs us
 | [],vs,hl=>by simp[nv] at hl;subst hl;exact ⟨[],rfl,rfl⟩
 | r::rs,vs,hl=>by
  simp only[nv] at hl
  split at hl
  ·rename_i v vs' h1 h2
   simp at hl;subst hl
   obtain ⟨us,h3,h4⟩:=ny h ht h2
   have hg:∀ i,Rp β (t.getD i aB) (tmps.getD i undef):=by
    intro i
    have:=ht.getD i
    simpa[Array.getD_eq_getD_getElem?,List.getD_eq_getElem?_getD] using this
   cases r with
   | tmp i=>
    simp[ta] at h1;subst h1
    refine ⟨tmps.getD i undef::us,?_,_,_,rfl,by simpa using hg i,h4⟩
    simp only[List.mapM_cons,Sem.run_bind,Sem.run_pure,Result.andThen_ok,h3]
   | cell a ty=>
    simp only[ta] at h1
    obtain ⟨u,h5,h6⟩:=oW (P:=P) h (hg a) h1
    refine ⟨u::us,?_,_,_,rfl,h6,h4⟩
    unfold Instr.loadAt at h5
    -- the address is one
    have hp:∃ x,tmps.getD a undef=.pointer (some x):=by
     have hga:=hg a
     unfold ox at h1
     split at h1
     ·split at h1
      ·unfold ldA at h1
       split at h1
       ·rename_i o k e;rw[e] at hga;obtain ⟨b,_,e2⟩:=hga;exact ⟨_,e2⟩
       ·rename_i g k e;rw[e] at hga;exact ⟨_,hga⟩
       ·rename_i cs k e;rw[e] at hga;obtain ⟨_,b,_,_,e2,_⟩:=hga;exact ⟨_,e2⟩
       ·simp at h1
      ·unfold ld1 at h1
       split at h1
       ·rename_i o k e;rw[e] at hga;obtain ⟨b,_,e2⟩:=hga;exact ⟨_,e2⟩
       ·rename_i g k e;rw[e] at hga;exact ⟨_,hga⟩
       ·rename_i cs k e;rw[e] at hga;obtain ⟨_,b,_,_,e2,_⟩:=hga;exact ⟨_,e2⟩
       ·simp at h1
     ·simp at h1
    obtain ⟨x,hx⟩:=hp
    rw[hx] at h5
    simp only[Instr.sureAddr,Sem.run_bind,Sem.run_pure,Result.andThen_ok] at h5
    have hadd:asAddr (tmps.getD a undef)=pure x:=by rw[hx];rfl
    simp only[List.mapM_cons,Sem.run_bind,hadd,Sem.run_pure,Result.andThen_ok,h5,h3]
  ·simp at hl
theorem gV {w0:World} {β:Lay} {st:aa} {w:World} {t:List LV} {tmps:Array Value} {fn:Func} {vs:List LV} (h:Rel w0 β st w) (ht:Rps β t tmps.toList) (hl:nv P t st fn.results.toList=some vs) :
  ∃ u,(results fn tmps).run P w=.ok u w∧Rp β (wv vs) u:=by
 obtain ⟨us,h1,h2⟩:=ny h ht hl
 unfold results
 rw[Array.mapM_eq_mapM_toList]
 refine ⟨if h:(us.toArray).size=1 then us.toArray[0] else .tuple us.toArray,?_,?_⟩
 ·simp only[Sem.run_bind,Sem.run_map,Sem.run_pure]
  erw [h1]
  rfl
 ·have hlen:=h2.length
  match vs,us,h2,hlen with
  | [],[],_,_=>exact ⟨[],rfl,rfl⟩
  | [v],[u],⟨_,_,e,r,_⟩,_=>simp only[List.cons.injEq] at e;obtain ⟨rfl,_⟩:=e;exact r
  | v::v'::vs,u::u'::us,h2,_=>exact ⟨_,by simp,h2⟩
  | [],_::_,_,hl=>simp at hl
  | [_],[],_,hl=>simp at hl
  | [_],_::_::_,_,hl=>simp at hl
  | _::_::_,[],_,hl=>simp at hl
  | _::_::_,[_],_,hl=>simp at hl
end
def aQ (g:List Nat) (t:List LV):List LV:=g.foldl (fun t i=>t.set i .aQ) t
def LT (P:Program) (rs:List ResultVar) (k:List Item) (R:LV→aa→Prop) (t:List LV) (st:aa):Prop:=
 ∀ w0 β w a fn,Rel w0 β st w→Rps β t a.tmps.toList→a.defers=[]→fn.results.toList=rs→∀ (b:Frame) (cs:List Frame),P.funcs[b.fn]?=some fn→b.kind=.normal→
  ∃ e w' fr,sD w0 R β e w'∧Comes P (lone (b.at a k) cs w) (lone fr cs w') e∧fr.fn=b.fn∧fr.leaving P w' e
def nY (P:Program) (rs:List ResultVar) (R:LV→aa→Prop) (t:List LV) (st:aa):Prop:=nx P t st rs fun vs=>R (wv vs) st
def jA (P:Program) (rs:List ResultVar) (R:LV→aa→Prop) (g cuts:List Nat):Nat→List Item→List LV→aa→Prop
 | 0,k,t,st=>LT P rs k R t st
 | n+1,k,t,st=>match k with
  | []=>nY P rs R t st
  | .code .skip::k=>jA P rs R g cuts n k t st
  | .code (.label _)::k=>jA P rs R g cuts n k t st
  | .code (.seq a b)::k=>jA P rs R g cuts n (.code a::.code b::k) t st
  | .code (.cond c a b)::k=>bd (ev t c) fun v=>ak v (jA P rs R g cuts n (.code a::k) t st) (jA P rs R g cuts n (.code b::k) t st)
  | .code (.block id c)::k=>jA P rs R g cuts n (.code c::.inBlock id::k) t st
  | .code (.loop c)::k=>LT P rs (.inLoop c::k) R (aQ g t) st
  | .inLoop c::k=>LT P rs (.inLoop c::k) R (aQ g t) st
  | .inBlock id::k=>match cuts.contains id with
   | true=>LT P rs k R (aQ g t) st
   | false=>jA P rs R g cuts n k t st
  | .inScope _::k=>jA P rs R g cuts n k t st
  | .code (.exit id)::k=>match exitTo id k with
   | some k'=>match cuts.contains id with
    | true=>LT P rs k' R (aQ g t) st
    | false=>jA P rs R g cuts n k' t st
   | none=>False
  | .code .ret::_=>nY P rs R t st
  | .code (.region _ ops draw)::k=>match draw with
   | false=>bN P ops (List.range ops.size) (fun t st=>jA P rs R g cuts n k t st) t st
   | true=>match mF ops (Region.before ops) with
    | true=>cm P ops (Region.before ops) (rowsOf P ops) (fun t st=>jA P rs R g cuts n k t st) ops.size 0 [] t st
    | false=>False
  | _=>False
section
variable {P:Program} {rs:List ResultVar} {R:LV→aa→Prop}
theorem ph {β:Lay}:∀ {g:List Nat} {t:List LV} {us:List Value},Rps β t us→Rps β (aQ g t) us
 | [],t,us,h=>h
 | i::g,t,us,h=>by
  have h1:Rps β (t.set i .aQ) us:=by
   apply Rps.ov
   ·rw[h.length];simp
   ·intro j x hx
    rw[List.getElem?_set] at hx
    split at hx
    ·rename_i e;subst e
     split at hx
     ·rename_i hlt
      simp at hx;subst hx
      exact ⟨us[i]'(by rw[h.length];exact hlt),by simp[h.length,hlt],trivial⟩
     ·simp at hx
    ·exact h.get hx
  exact ph (g:=g) h1
theorem LT.forget {k:List Item} {g:List Nat} {t:List LV} {st:aa} (h:LT P rs k R (aQ g t) st):LT P rs k R t st:=
 fun w0 β w a fn h1 h2 h3 h4 b cs hf hk=>h w0 β w a fn h1 (ph h2) h3 h4 b cs hf hk
theorem sD.le {w0:World} {R:LV→aa→Prop} {β β':Lay} {e:Ending} {w:World} (h:sD w0 R β' e w) (hl:β.le β'):sD w0 R β e w:=
 let ⟨β'',r,st',v,h1,h2,h3,h4,h5⟩:=h;⟨β'',r,st',v,h1,h2,h3,h4,hl.trans h5⟩
theorem LT.move {k k':List Item} {t:List LV} {st:aa} (hs:∀ (b:Frame) (a:Act) (cs:List Frame) (w:World),step P (lone (b.at a k) cs w)=.next (lone (b.at a k') cs w))
  (h:LT P rs k' R t st):LT P rs k R t st:=
 fun w0 β w a fn h1 h2 h3 h4 b cs hf hk=>
  let ⟨e,w',fr,h5,h6,h7,h8⟩:=h w0 β w a fn h1 h2 h3 h4 b cs hf hk
  ⟨e,w',fr,h5,.of_steps (.one (hs b a cs w)) h6,h7,h8⟩
theorem step_inScope {b:Frame} {a:Act} {c:Code} {k:List Item} {cs:List Frame} {w:World}:step P (lone (b.at a (.inScope c::k)) cs w)=.next (lone (b.at a k) cs w):=
 step_lone_go (by simp[stepG,stepG.exec,Frame.at])
theorem LT.end_ {k:List Item} {t:List LV} {st:aa} (hs:∀ (b:Frame) (a:Act) (cs:List Frame) (w:World),step P (lone (b.at a k) cs w)=.next (lone { b.at a k with mode:=.returning } cs w))
  (h:nY P rs R t st):LT P rs k R t st:=by
 intro w0 β w a fn h1 h2 h3 h4 b cs hf hk
 unfold nY at h
 obtain ⟨vs,hvs,h⟩:=gj h
 ·rw[← h4] at hvs
  obtain ⟨u,h5,h6⟩:=gV h1 h2 hvs
  exact ⟨.returned u,w,{ b.at a k with mode:=.returning },⟨β,_,st,u,h,rfl,h6,h1,Lay.le.refl _⟩,.one (hs b a cs w),rfl,rfl,h3,hk,fn,hf,h5⟩
theorem LT.code {c:Code} {k:List Item} {t:List LV} {st:aa}
  (h:∀ (w0:World) (β:Lay) (w:World) (a:Act),Rel w0 β st w→Rps β t a.tmps.toList→a.defers=[]→
   c.wp P (fun e a' w'=>e=.normal∧∃ β' t' st',LT P rs k R t' st'∧Rel w0 β' st' w'∧Rps β' t' a'.tmps.toList∧a'.defers=[]∧β.le β') a w):LT P rs (.code c::k) R t st:=by
 intro w0 β w a fn h1 h2 h3 h4 b cs hf hk
 obtain ⟨e,a',w',⟨he,β',t',st',k1,k2,k3,k4,k5⟩,harr⟩:=h w0 β w a h1 h2 h3 b k cs
 subst he
 obtain ⟨e,w'',fr,h5,h6,h7,h8⟩:=k1 w0 β' w' a' fn k2 k3 k4 h4 b cs hf hk
 exact ⟨e,w'',fr,h5.le k5,.of_steps harr h6,h7,h8⟩
theorem bP (hm:P.follows .mixedOrders=true) {g cuts:List Nat}:∀ (n:Nat) {k:List Item} {t:List LV} {st:aa},jA P rs R g cuts n k t st→LT P rs k R t st
 | 0,k,t,st,h=>h
 | n+1,k,t,st,h=>by
  unfold jA at h
  split at h
  ·exact LT.end_ (fun b a cs w=>step_end) h
  ·exact LT.move (fun b a cs w=>step_skip) (bP hm n h)
  ·exact LT.move (fun b a cs w=>step_label) (bP hm n h)
  ·exact LT.move (fun b a cs w=>step_seq) (bP hm n h)
  ·rename_i c x y k
   unfold bd at h
   split at h
   ·rename_i v hv
    intro w0 β w a fn h1 h2 h3 h4 b cs hf hk
    have hr:=aH h2 hv
    unfold ak at h
    split at h
    ·simp only[Rp] at hr
     obtain ⟨e,w',fr,h5,h6,h7,h8⟩:=bP hm n h w0 β w a fn h1 h2 h3 h4 b cs hf hk
     exact ⟨e,w',fr,h5,.of_steps (.one (step_cond hr)) h6,h7,h8⟩
    ·simp only[Rp] at hr
     obtain ⟨e,w',fr,h5,h6,h7,h8⟩:=bP hm n h w0 β w a fn h1 h2 h3 h4 b cs hf hk
     exact ⟨e,w',fr,h5,.of_steps (.one (step_cond hr)) h6,h7,h8⟩
    ·exact h.elim
   ·exact h.elim
  ·exact LT.move (fun b a cs w=>step_block) (bP hm n h)
  ·rename_i c k
   intro w0 β w a fn h1 h2 h3 h4 b cs hf hk
   -- both go on with the loop's body
   obtain ⟨e,w',fr,h5,h6,h7,h8⟩:=h.forget w0 β w a fn h1 h2 h3 h4 b cs hf hk
   refine ⟨e,w',fr,h5,?_,h7,h8⟩
   have hs1:step P (lone (b.at a (.code (.loop c)::k)) cs w)=.next (lone (b.at a (.code c::.inLoop c::k)) cs w):=step_loop
   have hs2:step P (lone (b.at a (.inLoop c::k)) cs w)=.next (lone (b.at a (.code c::.inLoop c::k)) cs w):=step_inLoop
   cases e with
   | returned v=>
    obtain ⟨m,hm'⟩:=h6
    cases m with
    | zero=>
     simp only[runN] at hm'
     have hfr:fr=b.at a (.inLoop c::k):=by
      simp only[lone,Stepped.next.injEq,Machine.mk.injEq] at hm'
      have:=hm'.2.1
      simp only[Array.mk.injEq,List.cons.injEq,Goroutine.mk.injEq] at this
      exact this.1.1.symm
     have hl:=h8.1
     rw[hfr] at hl;simp[Frame.at] at hl
    | succ m=>
     simp only[runN,hs2] at hm'
     exact ⟨m+1,by simp only[runN,hs1];exact hm'⟩
   | panicked ch=>obtain ⟨_,r,_,v,_,he,_⟩:=h5;cases he
   | outgrown=>obtain ⟨_,r,_,v,_,he,_⟩:=h5;cases he
  ·exact h.forget
  ·split at h
   ·exact LT.move (fun b a cs w=>step_inBlock) h.forget
   ·exact LT.move (fun b a cs w=>step_inBlock) (bP hm n h)
  ·exact LT.move (fun b a cs w=>step_inScope) (bP hm n h)
  ·split at h
   ·rename_i k' hx
    split at h
    ·exact LT.move (fun b a cs w=>step_exit hx) h.forget
    ·exact LT.move (fun b a cs w=>step_exit hx) (bP hm n h)
   ·exact h.elim
  ·exact LT.end_ (fun b a cs w=>step_ret) h
  ·split at h
   ·refine LT.code fun w0 β w a h1 h2 h3=>wp_region (cB h1 h2 h3 h fun β' t' st' a' w' k1 k2 k3 k4 k5=>⟨rfl,β',t',st',bP hm n k1,k2,k3,k4,k5⟩)
   ·split at h
    ·rename_i hok
     refine LT.code fun w0 β w a h1 h2 h3=>?_
     refine wp_region_any hm (lF (wo hok) _ (T0:=t) (T:=t) (TD:=t) (D:=Array.replicate _ false) (m:=0) (pend:=[]) (β:=β) ?_ h (h1.wa (Nat.le_succ _)) h2 h3 ?_ ?_)
     ·have hn:∀ (N i:Nat),¬ In (Array.replicate N false) i:=by
       intro N i hi
       unfold In at hi
       simp[Array.getElem?_replicate] at hi
       split at hi<;>simp at hi
      have he:∀ N,bp N 0=Array.replicate N false:=fun N=>by apply Array.ext<;>simp[bp]
      rw[he]
      exact ⟨⟨by simp,fun i o hi=>absurd hi (hn _ i)⟩,⟨by simp,fun i o hi=>absurd hi (hn _ i)⟩,fun i hi=>hi,⟨rfl,fun i o d hi=>absurd hi (hn _ i),fun _ _=>rfl⟩,⟨rfl,fun i o d hi=>absurd hi (hn _ i),fun _ _=>rfl⟩,
       fun i o hi=>absurd hi (hn _ i),fun j o hj=>absurd hj (hn _ j)⟩
     ·unfold todo
      exact Nat.le_trans (List.length_filter_le _ _) (by simp)
     ·intro β' t' st' a' w' k1 k2 k3 k4 k5
      exact ⟨rfl,β',t',st',bP hm n k1,k2,k3,k4,k5⟩
    ·exact h.elim
  ·exact h.elim
theorem LT.round (hm:P.follows .mixedOrders=true) {g cuts:List Nat} (n:Nat) {c:Code} {k:List Item} {t:List LV} {st:aa} (h:jA P rs R g cuts n (.code c::.inLoop c::k) t st) :
  LT P rs (.inLoop c::k) R t st:=LT.move (fun b a cs w=>step_inLoop) (bP hm n h)
theorem au.of {f:FuncId} {fn:Func} {c:Code} {xs:List LV} {st:aa} (hm:P.follows .mixedOrders=true)
  (hf:P.funcs[f]?=some fn) (hb:fn.body=some c) (hn:(fn.name == "runtime.NumGoroutine")=false) (hrs:fn.results.toList=rs)
  (h:LT P rs [.code c] R (xs++List.replicate (fn.ntmps-xs.length) aB) st):au P f xs st R:=by
 refine .inl ⟨⟨fn,c,hf,hb,hn⟩,fun w0 β w vs h1 h2 cs=>?_⟩
 let b:Frame:={ (default:Frame) with fn:=f,kind:=.normal }
 have henter:Frame.enter P f ⟨vs⟩ .normal=b.at { tmps:=(⟨vs⟩:Array Value)++Array.replicate (fn.ntmps-vs.length) undef,defers:=[] } [.code c]:=by
  simp[Frame.enter,Frame.at,hf,hb,b]
 rw[henter]
 have htm:Rps β (xs++List.replicate (fn.ntmps-xs.length) aB) ((⟨vs⟩:Array Value)++Array.replicate (fn.ntmps-vs.length) undef).toList:=by
  rw[show ((⟨vs⟩:Array Value)++Array.replicate (fn.ntmps-vs.length) undef).toList=vs++List.replicate (fn.ntmps-xs.length) undef by simp[h2.length]]
  exact h2.append (Rps.replicate Rp.undef _)
 obtain ⟨e,w',fr,h5,h6,h7,h8⟩:=h w0 β w { tmps:=(⟨vs⟩:Array Value)++Array.replicate (fn.ntmps-vs.length) undef,defers:=[] } fn h1 htm rfl hrs b cs hf rfl
 exact ⟨e,w',fr,h5,h6,h7,h8⟩
end
def iM:Code→List Item→List (List Item)
 | .seq a b,k=>iM a (.code b::k)++iM b k
 | .cond _ a b,k=>iM a k++iM b k
 | .block id c,k=>k::iM c (.inBlock id::k)
 | .loop c,k=>(.inLoop c::k)::iM c (.inLoop c::k)
 | _,_=>[]
def BX (fn:Func) (n:Nat):List Item:=match fn.body with
 | some c=>(iM c []).getD n []
 | none=>[]
def jB:List Item→List Item
 | .inLoop c::k=>.code c::.inLoop c::k
 | k=>k
theorem LT.at {P:Program} {rs:List ResultVar} {R:LV→aa→Prop} (hm:P.follows .mixedOrders=true) {g cuts:List Nat} (n:Nat) {k:List Item} {t:List LV} {st:aa}
  (h:jA P rs R g cuts n (jB k) t st):LT P rs k R t st:=by
 unfold jB at h
 split at h
 ·exact LT.round hm n h
 ·exact bP hm n h
def dz (fn:Func):Code:=match fn.body with
 | some c=>c
 | none=>.skip
section
variable {α β:Type} {st:aa} {o k len n:Nat} {l:List LV} {m:Md} {K1:LV→Prop}
@[simp] theorem ab {v:α} {K:α→Prop}:bd (some v) K=K v:=rfl
@[simp] theorem Dc {K:α→Prop}:bd none K=False:=rfl
@[simp] theorem ai {a:α} {b:β} {K:α→β→Prop}:bd2 (some (a,b)) K=K a b:=rfl
@[simp] theorem ah {p q:Prop}:ak (.bool true) p q=p:=rfl
@[simp] theorem ae {p q:Prop}:ak (.bool false) p q=q:=rfl
theorem bj {c p q:Prop} [Decidable c]:ak (.bool (decide c)) p q↔(c→p)∧(¬ c→q):=by
 by_cases h:c<;>simp[h]
theorem cX {b:Bool} {p q:Prop}:ak (.bool b) p q↔(b=true→p)∧(b=false→q):=by
 cases b<;>simp
@[simp] theorem cY {K:LV→aa→Prop}:nw st l K=K (.ptr st.length 0) (st++[.cells .rw l]):=rfl
@[simp] theorem De {K:LV→aa→Prop}:nwM m st l K=K (.ptr st.length 0) (st++[.cells m l]):=rfl
@[simp] theorem yF {K:LV→aa→Prop}:Bf st K=K (.map st.length) (st++[.map .rw [] [] 0]):=rfl
@[simp] theorem ay {s:aa}:lmk (some s)=some (aB,s):=rfl
@[simp] theorem bz {cs:List LV}:bJ st n (some cs)=some (.sl st.length 0 n (.ex n),st++[.cells .rw cs]):=rfl
@[simp] theorem aq:af (.ptr o k)=some (.ptr o k):=rfl
@[simp] theorem ao {d:Nat}:ad d (.ptr o k)=some (.ptr o (k+d)):=rfl
@[simp] theorem CH {b:Bool}:cV b .nilp .nilp=some true:=rfl
@[simp] theorem CI {b:Bool}:cV b (.ptr o k) .nilp=some false:=rfl
@[simp] theorem CJ {b:Bool}:cV b .nilp (.ptr o k)=some false:=rfl
@[simp] theorem CK:cV true (.ptr o k) (.ptr o k)=some true:=by simp[cV]
@[simp] theorem yG {g:Nat}:af (.ee g k)=some (.ee g k):=rfl
@[simp] theorem BZ {g d:Nat}:ad d (.ee g k)=some (.ee g (k+d)):=rfl
@[simp] theorem Cu:fF .rw .rw k=.rw:=by unfold fF;split<;>rfl
@[simp] theorem Cv {t:TypeId}:fF (.bt t) (.bt t) 0=.bt t:=by unfold fF;simp
@[simp] theorem Md.Dm {t:TypeId}:Md.w (.bt t)=true:=rfl
@[simp] theorem Md.w_rw':Md.w .rw=true:=rfl
@[simp] theorem cP {op:BinOp} {r:Bool}:eqB op (some r)=oy op r:=rfl
@[simp] theorem cw {r:Bool}:oy .eql r=some (.bool r):=rfl
@[simp] theorem Cw {r:Bool}:oy .neq r=some (.bool (!r)):=rfl
@[simp] theorem B0:bD .nils=some (.int .i64 0):=rfl
@[simp] theorem Cx:bD .emp=some (.int .i64 0):=rfl
@[simp] theorem td {c:df}:bD (.sl o k len c)=some (.int .i64 len):=rfl
@[simp] theorem aL {s:List UInt8}:bo (.str s)=some (.int .i64 s.length):=rfl
@[simp] theorem bq {b:Bool}:lun .not (.bool b)=some (.bool (!b)):=rfl
@[simp] theorem kb {k k':IntKind} {x:Int}:fj k (.int k' x)=some (.int k (k.wrap x)):=rfl
@[simp] theorem B1 {b:Bool} {x y:LV}:yB (.bool b) x y=some (cond b x y):=rfl
@[simp] theorem az {vs:List LV} {i:Nat}:ar (.tup vs) i=vs[i]?:=rfl
@[simp] theorem ag {op:BinOp} {k:IntKind} {x y:Int}:aj op (.int k x) (.int k y)=lint op k x y:=by simp[aj]
@[simp] theorem aK {k:IntKind} {x y:Int}:lint .add k x y=some (.int k (k.wrap (x+y))):=rfl
@[simp] theorem dR {k:IntKind} {x y:Int}:lint .sub k x y=some (.int k (k.wrap (x-y))):=rfl
@[simp] theorem CL {k:IntKind} {x y:Int}:lint .mul k x y=some (.int k (k.wrap (x*y))):=rfl
@[simp] theorem aR {k:IntKind} {x y:Int}:lint .eql k x y=some (.bool (x==y)):=rfl
@[simp] theorem bw {k:IntKind} {x y:Int}:lint .neq k x y=some (.bool (x != y)):=rfl
@[simp] theorem aG {k:IntKind} {x y:Int}:lint .lss k x y=some (.bool (decide (x<y))):=rfl
@[simp] theorem dA {k:IntKind} {x y:Int}:lint .leq k x y=some (.bool (decide (x≤y))):=rfl
@[simp] theorem cy {k:IntKind} {x y:Int}:lint .gtr k x y=some (.bool (decide (x > y))):=rfl
@[simp] theorem cZ {k:IntKind} {x y:Int}:lint .geq k x y=some (.bool (decide (x≥y))):=rfl
@[simp] theorem bA {op:BinOp} {x y:List UInt8}:bg op (.str x) (.str y)=qi op x y:=rfl
@[simp] theorem ct {x y:List UInt8}:qi .eql x y=some (.bool (x==y)):=rfl
@[simp] theorem gk {x y:List UInt8}:qi .neq x y=some (.bool (!(x==y))):=rfl
theorem aM (h:st[o]?=some (.cells m l)):ld1 st (.ptr o k)=l[k]?:=by simp[ld1,h]
theorem eS (h:st[o]?=some (.cells m l)) (hk:k+n≤l.length):ldA st (.ptr o k) n=some (.agg ((l.drop k).take n)):=by simp[ldA,h,hk]
theorem du {v:LV} (h:st[o]?=some (.cells m l)) (hk:k<l.length) (hv:v.one=true) (hm:m.w=true:=by rfl):stV st 1 (.ptr o k) v=some (st.set o (.cells m (l.set k v))):=by
 unfold stV
 cases v<;>simp_all [LV.one,LV.cells,LV.ok,st1]
theorem kc {vs:List LV} (h:st[o]?=some (.cells m l)) (hk:k+vs.length≤l.length) (hv:vs.all LV.one=true) (hn:vs.length=n) (hm:m.w=true:=by rfl) :
  stV st n (.ptr o k) (.agg vs)=some (st.set o (.cells m (bK l k vs))):=by
 unfold stV
 rw[if_pos ⟨hn,rfl⟩]
 simp only[stA,h]
 rw[if_pos ⟨hk,hv,hm⟩]
theorem iO {c:df} {sz:Nat} {i:Int} {kk:IntKind} (h0:0≤i) (h1:i<len):bh sz (.sl o k len c) (.int kk i)=some (.ptr o (k+i.toNat*sz)):=by
 simp[bh,h0,h1]
theorem bU {x y:al} (h:st[o]?=some x):(st++[y])[o]?=some x:=by
 rw[List.getElem?_append_left (by exact (List.getElem?_eq_some_iff.1 h).1)];exact h
theorem aA {y:al}:(st++[y])[st.length]?=some y:=by simp
theorem bu {x y:al} (h:st[o]?=some x):(st.set o y)[o]?=some y:=by
 rw[List.getElem?_set_self (List.getElem?_eq_some_iff.1 h).1]
theorem ba {o':Nat} {y:al} (h:o'≠o):(st.set o' y)[o]?=st[o]?:=by
 rw[List.getElem?_set_ne h]
theorem cI {x:al} (h:st[o]?=some x):o<st.length:=(List.getElem?_eq_some_iff.1 h).1
theorem wrap_i64 {n:Int} (h1 : -9223372036854775808≤n) (h2:n<9223372036854775808):IntKind.i64.wrap n=n:=by
 rw[IntKind.wrap_i64];omega
structure Fr (st st':aa) (S:Nat→Prop):Prop where
 len:st.length≤st'.length
 same:∀ j,j<st.length→¬ S j→st'[j]?=st[j]?
theorem Fr.refl {S:Nat→Prop}:Fr st st S:=⟨Nat.le_refl _,fun _ _ _=>rfl⟩
theorem Fr.mono {st':aa} {S S':Nat→Prop} (h:Fr st st' S) (hs:∀ j,j<st.length→S j→S' j):Fr st st' S':=⟨h.len,fun j hj hn=>h.same j hj fun hc=>hn (hs j hj hc)⟩
theorem Fr.trans {st' st'':aa} {S S':Nat→Prop} (h:Fr st st' S) (h':Fr st' st'' S') (hs:∀ j,j<st.length→S' j→S j):Fr st st'' S:=
 ⟨Nat.le_trans h.len h'.len,fun j hj hn=>by rw[h'.same j (Nat.lt_of_lt_of_le hj h.len) fun hc=>hn (hs j hj hc),h.same j hj hn]⟩
theorem Fr.app {S:Nat→Prop} {y:al}:Fr st (st++[y]) S:=⟨by simp,fun j hj _=>by rw[List.getElem?_append_left hj]⟩
theorem Fr.set {S:Nat→Prop} {y:al} (h:S o):Fr st (st.set o y) S:=⟨by simp,fun j _ hn=>List.getElem?_set_ne (fun e=>by subst e;exact hn h)⟩
theorem Fr.get {st':aa} {S:Nat→Prop} {x:al} (h:Fr st st' S) (hg:st[o]?=some x) (hn:¬ S o):st'[o]?=some x:=by rw[h.same o (cI hg) hn];exact hg
end
def osl (f:Option Nat) (sz n:Nat):LV:=match f with
 | none=>.nils
 | some o=>.sl o 0 n (.rest sz)
def br (m0:Md) (st:aa) (f:Option Nat) (sz n:Nat) (cs:List LV):Prop:=cs.length=n*sz∧match f with
 | none=>n=0
 | some o=>∃ rest,st[o]?=some (.cells m0 (cs++rest))
section
variable {m0:Md} {st st':aa} {f:Option Nat} {sz n bytes:Nat} {cs new:List LV}
theorem br.bD (h:br m0 st f sz n cs):bD (osl f sz n)=some (.int .i64 n):=by
 cases f with
 | none=>obtain ⟨_,rfl⟩:=h;rfl
 | some o=>rfl
theorem br.nil {sz:Nat}:br m0 st none sz 0 []:=⟨by simp,rfl⟩
theorem br.fr {S:Nat→Prop} (h:br m0 st f sz n cs) (hf:Fr st st' S) (hs:∀ o,f=some o→¬ S o):br m0 st' f sz n cs:=by
 refine ⟨h.1,?_⟩
 cases f with
 | none=>exact h.2
 | some o=>obtain ⟨rest,h2⟩:=h.2;exact ⟨rest,hf.get h2 (hs o rfl)⟩
theorem br.lt {o:Nat} (h:br m0 st (some o) sz n cs):o<st.length:=by obtain ⟨_,h2⟩:=h.2;exact cI h2
theorem br.ix {i:Int} {kk:IntKind} (h:br m0 st f sz n cs) (h0:0≤i) (h1:i<n):∃ o,f=some o∧bh sz (osl f sz n) (.int kk i)=some (.ptr o (i.toNat*sz)):=by
 cases f with
 | none=>have:=h.2;simp only at this;omega
 | some o=>exact ⟨o,rfl,by simp only[osl];rw[iO h0 h1,Nat.zero_add]⟩
theorem br.ld {o k:Nat} {x:LV} (h:br m0 st (some o) sz n cs) (hk:cs[k]?=some x):ld1 st (.ptr o k)=some x:=by
 obtain ⟨rest,h2⟩:=h.2
 rw[aM h2,List.getElem?_append_left (List.getElem?_eq_some_iff.1 hk).1,hk]
theorem br.ldA {o k m:Nat} (h:br m0 st (some o) sz n cs) (hk:k+m≤cs.length):ldA st (.ptr o k) m=some (.agg ((cs.drop k).take m)):=by
 obtain ⟨rest,h2⟩:=h.2
 rw[eS h2 (by simp;omega),List.drop_append_of_le_length (by omega),List.take_append_of_le_length (by simp;omega)]
theorem vh {a b new:List LV}:bK (a++b) a.length new=a++new++b.drop new.length:=by
 unfold bK
 rw[List.take_left,List.drop_append,List.drop_eq_nil_of_le (Nat.le_add_right ..),Nat.add_sub_cancel_left,List.nil_append]
theorem br.append {x:LV} {k:Nat} (h:br m0 st f sz n cs) (hx:fD st sz x=some (k,new)) (hk:0<k) (hn:new.length=k*sz) (h1:new.all LV.one=true)
  (hr:fE (n+k) bytes=true) (hm:m0.w=true:=by rfl) :
  ∃ st2 f2,aP st sz bytes m0 (osl f sz n) x=some (osl f2 sz (n+k),st2)∧br m0 st2 f2 sz (n+k) (cs++new)∧Fr st st2 (fun j=>f=some j)∧
   (∀ j,f2=some j→f=some j∨st.length≤j)∧st2.length≤st.length+1:=by
 have hk0:¬ k=0:=by omega
 have hlen:(cs++new).length=(n+k)*sz:=by rw[List.length_append,h.1,hn,Nat.add_mul]
 cases f with
 | none=>
  obtain ⟨hc,hz⟩:=h
  simp only at hz;subst hz
  have hc':cs=[]:=by simpa using hc
  subst hc'
  rw[Nat.zero_add] at hr
  refine ⟨st++[.cells m0 new],some st.length,?_,⟨hlen,[],by simp⟩,Fr.app,?_,by simp⟩
  ·simp only[osl,aP,hx,hk0,if_false,hr,if_true,Nat.zero_add]
  ·intro j e;right;simp at e;omega
 | some o=>
  obtain ⟨hc,rest,h2⟩:=h
  by_cases hfit:0+(n+k)*sz≤(cs++rest).length
  ·refine ⟨st.set o (.cells m0 (bK (cs++rest) (0+n*sz) new)),some o,?_,⟨hlen,rest.drop new.length,?_⟩,Fr.set rfl,fun j e=>.inl e,by simp⟩
   ·simp only[osl,aP,hx,hk0,if_false,h2,h1,hm,if_true,and_self,hfit]
   ·rw[bu h2,Nat.zero_add,← hc,vh]
  ·refine ⟨st.set o .dead++[.cells m0 (((cs++rest).drop 0).take (n*sz)++new)],some st.length,?_,⟨hlen,[],?_⟩,?_,?_,by simp⟩
   ·have h3:0+n*sz≤(cs++rest).length:=by simp[hc]
    simp only[osl,aP,hx,hk0,if_false,h2,h1,hm,if_true,and_self,hfit,hr,h3,fF]
   ·rw[List.drop_zero,← hc,List.take_left,List.append_nil]
    have:st.length=(st.set o al.dead).length:=by simp
    rw[this,aA]
   ·exact (Fr.set (S:=fun j=>some o=some j) rfl).trans Fr.app (fun _ _ h=>h)
   ·intro j e;right;simp at e;omega
end
end Go.CP
namespace Go.CP
open Go.ChangeShapes Go.WideShapes Go.ChangeAt Go.RowKit
theorem au.body {P:Program} {f:FuncId} {xs:List LV} {st:aa} {R:LV→aa→Prop} (hb:cN P f) (h:au P f xs st R) :
  cN P f∧∀ w0 β w vs,Rel w0 β st w→Rps β xs vs→Calls P f ⟨vs⟩ w (sD w0 R β):=by
 rcases h with h|h
 ·exact h
 ·refine ⟨hb,fun w0 β w vs h1 h2=>?_⟩
  obtain ⟨u,w',h3,_⟩:=h w0 β w vs h1 h2
  obtain ⟨fn,body,e1,e2,e3⟩:=hb
  have:(callFunc f ⟨vs⟩).run P w=.ok (.enter f ⟨vs⟩) w:=by
   simp only[callFunc,Sem.run_bind,Sem.run_pure,Result.andThen_ok,run_program,e1,e3,e2,Option.isNone_some,Bool.false_eq_true,if_false]
  rw[this] at h3
  cases h3
theorem au.law {P:Program} {f:FuncId} {xs:List LV} {st:aa} {β:Lay} {w:World} {vs:List Value} (hb:cN P f) (h:au P f xs st fun r _=>r=.bool true) (hr:Rel w β st w) (hx:Rps β xs vs) :
  Calls P f ⟨vs⟩ w fun e w'=>e=.returned (.bool true)∧Below w.heap.size w w':=
 ((h.body hb).2 w β w vs hr hx).mono fun e w' ⟨β',r,st',v,h1,h2,h3,h4,_⟩=>by
  subst h1
  simp only[Rp] at h3
  subst h3
  exact ⟨h2,h4.below.toBelow⟩
end Go.CP
