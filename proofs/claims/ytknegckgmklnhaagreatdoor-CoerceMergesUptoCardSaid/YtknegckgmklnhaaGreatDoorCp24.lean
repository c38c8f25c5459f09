/- Parts of the proof. -/
import Derived.Test.YtknegckgmklnhaaGreatDoorCp22
import Derived.ProofKit
import Derived.OpenShut
namespace Go.CP
def aJ (g:List Nat) (t:List LV):List LV:=g.foldl (fun t i=>t.set i .aJ) t
def LT (P:Program) (rs:List ResultVar) (k:List Item) (R:LV→aa→Prop) (t:List LV) (st:aa):Prop:=
 ∀ w0 β w a fn,Rel w0 β st w→Rps β t a.tmps.toList→a.defers=[]→fn.results.toList=rs→∀ (b:Frame) (cs:List Frame),P.funcs[b.fn]?=some fn→b.kind=.normal→
  ∃ e w' fr,qp w0 R β e w'∧Comes P (lone (b.at a k) cs w) (lone fr cs w') e∧fr.fn=b.fn∧fr.leaving P w' e
def mq (P:Program) (rs:List ResultVar) (R:LV→aa→Prop) (t:List LV) (st:aa):Prop:=lV P t st rs fun vs=>R (um vs) st
def bW (P:Program) (rs:List ResultVar) (R:LV→aa→Prop) (g cuts:List Nat):Nat→List Item→List LV→aa→Prop
 | 0,k,t,st=>LT P rs k R t st
 | n+1,k,t,st=>match k with
  | []=>mq P rs R t st
  | .code .skip::k=>bW P rs R g cuts n k t st
  | .code (.label _)::k=>bW P rs R g cuts n k t st
  | .code (.seq a b)::k=>bW P rs R g cuts n (.code a::.code b::k) t st
  | .code (.cond c a b)::k=>bd (ev t c) fun v=>aG v (bW P rs R g cuts n (.code a::k) t st) (bW P rs R g cuts n (.code b::k) t st)
  | .code (.block id c)::k=>bW P rs R g cuts n (.code c::.inBlock id::k) t st
  | .code (.loop c)::k=>LT P rs (.inLoop c::k) R (aJ g t) st
  | .inLoop c::k=>LT P rs (.inLoop c::k) R (aJ g t) st
  | .inBlock id::k=>match cuts.contains id with
   | true=>LT P rs k R (aJ g t) st
   | false=>bW P rs R g cuts n k t st
  | .inScope _::k=>bW P rs R g cuts n k t st
  | .code (.exit id)::k=>match exitTo id k with
   | some k'=>match cuts.contains id with
    | true=>LT P rs k' R (aJ g t) st
    | false=>bW P rs R g cuts n k' t st
   | none=>False
  | .code .ret::_=>mq P rs R t st
  | .code (.region _ ops draw)::k=>match draw with
   | false=>bM P ops (List.range ops.size) (fun t st=>bW P rs R g cuts n k t st) t st
   | true=>match kZ ops (Region.before ops) with
    | true=>bV P ops (Region.before ops) (rowsOf P ops) (fun t st=>bW P rs R g cuts n k t st) ops.size 0 [] t st
    | false=>False
  | _=>False
section
variable {P:Program} {rs:List ResultVar} {R:LV→aa→Prop}
theorem nr {β:Lay}:∀ {g:List Nat} {t:List LV} {us:List Value},Rps β t us→Rps β (aJ g t) us
 | [],t,us,h=>h
 | i::g,t,us,h=>by
  have h1:Rps β (t.set i .aJ) us:=by
   apply Rps.kE
   ·rw[h.length];simp
   ·intro j x hx
    rw[List.getElem?_set] at hx
    split at hx
    ·rename_i e;subst e
     split at hx
     ·rename_i hlt
      simp at hx;subst hx
      exact ⟨us[i]'(by rw[h.length];exact hlt),by simp[h.length,hlt],trivial⟩
     ·simp at hx
    ·exact h.get hx
  exact nr (g:=g) h1
theorem LT.forget {k:List Item} {g:List Nat} {t:List LV} {st:aa} (h:LT P rs k R (aJ g t) st):LT P rs k R t st:=
 fun w0 β w a fn h1 h2 h3 h4 b cs hf hk=>h w0 β w a fn h1 (nr h2) h3 h4 b cs hf hk
theorem qp.le {w0:World} {R:LV→aa→Prop} {β β':Lay} {e:Ending} {w:World} (h:qp w0 R β' e w) (hl:β.le β'):qp w0 R β e w:=
 let ⟨β'',r,st',v,h1,h2,h3,h4,h5⟩:=h;⟨β'',r,st',v,h1,h2,h3,h4,hl.trans h5⟩
theorem LT.mono {R':LV→aa→Prop} {k:List Item} {t:List LV} {st:aa} (h:LT P rs k R t st) (hr:∀ v st,R v st→R' v st):LT P rs k R' t st:=
 fun w0 β w a fn h1 h2 h3 h4 b cs hf hk=>
  let ⟨e,w',fr,⟨β',r,st',v,k1,k2⟩,h6⟩:=h w0 β w a fn h1 h2 h3 h4 b cs hf hk
  ⟨e,w',fr,⟨β',r,st',v,hr _ _ k1,k2⟩,h6⟩
theorem LT.move {k k':List Item} {t:List LV} {st:aa} (hs:∀ (b:Frame) (a:Act) (cs:List Frame) (w:World),step P (lone (b.at a k) cs w)=.next (lone (b.at a k') cs w))
  (h:LT P rs k' R t st):LT P rs k R t st:=
 fun w0 β w a fn h1 h2 h3 h4 b cs hf hk=>
  let ⟨e,w',fr,h5,h6,h7,h8⟩:=h w0 β w a fn h1 h2 h3 h4 b cs hf hk
  ⟨e,w',fr,h5,.of_steps (.one (hs b a cs w)) h6,h7,h8⟩
theorem step_inScope {b:Frame} {a:Act} {c:Code} {k:List Item} {cs:List Frame} {w:World}:step P (lone (b.at a (.inScope c::k)) cs w)=.next (lone (b.at a k) cs w):=
 step_lone_go (by simp[stepG,stepG.exec,Frame.at])
theorem LT.end_ {k:List Item} {t:List LV} {st:aa} (hs:∀ (b:Frame) (a:Act) (cs:List Frame) (w:World),step P (lone (b.at a k) cs w)=.next (lone { b.at a k with mode:=.returning } cs w))
  (h:mq P rs R t st):LT P rs k R t st:=by
 intro w0 β w a fn h1 h2 h3 h4 b cs hf hk
 unfold mq at h
 obtain ⟨vs,hvs,h⟩:=eV h
 ·rw[← h4] at hvs
  obtain ⟨u,h5,h6⟩:=fy h1 h2 hvs
  exact ⟨.returned u,w,{ b.at a k with mode:=.returning },⟨β,_,st,u,h,rfl,h6,h1,Lay.le.refl _⟩,.one (hs b a cs w),rfl,rfl,h3,hk,fn,hf,h5⟩
theorem LT.code {c:Code} {k:List Item} {t:List LV} {st:aa}
  (h:∀ (w0:World) (β:Lay) (w:World) (a:Act),Rel w0 β st w→Rps β t a.tmps.toList→a.defers=[]→
   c.wp P (fun e a' w'=>e=.normal∧∃ β' t' st',LT P rs k R t' st'∧Rel w0 β' st' w'∧Rps β' t' a'.tmps.toList∧a'.defers=[]∧β.le β') a w):LT P rs (.code c::k) R t st:=by
 intro w0 β w a fn h1 h2 h3 h4 b cs hf hk
 obtain ⟨e,a',w',⟨he,β',t',st',k1,k2,k3,k4,k5⟩,harr⟩:=h w0 β w a h1 h2 h3 b k cs
 subst he
 obtain ⟨e,w'',fr,h5,h6,h7,h8⟩:=k1 w0 β' w' a' fn k2 k3 k4 h4 b cs hf hk
 exact ⟨e,w'',fr,h5.le k5,.of_steps harr h6,h7,h8⟩
theorem az (hm:P.follows .mixedOrders=true) {g cuts:List Nat}:∀ (n:Nat) {k:List Item} {t:List LV} {st:aa},bW P rs R g cuts n k t st→LT P rs k R t st
 | 0,k,t,st,h=>h
 | n+1,k,t,st,h=>by
  unfold bW at h
  split at h
  ·exact LT.end_ (fun b a cs w=>step_end) h
  ·exact LT.move (fun b a cs w=>step_skip) (az hm n h)
  ·exact LT.move (fun b a cs w=>step_label) (az hm n h)
  ·exact LT.move (fun b a cs w=>step_seq) (az hm n h)
  ·rename_i c x y k
   unfold bd at h
   split at h
   ·rename_i v hv
    intro w0 β w a fn h1 h2 h3 h4 b cs hf hk
    have hr:=aw h2 hv
    unfold aG at h
    split at h
    ·simp only[Rp] at hr
     obtain ⟨e,w',fr,h5,h6,h7,h8⟩:=az hm n h w0 β w a fn h1 h2 h3 h4 b cs hf hk
     exact ⟨e,w',fr,h5,.of_steps (.one (step_cond hr)) h6,h7,h8⟩
    ·simp only[Rp] at hr
     obtain ⟨e,w',fr,h5,h6,h7,h8⟩:=az hm n h w0 β w a fn h1 h2 h3 h4 b cs hf hk
     exact ⟨e,w',fr,h5,.of_steps (.one (step_cond hr)) h6,h7,h8⟩
    ·exact h.elim
   ·exact h.elim
  ·exact LT.move (fun b a cs w=>step_block) (az hm n h)
  ·rename_i c k
   intro w0 β w a fn h1 h2 h3 h4 b cs hf hk
   -- both go on with the loop's body
   obtain ⟨e,w',fr,h5,h6,h7,h8⟩:=h.forget w0 β w a fn h1 h2 h3 h4 b cs hf hk
   refine ⟨e,w',fr,h5,?_,h7,h8⟩
   have hs1:step P (lone (b.at a (.code (.loop c)::k)) cs w)=.next (lone (b.at a (.code c::.inLoop c::k)) cs w):=step_loop
   have hs2:step P (lone (b.at a (.inLoop c::k)) cs w)=.next (lone (b.at a (.code c::.inLoop c::k)) cs w):=step_inLoop
   cases e with
   | returned v=>
    obtain ⟨m,hm'⟩:=h6
    cases m with
    | zero=>
     simp only[runN] at hm'
     have hfr:fr=b.at a (.inLoop c::k):=by
      simp only[lone,Stepped.next.injEq,Machine.mk.injEq] at hm'
      have:=hm'.2.1
      simp only[Array.mk.injEq,List.cons.injEq,Goroutine.mk.injEq] at this
      exact this.1.1.symm
     have hl:=h8.1
     rw[hfr] at hl;simp[Frame.at] at hl
    | succ m=>
     simp only[runN,hs2] at hm'
     exact ⟨m+1,by simp only[runN,hs1];exact hm'⟩
   | panicked ch=>obtain ⟨_,r,_,v,_,he,_⟩:=h5;cases he
   | outgrown=>obtain ⟨_,r,_,v,_,he,_⟩:=h5;cases he
  ·exact h.forget
  ·split at h
   ·exact LT.move (fun b a cs w=>step_inBlock) h.forget
   ·exact LT.move (fun b a cs w=>step_inBlock) (az hm n h)
  ·exact LT.move (fun b a cs w=>step_inScope) (az hm n h)
  ·split at h
   ·rename_i k' hx
    split at h
    ·exact LT.move (fun b a cs w=>step_exit hx) h.forget
    ·exact LT.move (fun b a cs w=>step_exit hx) (az hm n h)
   ·exact h.elim
  ·exact LT.end_ (fun b a cs w=>step_ret) h
  ·split at h
   ·refine LT.code fun w0 β w a h1 h2 h3=>wp_region (b9 h1 h2 h3 h fun β' t' st' a' w' k1 k2 k3 k4 k5=>⟨rfl,β',t',st',az hm n k1,k2,k3,k4,k5⟩)
   ·split at h
    ·rename_i hok
     refine LT.code fun w0 β w a h1 h2 h3=>?_
     refine wp_region_any hm (jT (ui hok) _ (T0:=t) (T:=t) (TD:=t) (D:=Array.replicate _ false) (m:=0) (pend:=[]) (β:=β) ?_ h (h1.tT (Nat.le_succ _)) h2 h3 ?_ ?_)
     ·have hn:∀ (N i:Nat),¬ In (Array.replicate N false) i:=by
       intro N i hi
       unfold In at hi
       simp[Array.getElem?_replicate] at hi
       split at hi<;>simp at hi
      have he:∀ N,aZ N 0=Array.replicate N false:=fun N=>by apply Array.ext<;>simp[aZ]
      rw[he]
      exact ⟨⟨by simp,fun i o hi=>absurd hi (hn _ i)⟩,⟨by simp,fun i o hi=>absurd hi (hn _ i)⟩,fun i hi=>hi,⟨rfl,fun i o d hi=>absurd hi (hn _ i),fun _ _=>rfl⟩,⟨rfl,fun i o d hi=>absurd hi (hn _ i),fun _ _=>rfl⟩,
       fun i o hi=>absurd hi (hn _ i),fun j o hj=>absurd hj (hn _ j)⟩
     ·unfold todo
      exact Nat.le_trans (List.length_filter_le _ _) (by simp)
     ·intro β' t' st' a' w' k1 k2 k3 k4 k5
      exact ⟨rfl,β',t',st',az hm n k1,k2,k3,k4,k5⟩
    ·exact h.elim
  ·exact h.elim
theorem LT.round (hm:P.follows .mixedOrders=true) {g cuts:List Nat} (n:Nat) {c:Code} {k:List Item} {t:List LV} {st:aa} (h:bW P rs R g cuts n (.code c::.inLoop c::k) t st) :
  LT P rs (.inLoop c::k) R t st:=LT.move (fun b a cs w=>step_inLoop) (az hm n h)
theorem ag.of {f:FuncId} {fn:Func} {c:Code} {xs:List LV} {st:aa} (hm:P.follows .mixedOrders=true)
  (hf:P.funcs[f]?=some fn) (hb:fn.body=some c) (hn:(fn.name == "runtime.NumGoroutine")=false) (hrs:fn.results.toList=rs)
  (h:LT P rs [.code c] R (xs++List.replicate (fn.ntmps-xs.length) ak) st):ag P f xs st R:=by
 refine .inl ⟨⟨fn,c,hf,hb,hn⟩,fun w0 β w vs h1 h2 cs=>?_⟩
 let b:Frame:={ (default:Frame) with fn:=f,kind:=.normal }
 have henter:Frame.enter P f ⟨vs⟩ .normal=b.at { tmps:=(⟨vs⟩:Array Value)++Array.replicate (fn.ntmps-vs.length) undef,defers:=[] } [.code c]:=by
  simp[Frame.enter,Frame.at,hf,hb,b]
 rw[henter]
 have htm:Rps β (xs++List.replicate (fn.ntmps-xs.length) ak) ((⟨vs⟩:Array Value)++Array.replicate (fn.ntmps-vs.length) undef).toList:=by
  rw[show ((⟨vs⟩:Array Value)++Array.replicate (fn.ntmps-vs.length) undef).toList=vs++List.replicate (fn.ntmps-xs.length) undef by simp[h2.length]]
  exact h2.append (Rps.replicate Rp.undef _)
 obtain ⟨e,w',fr,h5,h6,h7,h8⟩:=h w0 β w { tmps:=(⟨vs⟩:Array Value)++Array.replicate (fn.ntmps-vs.length) undef,defers:=[] } fn h1 htm rfl hrs b cs hf rfl
 exact ⟨e,w',fr,h5,h6,h7,h8⟩
end
def gj:Code→List Item→List (List Item)
 | .seq a b,k=>gj a (.code b::k)++gj b k
 | .cond _ a b,k=>gj a k++gj b k
 | .block id c,k=>k::gj c (.inBlock id::k)
 | .loop c,k=>(.inLoop c::k)::gj c (.inLoop c::k)
 | _,_=>[]
def ca (fn:Func) (n:Nat):List Item:=match fn.body with
 | some c=>(gj c []).getD n []
 | none=>[]
def cF:List Item→List Item
 | .inLoop c::k=>.code c::.inLoop c::k
 | k=>k
theorem LT.at {P:Program} {rs:List ResultVar} {R:LV→aa→Prop} (hm:P.follows .mixedOrders=true) {g cuts:List Nat} (n:Nat) {k:List Item} {t:List LV} {st:aa}
  (h:bW P rs R g cuts n (cF k) t st):LT P rs k R t st:=by
 unfold cF at h
 split at h
 ·exact LT.round hm n h
 ·exact az hm n h
def aM (fn:Func):Code:=match fn.body with
 | some c=>c
 | none=>.skip
section
variable {α β:Type} {st:aa} {o k len n:Nat} {l:List LV} {m:Md} {K1:LV→Prop}
@[simp] theorem ae {v:α} {K:α→Prop}:bd (some v) K=K v:=rfl
@[simp] theorem CL {K:α→Prop}:bd none K=False:=rfl
@[simp] theorem aj {a:α} {b:β} {K:α→β→Prop}:bd2 (some (a,b)) K=K a b:=rfl
@[simp] theorem a8 {p q:Prop}:aG (.bool true) p q=p:=rfl
@[simp] theorem ax {p q:Prop}:aG (.bool false) p q=q:=rfl
theorem a7 {c p q:Prop} [Decidable c]:aG (.bool (decide c)) p q↔(c→p)∧(¬ c→q):=by
 by_cases h:c<;>simp[h]
theorem ec {b:Bool} {p q:Prop}:aG (.bool b) p q↔(b=true→p)∧(b=false→q):=by
 cases b<;>simp
@[simp] theorem dc {K:LV→aa→Prop}:nw st l K=K (.ptr st.length 0) (st++[.cells .rw l]):=rfl
@[simp] theorem CN {K:LV→aa→Prop}:nwM m st l K=K (.ptr st.length 0) (st++[.cells m l]):=rfl
@[simp] theorem wv {K:LV→aa→Prop}:zf st K=K (.map st.length) (st++[.map .rw [] [] 0]):=rfl
@[simp] theorem aB {s:aa}:lmk (some s)=some (ak,s):=rfl
@[simp] theorem cj {cs:List LV}:cK st n (some cs)=some (.sl st.length 0 n (.ex n),st++[.cells .rw cs]):=rfl
@[simp] theorem ym:dS (.ptr o k)=some (.ptr o k):=rfl
@[simp] theorem aF {d:Nat}:al d (.ptr o k)=some (.ptr o (k+d)):=rfl
@[simp] theorem BG {b:Bool}:jH b .nilp .nilp=some true:=rfl
@[simp] theorem BH {b:Bool}:jH b (.ptr o k) .nilp=some false:=rfl
@[simp] theorem BI {b:Bool}:jH b .nilp (.ptr o k)=some false:=rfl
@[simp] theorem BJ:jH true (.ptr o k) (.ptr o k)=some true:=by simp[jH]
@[simp] theorem wx {g:Nat}:dS (.dF g k)=some (.dF g k):=rfl
@[simp] theorem zZ {g d:Nat}:al d (.dF g k)=some (.dF g (k+d)):=rfl
@[simp] theorem Bt:eD .rw .rw k=.rw:=by unfold eD;split<;>rfl
@[simp] theorem Bu {t:TypeId}:eD (.bt t) (.bt t) 0=.bt t:=by unfold eD;simp
@[simp] theorem Md.C6 {t:TypeId}:Md.w (.bt t)=true:=rfl
@[simp] theorem Md.w_rw':Md.w .rw=true:=rfl
@[simp] theorem wy {op:BinOp} {r:Bool}:eqB op (some r)=mJ op r:=rfl
@[simp] theorem vv {r:Bool}:mJ .eql r=some (.bool r):=rfl
@[simp] theorem Bv {r:Bool}:mJ .neq r=some (.bool (!r)):=rfl
@[simp] theorem z6:bj .nils=some (.int .i64 0):=rfl
@[simp] theorem Bx:bj .emp=some (.int .i64 0):=rfl
@[simp] theorem BK {c:cJ}:bj (.sl o k len c)=some (.int .i64 len):=rfl
@[simp] theorem nt {s:List UInt8}:mM (.str s)=some (.int .i64 s.length):=rfl
@[simp] theorem dI {b:Bool}:lun .not (.bool b)=some (.bool (!b)):=rfl
@[simp] theorem Bz {k k':IntKind} {x:Int}:wi k (.int k' x)=some (.int k (k.wrap x)):=rfl
@[simp] theorem z8 {b:Bool} {x y:LV}:oq (.bool b) x y=some (cond b x y):=rfl
@[simp] theorem aV {vs:List LV} {i:Nat}:af (.tup vs) i=vs[i]?:=rfl
@[simp] theorem an {op:BinOp} {k:IntKind} {x y:Int}:aI op (.int k x) (.int k y)=lint op k x y:=by simp[aI]
@[simp] theorem bx {k:IntKind} {x y:Int}:lint .add k x y=some (.int k (k.wrap (x+y))):=rfl
@[simp] theorem jU {k:IntKind} {x y:Int}:lint .sub k x y=some (.int k (k.wrap (x-y))):=rfl
@[simp] theorem BL {k:IntKind} {x y:Int}:lint .mul k x y=some (.int k (k.wrap (x*y))):=rfl
@[simp] theorem b5 {k:IntKind} {x y:Int}:lint .eql k x y=some (.bool (x==y)):=rfl
@[simp] theorem cU {k:IntKind} {x y:Int}:lint .neq k x y=some (.bool (x != y)):=rfl
@[simp] theorem aO {k:IntKind} {x y:Int}:lint .lss k x y=some (.bool (decide (x<y))):=rfl
@[simp] theorem wz {k:IntKind} {x y:Int}:lint .leq k x y=some (.bool (decide (x≤y))):=rfl
@[simp] theorem jV {k:IntKind} {x y:Int}:lint .gtr k x y=some (.bool (decide (x > y))):=rfl
@[simp] theorem hY {k:IntKind} {x y:Int}:lint .geq k x y=some (.bool (decide (x≥y))):=rfl
@[simp] theorem hZ {op:BinOp} {x y:List UInt8}:mj op (.str x) (.str y)=so op x y:=rfl
@[simp] theorem qT {x y:List UInt8}:so .eql x y=some (.bool (x==y)):=rfl
@[simp] theorem qU {x y:List UInt8}:so .neq x y=some (.bool (!(x==y))):=rfl
theorem ck (h:st[o]?=some (.cells m l)):ld1 st (.ptr o k)=l[k]?:=by simp[ld1,h]
theorem dJ (h:st[o]?=some (.cells m l)) (hk:k+n≤l.length):ldA st (.ptr o k) n=some (.agg ((l.drop k).take n)):=by simp[ldA,h,hk]
theorem ia {v:LV} (h:st[o]?=some (.cells m l)) (hk:k<l.length) (hv:v.one=true) (hm:m.w=true:=by rfl):stV st 1 (.ptr o k) v=some (st.set o (.cells m (l.set k v))):=by
 unfold stV
 cases v<;>simp_all [LV.one,LV.cells,LV.ok,st1]
theorem eg {vs:List LV} (h:st[o]?=some (.cells m l)) (hk:k+vs.length≤l.length) (hv:vs.all LV.one=true) (hn:vs.length=n) (hm:m.w=true:=by rfl) :
  stV st n (.ptr o k) (.agg vs)=some (st.set o (.cells m (bz l k vs))):=by
 unfold stV
 rw[if_pos ⟨hn,rfl⟩]
 simp only[stA,h]
 rw[if_pos ⟨hk,hv,hm⟩]
theorem yr {c:cJ} {sz:Nat} {i:Int} {kk:IntKind} (h0:0≤i) (h1:i<len):bo sz (.sl o k len c) (.int kk i)=some (.ptr o (k+i.toNat*sz)):=by
 simp[bo,h0,h1]
theorem cb {x y:ah} (h:st[o]?=some x):(st++[y])[o]?=some x:=by
 rw[bD (by exact (List.getElem?_eq_some_iff.1 h).1)];exact h
theorem aH {y:ah}:(st++[y])[st.length]?=some y:=by simp
theorem bQ {x y:ah} (h:st[o]?=some x):(st.set o y)[o]?=some y:=by
 rw[List.getElem?_set_self (List.getElem?_eq_some_iff.1 h).1]
theorem bn {o':Nat} {y:ah} (h:o'≠o):(st.set o' y)[o]?=st[o]?:=by
 rw[List.getElem?_set_ne h]
theorem bR {x:ah} (h:st[o]?=some x):o<st.length:=(List.getElem?_eq_some_iff.1 h).1
theorem wrap_i64 {n:Int} (h1 : -9223372036854775808≤n) (h2:n<9223372036854775808):IntKind.i64.wrap n=n:=by
 rw[IntKind.wrap_i64];omega
structure Fr (st st':aa) (S:Nat→Prop):Prop where
 len:st.length≤st'.length
 same:∀ j,j<st.length→¬ S j→st'[j]?=st[j]?
theorem Fr.refl {S:Nat→Prop}:Fr st st S:=⟨Nat.le_refl _,fun _ _ _=>rfl⟩
theorem Fr.mono {st':aa} {S S':Nat→Prop} (h:Fr st st' S) (hs:∀ j,j<st.length→S j→S' j):Fr st st' S':=⟨h.len,fun j hj hn=>h.same j hj fun hc=>hn (hs j hj hc)⟩
theorem Fr.trans {st' st'':aa} {S S':Nat→Prop} (h:Fr st st' S) (h':Fr st' st'' S') (hs:∀ j,j<st.length→S' j→S j):Fr st st'' S:=
 ⟨Nat.le_trans h.len h'.len,fun j hj hn=>by rw[h'.same j (Nat.lt_of_lt_of_le hj h.len) fun hc=>hn (hs j hj hc),h.same j hj hn]⟩
theorem Fr.app {S:Nat→Prop} {y:ah}:Fr st (st++[y]) S:=⟨by simp,fun j hj _=>by rw[bD hj]⟩
theorem Fr.set {S:Nat→Prop} {y:ah} (h:S o):Fr st (st.set o y) S:=⟨by simp,fun j _ hn=>List.getElem?_set_ne (fun e=>by subst e;exact hn h)⟩
theorem Fr.get {st':aa} {S:Nat→Prop} {x:ah} (h:Fr st st' S) (hg:st[o]?=some x) (hn:¬ S o):st'[o]?=some x:=by rw[h.same o (bR hg) hn];exact hg
end
def osl (f:Option Nat) (sz n:Nat):LV:=match f with
 | none=>.nils
 | some o=>.sl o 0 n (.rest sz)
def bH (m0:Md) (st:aa) (f:Option Nat) (sz n:Nat) (cs:List LV):Prop:=cs.length=n*sz∧match f with
 | none=>n=0
 | some o=>∃ rest,st[o]?=some (.cells m0 (cs++rest))
section
variable {m0:Md} {st st':aa} {f:Option Nat} {sz n bytes:Nat} {cs new:List LV}
theorem bH.bj (h:bH m0 st f sz n cs):bj (osl f sz n)=some (.int .i64 n):=by
 cases f with
 | none=>obtain ⟨_,rfl⟩:=h;rfl
 | some o=>rfl
theorem bH.nil {sz:Nat}:bH m0 st none sz 0 []:=⟨by simp,rfl⟩
theorem bH.fr {S:Nat→Prop} (h:bH m0 st f sz n cs) (hf:Fr st st' S) (hs:∀ o,f=some o→¬ S o):bH m0 st' f sz n cs:=by
 refine ⟨h.1,?_⟩
 cases f with
 | none=>exact h.2
 | some o=>obtain ⟨rest,h2⟩:=h.2;exact ⟨rest,hf.get h2 (hs o rfl)⟩
theorem bH.lt {o:Nat} (h:bH m0 st (some o) sz n cs):o<st.length:=by obtain ⟨_,h2⟩:=h.2;exact bR h2
theorem bH.ix {i:Int} {kk:IntKind} (h:bH m0 st f sz n cs) (h0:0≤i) (h1:i<n):∃ o,f=some o∧bo sz (osl f sz n) (.int kk i)=some (.ptr o (i.toNat*sz)):=by
 cases f with
 | none=>have:=h.2;simp only at this;omega
 | some o=>exact ⟨o,rfl,by simp only[osl];rw[yr h0 h1,av]⟩
theorem bH.ld {o k:Nat} {x:LV} (h:bH m0 st (some o) sz n cs) (hk:cs[k]?=some x):ld1 st (.ptr o k)=some x:=by
 obtain ⟨rest,h2⟩:=h.2
 rw[ck h2,bD (List.getElem?_eq_some_iff.1 hk).1,hk]
theorem bH.ldA {o k m:Nat} (h:bH m0 st (some o) sz n cs) (hk:k+m≤cs.length):ldA st (.ptr o k) m=some (.agg ((cs.drop k).take m)):=by
 obtain ⟨rest,h2⟩:=h.2
 rw[dJ h2 (by simp;omega),List.drop_append_of_le_length (by omega),List.take_append_of_le_length (by simp;omega)]
theorem ta {a b new:List LV}:bz (a++b) a.length new=a++new++b.drop new.length:=by
 unfold bz
 rw[List.take_left,List.drop_append,dy (Nat.le_add_right ..),Nat.add_sub_cancel_left,bw]
theorem bH.append {x:LV} {k:Nat} (h:bH m0 st f sz n cs) (hx:fF st sz x=some (k,new)) (hk:0<k) (hn:new.length=k*sz) (h1:new.all LV.one=true)
  (hr:dB (n+k) bytes=true) (hm:m0.w=true:=by rfl) :
  ∃ st2 f2,aY st sz bytes m0 (osl f sz n) x=some (osl f2 sz (n+k),st2)∧bH m0 st2 f2 sz (n+k) (cs++new)∧Fr st st2 (fun j=>f=some j)∧
   (∀ j,f2=some j→f=some j∨st.length≤j)∧st2.length≤st.length+1:=by
 have hk0:¬ k=0:=by omega
 have hlen:(cs++new).length=(n+k)*sz:=by rw[cy,h.1,hn,Nat.add_mul]
 cases f with
 | none=>
  obtain ⟨hc,hz⟩:=h
  simp only at hz;subst hz
  have hc':cs=[]:=by simpa using hc
  subst hc'
  rw[av] at hr
  refine ⟨st++[.cells m0 new],some st.length,?_,⟨hlen,[],by simp⟩,Fr.app,?_,by simp⟩
  ·simp only[osl,aY,hx,hk0,if_false,hr,if_true,av]
  ·intro j e;right;simp at e;omega
 | some o=>
  obtain ⟨hc,rest,h2⟩:=h
  by_cases hfit:0+(n+k)*sz≤(cs++rest).length
  ·refine ⟨st.set o (.cells m0 (bz (cs++rest) (0+n*sz) new)),some o,?_,⟨hlen,rest.drop new.length,?_⟩,Fr.set rfl,fun j e=>.inl e,by simp⟩
   ·simp only[osl,aY,hx,hk0,if_false,h2,h1,hm,if_true,and_self,hfit]
   ·rw[bQ h2,av,← hc,ta]
  ·refine ⟨st.set o .dead++[.cells m0 (((cs++rest).drop 0).take (n*sz)++new)],some st.length,?_,⟨hlen,[],?_⟩,?_,?_,by simp⟩
   ·have h3:0+n*sz≤(cs++rest).length:=by simp[hc]
    simp only[osl,aY,hx,hk0,if_false,h2,h1,hm,if_true,and_self,hfit,hr,h3,eD]
   ·rw[List.drop_zero,← hc,List.take_left,List.append_nil]
    have:st.length=(st.set o ah.dead).length:=by simp
    rw[this,aH]
   ·exact (Fr.set (S:=fun j=>some o=some j) rfl).trans Fr.app (fun _ _ h=>h)
   ·intro j e;right;simp at e;omega
end
end Go.CP
namespace Go.CP
open Go.ChangeShapes Go.WideShapes Go.ChangeAt Go.RowKit
theorem ag.body {P:Program} {f:FuncId} {xs:List LV} {st:aa} {R:LV→aa→Prop} (hb:cf P f) (h:ag P f xs st R) :
  cf P f∧∀ w0 β w vs,Rel w0 β st w→Rps β xs vs→Calls P f ⟨vs⟩ w (qp w0 R β):=by
 rcases h with h|h
 ·exact h
 ·refine ⟨hb,fun w0 β w vs h1 h2=>?_⟩
  obtain ⟨u,w',h3,_⟩:=h w0 β w vs h1 h2
  obtain ⟨fn,body,e1,e2,e3⟩:=hb
  have:(callFunc f ⟨vs⟩).run P w=.ok (.enter f ⟨vs⟩) w:=by
   simp only[callFunc,ad,ao,ab,run_program,e1,e3,e2,Option.isNone_some,Bool.false_eq_true,if_false]
  rw[this] at h3
  cases h3
theorem ag.law {P:Program} {f:FuncId} {xs:List LV} {st:aa} {β:Lay} {w:World} {vs:List Value} (hb:cf P f) (h:ag P f xs st fun r _=>r=.bool true) (hr:Rel w β st w) (hx:Rps β xs vs) :
  Calls P f ⟨vs⟩ w fun e w'=>e=.returned (.bool true)∧Below w.heap.size w w':=
 ((h.body hb).2 w β w vs hr hx).mono fun e w' ⟨β',r,st',v,h1,h2,h3,h4,_⟩=>by
  subst h1
  simp only[Rp] at h3
  subst h3
  exact ⟨h2,h4.below.toBelow⟩
end Go.CP
