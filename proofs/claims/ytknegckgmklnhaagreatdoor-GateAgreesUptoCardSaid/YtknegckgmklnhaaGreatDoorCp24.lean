/- Parts of the proof. -/
import Derived.Test.YtknegckgmklnhaaGreatDoorCp22
import Derived.ProofKit
import Derived.OpenShut
namespace Go.CP
def aJ (g:List Nat) (t:List LV):List LV:=g.foldl (fun t i=>t.set i .aJ) t
def LT (P:Program) (rs:List ResultVar) (k:List Item) (R:LV→aa→Prop) (t:List LV) (st:aa):Prop:=
 ∀ w0 β w a fn,Rel w0 β st w→Rps β t a.tmps.toList→a.defers=[]→fn.results.toList=rs→∀ (b:Frame) (cs:List Frame),P.funcs[b.fn]?=some fn→b.kind=.normal→
  ∃ e w' fr,mj w0 R β e w'∧Comes P (lone (b.at a k) cs w) (lone fr cs w') e∧fr.fn=b.fn∧fr.leaving P w' e
def fX (P:Program) (rs:List ResultVar) (R:LV→aa→Prop) (t:List LV) (st:aa):Prop:=lR P t st rs fun vs=>R (ur vs) st
def bK (P:Program) (rs:List ResultVar) (R:LV→aa→Prop) (g cuts:List Nat):Nat→List Item→List LV→aa→Prop
 | 0,k,t,st=>LT P rs k R t st
 | n+1,k,t,st=>match k with
  | []=>fX P rs R t st
  | .code .skip::k=>bK P rs R g cuts n k t st
  | .code (.label _)::k=>bK P rs R g cuts n k t st
  | .code (.seq a b)::k=>bK P rs R g cuts n (.code a::.code b::k) t st
  | .code (.cond c a b)::k=>bd (ev t c) fun v=>aL v (bK P rs R g cuts n (.code a::k) t st) (bK P rs R g cuts n (.code b::k) t st)
  | .code (.block id c)::k=>bK P rs R g cuts n (.code c::.inBlock id::k) t st
  | .code (.loop c)::k=>LT P rs (.inLoop c::k) R (aJ g t) st
  | .inLoop c::k=>LT P rs (.inLoop c::k) R (aJ g t) st
  | .inBlock id::k=>match cuts.contains id with
   | true=>LT P rs k R (aJ g t) st
   | false=>bK P rs R g cuts n k t st
  | .inScope _::k=>bK P rs R g cuts n k t st
  | .code (.exit id)::k=>match exitTo id k with
   | some k'=>match cuts.contains id with
    | true=>LT P rs k' R (aJ g t) st
    | false=>bK P rs R g cuts n k' t st
   | none=>False
  | .code .ret::_=>fX P rs R t st
  | .code (.region _ ops draw)::k=>match draw with
   | false=>bw P ops (List.range ops.size) (fun t st=>bK P rs R g cuts n k t st) t st
   | true=>match iu ops (Region.before ops) with
    | true=>bT P ops (Region.before ops) (rowsOf P ops) (fun t st=>bK P rs R g cuts n k t st) ops.size 0 [] t st
    | false=>False
  | _=>False
section
variable {P:Program} {rs:List ResultVar} {R:LV→aa→Prop}
theorem kb {β:Lay}:∀ {g:List Nat} {t:List LV} {us:List Value},Rps β t us→Rps β (aJ g t) us
 | [],t,us,h=>h
 | i::g,t,us,h=>by
  have h1:Rps β (t.set i .aJ) us:=by
   apply Rps.kO
   ·rw[h.length];simp
   ·intro j x hx
    rw[List.getElem?_set] at hx
    split at hx
    ·rename_i e;subst e
     split at hx
     ·rename_i hlt
      simp at hx;subst hx
      exact ⟨us[i]'(by rw[h.length];exact hlt),by simp[h.length,hlt],trivial⟩
     ·simp at hx
    ·exact h.get hx
  exact kb (g:=g) h1
theorem LT.forget {k:List Item} {g:List Nat} {t:List LV} {st:aa} (h:LT P rs k R (aJ g t) st):LT P rs k R t st:=
 fun w0 β w a fn h1 h2 h3 h4 b cs hf hk=>h w0 β w a fn h1 (kb h2) h3 h4 b cs hf hk
theorem mj.le {w0:World} {R:LV→aa→Prop} {β β':Lay} {e:Ending} {w:World} (h:mj w0 R β' e w) (hl:β.le β'):mj w0 R β e w:=
 let ⟨β'',r,st',v,h1,h2,h3,h4,h5⟩:=h;⟨β'',r,st',v,h1,h2,h3,h4,hl.trans h5⟩
theorem LT.mono {R':LV→aa→Prop} {k:List Item} {t:List LV} {st:aa} (h:LT P rs k R t st) (hr:∀ v st,R v st→R' v st):LT P rs k R' t st:=
 fun w0 β w a fn h1 h2 h3 h4 b cs hf hk=>
  let ⟨e,w',fr,⟨β',r,st',v,k1,k2⟩,h6⟩:=h w0 β w a fn h1 h2 h3 h4 b cs hf hk
  ⟨e,w',fr,⟨β',r,st',v,hr _ _ k1,k2⟩,h6⟩
theorem LT.move {k k':List Item} {t:List LV} {st:aa} (hs:∀ (b:Frame) (a:Act) (cs:List Frame) (w:World),step P (lone (b.at a k) cs w)=.next (lone (b.at a k') cs w))
  (h:LT P rs k' R t st):LT P rs k R t st:=
 fun w0 β w a fn h1 h2 h3 h4 b cs hf hk=>
  let ⟨e,w',fr,h5,h6,h7,h8⟩:=h w0 β w a fn h1 h2 h3 h4 b cs hf hk
  ⟨e,w',fr,h5,.of_steps (.one (hs b a cs w)) h6,h7,h8⟩
theorem step_inScope {b:Frame} {a:Act} {c:Code} {k:List Item} {cs:List Frame} {w:World}:step P (lone (b.at a (.inScope c::k)) cs w)=.next (lone (b.at a k) cs w):=
 step_lone_go (by simp[stepG,stepG.exec,Frame.at])
theorem LT.end_ {k:List Item} {t:List LV} {st:aa} (hs:∀ (b:Frame) (a:Act) (cs:List Frame) (w:World),step P (lone (b.at a k) cs w)=.next (lone { b.at a k with mode:=.returning } cs w))
  (h:fX P rs R t st):LT P rs k R t st:=by
 intro w0 β w a fn h1 h2 h3 h4 b cs hf hk
 unfold fX at h
 obtain ⟨vs,hvs,h⟩:=dH h
 ·rw[← h4] at hvs
  obtain ⟨u,h5,h6⟩:=dA h1 h2 hvs
  exact ⟨.returned u,w,{ b.at a k with mode:=.returning },⟨β,_,st,u,h,rfl,h6,h1,Lay.le.refl _⟩,.one (hs b a cs w),rfl,rfl,h3,hk,fn,hf,h5⟩
theorem LT.code {c:Code} {k:List Item} {t:List LV} {st:aa}
  (h:∀ (w0:World) (β:Lay) (w:World) (a:Act),Rel w0 β st w→Rps β t a.tmps.toList→a.defers=[]→
   c.wp P (fun e a' w'=>e=.normal∧∃ β' t' st',LT P rs k R t' st'∧Rel w0 β' st' w'∧Rps β' t' a'.tmps.toList∧a'.defers=[]∧β.le β') a w):LT P rs (.code c::k) R t st:=by
 intro w0 β w a fn h1 h2 h3 h4 b cs hf hk
 obtain ⟨e,a',w',⟨he,β',t',st',k1,k2,k3,k4,k5⟩,harr⟩:=h w0 β w a h1 h2 h3 b k cs
 subst he
 obtain ⟨e,w'',fr,h5,h6,h7,h8⟩:=k1 w0 β' w' a' fn k2 k3 k4 h4 b cs hf hk
 exact ⟨e,w'',fr,h5.le k5,.of_steps harr h6,h7,h8⟩
theorem aw (hm:P.follows .mixedOrders=true) {g cuts:List Nat}:∀ (n:Nat) {k:List Item} {t:List LV} {st:aa},bK P rs R g cuts n k t st→LT P rs k R t st
 | 0,k,t,st,h=>h
 | n+1,k,t,st,h=>by
  unfold bK at h
  split at h
  ·exact LT.end_ (fun b a cs w=>step_end) h
  ·exact LT.move (fun b a cs w=>step_skip) (aw hm n h)
  ·exact LT.move (fun b a cs w=>step_label) (aw hm n h)
  ·exact LT.move (fun b a cs w=>step_seq) (aw hm n h)
  ·rename_i c x y k
   unfold bd at h
   split at h
   ·rename_i v hv
    intro w0 β w a fn h1 h2 h3 h4 b cs hf hk
    have hr:=au h2 hv
    unfold aL at h
    split at h
    ·simp only[Rp] at hr
     obtain ⟨e,w',fr,h5,h6,h7,h8⟩:=aw hm n h w0 β w a fn h1 h2 h3 h4 b cs hf hk
     exact ⟨e,w',fr,h5,.of_steps (.one (step_cond hr)) h6,h7,h8⟩
    ·simp only[Rp] at hr
     obtain ⟨e,w',fr,h5,h6,h7,h8⟩:=aw hm n h w0 β w a fn h1 h2 h3 h4 b cs hf hk
     exact ⟨e,w',fr,h5,.of_steps (.one (step_cond hr)) h6,h7,h8⟩
    ·exact h.elim
   ·exact h.elim
  ·exact LT.move (fun b a cs w=>step_block) (aw hm n h)
  ·rename_i c k
   intro w0 β w a fn h1 h2 h3 h4 b cs hf hk
   -- both go on with the loop's body
   obtain ⟨e,w',fr,h5,h6,h7,h8⟩:=h.forget w0 β w a fn h1 h2 h3 h4 b cs hf hk
   refine ⟨e,w',fr,h5,?_,h7,h8⟩
   have hs1:step P (lone (b.at a (.code (.loop c)::k)) cs w)=.next (lone (b.at a (.code c::.inLoop c::k)) cs w):=step_loop
   have hs2:step P (lone (b.at a (.inLoop c::k)) cs w)=.next (lone (b.at a (.code c::.inLoop c::k)) cs w):=step_inLoop
   cases e with
   | returned v=>
    obtain ⟨m,hm'⟩:=h6
    cases m with
    | zero=>
     simp only[runN] at hm'
     have hfr:fr=b.at a (.inLoop c::k):=by
      simp only[lone,Stepped.next.injEq,Machine.mk.injEq] at hm'
      have:=hm'.2.1
      simp only[Array.mk.injEq,List.cons.injEq,Goroutine.mk.injEq] at this
      exact this.1.1.symm
     have hl:=h8.1
     rw[hfr] at hl;simp[Frame.at] at hl
    | succ m=>
     simp only[runN,hs2] at hm'
     exact ⟨m+1,by simp only[runN,hs1];exact hm'⟩
   | panicked ch=>obtain ⟨_,r,_,v,_,he,_⟩:=h5;cases he
   | outgrown=>obtain ⟨_,r,_,v,_,he,_⟩:=h5;cases he
  ·exact h.forget
  ·split at h
   ·exact LT.move (fun b a cs w=>step_inBlock) h.forget
   ·exact LT.move (fun b a cs w=>step_inBlock) (aw hm n h)
  ·exact LT.move (fun b a cs w=>step_inScope) (aw hm n h)
  ·split at h
   ·rename_i k' hx
    split at h
    ·exact LT.move (fun b a cs w=>step_exit hx) h.forget
    ·exact LT.move (fun b a cs w=>step_exit hx) (aw hm n h)
   ·exact h.elim
  ·exact LT.end_ (fun b a cs w=>step_ret) h
  ·split at h
   ·refine LT.code fun w0 β w a h1 h2 h3=>wp_region (bN h1 h2 h3 h fun β' t' st' a' w' k1 k2 k3 k4 k5=>⟨rfl,β',t',st',aw hm n k1,k2,k3,k4,k5⟩)
   ·split at h
    ·rename_i hok
     refine LT.code fun w0 β w a h1 h2 h3=>?_
     refine wp_region_any hm (ka (rq hok) _ (T0:=t) (T:=t) (TD:=t) (D:=Array.replicate _ false) (m:=0) (pend:=[]) (β:=β) ?_ h (h1.qI (Nat.le_succ _)) h2 h3 ?_ ?_)
     ·have hn:∀ (N i:Nat),¬ In (Array.replicate N false) i:=by
       intro N i hi
       unfold In at hi
       simp[Array.getElem?_replicate] at hi
       split at hi<;>simp at hi
      have he:∀ N,aG N 0=Array.replicate N false:=fun N=>by apply Array.ext<;>simp[aG]
      rw[he]
      exact ⟨⟨by simp,fun i o hi=>absurd hi (hn _ i)⟩,⟨by simp,fun i o hi=>absurd hi (hn _ i)⟩,fun i hi=>hi,⟨rfl,fun i o d hi=>absurd hi (hn _ i),fun _ _=>rfl⟩,⟨rfl,fun i o d hi=>absurd hi (hn _ i),fun _ _=>rfl⟩,
       fun i o hi=>absurd hi (hn _ i),fun j o hj=>absurd hj (hn _ j)⟩
     ·unfold todo
      exact Nat.le_trans (List.length_filter_le _ _) (by simp)
     ·intro β' t' st' a' w' k1 k2 k3 k4 k5
      exact ⟨rfl,β',t',st',aw hm n k1,k2,k3,k4,k5⟩
    ·exact h.elim
  ·exact h.elim
theorem LT.round (hm:P.follows .mixedOrders=true) {g cuts:List Nat} (n:Nat) {c:Code} {k:List Item} {t:List LV} {st:aa} (h:bK P rs R g cuts n (.code c::.inLoop c::k) t st) :
  LT P rs (.inLoop c::k) R t st:=LT.move (fun _b _a _cs _w=>step_inLoop) (aw hm n h)
theorem ak.of {f:FuncId} {fn:Func} {c:Code} {xs:List LV} {st:aa} (_hm:P.follows .mixedOrders=true)
  (hf:P.funcs[f]?=some fn) (hb:fn.body=some c) (hn:(fn.name == "runtime.NumGoroutine")=false) (hrs:fn.results.toList=rs)
  (h:LT P rs [.code c] R (xs++List.replicate (fn.ntmps-xs.length) af) st):ak P f xs st R:=by
 refine .inl ⟨⟨fn,c,hf,hb,hn⟩,fun w0 β w vs h1 h2 cs=>?_⟩
 let b:Frame:={ (default:Frame) with fn:=f,kind:=.normal }
 have henter:Frame.enter P f ⟨vs⟩ .normal=b.at { tmps:=(⟨vs⟩:Array Value)++Array.replicate (fn.ntmps-vs.length) undef,defers:=[] } [.code c]:=by
  simp[Frame.enter,Frame.at,hf,hb,b]
 rw[henter]
 have htm:Rps β (xs++List.replicate (fn.ntmps-xs.length) af) ((⟨vs⟩:Array Value)++Array.replicate (fn.ntmps-vs.length) undef).toList:=by
  rw[show ((⟨vs⟩:Array Value)++Array.replicate (fn.ntmps-vs.length) undef).toList=vs++List.replicate (fn.ntmps-xs.length) undef by simp[h2.length]]
  exact h2.append (Rps.replicate Rp.undef _)
 obtain ⟨e,w',fr,h5,h6,h7,h8⟩:=h w0 β w { tmps:=(⟨vs⟩:Array Value)++Array.replicate (fn.ntmps-vs.length) undef,defers:=[] } fn h1 htm rfl hrs b cs hf rfl
 exact ⟨e,w',fr,h5,h6,h7,h8⟩
end
def gO:Code→List Item→List (List Item)
 | .seq a b,k=>gO a (.code b::k)++gO b k
 | .cond _ a b,k=>gO a k++gO b k
 | .block id c,k=>k::gO c (.inBlock id::k)
 | .loop c,k=>(.inLoop c::k)::gO c (.inLoop c::k)
 | _,_=>[]
def bL (fn:Func) (n:Nat):List Item:=match fn.body with
 | some c=>(gO c []).getD n []
 | none=>[]
def bB:List Item→List Item
 | .inLoop c::k=>.code c::.inLoop c::k
 | k=>k
theorem LT.at {P:Program} {rs:List ResultVar} {R:LV→aa→Prop} (hm:P.follows .mixedOrders=true) {g cuts:List Nat} (n:Nat) {k:List Item} {t:List LV} {st:aa}
  (h:bK P rs R g cuts n (bB k) t st):LT P rs k R t st:=by
 unfold bB at h
 split at h
 ·exact LT.round hm n h
 ·exact aw hm n h
def ay (fn:Func):Code:=match fn.body with
 | some c=>c
 | none=>.skip
section
variable {α β:Type} {st:aa} {o k len n:Nat} {l:List LV} {m:Md} {K1:LV→Prop}
@[simp] theorem ad {v:α} {K:α→Prop}:bd (some v) K=K v:=rfl
@[simp] theorem CC {K:α→Prop}:bd none K=False:=rfl
@[simp] theorem aj {a:α} {b:β} {K:α→β→Prop}:bd2 (some (a,b)) K=K a b:=rfl
@[simp] theorem aH {p q:Prop}:aL (.bool true) p q=p:=rfl
@[simp] theorem aA {p q:Prop}:aL (.bool false) p q=q:=rfl
theorem bD {c p q:Prop} [Decidable c]:aL (.bool (decide c)) p q↔(c→p)∧(¬ c→q):=by
 by_cases h:c<;>simp[h]
theorem bA {b:Bool} {p q:Prop}:aL (.bool b) p q↔(b=true→p)∧(b=false→q):=by
 cases b<;>simp
@[simp] theorem dB {K:LV→aa→Prop}:nw st l K=K (.ptr st.length 0) (st++[.cells .rw l]):=rfl
@[simp] theorem CE {K:LV→aa→Prop}:nwM m st l K=K (.ptr st.length 0) (st++[.cells m l]):=rfl
@[simp] theorem wL {K:LV→aa→Prop}:zx st K=K (.map st.length) (st++[.map .rw [] [] 0]):=rfl
@[simp] theorem aB {s:aa}:lmk (some s)=some (af,s):=rfl
@[simp] theorem eD {cs:List LV}:eO st n (some cs)=some (.sl st.length 0 n (.ex n),st++[.cells .rw cs]):=rfl
@[simp] theorem yx:de (.ptr o k)=some (.ptr o k):=rfl
@[simp] theorem aP {d:Nat}:aK d (.ptr o k)=some (.ptr o (k+d)):=rfl
@[simp] theorem BK {b:Bool}:jM b .nilp .nilp=some true:=rfl
@[simp] theorem BL {b:Bool}:jM b (.ptr o k) .nilp=some false:=rfl
@[simp] theorem BM {b:Bool}:jM b .nilp (.ptr o k)=some false:=rfl
@[simp] theorem BN:jM true (.ptr o k) (.ptr o k)=some true:=by simp[jM]
@[simp] theorem wM {g:Nat}:de (.dY g k)=some (.dY g k):=rfl
@[simp] theorem Am {g d:Nat}:aK d (.dY g k)=some (.dY g (k+d)):=rfl
@[simp] theorem Bz:ez .rw .rw k=.rw:=by unfold ez;split<;>rfl
@[simp] theorem BA {t:TypeId}:ez (.bt t) (.bt t) 0=.bt t:=by unfold ez;simp
@[simp] theorem Md.CY {t:TypeId}:Md.w (.bt t)=true:=rfl
@[simp] theorem Md.w_rw':Md.w .rw=true:=rfl
@[simp] theorem wN {op:BinOp} {r:Bool}:eqB op (some r)=mT op r:=rfl
@[simp] theorem vF {r:Bool}:mT .eql r=some (.bool r):=rfl
@[simp] theorem BB {r:Bool}:mT .neq r=some (.bool (!r)):=rfl
@[simp] theorem An:bg .nils=some (.int .i64 0):=rfl
@[simp] theorem BC:bg .emp=some (.int .i64 0):=rfl
@[simp] theorem BO {c:cK}:bg (.sl o k len c)=some (.int .i64 len):=rfl
@[simp] theorem nD {s:List UInt8}:mW (.str s)=some (.int .i64 s.length):=rfl
@[simp] theorem cM {b:Bool}:lun .not (.bool b)=some (.bool (!b)):=rfl
@[simp] theorem BD {k k':IntKind} {x:Int}:wG k (.int k' x)=some (.int k (k.wrap x)):=rfl
@[simp] theorem Ao {b:Bool} {x y:LV}:oM (.bool b) x y=some (cond b x y):=rfl
@[simp] theorem aO {vs:List LV} {i:Nat}:ah (.tup vs) i=vs[i]?:=rfl
@[simp] theorem aq {op:BinOp} {k:IntKind} {x y:Int}:aU op (.int k x) (.int k y)=lint op k x y:=by simp[aU]
@[simp] theorem bI {k:IntKind} {x y:Int}:lint .add k x y=some (.int k (k.wrap (x+y))):=rfl
@[simp] theorem kc {k:IntKind} {x y:Int}:lint .sub k x y=some (.int k (k.wrap (x-y))):=rfl
@[simp] theorem BP {k:IntKind} {x y:Int}:lint .mul k x y=some (.int k (k.wrap (x*y))):=rfl
@[simp] theorem cP {k:IntKind} {x y:Int}:lint .eql k x y=some (.bool (x==y)):=rfl
@[simp] theorem cC {k:IntKind} {x y:Int}:lint .neq k x y=some (.bool (x != y)):=rfl
@[simp] theorem aY {k:IntKind} {x y:Int}:lint .lss k x y=some (.bool (decide (x<y))):=rfl
@[simp] theorem wO {k:IntKind} {x y:Int}:lint .leq k x y=some (.bool (decide (x≤y))):=rfl
@[simp] theorem ke {k:IntKind} {x y:Int}:lint .gtr k x y=some (.bool (decide (x > y))):=rfl
@[simp] theorem eV {k:IntKind} {x y:Int}:lint .geq k x y=some (.bool (decide (x≥y))):=rfl
@[simp] theorem gv {op:BinOp} {x y:List UInt8}:pC op (.str x) (.str y)=sM op x y:=rfl
@[simp] theorem kf {x y:List UInt8}:sM .eql x y=some (.bool (x==y)):=rfl
@[simp] theorem wP {x y:List UInt8}:sM .neq x y=some (.bool (!(x==y))):=rfl
theorem dr (h:st[o]?=some (.cells m l)):ld1 st (.ptr o k)=l[k]?:=by simp[ld1,h]
theorem eE (h:st[o]?=some (.cells m l)) (hk:k+n≤l.length):ldA st (.ptr o k) n=some (.agg ((l.drop k).take n)):=by simp[ldA,h,hk]
theorem eY {v:LV} (h:st[o]?=some (.cells m l)) (hk:k<l.length) (hv:v.one=true) (hm:m.w=true:=by rfl):stV st 1 (.ptr o k) v=some (st.set o (.cells m (l.set k v))):=by
 unfold stV
 cases v<;>simp_all [LV.one,LV.cells,LV.ok,st1]
theorem dE {vs:List LV} (h:st[o]?=some (.cells m l)) (hk:k+vs.length≤l.length) (hv:vs.all LV.one=true) (hn:vs.length=n) (hm:m.w=true:=by rfl) :
  stV st n (.ptr o k) (.agg vs)=some (st.set o (.cells m (bu l k vs))):=by
 unfold stV
 rw[if_pos ⟨hn,rfl⟩]
 simp only[stA,h]
 rw[if_pos ⟨hk,hv,hm⟩]
theorem uu {c:cK} {sz:Nat} {i:Int} {kk:IntKind} (h0:0≤i) (h1:i<len):bF sz (.sl o k len c) (.int kk i)=some (.ptr o (k+i.toNat*sz)):=by
 simp[bF,h0,h1]
theorem cF {x y:al} (h:st[o]?=some x):(st++[y])[o]?=some x:=by
 rw[bH (by exact (List.getElem?_eq_some_iff.1 h).1)];exact h
theorem bq {y:al}:(st++[y])[st.length]?=some y:=by simp
theorem cN {x y:al} (h:st[o]?=some x):(st.set o y)[o]?=some y:=by
 rw[List.getElem?_set_self (List.getElem?_eq_some_iff.1 h).1]
theorem fy {o':Nat} {y:al} (h:o'≠o):(st.set o' y)[o]?=st[o]?:=by
 rw[List.getElem?_set_ne h]
theorem b6 {x:al} (h:st[o]?=some x):o<st.length:=(List.getElem?_eq_some_iff.1 h).1
theorem wrap_i64 {n:Int} (h1 : -9223372036854775808≤n) (h2:n<9223372036854775808):IntKind.i64.wrap n=n:=by
 rw[IntKind.wrap_i64];omega
structure Fr (st st':aa) (S:Nat→Prop):Prop where
 len:st.length≤st'.length
 same:∀ j,j<st.length→¬ S j→st'[j]?=st[j]?
theorem Fr.refl {S:Nat→Prop}:Fr st st S:=⟨Nat.le_refl _,fun _ _ _=>rfl⟩
theorem Fr.mono {st':aa} {S S':Nat→Prop} (h:Fr st st' S) (hs:∀ j,j<st.length→S j→S' j):Fr st st' S':=⟨h.len,fun j hj hn=>h.same j hj fun hc=>hn (hs j hj hc)⟩
theorem Fr.trans {st' st'':aa} {S S':Nat→Prop} (h:Fr st st' S) (h':Fr st' st'' S') (hs:∀ j,j<st.length→S' j→S j):Fr st st'' S:=
 ⟨Nat.le_trans h.len h'.len,fun j hj hn=>by rw[h'.same j (Nat.lt_of_lt_of_le hj h.len) fun hc=>hn (hs j hj hc),h.same j hj hn]⟩
theorem Fr.app {S:Nat→Prop} {y:al}:Fr st (st++[y]) S:=⟨by simp,fun j hj _=>by rw[bH hj]⟩
theorem Fr.set {S:Nat→Prop} {y:al} (h:S o):Fr st (st.set o y) S:=⟨by simp,fun j _ hn=>List.getElem?_set_ne (fun e=>by subst e;exact hn h)⟩
theorem Fr.get {st':aa} {S:Nat→Prop} {x:al} (h:Fr st st' S) (hg:st[o]?=some x) (hn:¬ S o):st'[o]?=some x:=by rw[h.same o (b6 hg) hn];exact hg
end
def osl (f:Option Nat) (sz n:Nat):LV:=match f with
 | none=>.nils
 | some o=>.sl o 0 n (.rest sz)
def bS (m0:Md) (st:aa) (f:Option Nat) (sz n:Nat) (cs:List LV):Prop:=cs.length=n*sz∧match f with
 | none=>n=0
 | some o=>∃ rest,st[o]?=some (.cells m0 (cs++rest))
section
variable {m0:Md} {st st':aa} {f:Option Nat} {sz n bytes:Nat} {cs new:List LV}
theorem bS.bg (h:bS m0 st f sz n cs):bg (osl f sz n)=some (.int .i64 n):=by
 cases f with
 | none=>obtain ⟨_,rfl⟩:=h;rfl
 | some o=>rfl
theorem bS.nil {sz:Nat}:bS m0 st none sz 0 []:=⟨by simp,rfl⟩
theorem bS.fr {S:Nat→Prop} (h:bS m0 st f sz n cs) (hf:Fr st st' S) (hs:∀ o,f=some o→¬ S o):bS m0 st' f sz n cs:=by
 refine ⟨h.1,?_⟩
 cases f with
 | none=>exact h.2
 | some o=>obtain ⟨rest,h2⟩:=h.2;exact ⟨rest,hf.get h2 (hs o rfl)⟩
theorem bS.lt {o:Nat} (h:bS m0 st (some o) sz n cs):o<st.length:=by obtain ⟨_,h2⟩:=h.2;exact b6 h2
theorem bS.ix {i:Int} {kk:IntKind} (h:bS m0 st f sz n cs) (h0:0≤i) (h1:i<n):∃ o,f=some o∧bF sz (osl f sz n) (.int kk i)=some (.ptr o (i.toNat*sz)):=by
 cases f with
 | none=>have:=h.2;simp only at this;omega
 | some o=>exact ⟨o,rfl,by simp only[osl];rw[uu h0 h1,av]⟩
theorem bS.ld {o k:Nat} {x:LV} (h:bS m0 st (some o) sz n cs) (hk:cs[k]?=some x):ld1 st (.ptr o k)=some x:=by
 obtain ⟨rest,h2⟩:=h.2
 rw[dr h2,bH (List.getElem?_eq_some_iff.1 hk).1,hk]
theorem bS.ldA {o k m:Nat} (h:bS m0 st (some o) sz n cs) (hk:k+m≤cs.length):ldA st (.ptr o k) m=some (.agg ((cs.drop k).take m)):=by
 obtain ⟨rest,h2⟩:=h.2
 rw[eE h2 (by simp;omega),List.drop_append_of_le_length (by omega),List.take_append_of_le_length (by simp;omega)]
theorem tr {a b new:List LV}:bu (a++b) a.length new=a++new++b.drop new.length:=by
 unfold bu
 rw[List.take_left,List.drop_append,dw (Nat.le_add_right ..),Nat.add_sub_cancel_left,aR]
theorem bS.append {x:LV} {k:Nat} (h:bS m0 st f sz n cs) (hx:fT st sz x=some (k,new)) (hk:0<k) (hn:new.length=k*sz) (h1:new.all LV.one=true)
  (hr:dn (n+k) bytes=true) (hm:m0.w=true:=by rfl) :
  ∃ st2 f2,a6 st sz bytes m0 (osl f sz n) x=some (osl f2 sz (n+k),st2)∧bS m0 st2 f2 sz (n+k) (cs++new)∧Fr st st2 (fun j=>f=some j)∧
   (∀ j,f2=some j→f=some j∨st.length≤j)∧st2.length≤st.length+1:=by
 have hk0:¬ k=0:=by omega
 have hlen:(cs++new).length=(n+k)*sz:=by rw[gg,h.1,hn,Nat.add_mul]
 cases f with
 | none=>
  obtain ⟨hc,hz⟩:=h
  simp only at hz;subst hz
  have hc':cs=[]:=by simpa using hc
  subst hc'
  rw[av] at hr
  refine ⟨st++[.cells m0 new],some st.length,?_,⟨hlen,[],by simp⟩,Fr.app,?_,by simp⟩
  ·simp only[osl,a6,hx,hk0,if_false,hr,if_true,av]
  ·intro j e;right;simp at e;omega
 | some o=>
  obtain ⟨hc,rest,h2⟩:=h
  by_cases hfit:0+(n+k)*sz≤(cs++rest).length
  ·refine ⟨st.set o (.cells m0 (bu (cs++rest) (0+n*sz) new)),some o,?_,⟨hlen,rest.drop new.length,?_⟩,Fr.set rfl,fun j e=>.inl e,by simp⟩
   ·simp only[osl,a6,hx,hk0,if_false,h2,h1,hm,if_true,and_self,hfit]
   ·rw[cN h2,av,← hc,tr]
  ·refine ⟨st.set o .dead++[.cells m0 (((cs++rest).drop 0).take (n*sz)++new)],some st.length,?_,⟨hlen,[],?_⟩,?_,?_,by simp⟩
   ·have h3:0+n*sz≤(cs++rest).length:=by simp[hc]
    simp only[osl,a6,hx,hk0,if_false,h2,h1,hm,if_true,and_self,hfit,hr,h3,ez]
   ·rw[List.drop_zero,← hc,List.take_left,List.append_nil]
    have:st.length=(st.set o al.dead).length:=by simp
    rw[this,bq]
   ·exact (Fr.set (S:=fun j=>some o=some j) rfl).trans Fr.app (fun _ _ h=>h)
   ·intro j e;right;simp at e;omega
end
end Go.CP
namespace Go.CP
open Go.ChangeShapes Go.WideShapes Go.ChangeAt Go.RowKit
theorem ak.body {P:Program} {f:FuncId} {xs:List LV} {st:aa} {R:LV→aa→Prop} (hb:b5 P f) (h:ak P f xs st R) :
  b5 P f∧∀ w0 β w vs,Rel w0 β st w→Rps β xs vs→Calls P f ⟨vs⟩ w (mj w0 R β):=by
 rcases h with h|h
 ·exact h
 ·refine ⟨hb,fun w0 β w vs h1 h2=>?_⟩
  obtain ⟨u,w',h3,_⟩:=h w0 β w vs h1 h2
  obtain ⟨fn,body,e1,e2,e3⟩:=hb
  have:(callFunc f ⟨vs⟩).run P w=.ok (.enter f ⟨vs⟩) w:=by
   simp only[callFunc,ae,an,ab,run_program,e1,e3,e2,Option.isNone_some,Bool.false_eq_true,if_false]
  rw[this] at h3
  cases h3
theorem ak.law {P:Program} {f:FuncId} {xs:List LV} {st:aa} {β:Lay} {w:World} {vs:List Value} (hb:b5 P f) (h:ak P f xs st fun r _=>r=.bool true) (hr:Rel w β st w) (hx:Rps β xs vs) :
  Calls P f ⟨vs⟩ w fun e w'=>e=.returned (.bool true)∧Below w.heap.size w w':=
 ((h.body hb).2 w β w vs hr hx).mono fun e w' ⟨β',r,st',v,h1,h2,h3,h4,_⟩=>by
  subst h1
  simp only[Rp] at h3
  subst h3
  exact ⟨h2,h4.below.toBelow⟩
end Go.CP
