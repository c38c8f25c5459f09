/- Parts of the proof. -/
import Derived.Test.YtknegckgmklnhaaGreatDoorCp33
import Derived.Defers
import Derived.Recover
namespace Go.CP
abbrev cm:=FuncId × List LV
def tE (P:Program) (β:Lay) (d:cm) (dv:Deferred):Prop:=
 ∃ fv cap vs,dv.target=.fn fv cap∧(∀ w,(invoke dv.target dv.args).run P w=.ok (.enter d.1 ⟨vs⟩) w)∧Rps β d.2 vs
def hG (P:Program) (β:Lay):List cm→List Deferred→Prop
 | [],D=>D=[]
 | d::r,D=>∃ dv D',D=dv::D'∧tE P β d dv∧hG P β r D'
theorem tE.mono {P:Program} {β β':Lay} (hl:β.le β') {d:cm} {dv:Deferred} (h:tE P β d dv):tE P β' d dv:=
 let ⟨fv,cap,vs,h1,h2,h3⟩:=h;⟨fv,cap,vs,h1,h2,h3.mono hl⟩
theorem hG.mono {P:Program} {β β':Lay} (hl:β.le β'):∀ {ds:List cm} {D:List Deferred},hG P β ds D→hG P β' ds D
 | [],_,h=>h
 | _::_,_,⟨dv,D',e,h1,h2⟩=>⟨dv,D',e,h1.mono hl,h2.mono hl⟩
def cG (P:Program) (f:FuncId) (xs:List LV) (st:aa) (K:aa→Prop):Prop:=
 ∀ w0 β w vs,Rel w0 β st w→Rps β xs vs→CallsD P f ⟨vs⟩ .returning w fun e u' w'=>u'=.returning∧∃ β' st' v,e=.returned v∧K st'∧Rel w0 β' st' w'∧β.le β'
def fE (P:Program):List cm→aa→(aa→Prop)→Prop
 | [],st,K=>K st
 | d::r,st,K=>cG P d.1 d.2 st fun st'=>fE P r st' K
def xk (P:Program) (κ:CallKind) (fr:Frame) (w:World) (e:Ending):Prop:=match κ with
 | .deferred=>fr.kind=.deferred∧fr.going P w e
 | _=>fr.leaving P w e
def vV (κ:CallKind) (cs:List Frame):Prop:=match κ with
 | .deferred=>∃ c cs',cs=c::cs'∧c.mode=.returning
 | _=>True
def LTg (P:Program) (κ:CallKind) (rs:List ResultVar) (k:List Item) (ds:List cm) (R:LV→aa→Prop) (t:List LV) (st:aa):Prop:=
 ∀ w0 β w a fn,Rel w0 β st w→Rps β t a.tmps.toList→hG P β ds a.defers→fn.results.toList=rs→∀ (b:Frame) (cs:List Frame),P.funcs[b.fn]?=some fn→b.kind=κ→vV κ cs→
  ∃ e w' fr,mj w0 R β e w'∧Comes P (lone (b.at a k) cs w) (lone fr cs w') e∧fr.fn=b.fn∧xk P κ fr w' e
section
variable {P:Program} {κ:CallKind} {rs:List ResultVar} {R:LV→aa→Prop}
theorem LTg.move {k k':List Item} {ds:List cm} {t:List LV} {st:aa} (hs:∀ (b:Frame) (a:Act) (cs:List Frame) (w:World),step P (lone (b.at a k) cs w)=.next (lone (b.at a k') cs w))
  (h:LTg P κ rs k' ds R t st):LTg P κ rs k ds R t st:=
 fun w0 β w a fn h1 h2 h3 h4 b cs hf hk hc=>
  let ⟨e,w',fr,h5,h6,h7,h8⟩:=h w0 β w a fn h1 h2 h3 h4 b cs hf hk hc
  ⟨e,w',fr,h5,.of_steps (.one (hs b a cs w)) h6,h7,h8⟩
theorem LTg.cond {c:Operand} {x y:Code} {k:List Item} {ds:List cm} {t:List LV} {st:aa} {b0:Bool} (hv:ev t c=some (.bool b0)) (h:LTg P κ rs (.code (if b0 then x else y)::k) ds R t st) :
  LTg P κ rs (.code (.cond c x y)::k) ds R t st:=by
 intro w0 β w a fn h1 h2 h3 h4 b cs hf hk hc
 have hr:=au h2 hv
 simp only[Rp] at hr
 obtain ⟨e,w',fr,h5,h6,h7,h8⟩:=h w0 β w a fn h1 h2 h3 h4 b cs hf hk hc
 exact ⟨e,w',fr,h5,.of_steps (.one (step_cond hr)) h6,h7,h8⟩
theorem LTg.code {c:Code} {k:List Item} {ds:List cm} {t:List LV} {st:aa}
  (h:∀ (w0:World) (β:Lay) (w:World) (a:Act),Rel w0 β st w→Rps β t a.tmps.toList→
   c.wp P (fun e a' w'=>e=.normal∧∃ β' t' st',LTg P κ rs k ds R t' st'∧Rel w0 β' st' w'∧Rps β' t' a'.tmps.toList∧a'.defers=a.defers∧β.le β') a w):LTg P κ rs (.code c::k) ds R t st:=by
 intro w0 β w a fn h1 h2 h3 h4 b cs hf hk hc
 obtain ⟨e,a',w',⟨he,β',t',st',k1,k2,k3,k4,k5⟩,harr⟩:=h w0 β w a h1 h2 b k cs
 subst he
 obtain ⟨e,w'',fr,h5,h6,h7,h8⟩:=k1 w0 β' w' a' fn k2 k3 (by rw[k4];exact h3.mono k5) h4 b cs hf hk hc
 exact ⟨e,w'',fr,h5.le k5,.of_steps harr h6,h7,h8⟩
theorem LTg.rY {c:Code} {k:List Item} {ds:List cm} {t:List LV} {st:aa}
  (h:∀ (w0:World) (β:Lay) (w:World) (a:Act),Rel w0 β st w→Rps β t a.tmps.toList→
   c.wp P (fun e a' w'=>e=.normal∧∃ β' t' st' d dv,LTg P κ rs k (d::ds) R t' st'∧Rel w0 β' st' w'∧Rps β' t' a'.tmps.toList∧a'.defers=dv::a.defers∧tE P β' d dv∧β.le β') a w):LTg P κ rs (.code c::k) ds R t st:=by
 intro w0 β w a fn h1 h2 h3 h4 b cs hf hk hc
 obtain ⟨e,a',w',⟨he,β',t',st',d,dv,k1,k2,k3,k4,kd,k5⟩,harr⟩:=h w0 β w a h1 h2 b k cs
 subst he
 obtain ⟨e,w'',fr,h5,h6,h7,h8⟩:=k1 w0 β' w' a' fn k2 k3 (by rw[k4];exact ⟨dv,_,rfl,kd,h3.mono k5⟩) h4 b cs hf hk hc
 exact ⟨e,w'',fr,h5.le k5,.of_steps harr h6,h7,h8⟩
theorem kq {b:Frame} {a:Act} {k:List Item} {c:Frame} {cs:List Frame} {w:World} {ops:Array Oper} {i:Nat} {rest:List Nat} {o:Oper} {cl:Call} (hb:b.kind=.deferred) (hc:c.mode=.returning) (ho:ops[i]?=some o) (hg:o.guard=none)
  (hop:o.op=.call cl) (hcl:cl.callee=.builtin .recover) :
  step P (lone (b.at a (.inRegion ops (i::rest)::k)) (c::cs) w)=.next (lone (b.at (a.put o.dst .nilIface) (.inRegion ops rest::k)) (c::cs) w):=by
 have hw:Region.wanted o (yielded ops a.tmps)=true:=by simp[Region.wanted,hg]
 have hgo:=stepG_op (P:=P) (b:=b) (k:=k) (cs:=c::cs) (w:=w) (rest:=rest) ho hw
 have hfin:∀ v,(b.at a (.inRegion ops (i::rest)::k)).finish v=b.at (a.put o.dst v) (.inRegion ops rest::k):=by
  intro v;rw[Frame.finish_at,ho];rfl
 have hr:(execOp a.eval o).run P w=.ok .recover w:=by
  obtain ⟨bs,hcs⟩:=bp (P:=P) (w:=w) (ρ:=a.eval) hop hcl
  rw[hcs]
  rfl
 have hk:(b.at a (.inRegion ops (i::rest)::k)).kind=.deferred:=hb
 have htr:=tryRecover_deferred hk (c::cs)
 have hrec:recoverD (c::cs)=none:=by simp[recoverD,hc]
 refine step_lone_go ?_
 rw[hgo,← hfin]
 simp only[Frame.at] at htr ⊢
 simp[stepG.apply,hr,htr,hrec]
theorem LTg.recover {id:Nat} {ops:Array Oper} {o:Oper} {cl:Call} {m:Nat} {k:List Item} {ds:List cm} {t:List LV} {st:aa} (hm:ops.size=m+1) (ho:ops[0]?=some o) (hg:o.guard=none) (hop:o.op=.call cl)
  (hcl:cl.callee=.builtin .recover) (h:bw P ops (List.range' 1 m) (fun t st=>LTg P .deferred rs k ds R t st) (aW t o.dst .nili) st):LTg P .deferred rs (.code (.region id ops false)::k) ds R t st:=by
 intro w0 β w a fn h1 h2 h3 h4 b cs hf hk hc
 obtain ⟨c,cs',rfl,hcm⟩:=hc
 have s1:=step_region (P:=P) (b:=b) (a:=a) (k:=k) (cs:=c::cs') (w:=w) (id:=id) (ops:=ops)
 rw[hm,List.range_eq_range',List.range'_succ] at s1
 have s2:=kq (P:=P) (b:=b) (a:=a) (k:=k) (cs:=cs') (w:=w) (rest:=List.range' (0+1) m) hk hcm ho hg hop hcl
 have hput:Rps β (aW t o.dst .nili) (a.put o.dst .nilIface).tmps.toList:=bZ h2 rfl
 have hops:=bN (dl:=a.defers) (Q:=fun e a' w'=>e=.normal∧∃ β' t' st',LTg P .deferred rs k ds R t' st'∧Rel w0 β' st' w'∧Rps β' t' a'.tmps.toList∧a'.defers=a.defers∧β.le β') h1 hput (put_defers' ..) h
  fun β' t' st' a' w' k1 k2 k3 k4 k5=>⟨rfl,β',t',st',k1,k2,k3,k4,k5⟩
 obtain ⟨e,a',w',⟨he,β',t',st',k1,k2,k3,k4,k5⟩,harr⟩:=wp_ops _ _ _ hops b k (c::cs')
 subst he
 obtain ⟨e,w'',fr,h5,h6,h7,h8⟩:=k1 w0 β' w' a' fn k2 k3 (by rw[k4];exact h3.mono k5) h4 b (c::cs') hf hk ⟨c,cs',rfl,hcm⟩
 exact ⟨e,w'',fr,h5.le k5,.of_steps (.head s1 (.head s2 harr)) h6,h7,h8⟩
theorem o7 {fn:Func} {t:List LV} {tmps:Array Value} {w0:World} {β0:Lay} (hrs:fn.results.toList=rs):∀ {ds:List cm} {D:List Deferred} {st:aa} {β:Lay} {w:World},
  Rel w0 β st w→Rps β t tmps.toList→hG P β ds D→β0.le β→fE P ds st (fun st'=>fX P rs R t st')→Leaves P fn tmps (mj w0 R β0) D .returning w
 | [],D,st,β,w,h1,h2,h3,hl,h=>by
  simp only[hG] at h3
  subst h3
  simp only[fE,fX] at h
  obtain ⟨vs,hvs,h⟩:=dH h
  rw[← hrs] at hvs
  obtain ⟨u,h5,h6⟩:=dA h1 h2 hvs
  exact ⟨u,h5,β,_,st,u,h,rfl,h6,h1,hl⟩
 | d::r,D,st,β,w,h1,h2,h3,hl,h=>by
  obtain ⟨dv,D',rfl,⟨fv,cap,vs,e1,e2,e3⟩,h4⟩:=h3
  simp only[fE] at h
  refine ⟨by simp,fv,cap,d.1,⟨vs⟩,e1,e2 w,(h w0 β w vs h1 e3).mono ?_⟩
  rintro e u' w' ⟨rfl,β',st',v,rfl,k1,k2,k3⟩
  exact o7 hrs k2 (h2.mono k3) (h4.mono k3) (hl.trans k3) k1
theorem LTg.finish {k:List Item} {ds:List cm} {t:List LV} {st:aa} (hs:∀ (b:Frame) (a:Act) (cs:List Frame) (w:World),step P (lone (b.at a k) cs w)=.next (lone { b.at a k with mode:=.returning } cs w))
  (h:fE P ds st fun st'=>fX P rs R t st'):LTg P .normal rs k ds R t st:=by
 intro w0 β w a fn h1 h2 h3 h4 b cs hf hk _
 have hL:=o7 (fn:=fn) h4 h1 h2 h3 (Lay.le.refl _) h
 obtain ⟨e',w'',fr',hR,hst,hfn,hl⟩:=leaves_steps a.defers .returning w { b.at a k with mode:=.returning } cs rfl rfl rfl hf hk hL
 exact ⟨e',w'',fr',hR,Comes.of_steps (.one (hs b a cs w)) hst,hfn,hl⟩
theorem LTg.uJ {k:List Item} {t:List LV} {st:aa} (hs:∀ (b:Frame) (a:Act) (cs:List Frame) (w:World),step P (lone (b.at a k) cs w)=.next (lone { b.at a k with mode:=.returning } cs w))
  (h:fX P rs R t st):LTg P .deferred rs k [] R t st:=by
 intro w0 β w a fn h1 h2 h3 h4 b cs hf hk _
 unfold fX at h
 obtain ⟨vs,hvs,h⟩:=dH h
 rw[← h4] at hvs
 obtain ⟨u,h5,h6⟩:=dA h1 h2 hvs
 exact ⟨.returned u,w,{ b.at a k with mode:=.returning },⟨β,_,st,u,h,rfl,h6,h1,Lay.le.refl _⟩,.one (hs b a cs w),rfl,hk,rfl,h3,fn,hf,h5⟩
theorem ak.ofG {f:FuncId} {fn:Func} {c:Code} {xs:List LV} {st:aa}
  (hf:P.funcs[f]?=some fn) (hb:fn.body=some c) (hn:(fn.name == "runtime.NumGoroutine")=false) (hrs:fn.results.toList=rs)
  (h:LTg P .normal rs [.code c] [] R (xs++List.replicate (fn.ntmps-xs.length) af) st):ak P f xs st R:=by
 refine .inl ⟨⟨fn,c,hf,hb,hn⟩,fun w0 β w vs h1 h2 cs=>?_⟩
 let b:Frame:={ (default:Frame) with fn:=f,kind:=.normal }
 have henter:Frame.enter P f ⟨vs⟩ .normal=b.at { tmps:=(⟨vs⟩:Array Value)++Array.replicate (fn.ntmps-vs.length) undef,defers:=[] } [.code c]:=by
  simp[Frame.enter,Frame.at,hf,hb,b]
 rw[henter]
 have htm:Rps β (xs++List.replicate (fn.ntmps-xs.length) af) ((⟨vs⟩:Array Value)++Array.replicate (fn.ntmps-vs.length) undef).toList:=by
  rw[show ((⟨vs⟩:Array Value)++Array.replicate (fn.ntmps-vs.length) undef).toList=vs++List.replicate (fn.ntmps-xs.length) undef by simp[h2.length]]
  exact h2.append (Rps.replicate Rp.undef _)
 obtain ⟨e,w',fr,h5,h6,h7,h8⟩:=h w0 β w { tmps:=(⟨vs⟩:Array Value)++Array.replicate (fn.ntmps-vs.length) undef,defers:=[] } fn h1 htm rfl hrs b cs hf rfl trivial
 exact ⟨e,w',fr,h5,h6,h7,h8⟩
theorem cG.ofG {f:FuncId} {fn:Func} {c:Code} {xs:List LV} {st:aa} {K:aa→Prop}
  (hf:P.funcs[f]?=some fn) (hb:fn.body=some c) (hrs:fn.results.toList=rs)
  (h:LTg P .deferred rs [.code c] [] (fun _ st'=>K st') (xs++List.replicate (fn.ntmps-xs.length) af) st):cG P f xs st K:=by
 intro w0 β w vs h1 h2 c0 cs hu
 let b:Frame:={ (default:Frame) with fn:=f,kind:=.deferred }
 have henter:Frame.enter P f ⟨vs⟩ .deferred=b.at { tmps:=(⟨vs⟩:Array Value)++Array.replicate (fn.ntmps-vs.length) undef,defers:=[] } [.code c]:=by
  simp[Frame.enter,Frame.at,hf,hb,b]
 have htm:Rps β (xs++List.replicate (fn.ntmps-xs.length) af) ((⟨vs⟩:Array Value)++Array.replicate (fn.ntmps-vs.length) undef).toList:=by
  rw[show ((⟨vs⟩:Array Value)++Array.replicate (fn.ntmps-vs.length) undef).toList=vs++List.replicate (fn.ntmps-xs.length) undef by simp[h2.length]]
  exact h2.append (Rps.replicate Rp.undef _)
 have hc:({ c0 with mode:=.returning }:Frame)=c0:=by rw[← hu]
 obtain ⟨e,w',fr,⟨β',r,st',v,k1,k2,k3,k4,k5⟩,h6,h7,h8,h9⟩:=h w0 β w { tmps:=(⟨vs⟩:Array Value)++Array.replicate (fn.ntmps-vs.length) undef,defers:=[] } fn h1 htm rfl hrs b (c0::cs) hf rfl ⟨c0,cs,rfl,hu⟩
 refine ⟨e,.returning,w',fr,⟨rfl,β',st',v,k2,k1,k4,k5⟩,?_,h8,h9⟩
 rw[henter,hc]
 exact h6
end
section
variable {β:Lay} {P:Program} {w w0:World} {st:aa} {dl:List Deferred}
theorem dc {ops:Array Oper} {Q:Exit→Act→World→Prop} {l2:List Nat}:∀ {l:List Nat} {K:List LV→aa→Prop} {t:List LV} {st:aa} {β:Lay} {a:Act} {w:World},
  Rel w0 β st w→Rps β t a.tmps.toList→a.defers=dl→bw P ops l K t st→
  (∀ β' t' st' a' w',K t' st'→Rel w0 β' st' w'→Rps β' t' a'.tmps.toList→a'.defers=dl→β.le β'→wpOps P ops Q l2 a' w')→wpOps P ops Q (l++l2) a w
 | [],K,t,st,β,a,w,h,ht,hd,hk,hq=>hq β t st a w hk h ht hd (Lay.le.refl _)
 | i::rest,K,t,st,β,a,w,h,ht,hd,hk,hq=>by
  rw[List.cons_append]
  simp only[wpOps]
  simp only[bw,force_eq] at hk
  cases ho:ops[i]? with
  | none=>
   simp only[ho] at hk ⊢
   exact dc h ht hd hk hq
  | some o=>
   simp only[ho] at hk ⊢
   -- the operation,done
   have go:∀ {t':List LV},t'=t→cZ P o t' st (fun v st'=>bo (bV ops i) v fun v=>bw P ops rest K (aW t' o.dst v) st')→Oper.wp P o a w (wpOps P ops Q (rest++l2)) Q:=by
    intro t' e hk'
    subst e
    refine Oper.wp_mono ?_ (fO (Q:=Q) h ht hk')
    intro a' w' ⟨β',v,st',u,h1,h2,h3,h4,h5⟩
    subst h5
    have h1:=cx h1
    exact dc h3 (bZ (ht.mono h4) h2) (by rw[put_defers'];exact hd) h1 (fun β'' t'' st'' a'' w'' k1 k2 k3 k4 k5=>hq β'' t'' st'' a'' w'' k1 k2 k3 k4 (h4.trans k5))
   -- the operation,passed by
   have skip:∀ {t':List LV},t'=t→bw P ops rest K (aW t' o.dst af) st→wpOps P ops Q (rest++l2) (a.put o.dst undef) w:=by
    intro t' e hk'
    subst e
    exact dc h (bZ ht Rp.undef) (by rw[put_defers'];exact hd) hk' hq
   cases hg:o.guard with
   | none=>
    simp only[hg] at hk
    have hw:Region.wanted o (yielded ops a.tmps)=true:=by simp[Region.wanted,hg]
    rw[if_pos hw]
    exact .inl (go rfl hk)
   | some jw=>
    obtain ⟨j,want⟩:=jw
    simp only[hg] at hk
    cases hdst:(ops[j]?).bind (·.dst) with
    | none=>simp only[hdst] at hk
    | some d=>
     simp only[hdst] at hk
     rcases fu hk with ⟨hb,hk⟩ | ⟨hb,hk⟩ | ⟨hb,hk⟩
     ·have hy:=dG ht hdst hb
      have hs:=(cv hb).2
      cases want
      ·have hw:¬ Region.wanted o (yielded ops a.tmps)=true:=by simp[Region.wanted,hg,hy]
       rw[if_neg hw]
       exact skip hs hk
      ·have hw:Region.wanted o (yielded ops a.tmps)=true:=by simp[Region.wanted,hg,hy]
       rw[if_pos hw]
       exact .inl (go hs hk)
     ·have hy:=dG ht hdst hb
      have hs:=(cv hb).2
      cases want
      ·have hw:Region.wanted o (yielded ops a.tmps)=true:=by simp[Region.wanted,hg,hy]
       rw[if_pos hw]
       exact .inl (go hs hk)
      ·have hw:¬ Region.wanted o (yielded ops a.tmps)=true:=by simp[Region.wanted,hg,hy]
       rw[if_neg hw]
       exact skip hs hk
     ·have hy:=fP ht hdst hb
      have hw:¬ Region.wanted o (yielded ops a.tmps)=true:=by simp[Region.wanted,hg,hy]
      rw[if_neg hw]
      exact skip rfl hk
end
def cw (ops:Array Oper):Option (Oper × Call):=match ops[ops.size-1]? with
 | some o=>match o.op,o.guard with
  | .defer c,none=>some (o,c)
  | _,_=>none
 | none=>none
def vW (P:Program) (t:List LV) (c:Call):Option cm:=match dD t c with
 | some d=>match P.funcs[d.1]? with
  | some fn=>match fn.body,fn.name == "runtime.NumGoroutine" with
   | some _,false=>some d
   | _,_=>none
  | none=>none
 | none=>none
theorem gQ {P:Program} {β:Lay} {t:List LV} {a:Act} {c:Call} {d:cm} {o:Oper} {w:World} (ho:o.op=.defer c) (h:vW P t c=some d) (ht:Rps β t a.tmps.toList) :
  ∃ dv,(execOp a.eval o).run P w=.ok (.defer dv) w∧tE P β d dv:=by
 unfold vW at h
 split at h
 case h_2=>cases h
 rename_i d' hr
 split at h
 case h_2=>cases h
 rename_i fn hf
 split at h
 case h_2=>cases h
 rename_i body hbn hname
 cases h
 unfold dD at hr
 split at hr
 case h_2=>cases hr
 rename_i f hc
 split at hr
 case h_2=>cases hr
 rename_i v' xs' h1 h2
 unfold jO at hr
 split at hr
 case h_2=>cases hr
 rename_i g first captured
 simp only[ao] at hr
 subst hr
 obtain ⟨vs,us,e,r1,r2⟩:=au ht h1
 have r3:=cS ht h2
 refine ⟨{ target:=.fn (.func g) ⟨us⟩,args:=⟨vs⟩++c.args.map a.eval },?_,.func g,⟨us⟩,vs++c.args.toList.map a.eval++us,rfl,fun w=>?_,(r1.append r3).append r2⟩
 ·unfold execOp
  rw[ho]
  simp only[resolve,hc,Deferred.ofValue,e,ae,an,ab]
 ·have hargs:((⟨vs⟩:Array Value)++c.args.map a.eval++⟨us⟩)=⟨vs++c.args.toList.map a.eval++us⟩:=by
   apply Array.ext';simp
  simp only[invoke,hargs,callFunc,ae,an,ab,run_program,hf,hname,hbn,Option.isNone_some,Bool.false_eq_true,if_false]
abbrev vX:=FuncId→List LV→aa→Option aa
def qk (P:Program) (D:vX):Prop:=∀ f xs st st',D f xs st=some st'→∀ K:aa→Prop,K st'→cG P f xs st K
def nS (D:vX):List cm→aa→Option aa
 | [],st=>some st
 | d::r,st=>match D d.1 d.2 st with
  | some st'=>nS D r st'
  | none=>none
theorem kr {P:Program} {D:vX} (hD:qk P D):∀ {ds:List cm} {st st':aa} {K:aa→Prop},nS D ds st=some st'→K st'→fE P ds st K
 | [],st,st',K,h,hk=>by
  simp only[nS,ao] at h
  subst h;exact hk
 | d::r,st,st',K,h,hk=>by
  simp only[nS] at h
  split at h
  ·rename_i s1 h1
   exact hD _ _ _ _ h1 _ (kr hD h hk)
  ·cases h
def yS (P:Program) (D:vX) (dk:Bool) (rs:List ResultVar) (ds:List cm) (t:List LV) (st:aa):Option (LV × aa):=match dk with
 | true=>match ds with
  | []=>vI P rs t st
  | _=>none
 | false=>match nS D ds st with
  | some st'=>vI P rs t st'
  | none=>none
def gz (dk:Bool) (ops:Array Oper):Option Oper:=match dk with
 | true=>(match ops[0]? with
  | some o=>(match o.op with
   | .call c=>(match c.callee,o.guard with
    | .builtin .recover,none=>some o
    | _,_=>none)
   | _=>none)
  | none=>none)
 | false=>none
theorem eK {dk:Bool} {ops:Array Oper} {o:Oper} (h:gz dk ops=some o):dk=true∧ops[0]?=some o∧o.guard=none∧∃ c,o.op=.call c∧c.callee=.builtin .recover:=by
 unfold gz at h
 split at h
 ·split at h
  ·rename_i o' ho
   split at h
   ·rename_i c hc
    split at h
    ·rename_i e1 e2
     cases h
     exact ⟨rfl,ho,e2,c,hc,e1⟩
    ·cases h
   ·cases h
  ·cases h
 ·cases h
def dm (P:Program) (C:Ora) (D:vX) (dk:Bool) (rs:List ResultVar):Nat→List Item→List cm→List LV→aa→Option (LV × aa)
 | 0,_,_,_,_=>none
 | n+1,k,ds,t,st=>match k with
  | []=>yS P D dk rs ds t st
  | .code c::k=>(match c with
   | .skip=>dm P C D dk rs n k ds t st
   | .label _=>dm P C D dk rs n k ds t st
   | .seq a b=>dm P C D dk rs n (.code a::.code b::k) ds t st
   | .cond c a b=>(match ev t c with
    | some (.bool true)=>dm P C D dk rs n (.code a::k) ds t st
    | some (.bool false)=>dm P C D dk rs n (.code b::k) ds t st
    | _=>none)
   | .block id c=>dm P C D dk rs n (.code c::.inBlock id::k) ds t st
   | .loop c=>dm P C D dk rs n (.code c::.inLoop c::k) ds t st
   | .scope c=>dm P C D dk rs n (.code c::.inScope c::k) ds t st
   | .goto l=>(match gotoIn l k with
    | some k'=>dm P C D dk rs n k' ds t st
    | none=>none)
   | .exit id=>(match exitTo id k with
    | some k'=>dm P C D dk rs n k' ds t st
    | none=>none)
   | .ret=>yS P D dk rs ds t st
   | .region _ ops draw=>(match draw with
    | false=>(match cw ops with
     | none=>(match gz dk ops with
      | some o=>(match fY P C ops (List.range' 1 (ops.size-1)) (aW t o.dst .nili) st with
       | some (t,st)=>dm P C D dk rs n k ds t st
       | none=>none)
      | none=>(match fY P C ops (List.range ops.size) t st with
       | some (t,st)=>dm P C D dk rs n k ds t st
       | none=>none))
     | some (o,c)=>(match fY P C ops (List.range (ops.size-1)) t st with
      | some (t,st)=>(match vW P t c with
       | some d=>dm P C D dk rs n k (d::ds) (aW t o.dst af) st
       | none=>none)
      | none=>none))
    | true=>match iu ops (Region.before ops) with
     | true=>(match fB (rowsOf P ops) ops.size 0 with
      | some ls=>(match pX P C ops (Region.before ops) ls t st with
       | some (t,st)=>dm P C D dk rs n k ds t st
       | none=>none)
      | none=>none)
     | false=>none)
   | _=>none)
  | .inLoop c::k=>dm P C D dk rs n (.code c::.inLoop c::k) ds t st
  | .inBlock _::k=>dm P C D dk rs n k ds t st
  | .inScope _::k=>dm P C D dk rs n k ds t st
  | _=>none
def B6 (f:FuncId):List FuncId→Bool
 | []=>false
 | g::l=>match Nat.beq f g with
  | true=>true
  | false=>B6 f l
def jr (P:Program) (own:List FuncId) (X:Ora) (m:Nat):Nat→Bool→Ora
 | 0=>fun _ _ _ _=>none
 | n+1=>fun dk f xs st=>match P.funcs[f]? with
  | none=>none
  | some fn=>match fn.body with
   | none=>(match dk with
    | false=>X f xs st
    | true=>none)
   | some c=>match fn.name == "runtime.NumGoroutine" with
    | true=>none
    | false=>match B6 f own with
     | true=>(match dk with
      | false=>X f xs st
      | true=>none)
     | false=>dm P (jr P own X m n false) (fun f xs st=>match jr P own X m n true f xs st with|some r=>some r.2|none=>none) dk fn.results.toList m [.code c] [] (xs++List.replicate (fn.ntmps-xs.length) af) st
section
variable {P:Program} {C:Ora} {D:vX}
def kindOf:Bool→CallKind
 | true=>.deferred
 | false=>.normal
theorem nT (hD:qk P D) {dk:Bool} {rs:List ResultVar} {R:LV→aa→Prop} {k:List Item} {ds:List cm} {t:List LV} {st st':aa} {v:LV}
  (hs:∀ (b:Frame) (a:Act) (cs:List Frame) (w:World),step P (lone (b.at a k) cs w)=.next (lone { b.at a k with mode:=.returning } cs w)) (h:yS P D dk rs ds t st=some (v,st')) (hR:R v st'):LTg P (kindOf dk) rs k ds R t st:=by
 unfold yS at h
 split at h
 ·split at h
  ·exact LTg.uJ hs (nI h hR)
  ·cases h
 ·split at h
  ·rename_i s1 h1
   exact LTg.finish hs (kr hD h1 (nI h hR))
  ·cases h
theorem iC (hm:P.follows .mixedOrders=true) (hC:jn P C) (hD:qk P D) {dk:Bool} {rs:List ResultVar} {R:LV→aa→Prop} {v:LV} {st':aa} (hR:R v st'):∀ (n:Nat) {k:List Item} {ds:List cm} {t:List LV} {st:aa},
  dm P C D dk rs n k ds t st=some (v,st')→LTg P (kindOf dk) rs k ds R t st
 | 0,k,ds,t,st,h=>by simp[dm] at h
 | n+1,k,ds,t,st,h=>by
  have go:∀ {k ds t st},dm P C D dk rs n k ds t st=some (v,st')→LTg P (kindOf dk) rs k ds R t st:=fun h=>iC hm hC hD hR n h
  unfold dm at h
  split at h
  ·exact nT hD (fun b a cs w=>step_end) h hR
  ·split at h
   ·exact LTg.move (fun b a cs w=>step_skip) (go h)
   ·exact LTg.move (fun b a cs w=>step_label) (go h)
   ·exact LTg.move (fun b a cs w=>step_seq) (go h)
   ·split at h
    ·rename_i he
     exact LTg.cond he (go h)
    ·rename_i he
     exact LTg.cond he (go h)
    ·cases h
   ·exact LTg.move (fun b a cs w=>step_block) (go h)
   ·exact LTg.move (fun b a cs w=>step_loop) (go h)
   ·exact LTg.move (fun b a cs w=>step_scope') (go h)
   ·split at h
    ·rename_i hx
     exact LTg.move (fun b a cs w=>step_goto' hx) (go h)
    ·cases h
   ·split at h
    ·rename_i hx
     exact LTg.move (fun b a cs w=>step_exit hx) (go h)
    ·cases h
   ·exact nT hD (fun b a cs w=>step_ret) h hR
   ·rename_i id ops draw
    split at h
    ·split at h
     ·split at h
      ·rename_i o hrf
       obtain ⟨rfl,ho,hg,c,hop,hcl⟩:=eK hrf
       split at h
       ·rename_i hr
        have hl:=fg (K:=fun t st=>LTg P .deferred rs _ ds R t st) hC hr (go h)
        obtain ⟨m,hm'⟩:∃ m,ops.size=m+1:=⟨ops.size-1,by have:=(Array.getElem?_eq_some_iff.1 ho).1;omega⟩
        rw[hm',Nat.add_sub_cancel] at hl
        exact LTg.recover hm' ho hg hop hcl hl
       ·cases h
      split at h
      ·rename_i hr
       refine LTg.code fun w0 β w a h1 h2=>?_
       have hl:=fg (K:=fun t st=>LTg P (kindOf dk) rs _ ds R t st) hC hr (go h)
       exact wp_region (bN h1 h2 rfl hl fun β' t' st' a' w' k1 k2 k3 k4 k5=>⟨rfl,β',t',st',k1,k2,k3,k4,k5⟩)
      ·cases h
     ·rename_i o c hd
      split at h
      ·rename_i t1 s1 hr
       split at h
       ·rename_i d hl
        have hk:=go h
        refine LTg.rY fun w0 β w a h1 h2=>?_
        have hlv:=fg (K:=fun t st=>t=t1∧st=s1) hC hr ⟨rfl,rfl⟩
        refine wp_region ?_
        obtain ⟨m,hm'⟩:∃ m,ops.size=m+1:=by
         refine ⟨ops.size-1,?_⟩
         unfold cw at hd
         split at hd
         ·rename_i o' ho'
          have:=(Array.getElem?_eq_some_iff.1 ho').1
          omega
         ·cases hd
        have ho:ops[m]?=some o∧o.op=.defer c∧o.guard=none:=by
         unfold cw at hd
         rw[hm',Nat.add_sub_cancel] at hd
         split at hd
         ·rename_i o' ho'
          split at hd
          ·rename_i c' e1 e2
           cases hd
           exact ⟨ho',e1,e2⟩
          ·cases hd
         ·cases hd
        rw[hm',Nat.add_sub_cancel] at hlv
        rw[hm',List.range_succ]
        refine dc h1 h2 rfl hlv fun β' t' st'' a' w' k1 k2 k3 k4 k5=>?_
        obtain ⟨rfl,rfl⟩:=k1
        obtain ⟨dv,e1,e2⟩:=gQ (w:=w') ho.2.1 hl k3
        simp only[wpOps,ho.1]
        have hw:Region.wanted o (yielded ops a'.tmps)=true:=by simp[Region.wanted,ho.2.2]
        rw[if_pos hw]
        refine .inl ?_
        unfold Oper.wp
        rw[e1]
        refine ⟨trivial,β',_,_,d,dv,hk,k2,?_,?_,e2,k5⟩
        ·exact bZ (a:={ a' with defers:=dv::a'.defers }) k3 Rp.undef
        ·rw[put_defers'];show dv::a'.defers=dv::a.defers;rw[k4]
       ·cases h
      ·cases h
    ·split at h
     ·rename_i hok
      split at h
      ·rename_i ls hs
       split at h
       ·rename_i t2 s2 hr
        -- the drawn region
        refine LTg.code fun w0 β w a h1 h2=>?_
        have start:Inv P ops t t (aG ops.size 0) (Array.replicate ops.size false) t [] st:=by
         have hn:∀ (N i:Nat),¬ In (Array.replicate N false) i:=by
          intro N i hi
          unfold In at hi
          simp[Array.getElem?_replicate] at hi
          split at hi<;>simp at hi
         have he:∀ N,aG N 0=Array.replicate N false:=fun N=>by apply Array.ext<;>simp[aG]
         rw[he]
         exact ⟨⟨by simp,fun i o hi=>absurd hi (hn _ i)⟩,⟨by simp,fun i o hi=>absurd hi (hn _ i)⟩,fun i hi=>hi,⟨rfl,fun i o d hi=>absurd hi (hn _ i),fun _ _=>rfl⟩,⟨rfl,fun i o d hi=>absurd hi (hn _ i),fun _ _=>rfl⟩,
          fun i o hi=>absurd hi (hn _ i),fun j o hj=>absurd hj (hn _ j)⟩
        have htd:todo ops (Array.replicate ops.size false)≤ops.size:=by
         unfold todo
         exact Nat.le_trans (List.length_filter_le _ _) (by simp)
        have hdom:∀ o,st.length≤o→β o=none:=h1.dom
        have ends:∃ K:List LV→aa→Prop,(∀ l ∈ ls,∃ t' st',cr P C ops (Region.before ops) l [] t st=some (t',st')∧K t' st')∧
          ∀ β' t' s' w' us,K t' s'→Rel w0 β' s' w'→Rps β' t' us→β.le β'→∃ β'',Rel w0 β'' s2 w'∧Rps β'' t2 us∧β.le β'':=by
         unfold pX at hr
         split at hr
         ·cases hr
         ·exact ⟨fun t' s'=>t'=t2∧s'=s2,fun l' hl'=>by simp at hl';subst hl';exact ⟨_,_,hr,rfl,rfl⟩,fun β' t' s' w' us ⟨e1,e2⟩ k1 k2 k3=>by subst e1;subst e2;exact ⟨β',k1,k2,k3⟩⟩
         ·split at hr
          ·cases hr
          ·rw[gy] at hr
           split at hr
           ·rename_i hall
            simp only[ao,Prod.mk.injEq] at hr
            obtain ⟨e1,e2⟩:=hr
            rw[e2,e1] at hall
            refine ⟨fun t' s'=>∃ m,rC st.length m t' s' t2 s2=true,fun l' hl'=>?_,fun β' t' s' w' us ⟨m,hm⟩ k1 k2 k3=>?_⟩
            ·obtain ⟨t',s',e1,e2⟩:=lY hall l' hl'
             exact ⟨t',s',e1,e2⟩
            ·obtain ⟨e1,e2,e3⟩:=k1.iso k2 k3 hdom hm
             exact ⟨_,e1,e2,e3⟩
           ·cases hr
        obtain ⟨K,hK1,hK2⟩:=ends
        refine wp_region_any hm (ka (rq hok) _ (T0:=t) (T:=t) (TD:=t) (D:=Array.replicate _ false) (m:=0) (pend:=[]) (n:=ops.size) (β:=β) (K:=K) start (ki hC hs hK1) (h1.qI (Nat.le_succ _)) h2 rfl htd ?_)
        intro β' t' st'' a' w' k1 k2 k3 k4 k5
        obtain ⟨β'',e1,e2,e3⟩:=hK2 _ _ _ _ _ k1 k2 k3 k5
        exact ⟨rfl,β'',t2,s2,go h,e1,e2,k4,e3⟩
       ·cases h
      ·cases h
     ·cases h
   ·cases h
  ·exact LTg.move (fun b a cs w=>step_inLoop) (go h)
  ·exact LTg.move (fun b a cs w=>step_inBlock) (go h)
  ·exact LTg.move (fun b a cs w=>step_inScope) (go h)
  ·cases h
theorem rZ (hm:P.follows .mixedOrders=true) {own:List FuncId} {X:Ora} (hX:jn P X) {m:Nat}:∀ n,jn P (jr P own X m n false)∧qk P (fun f xs st=>match jr P own X m n true f xs st with|some r=>some r.2|none=>none)
 | 0=>⟨fun _ _ _ _ _ h=>by simp[jr] at h,fun _ _ _ _ h=>by simp[jr] at h⟩
 | n+1=>by
  obtain ⟨h1,h2⟩:=rZ hm (own:=own) hX (m:=m) n
  refine ⟨fun f xs st v st' h K hK=>?_,fun f xs st st' h K hK=>?_⟩
  ·unfold jr at h
   split at h
   ·cases h
   ·rename_i fn hf
    split at h
    ·exact hX _ _ _ _ _ h K hK
    ·rename_i c hb
     split at h
     ·cases h
     ·rename_i hn
      split at h
      ·exact hX _ _ _ _ _ h K hK
      exact ak.ofG hf hb hn rfl (iC (dk:=false) hm h1 h2 hK m h)
  ·simp only at h
   split at h
   ·rename_i r hr
    obtain ⟨v,s⟩:=r
    simp only[ao] at h
    subst h
    unfold jr at hr
    split at hr
    ·cases hr
    ·rename_i fn hf
     split at hr
     ·cases hr
     ·rename_i c hb
      split at hr
      ·cases hr
      ·split at hr
       ·cases hr
       exact cG.ofG hf hb rfl (iC (dk:=true) (R:=fun _ st'=>K st') hm h1 h2 hK m hr)
   ·cases h
theorem ql (hm:P.follows .mixedOrders=true) {own:List FuncId} {X:Ora} (hX:jn P X) {m n:Nat} {f:FuncId} {xs:List LV} {st:aa} {v:LV} {R:LV→aa→Prop} (h:(jr P own X m n false f xs []).map (·.1)=some v) (hx:LV.ar xs=true) (hv:v.plain=true)
  (hR:R v st):ak P f xs st R:=by
 simp only[Option.map_eq_some_iff] at h
 obtain ⟨⟨r,s⟩,h1,h2⟩:=h
 simp only at h2
 subst h2
 exact ak.forget ((rZ hm hX n).1 _ _ _ _ _ h1 _ rfl) hx hv hR
end
end Go.CP
