/- Parts of the proof. -/
import Derived.Test.YtknegckgmklnhaaGreatDoorCp48
namespace Go.CP
def rtA (P:Program):Bool:=match P.underlying P.rt.typeAssertionError with
 | some (.pointer _)=>true
 | _=>false
def asF (a:TypeId) (x:LV):Bool:=match x with
 | .nili=>true
 | .iface t _=>!(Nat.beq t a)
 | _=>false
def asZ (a:TypeId) (z:Option LV) (x:LV) (K:LV→Prop) (Y:Prop):Prop:=match asC a z x false with
 | some v=>K v
 | none=>match asF a x with
  | true=>Y
  | false=>False
def uK (P:Program) (x:LV) (a:TypeId) (K:LV→Prop) (Y:Prop):Prop:=match P.underlying a with
 | some (.interface _)=>bd (iM P x a false) K
 | some _=>(match rtA P with
  | true=>asZ a (eu P a) x K Y
  | false=>False)
 | none=>False
def mq (P:Program) (u:Value):List PanicEntry:=[{ v:=.iface P.rt.typeAssertionError u,recovered:=false }]
def nU (P:Program) (w0:World) (Y:aa→Prop) (β:Lay) (e:Ending) (w':World):Prop:=
 ∃ β' st' u,Y st'∧e=.panicked (mq P u)∧Rel w0 β' st' w'∧β.le β'
def a7 (P:Program) (f:FuncId) (xs:List LV) (st:aa) (R:LV→aa→Prop) (Y:aa→Prop):Prop:=
 (b5 P f∧∀ w0 β w vs,Rel w0 β st w→Rps β xs vs→Calls P f ⟨vs⟩ w fun e w'=>mj w0 R β e w'∨nU P w0 Y β e w')∨pJ P f xs st R
theorem ak.z {P:Program} {f:FuncId} {xs:List LV} {st:aa} {R:LV→aa→Prop} {Y:aa→Prop} (h:ak P f xs st R):a7 P f xs st R Y:=
 h.imp (fun h=>⟨h.1,fun w0 β w vs h1 h2=>(h.2 w0 β w vs h1 h2).mono fun _ _ h=>.inl h⟩) id
def me (P:Program) (Z:List LV→aa→Prop) (o:Oper) (t:List LV) (st:aa) (K:LV→aa→Prop):Prop:=match cls P o.op with
 | .A=>match o.op with
  | .typeAssert x _ a false=>bd (ev t x) fun v=>uK P v a (fun v=>K v st) (Z t st)
  | _=>bd (dQ P t o.op) fun v=>K v st
 | .L=>bd (gi P t st o.op) fun v=>K v st
 | .W=>bd2 (eP P t st o.op) K
 | .C=>match o.op with
  | .call c=>bd2 (dD t c) fun f xs=>a7 P f xs st K (Z t)
  | _=>False
 | .N=>match o.op with
  | .next it false=>bd (ev t it) fun x=>fU st x K
  | _=>False
 | .no=>False
def eZ (P:Program) (Z:List LV→aa→Prop) (ops:Array Oper):List Nat→(List LV→aa→Prop)→List LV→aa→Prop
 | [],K,t,st=>K t st
 | i::rest,K,t,st=>match ops[i]? with
  | none=>eZ P Z ops rest K t st
  | some o=>match o.guard with
   | none=>me P Z o t st fun v st'=>bo (bV ops i) v fun v=>force (aW t o.dst v) fun t=>eZ P Z ops rest K t st'
   | some (j,want)=>match (ops[j]?).bind (·.dst) with
    | none=>False
    | some d=>qJ (guarded ops j) (t.getD d af)
      (match want with
       | true=>me P Z o (t.set d (.bool true)) st fun v st'=>bo (bV ops i) v fun v=>force (aW (t.set d (.bool true)) o.dst v) fun t=>eZ P Z ops rest K t st'
       | false=>force (aW (t.set d (.bool true)) o.dst af) fun t=>eZ P Z ops rest K t st)
      (match want with
       | true=>force (aW (t.set d (.bool false)) o.dst af) fun t=>eZ P Z ops rest K t st
       | false=>me P Z o (t.set d (.bool false)) st fun v st'=>bo (bV ops i) v fun v=>force (aW (t.set d (.bool false)) o.dst v) fun t=>eZ P Z ops rest K t st')
      (force (aW t o.dst af) fun t=>eZ P Z ops rest K t st)
section
variable {β:Lay} {P:Program} {w w0:World} {st:aa} {dl:List Deferred}
theorem vY {t e:TypeId} (h:P.underlying t=some (.pointer e)):(elemOf t).run P w=.ok e w:=by
 unfold elemOf
 simp[ai h]
theorem tF {a xt:TypeId} {x:LV} {u:Value} {K:LV→Prop} {Y:Prop} (hx:Rp β x u) (h:uK P x a K Y) :
  (∃ v u',(Instr.typeAssert u xt a false).run P w=.ok u' w∧Rp β v u'∧K v)∨(Y∧∃ u' o,(Instr.typeAssert u xt a false).run P w=.halt (.panic (.iface P.rt.typeAssertionError u')) (w.alloc o)):=by
 unfold uK at h
 split at h
 ·unfold bd at h
  split at h
  ·rename_i v hv
   obtain ⟨u',h1,h2⟩:=gG (w:=w) (xt:=xt) hx hv
   exact .inl ⟨v,u',h1,h2,h⟩
  ·exact h.elim
 ·rename_i d hni ht
  split at h
  case h_2=>exact h.elim
  rename_i hr
  unfold asZ at h
  split at h
  ·rename_i v hv
   have hv':iM P x a false=some v:=by
    unfold iM
    rw[ht]
    cases d<;>first|exact (hni _ rfl).elim|exact hv
   obtain ⟨u',h1,h2⟩:=gG (w:=w) (xt:=xt) hx hv'
   exact .inl ⟨v,u',h1,h2,h⟩
  ·split at h
   case h_2=>exact h.elim
   rename_i hf
   refine .inr ⟨h,?_⟩
   obtain ⟨e,he⟩:∃ e,P.underlying P.rt.typeAssertionError=some (.pointer e):=by
    unfold rtA at hr
    split at hr
    ·rename_i e he;exact ⟨e,he⟩
    ·cases hr
   have fin:∀ {i c:Option TypeId} {m:String},∃ u' o,(runtimePanic (.typeAssertion i c a m):Sem Value).run P w=.halt (.panic (.iface P.rt.typeAssertionError u')) (w.alloc o):=by
    intro i c m
    unfold runtimePanic
    simp only[ae,run_program,ab,vY he,newVar,newRow,run_newObj,an]
    exact ⟨_,_,rfl⟩
   have hx':x=.nili∨∃ t y,x=.iface t y∧Nat.beq t a=false:=by
    unfold asF at hf
    split at hf
    ·exact .inl rfl
    ·exact .inr ⟨_,_,rfl,by simpa using hf⟩
    ·cases hf
   rcases hx' with rfl|⟨t,y,rfl,hb⟩
   ·simp only[Rp] at hx;subst hx
    unfold Instr.typeAssert
    simp only[ae,ai ht,ab]
    cases d<;>first|exact (hni _ rfl).elim | (simp only[Bool.false_eq_true,if_false];exact fin)
   ·obtain ⟨q,rfl,hq⟩:=hx
    have hne:¬ t=a:=by
     intro e
     subst e
     rw[Nat.beq_refl] at hb
     cases hb
    unfold Instr.typeAssert
    simp only[ae,ai ht,ab]
    cases d<;>first|exact (hni _ rfl).elim | (simp only[if_neg hne,Bool.false_eq_true,if_false];exact fin)
 ·exact h.elim
theorem run_halt {o:Oper} {ρ:Operand→Value} {s:Sem Value} {v:Value} {w':World} (ho:execOp ρ o=(do let v ← s;pure (.value v):Sem Next)) (h:s.run P w=.halt (.panic v) w'):(execOp ρ o).run P w=.halt (.panic v) w':=by
 rw[ho,ae,h];rfl
theorem mf {Z:List LV→aa→Prop} {t:List LV} {a:Act} {o:Oper} {K:LV→aa→Prop} {Q:Exit→Act→World→Prop} (h:Rel w0 β st w) (ht:Rps β t a.tmps.toList)
  (hk:me P Z o t st K) (hz:∀ β' st' w' u,Z t st'→Rel w0 β' st' w'→β.le β'→Q (.panic (mq P u)) a w'):o.wp P a w (wK w0 β a o.dst K) Q:=by
 have old:cZ P o t st K→o.wp P a w (wK w0 β a o.dst K) Q:=fun hk=>fO h ht hk
 unfold me at hk
 split at hk
 ·rename_i hc
  split at hk
  ·rename_i x xt a' hop
   unfold bd at hk
   split at hk
   ·rename_i v hv
    unfold Oper.wp
    rcases tF (w:=w) (xt:=xt) (au ht hv) hk with ⟨v',u',h1,h2,h3⟩ | ⟨hY,u',ob,h1⟩
    ·have hrun:(execOp a.eval o).run P w=.ok (.value u') w:=by unfold execOp;rw[hop];exact bX h1
     rw[hrun]
     exact ⟨β,v',st,u',h3,h2,h,Lay.le.refl _,rfl⟩
    ·have hrun:(execOp a.eval o).run P w=.halt (.panic (.iface P.rt.typeAssertionError u')) (w.alloc ob):=by
      refine run_halt (s:=Instr.typeAssert (a.eval x) xt a' false) ?_ h1
      unfold execOp;rw[hop]
     rw[hrun]
     exact hz β st _ u' hY (h.grow ob) (Lay.le.refl _)
   ·exact hk.elim
  ·refine old ?_
   unfold cZ;simp only[hc];exact hk
 ·rename_i hc
  refine old ?_
  unfold cZ;simp only[hc];exact hk
 ·rename_i hc
  refine old ?_
  unfold cZ;simp only[hc];exact hk
 ·rename_i hc
  split at hk
  ·rename_i c ho
   unfold bd2 at hk
   split at hk
   ·rename_i g xs hr
    rcases hk with hk|hk
    ·unfold dD at hr
     split at hr
     ·rename_i f hcl
      split at hr
      case h_2=>simp at hr
      rename_i v' xs' h1 h2
      unfold jO at hr
      split at hr
      ·rename_i g' first captured
       simp only[ao,Prod.mk.injEq] at hr;obtain ⟨rfl,rfl⟩:=hr
       obtain ⟨vs,us,e,r1,r2⟩:=au ht h1
       have r3:=cS ht h2
       have hargs:((⟨vs⟩:Array Value)++c.args.map a.eval++⟨us⟩)=⟨vs++c.args.toList.map a.eval++us⟩:=by
        apply Array.ext';simp
       unfold Oper.wp
       rw[rl ho hcl e hk.1]
       simp only[Oper.upon]
       rw[hargs]
       refine (hk.2 w0 β w _ h ((r1.append r3).append r2)).mono ?_
       rintro e w' (⟨β',r,st',v,hR,he,hv,hrel,hle⟩ | ⟨β',st',u,hY,he,hrel,hle⟩)
       ·subst he
        exact ⟨β',r,st',v,hR,hv,hrel,hle,rfl⟩
       ·subst he
        exact hz β' st' w' u hY hrel hle
      ·simp at hr
     ·simp at hr
    ·refine old ?_
     unfold cZ;rw[ho] at hc;simp only[ho,hc,hr,bd2];exact Or.inr hk
   ·exact hk.elim
  ·exact hk.elim
 ·rename_i hc
  refine old ?_
  unfold cZ;simp only[hc];exact hk
 ·exact hk.elim
theorem fh {Z:List LV→aa→Prop} {ops:Array Oper} {Q:Exit→Act→World→Prop}:∀ {l:List Nat} {K:List LV→aa→Prop} {t:List LV} {st:aa} {β:Lay} {a:Act} {w:World},
  Rel w0 β st w→Rps β t a.tmps.toList→a.defers=dl→eZ P Z ops l K t st→
  (∀ β' t' st' a' w',K t' st'→Rel w0 β' st' w'→Rps β' t' a'.tmps.toList→a'.defers=dl→β.le β'→Q .normal a' w')→(∀ β' t' st' a' w' u,Z t' st'→Rel w0 β' st' w'→Rps β' t' a'.tmps.toList→a'.defers=dl→β.le β'→Q (.panic (mq P u)) a' w')→wpOps P ops Q l a w
 | [],K,t,st,β,a,w,h,ht,hd,hk,hq,hz=>hq β t st a w hk h ht hd (Lay.le.refl _)
 | i::rest,K,t,st,β,a,w,h,ht,hd,hk,hq,hz=>by
  simp only[wpOps]
  simp only[eZ,force_eq] at hk
  cases ho:ops[i]? with
  | none=>
   simp only[ho] at hk ⊢
   exact fh h ht hd hk hq hz
  | some o=>
   simp only[ho] at hk ⊢
   -- the operation,done
   have go:∀ {t':List LV},t'=t→me P Z o t' st (fun v st'=>bo (bV ops i) v fun v=>eZ P Z ops rest K (aW t' o.dst v) st')→Oper.wp P o a w (wpOps P ops Q rest) Q:=by
    intro t' e hk'
    subst e
    refine Oper.wp_mono ?_ (mf (Q:=Q) h ht hk' fun β' st' w' u y1 y2 y3=>hz β' _ st' a w' u y1 y2 (ht.mono y3) hd y3)
    intro a' w' ⟨β',v,st',u,h1,h2,h3,h4,h5⟩
    subst h5
    have h1:=cx h1
    exact fh h3 (bZ (ht.mono h4) h2) (by rw[put_defers'];exact hd) h1 (fun β'' t'' st'' a'' w'' k1 k2 k3 k4 k5=>hq β'' t'' st'' a'' w'' k1 k2 k3 k4 (h4.trans k5)) fun β'' t'' st'' a'' w'' u y1 y2 y3 y4 y5=>hz β'' t'' st'' a'' w'' u y1 y2 y3 y4 (h4.trans y5)
   -- the operation,passed by
   have skip:∀ {t':List LV},t'=t→eZ P Z ops rest K (aW t' o.dst af) st→wpOps P ops Q rest (a.put o.dst undef) w:=by
    intro t' e hk'
    subst e
    exact fh h (bZ ht Rp.undef) (by rw[put_defers'];exact hd) hk' hq hz
   cases hg:o.guard with
   | none=>
    simp only[hg] at hk
    have hw:Region.wanted o (yielded ops a.tmps)=true:=by simp[Region.wanted,hg]
    rw[if_pos hw]
    exact .inl (go rfl hk)
   | some jw=>
    obtain ⟨j,want⟩:=jw
    simp only[hg] at hk
    cases hdst:(ops[j]?).bind (·.dst) with
    | none=>simp only[hdst] at hk
    | some d=>
     simp only[hdst] at hk
     rcases fu hk with ⟨hb,hk⟩ | ⟨hb,hk⟩ | ⟨hb,hk⟩
     ·have hy:=dG ht hdst hb
      have hs:=(cv hb).2
      cases want
      ·have hw:¬ Region.wanted o (yielded ops a.tmps)=true:=by simp[Region.wanted,hg,hy]
       rw[if_neg hw]
       exact skip hs hk
      ·have hw:Region.wanted o (yielded ops a.tmps)=true:=by simp[Region.wanted,hg,hy]
       rw[if_pos hw]
       exact .inl (go hs hk)
     ·have hy:=dG ht hdst hb
      have hs:=(cv hb).2
      cases want
      ·have hw:Region.wanted o (yielded ops a.tmps)=true:=by simp[Region.wanted,hg,hy]
       rw[if_pos hw]
       exact .inl (go hs hk)
      ·have hw:¬ Region.wanted o (yielded ops a.tmps)=true:=by simp[Region.wanted,hg,hy]
       rw[if_neg hw]
       exact skip hs hk
     ·have hy:=fP ht hdst hb
      have hw:¬ Region.wanted o (yielded ops a.tmps)=true:=by simp[Region.wanted,hg,hy]
      rw[if_neg hw]
      exact skip rfl hk
end
def b8 (P:Program) (o:Oper):Bool:=match cls P o.op with
 | .A=>(match o.op with
  | .typeAssert _ _ _ false=>false
  | _=>true)
 | .L=>true
 | _=>false
theorem tG {P:Program} {o:Oper} (h:b8 P o=true) (hc:cls P o.op=.A):∀ x t a,o.op≠.typeAssert x t a false:=by
 intro x t a e
 unfold b8 at h
 rw[hc,e] at h
 cases h
def cW (P:Program) (ops:Array Oper):List (Nat × Bool):=
 ops.toList.map fun o=>(o.after.toList.foldl (fun s e=>if Region.binds .any e then s ||| 2 ^ e.on else s) 0,b8 P o)
def lz (P:Program) (Y:aa→Prop) (ops:Array Oper) (bf:Array Nat) (i:Nat) (o:Oper) (pend:List (Nat × List LV × LV)) (t:List LV) (st:aa)
  (next:List (Nat × List LV × LV)→LV→aa→Prop):Prop:=match cls P o.op with
 | .A=>match o.op with
  | .typeAssert x _ a false=>bd (ev t x) fun v=>uK P v a (fun v=>recheck P ops bf i st pend (next pend v st)) (Y st)
  | _=>bd (dQ P t o.op) fun v=>next pend v st
 | .L=>bd (gi P t st o.op) fun v=>next ((i,t,v)::pend) v st
 | .W=>bd2 (eP P t st o.op) fun v st'=>recheck P ops bf i st' pend (next pend v st')
 | .C=>match o.op with
  | .call c=>bd2 (dD t c) fun f xs=>a7 P f xs st (fun v st'=>recheck P ops bf i st' pend (next pend v st')) Y
  | _=>False
 | .N=>match o.op with
  | .next it false=>bd (ev t it) fun x=>fU st x fun v st'=>recheck P ops bf i st' pend (next pend v st')
  | _=>False
 | .no=>False
def ku (P:Program) (Y:aa→Prop) (ops:Array Oper) (bf:Array Nat) (i:Nat) (pend:List (Nat × List LV × LV)) (t:List LV) (st:aa)
  (next:List (Nat × List LV × LV)→List LV→aa→Prop):Prop:=match ops[i]? with
 | none=>False
 | some o=>match o.guard with
  | none=>lz P Y ops bf i o pend t st fun pend v st'=>bo (bV ops i) v fun v=>force (aW t o.dst v) fun t=>next pend t st'
  | some (j,want)=>match (ops[j]?).bind (·.dst) with
   | none=>False
   | some d=>qJ (guarded ops j) (t.getD d af)
     (match want with
      | true=>lz P Y ops bf i o pend (t.set d (.bool true)) st fun pend v st'=>bo (bV ops i) v fun v=>force (aW (t.set d (.bool true)) o.dst v) fun t=>next pend t st'
      | false=>force (aW (t.set d (.bool true)) o.dst af) fun t=>next pend t st)
     (match want with
      | true=>force (aW (t.set d (.bool false)) o.dst af) fun t=>next pend t st
      | false=>lz P Y ops bf i o pend (t.set d (.bool false)) st fun pend v st'=>bo (bV ops i) v fun v=>force (aW (t.set d (.bool false)) o.dst v) fun t=>next pend t st')
     (force (aW t o.dst af) fun t=>next pend t st)
def cI (P:Program) (Y:aa→Prop) (ops:Array Oper) (bf:Array Nat) (rows:List (Nat × Bool)) (K:List LV→aa→Prop):Nat→Nat→List (Nat × List LV × LV)→List LV→aa→Prop
 | 0,m,_,t,st=>match cg rows m with
  | .done=>K t st
  | _=>False
 | n+1,m,pend,t,st=>match cg rows m with
  | .done=>K t st
  | .one i=>ku P Y ops bf i pend t st fun pend t st=>cI P Y ops bf rows K n (m ||| 2 ^ i) pend t st
  | .many l=>rn (fun i=>ku P Y ops bf i pend t st fun pend t st=>cI P Y ops bf rows K n (m ||| 2 ^ i) pend t st) l
section
variable {P:Program} {ops:Array Oper} {dl:List Deferred} {Y:aa→Prop}
theorem gR (hok:Ok ops) {m:Nat}:∀ (l:List Oper) (i:Nat) (c:List Nat),(∀ k,ops[i+k]?=l[k]?)→i+l.length=ops.size→
  (∀ j,j ∈ c↔rdy ops m j∧j<i)→(∀ j ∈ c,∀ o,ops[j]?=some o→b8 P o=false)→
  (∀ r,cT m (l.map fun o=>(o.after.toList.foldl (fun s e=>if Region.binds .any e then s ||| 2 ^ e.on else s) 0,b8 P o)) i c=r→
   (r=.done∧∀ j,¬ rdy ops m j)∨(∃ x o,r=.one x∧rdy ops m x∧ops[x]?=some o∧b8 P o=true)∨
    ((∃ j,ck j r)∧∀ j,(ck j r↔rdy ops m j)∧(rdy ops m j→∀ o,ops[j]?=some o→b8 P o=false)))
 | [],i,c,hl,hn,hc,hq,r,hr=>by
  have big:∀ j,rdy ops m j↔j ∈ c:=by
   intro j
   rw[hc]
   refine ⟨fun hj=>⟨hj,?_⟩,fun h=>h.1⟩
   obtain ⟨o,ho,_⟩:=mx.1 hj
   have:=(Array.getElem?_eq_some_iff.1 ho).1
   simp at hn;omega
  match c,hr with
  | [],hr=>simp only[List.map_nil,cT] at hr;subst hr;exact .inl ⟨rfl,fun j hj=>by simpa using (big j).1 hj⟩
  | [x],hr=>
   simp only[List.map_nil,cT] at hr;subst hr
   exact .inr (.inr ⟨⟨x,by simp[ck]⟩,fun j=>⟨by rw[big];simp[ck],fun hj=>hq j ((big j).1 hj)⟩⟩)
  | x::y::c,hr=>
   simp only[List.map_nil,cT] at hr;subst hr
   exact .inr (.inr ⟨⟨x,by simp[ck]⟩,fun j=>⟨by rw[big];simp[ck],fun hj=>hq j ((big j).1 hj)⟩⟩)
 | o::l,i,c,hl,hn,hc,hq,r,hr=>by
  have ho:ops[i]?=some o:=by simpa using hl 0
  have hl':∀ k,ops[i+1+k]?=l[k]?:=fun k=>by have:=hl (k+1);simpa[Nat.add_assoc,Nat.add_comm 1 k] using this
  have hn':i+1+l.length=ops.size:=by simp at hn;omega
  simp only[List.map_cons,cT] at hr
  have hready:(m.testBit i || !((o.after.toList.foldl (fun s e=>if Region.binds .any e then s ||| 2 ^ e.on else s) 0 &&& m)==o.after.toList.foldl (fun s e=>if Region.binds .any e then s ||| 2 ^ e.on else s) 0))=false↔rdy ops m i:=by
   rw[Bool.or_eq_false_iff,Bool.not_eq_false',nC,mx]
   constructor
   ·rintro ⟨h1,h2⟩
    exact ⟨o,ho,h1,fun e he hb=>⟨Nat.lt_trans (hok.lex i o ho e he hb) (Array.getElem?_eq_some_iff.1 ho).1,h2 e (by simpa using he) hb⟩⟩
   ·rintro ⟨o',ho',h1,h2⟩
    rw[ho] at ho';cases ho'
    exact ⟨h1,fun e he hb=>(h2 e (by simpa using he) hb).2⟩
  split at hr
  ·rename_i hnr
   have hnr':¬ rdy ops m i:=fun h=>by rw[hready.2 h] at hnr;cases hnr
   refine gR hok l (i+1) c hl' hn' (fun j=>?_) hq r hr
   rw[hc]
   refine ⟨fun h=>⟨h.1,Nat.lt_succ_of_lt h.2⟩,fun h=>⟨h.1,?_⟩⟩
   rcases Nat.lt_succ_iff_lt_or_eq.1 h.2 with h2|h2
   ·exact h2
   ·subst h2;exact absurd h.1 hnr'
  ·rename_i hnr
   have hri:=hready.1 hnr
   split at hr
   ·rename_i hqo
    subst hr
    exact .inr (.inl ⟨i,o,rfl,hri,ho,hqo⟩)
   ·rename_i hqo
    refine gR hok l (i+1) (i::c) hl' hn' (fun j=>?_) (fun j hj o' ho'=>?_) r hr
    ·rw[List.mem_cons,hc]
     constructor
     ·rintro (h|h)
      ·subst h;exact ⟨hri,Nat.lt_succ_self _⟩
      ·exact ⟨h.1,Nat.lt_succ_of_lt h.2⟩
     ·rintro ⟨h1,h2⟩
      rcases Nat.lt_succ_iff_lt_or_eq.1 h2 with h2|h2
      ·exact .inr ⟨h1,h2⟩
      ·exact .inl h2
    ·rcases List.mem_cons.1 hj with e|hj
     ·subst e;rw[ho] at ho';cases ho';exact hqo
     ·exact hq j hj o' ho'
theorem nV (hok:Ok ops) (m:Nat):(cg (cW P ops) m=.done∧∀ j,¬ rdy ops m j)∨(∃ x o,cg (cW P ops) m=.one x∧rdy ops m x∧ops[x]?=some o∧b8 P o=true)∨
  ((∃ j,ck j (cg (cW P ops) m))∧∀ j,(ck j (cg (cW P ops) m)↔rdy ops m j)∧(rdy ops m j→∀ o,ops[j]?=some o→b8 P o=false)):=
 gR (P:=P) hok (m:=m) ops.toList 0 [] (by simp) (by simp) (by simp) (by simp) _ rfl
theorem tH (hok:Ok ops) {m:Nat} (h:cg (cW P ops) m=.done):Region.ready .any ops (aG ops.size m)=[]:=by
 rcases nV (P:=P) hok m with ⟨_,h2⟩ | ⟨x,o,h2,_⟩ | ⟨h2,_⟩
 ·exact List.eq_nil_iff_forall_not_mem.2 h2
 ·rw[h] at h2;cases h2
 ·obtain ⟨j,hj⟩:=h2
  rw[h] at hj;exact hj.elim
structure vZ (P:Program) (ops:Array Oper) (T0 T:List LV) (E D:Array Bool) (TD:List LV) (pend:List (Nat × List LV × LV)) (st:aa):Prop where
 cE:ec ops E
 cD:ec ops D
 sub:∀ i,In D i→In E i
 aE:Agr ops T0 T E T
 aD:Agr ops T0 T D TD
 nonq:∀ (i:Nat) (o:Oper),In E i→ops[i]?=some o→b8 P o=false→In D i
 fact:∀ (j:Nat) (o:Oper),In E j→¬ In D j→ops[j]?=some o→Fact P ops T0 T E pend st j o
theorem kv {bf:Array Nat} {K:List LV→aa→Prop} {rows:List (Nat × Bool)} {n m:Nat} {pend:List (Nat × List LV × LV)} {T:List LV} {st:aa} {i:Nat} {o:Oper}
  (h:cI P Y ops bf rows K (n+1) m pend T st) (hp:ck i (cg rows m)) (ho:ops[i]?=some o) :
  (cL ops o T=some true∧lz P Y ops bf i o pend T st fun pend v st'=>bo (bV ops i) v fun v=>cI P Y ops bf rows K n (m ||| 2 ^ i) pend (aW T o.dst v) st')∨
  (cL ops o T=some false∧cI P Y ops bf rows K n (m ||| 2 ^ i) pend (aW T o.dst af) st):=by
 have h:ku P Y ops bf i pend T st fun pend t st=>cI P Y ops bf rows K n (m ||| 2 ^ i) pend t st:=by
  simp only[cI] at h
  split at h
  ·rename_i hd;rw[hd] at hp;exact hp.elim
  ·rename_i j hd;rw[hd] at hp;simp only[ck] at hp;subst hp;exact h
  ·rename_i l hd;rw[hd] at hp;exact lr h i hp
 simp only[ku,ho,force_eq] at h
 unfold cL
 cases hg:o.guard with
 | none=>simp only[hg] at h;exact .inl ⟨rfl,h⟩
 | some jw=>
  obtain ⟨j,want⟩:=jw
  simp only[hg] at h ⊢
  cases hd:(ops[j]?).bind (·.dst) with
  | none=>simp only[hd] at h
  | some d=>
   simp only[hd] at h ⊢
   rcases fu h with ⟨hb,h⟩ | ⟨hb,h⟩ | ⟨hb,h⟩
   ·have hs:=(cv hb).2
    rw[hs] at h
    rw[hb]
    cases want
    ·exact .inr ⟨rfl,h⟩
    ·exact .inl ⟨rfl,h⟩
   ·have hs:=(cv hb).2
    rw[hs] at h
    rw[hb]
    cases want
    ·exact .inl ⟨rfl,h⟩
    ·exact .inr ⟨rfl,h⟩
   ·rw[hb]
    exact .inr ⟨rfl,h⟩
theorem gC (hok:Ok ops) {bf:Array Nat} {K:List LV→aa→Prop} {T0 TD:List LV} {D:Array Bool} {st:aa}:∀ (n:Nat) {m:Nat} {pend:List (Nat × List LV × LV)} {T:List LV},
  vZ P ops T0 T (aG ops.size m) D TD pend st→cI P Y ops bf (cW P ops) K n m pend T st→
  ∃ n' m' pend' T',vZ P ops T0 T' (aG ops.size m') D TD pend' st∧cI P Y ops bf (cW P ops) K n' m' pend' T' st∧
   (cg (cW P ops) m'=.done∨∃ k,n'=k+1∧(∃ j,ck j (cg (cW P ops) m'))∧∀ j,(ck j (cg (cW P ops) m')↔rdy ops m' j)∧(rdy ops m' j→∀ o,ops[j]?=some o→b8 P o=false))
 | 0,m,pend,T,hI,h=>by
  refine ⟨0,m,pend,T,hI,h,.inl ?_⟩
  simp only[cI] at h
  split at h
  ·assumption
  ·exact h.elim
 | n+1,m,pend,T,hI,h=>by
  rcases nV (P:=P) hok m with ⟨hp,_⟩ | ⟨i,o,hp,hr,ho,hq⟩ | ⟨hp,hp2⟩
  ·exact ⟨n+1,m,pend,T,hI,h,.inl hp⟩
  ·have hr:=hr
   unfold rdy at hr
   rw[mem_ready' hI.cE.size] at hr
   obtain ⟨hnE,o2,ho2,hpre⟩:=hr
   rw[ho] at ho2;cases ho2
   ·have hnD:¬ In D i:=fun hi=>hnE (hI.sub i hi)
    have hlen:T.length=T0.length:=hI.aE.len
    have hiE:i<(aG ops.size m).size:=by rw[hI.cE.size];exact (Array.getElem?_eq_some_iff.1 ho).1
    -- the state of the walk behind a quiet operation
    have next:∀ {v:LV} {pend':List (Nat × List LV × LV)},(∀ x ∈ pend,x ∈ pend')→qev P ops o T st=some v→(cls P o.op=.L→cL ops o T=some true→(i,T,v) ∈ pend')→
      vZ P ops T0 (aW T o.dst v) (aG ops.size (m ||| 2 ^ i)) D TD pend' st:=by
     intro v pend' hsub hv hpd
     rw[fQ]
     refine ⟨hI.cE.set ho hpre,hI.cD,fun k hk=>(hI.sub k hk).set,?_,hI.aD.walk hok ho hnD,?_,?_⟩
     ·exact (hI.aE.walk (v:=v) hok ho hnE).grow hok ho hiE (by rw[cO];exact hlen) (fun d hd hlt=>dN hd hlt)
     ·intro k o' hk ho' hq'
      rcases hk.eb with e|hk
      ·subst e;rw[ho] at ho';cases ho';rw[hq] at hq';cases hq'
      ·exact hI.nonq k o' hk ho' hq'
     ·intro k o' hk hkD ho'
      rcases hk.eb with e|hk
      ·subst e;rw[ho] at ho';cases ho'
       exact ⟨aG ops.size m,T,v,hI.cE,hnE,hpre,fun k hk=>hk.set,hI.aE.walk hok ho hnE,hv,fun d hd hlt=>dN hd hlt,hpd⟩
      ·obtain ⟨Ej,Tj,vj,f1,f2,f3,f4,f5,f6,f7,f8⟩:=hI.fact k o' hk hkD ho'
       refine ⟨Ej,Tj,vj,f1,f2,f3,fun q hq=>(f4 q hq).set,f5.walk hok ho (fun hm=>hnE (f4 i hm)),f6,?_,fun a b=>hsub _ (f8 a b)⟩
       intro d hd hlt
       rw[fx (hok.dst i k o o' d (fun e=>hnE (e ▸ hk)) ho ho' hd)]
       exact f7 d hd (by rwa [cO] at hlt)
    rcases kv h (by rw[hp];rfl) ho with ⟨hg,hd⟩ | ⟨hg,hd⟩
    ·unfold lz at hd
     split at hd
     ·rename_i hc
      replace hd:bd (dQ P T o.op) fun v=>bo (bV ops i) v fun v=>cI P Y ops bf (cW P ops) K n (m ||| 2 ^ i) pend (aW T o.dst v) st:=by
       split at hd
       ·rename_i e;exact absurd e (tG hq hc _ _ _)
       ·exact hd
      unfold bd at hd
      split at hd
      ·rename_i v hv
       exact gC hok n (next (pend':=pend) (fun _ h=>h) (by simp[qev,hg,qop,hc,hv]) (fun e=>by rw[hc] at e;cases e)) (cx hd)
      ·exact hd.elim
     ·rename_i hc
      unfold bd at hd
      split at hd
      ·rename_i v hv
       exact gC hok n (next (pend':=(i,T,v)::pend) (fun _ h=>List.mem_cons_of_mem _ h) (by simp[qev,hg,qop,hc,hv]) (fun _ _=>by simp)) (cx hd)
      ·exact hd.elim
     ·rename_i hc;exact absurd hq (by simp[b8,hc])
     ·rename_i hc;exact absurd hq (by simp[b8,hc])
     ·rename_i hc;exact absurd hq (by simp[b8,hc])
     ·exact hd.elim
    ·exact gC hok n (next (pend':=pend) (fun _ h=>h) (by simp[qev,hg]) (fun _ e=>by rw[hg] at e;cases e)) hd
  ·exact ⟨n+1,m,pend,T,hI,h,.inr ⟨n,rfl,hp,hp2⟩⟩
theorem wa (hok:Ok ops) {w0:World} {K:List LV→aa→Prop} {Q:Exit→Act→World→Prop} {T0:List LV}:∀ (fuel:Nat) {β:Lay} {D:Array Bool} {m:Nat} {TD T:List LV} {pend:List (Nat × List LV × LV)} {st:aa} {n:Nat} {a:Act} {w:World},
  vZ P ops T0 T (aG ops.size m) D TD pend st→cI P Y ops (Region.before ops) (cW P ops) K n m pend T st→Rel w0 β st w→Rps β TD a.tmps.toList→a.defers=dl→todo ops D≤fuel→
  (∀ β' t' st' a' w',K t' st'→Rel w0 β' st' w'→Rps β' t' a'.tmps.toList→a'.defers=dl→β.le β'→Q .normal a' w')→(∀ β' t' st' a' w' u,Y st'→Rel w0 β' st' w'→Rps β' t' a'.tmps.toList→a'.defers=dl→β.le β'→Q (.panic (mq P u)) a' w')→wpAny P .any ops Q fuel D a w:=by
 intro fuel
 induction fuel with
 | zero=>
  intro β D m TD T pend st n a w hI h hrel ht hd hf hq hz
  -- all is listed
  have hall:Region.ready .any ops D=[]:=by
   cases hr:Region.ready .any ops D with
   | nil=>rfl
   | cons i r=>
    have hm:i ∈ Region.ready .any ops D:=by rw[hr];simp
    rw[mem_ready' hI.cD.size] at hm
    obtain ⟨hn,o,ho,_⟩:=hm
    have:=j2 hI.cD.size (Array.getElem?_eq_some_iff.1 ho).1 hn
    omega
  refine ⟨hall,?_⟩
  have hD:=hI.cD.all hok hall
  obtain ⟨n',m',pend',T',hI',h',hpk⟩:=gC hok n hI h
  rcases hpk with hpk|⟨k0,_,⟨j0,hj0⟩,hpk⟩
  ·have hK:K T' st:=by
    cases n'<;>simp only[cI,hpk] at h'<;>exact h'
   have hT:TD=T':=by
    apply List.ext_getElem?
    intro k
    by_cases hw:∃ (i:Nat) (o':Oper),In D i∧ops[i]?=some o'∧o'.dst=some k
    ·obtain ⟨i,o',hi,ho',hd'⟩:=hw
     rw[hI'.aD.wr i o' k hi ho' hd']
    ·rw[hI'.aD.un k (fun i o' hi ho' hd'=>hw ⟨i,o',hi,ho',hd'⟩),hI'.aE.un k (fun i o' hi ho' hd'=>hw ⟨i,o',hD i (Array.getElem?_eq_some_iff.1 ho').1,ho',hd'⟩)]
   subst hT
   exact hq β TD st a w hK hrel ht hd (Lay.le.refl _)
  ·exact my hI'.cE.size ((hpk j0).1.1 hj0) fun i hi=>hI'.sub i (hD i hi)
 | succ fuel ih=>
  intro β D m TD T pend st n a w hI h hrel ht hd hf hq hz
  obtain ⟨n',m',pend',T',hI',h',hpk⟩:=gC hok n hI h
  refine ⟨fun hall=>?_,fun i hi=>?_⟩
  ·have hD:=hI'.cD.all hok hall
   rcases hpk with hpk|⟨k0,_,⟨j0,hj0⟩,hpk⟩
   ·have hK:K T' st:=by
     cases n'<;>simp only[cI,hpk] at h'<;>exact h'
    have hT:TD=T':=by
     apply List.ext_getElem?
     intro k
     by_cases hw:∃ (i:Nat) (o':Oper),In D i∧ops[i]?=some o'∧o'.dst=some k
     ·obtain ⟨i,o',hi,ho',hd'⟩:=hw
      rw[hI'.aD.wr i o' k hi ho' hd']
     ·rw[hI'.aD.un k (fun i o' hi ho' hd'=>hw ⟨i,o',hi,ho',hd'⟩),hI'.aE.un k (fun i o' hi ho' hd'=>hw ⟨i,o',hD i (Array.getElem?_eq_some_iff.1 ho').1,ho',hd'⟩)]
    subst hT
    exact hq β TD st a w hK hrel ht hd (Lay.le.refl _)
   ·exact my hI'.cE.size ((hpk j0).1.1 hj0) fun i hi=>hI'.sub i (hD i hi)
  ·rw[mem_ready' hI'.cD.size] at hi
   obtain ⟨hnD,o,ho,hpre⟩:=hi
   have hlt:i<ops.size:=(Array.getElem?_eq_some_iff.1 ho).1
   have htodo:todo ops (D.setIfInBounds i true)≤fuel:=by
    have:=j2 hI'.cD.size hlt hnD
    omega
   have hTlen:T'.length=T0.length:=hI'.aE.len
   by_cases hiE:In (aG ops.size m') i
   ·-- a quiet operation that the walk has done
    obtain ⟨Ej,Tj,v,f1,f2,f3,f4,f5,f6,f7,f8⟩:=hI'.fact i o hiE hnD ho
    have hlook:=Agr.look hok f1 hI'.cD f5 hI'.aD ho f3 hpre f2 hnD
    rw[oW hlook] at f6
    have hI2:vZ P ops T0 T' (aG ops.size m') (D.setIfInBounds i true) (aW TD o.dst v) pend' st:=by
     refine ⟨hI'.cE,hI'.cD.set ho hpre,?_,hI'.aE,hI'.aD.grow hok ho (by rw[hI'.cD.size];exact hlt) hTlen f7,fun k o' hk ho' hq'=>(hI'.nonq k o' hk ho' hq').set,fun k o' hk hkD ho'=>hI'.fact k o' hk (fun e=>hkD e.set) ho'⟩
     intro k hk
     rcases hk.eb with e|hk
     ·subst e;exact hiE
     ·exact hI'.sub k hk
    unfold wpOp
    rw[ho]
    simp only
    unfold qev at f6
    split at f6
    ·rename_i hg
     rw[if_pos (dM ht hg)]
     left
     unfold qop at f6
     have fin:∀ {u:Value},(execOp a.eval o).run P w=.ok (.value u) w→Rp β v u→o.wp P a w (wpAny P .any ops Q fuel (D.setIfInBounds i true)) Q:=by
      intro u hu hv
      unfold Oper.wp
      rw[hu]
      exact ih hI2 h' hrel (bZ ht hv) (by rw[put_defers'];exact hd) htodo hq hz
     split at f6
     ·obtain ⟨u,h1,h2⟩:=jC (w:=w) ht f6
      exact fin h1 h2
     ·obtain ⟨u,h1,h2⟩:=jF hrel ht f6
      exact fin h1 h2
     ·simp at f6
    ·rename_i hg
     simp at f6;subst f6
     rw[if_neg (by rw[dM ht hg];simp)]
     exact ih hI2 h' hrel (bZ ht Rp.undef) (by rw[put_defers'];exact hd) htodo hq hz
    ·simp at f6
   ·-- the next operation of the walk
    have hrE:i ∈ Region.ready .any ops (aG ops.size m'):=(mem_ready' hI'.cE.size).2 ⟨hiE,o,ho,fun e he hb=>hI'.sub _ (hpre e he hb)⟩
    have hpE:jY o (aG ops.size m'):=fun e he hb=>hI'.sub _ (hpre e he hb)
    rcases hpk with hpk|⟨k0,hn',_,hpk⟩
    ·rw[tH hok hpk] at hrE;simp at hrE
    ·have hnq:=(hpk i).2 hrE o ho
     have hpi:=(hpk i).1.2 hrE
     ·subst hn'
      have hlook:=Agr.look hok hI'.cE hI'.cD hI'.aE hI'.aD ho hpE hpre hiE hnD
      have hiEs:i<(aG ops.size m').size:=by rw[hI'.cE.size];exact hlt
      have hiDs:i<D.size:=by rw[hI'.cD.size];exact hlt
      -- behind it
      have next:∀ {v:LV} {st':aa},(∀ (j:Nat) (oj:Oper),In (aG ops.size m') j→¬ In D j→ops[j]?=some oj→Fact P ops T0 T' (aG ops.size m') pend' st' j oj)→
        vZ P ops T0 (aW T' o.dst v) (aG ops.size (m' ||| 2 ^ i)) (D.setIfInBounds i true) (aW TD o.dst v) pend' st':=by
       intro v st' hfact
       rw[fQ]
       have haD:=hI'.aD.walk (v:=v) hok ho hnD
       refine ⟨hI'.cE.set ho hpE,hI'.cD.set ho hpre,?_,(hI'.aE.walk (v:=v) hok ho hiE).grow hok ho hiEs (by rw[cO];exact hTlen) (fun d hd hl=>dN hd hl),
        haD.grow hok ho hiDs (by rw[cO];exact hTlen) (fun d hd hl=>dN hd hl),?_,?_⟩
       ·intro k hk
        rcases hk.eb with e|hk
        ·subst e;exact In.self hiEs
        ·exact (hI'.sub k hk).set
       ·intro k o' hk ho' hq'
        rcases hk.eb with e|hk
        ·subst e;exact In.self hiDs
        ·exact (hI'.nonq k o' hk ho' hq').set
       ·intro k o' hk hkD ho'
        have hkD':¬ In D k:=fun e=>hkD e.set
        rcases hk.eb with e|hk
        ·subst e;exact absurd (In.self hiDs) hkD
        ·obtain ⟨Ej,Tj,vj,f1,f2,f3,f4,f5,f6,f7,f8⟩:=hfact k o' hk hkD' ho'
         refine ⟨Ej,Tj,vj,f1,f2,f3,fun q hq=>(f4 q hq).set,f5.walk hok ho (fun hm=>hiE (f4 i hm)),f6,?_,f8⟩
         intro d hd hl
         rw[fx (hok.dst i k o o' d (fun e=>hiE (e ▸ hk)) ho ho' hd)]
         exact f7 d hd (by rwa [cO] at hl)
      unfold wpOp
      rw[ho]
      simp only
      rcases kv h' hpi ho with ⟨hg,hdr⟩ | ⟨hg,hdr⟩
      ·have hgD:cL ops o TD=some true:=by rw[← ed hlook];exact hg
       rw[if_pos (dM ht hgD)]
       left
       have hop:me P (fun _=>Y) o TD st (fun v st'=>recheck P ops (Region.before ops) i st' pend' (bo (bV ops i) v fun v=>cI P Y ops (Region.before ops) (cW P ops) K k0 (m' ||| 2 ^ i) pend' (aW T' o.dst v) st')):=by
        unfold lz at hdr
        unfold me
        split at hdr
        ·rename_i hc
         split at hdr
         ·rename_i x xt a' e
          rwa [← az (t:=T') (x:=x) (fun k e'=>hlook k (cj (by rw[e];simp[fW,Op.operands,e'])))]
         ·rename_i hne
          have hq':b8 P o=true:=by
           unfold b8
           simp only[hc]
          rw[hnq] at hq';cases hq'
        ·rename_i hc;exact absurd hnq (by simp[b8,hc])
        ·rename_i hc
         try simp only[hc]
         rwa [← nA (P:=P) (st:=st) (o:=o.op) (fun k hk=>hlook k (cj hk))]
        ·rename_i hc
         try simp only[]
         split at hdr
         ·rename_i c hcall
          try simp only[hcall]
          rwa [← jl (t:=T') (fun k hk=>hlook k (cj (by rw[hcall];exact hk)))]
         ·exact hdr.elim
        ·rename_i hc
         try simp only[hc]
         split at hdr
         ·rename_i it hnext
          try simp only[hnext]
          rwa [← az (t:=T') (x:=it) (fun k e=>hlook k (cj (by rw[hnext];simp[fW,Op.operands,e])))]
         ·exact hdr.elim
        ·exact hdr.elim
       refine Oper.wp_mono ?_ (mf (Q:=Q) hrel ht hop fun β' st' w' u y1 y2 y3=>hz β' _ st' a w' u y1 y2 (ht.mono y3) hd y3)
       intro a' w' ⟨β',v,st',u,h1,h2,h3,h4,h5⟩
       subst h5
       obtain ⟨h6,h7⟩:=ff h1
       have h6:=cx h6
       refine ih (next (v:=v) (st':=st') ?_) h6 h3 (bZ (ht.mono h4) h2) (by rw[put_defers'];exact hd) htodo (fun β'' t'' st'' a'' w'' k1 k2 k3 k4 k5=>hq β'' t'' st'' a'' w'' k1 k2 k3 k4 (h4.trans k5)) (fun β'' t'' st'' a'' w'' u y1 y2 y3 y4 y5=>hz β'' t'' st'' a'' w'' u y1 y2 y3 y4 (h4.trans y5))
       intro j oj hj hjD hoj
       obtain ⟨Ej,Tj,vj,f1,f2,f3,f4,f5,f6,f7,f8⟩:=hI'.fact j oj hj hjD hoj
       refine ⟨Ej,Tj,vj,f1,f2,f3,f4,f5,?_,f7,f8⟩
       unfold qev at f6 ⊢
       split at f6
       ·rename_i hgj
        unfold qop at f6 ⊢
        split at f6
        ·exact f6
        ·rename_i hcj
         rcases h7 j Tj vj (f8 hcj hgj) with hb|⟨oj',hoj',hl⟩
         ·exact absurd (hI'.cD.anc hok i ho hpre hb) hjD
         ·rw[hoj] at hoj';cases hoj';exact hl
        ·simp at f6
       ·exact f6
       ·simp at f6
      ·have hgD:cL ops o TD=some false:=by rw[← ed hlook];exact hg
       rw[if_neg (by rw[dM ht hgD];simp)]
       exact ih (next (v:=af) (st':=st) hI'.fact) hdr hrel (bZ ht Rp.undef) (by rw[put_defers'];exact hd) htodo hq hz
end
end Go.CP
