/- Parts of the proof. -/
import Derived.Test.YtknegckgmklnhaaGreatDoorCp37
namespace Go.CP
section
variable {P:Program}
def u4 (P:Program) (dk:Bool) (rs:List ResultVar) (R:LV→aa→Prop) (ds:List eM) (t:List LV) (st:aa):Prop:=match dk with
 | true=>match ds with
  | []=>rE P rs R t st
  | _=>False
 | false=>nN P ds st fun st'=>rE P rs R t st'
def gg (P:Program) (dk:Bool) (rs:List ResultVar) (R:LV→aa→Prop) (g cuts:List Nat):Nat→List Item→List eM→List LV→aa→Prop
 | 0,k,ds,t,st=>LTg P (kindOf dk) rs k ds R t st
 | n+1,k,ds,t,st=>match k with
  | []=>u4 P dk rs R ds t st
  | .code .skip::k=>gg P dk rs R g cuts n k ds t st
  | .code (.label _)::k=>gg P dk rs R g cuts n k ds t st
  | .code (.seq a b)::k=>gg P dk rs R g cuts n (.code a::.code b::k) ds t st
  | .code (.cond c a b)::k=>bd (ev t c) fun v=>aq v (gg P dk rs R g cuts n (.code a::k) ds t st) (gg P dk rs R g cuts n (.code b::k) ds t st)
  | .code (.block id c)::k=>gg P dk rs R g cuts n (.code c::.inBlock id::k) ds t st
  | .code (.loop c)::k=>LTg P (kindOf dk) rs (.inLoop c::k) ds R (aY g t) st
  | .inLoop c::k=>LTg P (kindOf dk) rs (.inLoop c::k) ds R (aY g t) st
  | .inBlock id::k=>match cuts.contains id with
   | true=>LTg P (kindOf dk) rs k ds R (aY g t) st
   | false=>gg P dk rs R g cuts n k ds t st
  | .inScope _::k=>gg P dk rs R g cuts n k ds t st
  | .code (.exit id)::k=>match exitTo id k with
   | some k'=>match cuts.contains id with
    | true=>LTg P (kindOf dk) rs k' ds R (aY g t) st
    | false=>gg P dk rs R g cuts n k' ds t st
   | none=>False
  | .code .ret::_=>u4 P dk rs R ds t st
  | .code (.region _ ops draw)::k=>match draw with
   | false=>match eW ops with
    | none=>match lP dk ops with
     | some o=>cL P ops (List.range' 1 (ops.size-1)) (fun t st=>gg P dk rs R g cuts n k ds t st) (cC t o.dst .nili) st
     | none=>cL P ops (List.range ops.size) (fun t st=>gg P dk rs R g cuts n k ds t st) t st
    | some p=>cL P ops (List.range (ops.size-1)) (fun t st=>match G9 P t p.2 with
     | some d=>gg P dk rs R g cuts n k (d::ds) (cC t p.1.dst aQ) st
     | none=>False) t st
   | true=>match qm ops (Region.before ops) with
    | true=>cX P ops (Region.before ops) (rowsOf P ops) (fun t st=>gg P dk rs R g cuts n k ds t st) ops.size 0 [] t st
    | false=>False
  | _=>False
theorem LTg.forget {κ:CallKind} {rs:List ResultVar} {R:LV→aa→Prop} {k:List Item} {ds:List eM} {g:List Nat} {t:List LV} {st:aa} (h:LTg P κ rs k ds R (aY g t) st):LTg P κ rs k ds R t st:=
 fun w0 β w a fn h1 h2=>h w0 β w a fn h1 (sW h2)
theorem jr {dk:Bool} {rs:List ResultVar} {R:LV→aa→Prop} {k:List Item} {ds:List eM} {t:List LV} {st:aa}
  (hs:∀ (b:Frame) (a:Act) (cs:List Frame) (w:World),step P (lone (b.at a k) cs w)=.next (lone { b.at a k with mode:=.returning } cs w)) (h:u4 P dk rs R ds t st):LTg P (kindOf dk) rs k ds R t st:=by
 unfold u4 at h
 split at h
 ·split at h
  ·exact LTg.DE hs h
  ·exact h.elim
 ·exact LTg.finish hs h
theorem LTg.zE {rs:List ResultVar} {R:LV→aa→Prop} {id:Nat} {ops:Array Oper} {o:Oper} {cl:Call} {m:Nat} {k:List Item} {ds:List eM} {t:List LV} {st:aa} {K:List LV→aa→Prop} (hm:ops.size=m+1) (ho:ops[0]?=some o) (hg:o.guard=none) (hop:o.op=.call cl)
  (hcl:cl.callee=.builtin .recover) (h:cL P ops (List.range' 1 m) K (cC t o.dst .nili) st) (hK:∀ t st,K t st→LTg P .deferred rs k ds R t st):LTg P .deferred rs (.code (.region id ops false)::k) ds R t st:=by
 intro w0 β w a fn h1 h2 h3 h4 b cs hf hk hc
 obtain ⟨c,cs',rfl,hcm⟩:=hc
 have s1:=step_region (P:=P) (b:=b) (a:=a) (k:=k) (cs:=c::cs') (w:=w) (id:=id) (ops:=ops)
 rw[hm,List.range_eq_range',List.range'_succ] at s1
 have s2:=oI (P:=P) (b:=b) (a:=a) (k:=k) (cs:=cs') (w:=w) (rest:=List.range' (0+1) m) hk hcm ho hg hop hcl
 have hput:Rps β (cC t o.dst .nili) (a.put o.dst .nilIface).tmps.toList:=eV h2 rfl
 have hops:=dC (dl:=a.defers) (Q:=fun e a' w'=>e=.normal∧∃ β' t' st',LTg P .deferred rs k ds R t' st'∧Rel w0 β' st' w'∧Rps β' t' a'.tmps.toList∧a'.defers=a.defers∧β.le β') h1 hput (put_defers' ..) h
  fun β' t' st' a' w' k1 k2 k3 k4 k5=>⟨rfl,β',t',st',hK _ _ k1,k2,k3,k4,k5⟩
 obtain ⟨e,a',w',⟨he,β',t',st',k1,k2,k3,k4,k5⟩,harr⟩:=wp_ops _ _ _ hops b k (c::cs')
 subst he
 obtain ⟨e,w'',fr,h5,h6,h7,h8⟩:=k1 w0 β' w' a' fn k2 k3 (by rw[k4];exact h3.mono k5) h4 b (c::cs') hf hk ⟨c,cs',rfl,hcm⟩
 exact ⟨e,w'',fr,h5.le k5,.of_steps (.head s1 (.head s2 harr)) h6,h7,h8⟩
theorem lR (hm:P.follows .mixedOrders=true) {dk:Bool} {rs:List ResultVar} {R:LV→aa→Prop} {g cuts:List Nat}:∀ (n:Nat) {k:List Item} {ds:List eM} {t:List LV} {st:aa},
  gg P dk rs R g cuts n k ds t st→LTg P (kindOf dk) rs k ds R t st
 | 0,_,_,_,_,h=>h
 | n+1,k,ds,t,st,h=>by
  have go:∀ {k ds t st},gg P dk rs R g cuts n k ds t st→LTg P (kindOf dk) rs k ds R t st:=fun h=>lR hm n h
  unfold gg at h
  split at h
  ·exact jr (fun b a cs w=>step_end) h
  ·exact LTg.move (fun b a cs w=>step_skip) (go h)
  ·exact LTg.move (fun b a cs w=>step_label) (go h)
  ·exact LTg.move (fun b a cs w=>step_seq) (go h)
  ·unfold bd at h
   split at h
   ·rename_i v hv
    unfold aq at h
    split at h
    ·exact LTg.cond hv (go h)
    ·exact LTg.cond hv (go h)
    ·exact h.elim
   ·exact h.elim
  ·exact LTg.move (fun b a cs w=>step_block) (go h)
  ·rename_i c k
   intro w0 β w a fn h1 h2 h3 h4 b cs hf hk hc
   obtain ⟨e,w',fr,h5,h6,h7,h8⟩:=h.forget w0 β w a fn h1 h2 h3 h4 b cs hf hk hc
   refine ⟨e,w',fr,h5,?_,h7,h8⟩
   have hs1:step P (lone (b.at a (.code (.loop c)::k)) cs w)=.next (lone (b.at a (.code c::.inLoop c::k)) cs w):=step_loop
   have hs2:step P (lone (b.at a (.inLoop c::k)) cs w)=.next (lone (b.at a (.code c::.inLoop c::k)) cs w):=step_inLoop
   cases e with
   | returned v=>
    obtain ⟨m,hm'⟩:=h6
    cases m with
    | zero=>
     simp only[runN] at hm'
     have hfr:fr=b.at a (.inLoop c::k):=by
      simp only[lone,Stepped.next.injEq,Machine.mk.injEq] at hm'
      have:=hm'.2.1
      simp only[Array.mk.injEq,List.cons.injEq,Goroutine.mk.injEq] at this
      exact this.1.1.symm
     have hl:fr.mode=.returning:=by
      cases dk
      ·exact h8.1
      ·exact h8.2.1
     rw[hfr] at hl;simp[Frame.at] at hl
    | succ m=>
     simp only[runN,hs2] at hm'
     exact ⟨m+1,by simp only[runN,hs1];exact hm'⟩
   | panicked ch=>obtain ⟨_,r,_,v,_,he,_⟩:=h5;cases he
   | outgrown=>obtain ⟨_,r,_,v,_,he,_⟩:=h5;cases he
  ·exact h.forget
  ·split at h
   ·exact LTg.move (fun b a cs w=>step_inBlock) h.forget
   ·exact LTg.move (fun b a cs w=>step_inBlock) (go h)
  ·exact LTg.move (fun b a cs w=>step_inScope) (go h)
  ·split at h
   ·rename_i k' hx
    split at h
    ·exact LTg.move (fun b a cs w=>step_exit hx) h.forget
    ·exact LTg.move (fun b a cs w=>step_exit hx) (go h)
   ·exact h.elim
  ·exact jr (fun b a cs w=>step_ret) h
  ·rename_i id ops draw k
   split at h
   ·split at h
    ·split at h
     ·rename_i o hrf
      obtain ⟨rfl,ho,hg,c,hop,hcl⟩:=jD hrf
      obtain ⟨m,hm'⟩:∃ m,ops.size=m+1:=⟨ops.size-1,by have:=(Array.getElem?_eq_some_iff.1 ho).1;omega⟩
      rw[hm',Nat.add_sub_cancel] at h
      exact LTg.zE hm' ho hg hop hcl h fun _ _ h=>go h
     ·refine LTg.code fun w0 β w a h1 h2=>?_
      exact wp_region (dC h1 h2 rfl h fun β' t' st' a' w' k1 k2 k3 k4 k5=>⟨rfl,β',t',st',go k1,k2,k3,k4,k5⟩)
    ·rename_i p hd
     obtain ⟨o,c⟩:=p
     refine LTg.G8 fun w0 β w a h1 h2=>?_
     refine wp_region ?_
     obtain ⟨m,hm'⟩:∃ m,ops.size=m+1:=by
      refine ⟨ops.size-1,?_⟩
      unfold eW at hd
      split at hd
      ·rename_i o' ho'
       have:=(Array.getElem?_eq_some_iff.1 ho').1
       omega
      ·cases hd
     have ho:ops[m]?=some o∧o.op=.defer c∧o.guard=none:=by
      unfold eW at hd
      rw[hm',Nat.add_sub_cancel] at hd
      split at hd
      ·rename_i o' ho'
       split at hd
       ·rename_i c' e1 e2
        cases hd
        exact ⟨ho',e1,e2⟩
       ·cases hd
      ·cases hd
     rw[hm',Nat.add_sub_cancel] at h
     rw[hm',List.range_succ]
     refine fH h1 h2 rfl h fun β' t' st'' a' w' k1 k2 k3 k4 k5=>?_
     split at k1
     ·rename_i d hl
      obtain ⟨dv,e1,e2⟩:=nO (w:=w') ho.2.1 hl k3
      simp only[wpOps,ho.1]
      have hw:Region.wanted o (yielded ops a'.tmps)=true:=by simp[Region.wanted,ho.2.2]
      rw[if_pos hw]
      refine .inl ?_
      unfold Oper.wp
      rw[e1]
      refine ⟨trivial,β',_,_,d,dv,go k1,k2,?_,?_,e2,k5⟩
      ·exact eV (a:={ a' with defers:=dv::a'.defers }) k3 Rp.undef
      ·rw[put_defers'];show dv::a'.defers=dv::a.defers;rw[k4]
     ·exact k1.elim
   ·split at h
    ·rename_i hok
     refine LTg.code fun w0 β w a h1 h2=>?_
     refine wp_region_any hm (oC (Di hok) _ (T0:=t) (T:=t) (TD:=t) (D:=Array.replicate _ false) (m:=0) (pend:=[]) (β:=β) ?_ h (h1.C7 (Nat.le_succ _)) h2 rfl ?_ ?_)
     ·have hn:∀ (N i:Nat),¬ In (Array.replicate N false) i:=by
       intro N i hi
       unfold In at hi
       simp[Array.getElem?_replicate] at hi
       split at hi<;>simp at hi
      have he:∀ N,cp N 0=Array.replicate N false:=fun N=>by apply Array.ext<;>simp[cp]
      rw[he]
      exact ⟨⟨by simp,fun i o hi=>absurd hi (hn _ i)⟩,⟨by simp,fun i o hi=>absurd hi (hn _ i)⟩,fun i hi=>hi,⟨rfl,fun i o d hi=>absurd hi (hn _ i),fun _ _=>rfl⟩,⟨rfl,fun i o d hi=>absurd hi (hn _ i),fun _ _=>rfl⟩,
       fun i o hi=>absurd hi (hn _ i),fun j o hj=>absurd hj (hn _ j)⟩
     ·unfold todo
      exact Nat.le_trans (List.length_filter_le _ _) (by simp)
     ·intro β' t' st' a' w' k1 k2 k3 k4 k5
      exact ⟨rfl,β',t',st',go k1,k2,k3,k4,k5⟩
    ·exact h.elim
  ·exact h.elim
theorem LTg.round (hm:P.follows .mixedOrders=true) {dk:Bool} {rs:List ResultVar} {R:LV→aa→Prop} {g cuts:List Nat} (n:Nat) {c:Code} {k:List Item} {ds:List eM} {t:List LV} {st:aa} (h:gg P dk rs R g cuts n (.code c::.inLoop c::k) ds t st) :
  LTg P (kindOf dk) rs (.inLoop c::k) ds R t st:=LTg.move (fun b a cs w=>step_inLoop) (lR hm n h)
theorem LTg.at (hm:P.follows .mixedOrders=true) {dk:Bool} {rs:List ResultVar} {R:LV→aa→Prop} {g cuts:List Nat} (n:Nat) {k:List Item} {ds:List eM} {t:List LV} {st:aa}
  (h:gg P dk rs R g cuts n (dK k) ds t st):LTg P (kindOf dk) rs k ds R t st:=by
 unfold dK at h
 split at h
 ·exact LTg.round hm n h
 ·exact lR hm n h
end
end Go.CP
namespace Go.CP
mutual
def LV.lt (n:Nat):LV→Bool
 | .ptr o _=>decide (o<n)
 | .sl o _ _ _=>decide (o<n)
 | .map o=>decide (o<n)
 | .iface _ v=>LV.lt n v
 | .agg cs=>LV.lts n cs
 | .tup cs=>LV.lts n cs
 | .fn _ a b=>LV.lts n a&&LV.lts n b
 | .isl cs _ _=>LV.lts n cs
 | .iptr cs _=>LV.lts n cs
 | .imap a b=>LV.lts n a&&LV.lts n b
 | _=>true
def LV.lts (n:Nat):List LV→Bool
 | []=>true
 | a::l=>LV.lt n a&&LV.lts n l
end
theorem LV.DF {n:Nat}:∀ {l:List LV},LV.lts n l=true→∀ x ∈ l,x.lt n=true
 | a::l,h,x,hx=>by
  simp only[LV.lts,bp] at h
  rcases List.mem_cons.1 hx with rfl|hx
  ·exact h.1
  ·exact LV.DF h.2 x hx
theorem LV.Ha {n:Nat}:∀ {l:List LV},(∀ x ∈ l,x.lt n=true)→LV.lts n l=true
 | [],_=>rfl
 | a::l,h=>by simp only[LV.lts,h a (by simp),LV.Ha (l:=l) fun x hx=>h x (by simp[hx]),Bool.true_and]
section
variable {n:Nat} {β β':Lay}
mutual
theorem Rp.ltF (ho:∀ o,o<n→β' o=β o) (hf:∀ b x,β.f b=some x→β'.f b=some x):∀ {v:LV} {u:Value},v.lt n=true→Rp β v u→Rp β' v u
 | .bool _,_,_,e=>e
 | .int ..,_,_,e=>e
 | .flt ..,_,_,e=>e
 | .cplx ..,_,_,e=>e
 | .str _,_,_,e=>e
 | .nilp,_,_,e=>e
 | .ptr o k,_,h,⟨b,e,r⟩=>⟨b,(ho o (by simpa[LV.lt] using h)).trans e,r⟩
 | .nils,_,_,e=>e
 | .sl o k l c,_,h,⟨b,e,r⟩=>⟨b,(ho o (by simpa[LV.lt] using h)).trans e,r⟩
 | .nilm,_,_,e=>e
 | .map o,_,h,⟨b,e,r⟩=>⟨b,(ho o (by simpa[LV.lt] using h)).trans e,r⟩
 | .nilf,_,_,e=>e
 | .fn _ a b,_,h,⟨vs,us,e,r,s⟩=>by
  simp only[LV.lt,bp] at h
  exact ⟨vs,us,e,Rps.ltF ho hf h.1 r,Rps.ltF ho hf h.2 s⟩
 | .nili,_,_,e=>e
 | .iface _ v,_,h,⟨u,e,r⟩=>⟨u,e,Rp.ltF ho hf (by simpa[LV.lt] using h) r⟩
 | .agg cs,_,h,⟨vs,e,r⟩=>⟨vs,e,Rps.ltF ho hf (by simpa[LV.lt] using h) r⟩
 | .tup cs,_,h,⟨vs,e,r⟩=>⟨vs,e,Rps.ltF ho hf (by simpa[LV.lt] using h) r⟩
 | .fM _ _,_,_,e=>e
 | .emp,_,_,e=>e
 | .txt,_,_,e=>e
 | .aY,_,_,_=>trivial
 | .isl cs _ _,_,h,⟨us,r,a,c,e,l,k,fz⟩=>⟨us,Rps.ltF ho hf (by simpa[LV.lt] using h) r,a,c,e,l,k,fz.imp id fun ⟨b,base,q1,q2⟩=>⟨b,base,q1,q2.jj hf⟩⟩
 | .iptr cs _,_,h,⟨us,b,base,r,e,fz⟩=>⟨us,b,base,Rps.ltF ho hf (by simpa[LV.lt] using h) r,e,fz.jj hf⟩
 | .imap a c,_,h,⟨b,us,ws,e,r,s,fz⟩=>by
  simp only[LV.lt,bp] at h
  exact ⟨b,us,ws,e,Rps.ltF ho hf h.1 r,Rps.ltF ho hf h.2 s,fz.jj hf⟩
theorem Rps.ltF (ho:∀ o,o<n→β' o=β o) (hf:∀ b x,β.f b=some x→β'.f b=some x):∀ {v:List LV} {u:List Value},LV.lts n v=true→Rps β v u→Rps β' v u
 | [],_,_,e=>e
 | _::_,_,h,⟨v,us,e,r,s⟩=>by
  simp only[LV.lts,bp] at h
  exact ⟨v,us,e,Rp.ltF ho hf h.1 r,Rps.ltF ho hf h.2 s⟩
end
mutual
theorem Rp.lt (hd:∀ o,n≤o→β o=none):∀ {v:LV} {u:Value},Rp β v u→v.lt n=true
 | .bool _,_,_=>rfl
 | .int ..,_,_=>rfl
 | .flt ..,_,_=>rfl
 | .cplx ..,_,_=>rfl
 | .str _,_,_=>rfl
 | .nilp,_,_=>rfl
 | .ptr o k,_,⟨b,e,_⟩=>by
  simp only[LV.lt,decide_eq_true_eq]
  rcases Nat.lt_or_ge o n with h|h
  ·exact h
  ·rw[hd o h] at e;cases e
 | .nils,_,_=>rfl
 | .sl o k l c,_,⟨b,e,_⟩=>by
  simp only[LV.lt,decide_eq_true_eq]
  rcases Nat.lt_or_ge o n with h|h
  ·exact h
  ·rw[hd o h] at e;cases e
 | .nilm,_,_=>rfl
 | .map o,_,⟨b,e,_⟩=>by
  simp only[LV.lt,decide_eq_true_eq]
  rcases Nat.lt_or_ge o n with h|h
  ·exact h
  ·rw[hd o h] at e;cases e
 | .nilf,_,_=>rfl
 | .fn _ a b,_,⟨vs,us,e,r,s⟩=>by
  simp only[LV.lt,bp]
  exact ⟨Rps.lt hd r,Rps.lt hd s⟩
 | .nili,_,_=>rfl
 | .iface _ v,_,⟨u,e,r⟩=>by simp only[LV.lt];exact Rp.lt hd r
 | .agg cs,_,⟨vs,e,r⟩=>by simp only[LV.lt];exact Rps.lt hd r
 | .tup cs,_,⟨vs,e,r⟩=>by simp only[LV.lt];exact Rps.lt hd r
 | .fM _ _,_,_=>rfl
 | .emp,_,_=>rfl
 | .txt,_,_=>rfl
 | .aY,_,_=>rfl
 | .isl cs _ _,_,⟨us,r,_⟩=>by simp only[LV.lt];exact Rps.lt hd r
 | .iptr cs _,_,⟨us,b,base,r,_⟩=>by simp only[LV.lt];exact Rps.lt hd r
 | .imap a c,_,⟨b,us,ws,e,r,s,fz⟩=>by
  simp only[LV.lt,bp]
  exact ⟨Rps.lt hd r,Rps.lt hd s⟩
theorem Rps.lt (hd:∀ o,n≤o→β o=none):∀ {v:List LV} {u:List Value},Rps β v u→LV.lts n v=true
 | [],_,_=>rfl
 | _::_,_,⟨v,us,e,r,s⟩=>by
  simp only[LV.lts,bp]
  exact ⟨Rp.lt hd r,Rps.lt hd s⟩
end
def elt (n:Nat) (e:LV × LV):Bool:=e.1.lt n&&e.2.lt n
def ar.lt (n:Nat):ar→Bool
 | .cells _ l=>LV.lts n l
 | .map _ es _ _=>es.all (elt n)
 | .iter om _ _ _=>match om with
  | some o=>decide (o<n)
  | none=>true
 | .fiter cur rest=>(match cur with
  | some c=>elt n c
  | none=>true)&&rest.all (elt n)
 | .dead=>true
theorem Entries.ltF (ho:∀ o,o<n→β' o=β o) (hf:∀ b x,β.f b=some x→β'.f b=some x):∀ {l:List (LV × LV)} {v:List MapEntry},l.all (elt n)=true→Entries β l v→Entries β' l v
 | [],_,_,e=>e
 | _::_,_,h,⟨v,us,e,r,s⟩=>by
  simp only[List.all_cons,elt,bp] at h
  exact ⟨v,us,e,⟨r.1.ltF ho hf h.1.1,r.2.ltF ho hf h.1.2⟩,Entries.ltF ho hf h.2 s⟩
theorem Entries.lt (hd:∀ o,n≤o→β o=none):∀ {l:List (LV × LV)} {v:List MapEntry},Entries β l v→l.all (elt n)=true
 | [],_,_=>rfl
 | _::_,_,⟨v,us,e,r,s⟩=>by
  simp only[List.all_cons,elt,bp]
  exact ⟨⟨r.1.lt hd,r.2.lt hd⟩,Entries.lt hd s⟩
theorem OR.ltF {N o:Nat} {w:World} (ho:∀ o,o<n→β' o=β o) (hf:∀ b x,β.f b=some x→β'.f b=some x) (hlt:o<n):∀ {x:ar},x.lt n=true→OR N β w o x→OR N β' w o x
 | .dead,_,_=>trivial
 | .cells _ _,h,⟨b,e,c,t,fz,h1,h2,h3,h4,h5⟩=>
  ⟨b,(ho o hlt).trans e,c,t,fz,h1,h2,h3,fun i x hx=>let ⟨u,hu,r⟩:=h4 i x hx;⟨u,hu,r.ltF ho hf (LV.DF h x (cr hx))⟩,h5⟩
 | .map _ _ _ _,h,⟨b,e,c,h1,h2,h3⟩=>⟨b,(ho o hlt).trans e,c,h1,h2.ltF ho hf h,h3⟩
 | .iter om _ _ _,h,⟨b,e,c,h1,h2,h3⟩=>⟨b,(ho o hlt).trans e,c,h1,by
   cases om with
   | none=>exact h2
   | some p=>obtain ⟨b',e1,e2⟩:=h2;exact ⟨b',(ho p (by simpa[ar.lt] using h)).trans e1,e2⟩,h3⟩
 | .fiter cur rest,h,⟨b,e,c,s,k,h1,⟨es,q1,q2,⟨lm,q3,q4⟩,q5⟩,h3⟩=>by
  simp only[ar.lt,bp] at h
  refine ⟨b,(ho o hlt).trans e,c,s,k,h1,⟨es,hf _ _ q1,q2,⟨lm,q3.ltF ho hf h.2,q4⟩,?_⟩,h3⟩
  cases cur with
  | none=>trivial
  | some c=>
   obtain ⟨e,he,hs,hc⟩:=q5
   have h1:=h.1
   simp only[elt,bp] at h1
   exact ⟨e,he,hs,hc.1.ltF ho hf h1.1,hc.2.ltF ho hf h1.2⟩
theorem OR.lt {N o:Nat} {w:World} (hd:∀ o,n≤o→β o=none):∀ {x:ar},OR N β w o x→x.lt n=true
 | .dead,_=>rfl
 | .cells _ l,⟨b,e,c,t,fz,h1,h2,h3,h4,h5⟩=>by
  refine LV.Ha fun x hx=>?_
  obtain ⟨i,hi⟩:=List.mem_iff_getElem?.1 hx
  obtain ⟨u,_,r⟩:=h4 i x hi
  exact r.lt hd
 | .map _ _ _ _,⟨b,e,c,h1,h2,h3⟩=>h2.lt hd
 | .iter om _ _ _,⟨b,e,c,h1,h2,h3⟩=>by
  cases om with
  | none=>rfl
  | some p=>
   obtain ⟨b',e1,e2⟩:=h2
   simp only[ar.lt,decide_eq_true_eq]
   rcases Nat.lt_or_ge p n with h|h
   ·exact h
   ·rw[hd p h] at e1;cases e1
 | .fiter cur rest,⟨b,e,c,s,k,h1,⟨es,q1,q2,⟨lm,q3,q4⟩,q5⟩,h3⟩=>by
  simp only[ar.lt,bp]
  refine ⟨?_,q3.lt hd⟩
  cases cur with
  | none=>rfl
  | some c=>
   obtain ⟨e,he,hs,hc⟩:=q5
   simp only[elt,bp]
   exact ⟨hc.1.lt hd,hc.2.lt hd⟩
end
def fN (n:Nat) (st:aa):aa:=List.replicate n .dead++st.drop n
theorem Hb {n:Nat} {st:aa} (h:n≤st.length):(fN n st).length=st.length:=by simp[fN];omega
theorem DG {n o:Nat} {st:aa} (h:o<n):(fN n st)[o]?=some .dead:=by
 unfold fN
 rw[bW (by simpa using h)]
 simp[h]
theorem gJ {n o:Nat} {st:aa} (h:n≤o):(fN n st)[o]?=st[o]?:=by
 unfold fN
 rw[List.getElem?_append_right (by simpa using h),Gz,List.getElem?_drop]
 congr 1;omega
theorem ca.fN {m0:Md} {st:aa} {f:Option Nat} {sz k n:Nat} {cs:List LV} (h:ca m0 st f sz k cs) (hn:∀ o,f=some o→n≤o):ca m0 (fN n st) f sz k cs:=by
 refine ⟨h.1,?_⟩
 cases f with
 | none=>exact h.2
 | some o=>obtain ⟨rest,h2⟩:=h.2;exact ⟨rest,(gJ (hn o rfl)).trans h2⟩
section
variable {w0 w:World} {β0 β:Lay} {st:aa} {n:Nat}
theorem Rel.fN (h:Rel w0 β st w) (hn:n≤st.length):Rel w0 β (fN n st) w:=by
 have get:∀ {i:Nat} {z:ar},(Go.CP.fN n st)[i]?=some z→z=.dead∨(n≤i∧st[i]?=some z):=by
  intro i z hz
  rcases Nat.lt_or_ge i n with k|k
  ·rw[DG k] at hz;exact .inl (Option.some.inj hz).symm
  ·rw[gJ k] at hz;exact .inr ⟨k,hz⟩
 refine ⟨h.below,fun o ho=>h.dom o (by rw[Hb hn] at ho;exact ho),fun o x hx=>?_,fun o o' x x' b b' hx hr hx' hl hne hb hb'=>?_,h.base,h.froz,fun o x b hx hr hb=>?_⟩
 ·rcases get hx with rfl|⟨_,hx⟩
  ·trivial
  ·exact h.obj o x hx
 ·rcases get hx with rfl|⟨_,hx⟩
  ·cases hr
  ·rcases get hx' with rfl|⟨_,hx'⟩
   ·cases hl
   ·exact h.sep o o' x x' b b' hx hr hx' hl hne hb hb'
 ·rcases get hx with rfl|⟨_,hx⟩
  ·cases hr
  ·exact h.sepf o x b hx hr hb
section
open Classical
noncomputable def Lay.cut (β:Lay) (n:Nat) (st:aa) (w:World):Lay:=⟨fun o=>if o<n then β o else none,(β.frz (Go.CP.fN n st) w).f,β.n⟩
theorem L1 {o:Nat} (h:o<n):(β.cut n st w) o=β o:=if_pos h
theorem Rel.Kk (h:Rel w0 β st w) (hn:n≤st.length) (hle:β0.le β) (hd:∀ o,n≤o→β0 o=none) (hlt:∀ o x,o<n→st[o]?=some x→x.lt n=true) :
  Rel w0 (β.cut n st w) (st.take n) w∧β0.le (β.cut n st w)∧∀ v r u,dp (Go.CP.fN n st) v r→v.plain=true→Rp β r u→Rp (β.cut n st w) v u:=by
 have hl:=h.fN hn
 have hf:∀ b x,β.f b=some x→(β.cut n st w).f b=some x:=ta hl
 have ho:∀ {o:Nat} {b:Bl},(β.cut n st w) o=some b→o<n∧β o=some b:=by
  intro o b e
  have e':(if o<n then β o else none)=some b:=e
  split at e'
  ·exact ⟨by assumption,e'⟩
  ·cases e'
 have get:∀ {i:Nat} {z:ar},(st.take n)[i]?=some z→i<n∧st[i]?=some z:=by
  intro i z hz
  rw[List.getElem?_take] at hz
  split at hz
  ·exact ⟨by assumption,hz⟩
  ·cases hz
 refine ⟨⟨h.below,fun o hlen=>?_,fun o x hx=>?_,fun o o' x x' b b' hx hr hx' hl hne hb hb'=>?_,h.base,td hl,fun o x b hx hr hb=>?_⟩,⟨fun o b e=>?_,fun b x e=>hf b x (hle.f b x e),hle.n,fun b x e l=>?_⟩,fun v r u hdp hv hr=>?_⟩
 ·have:¬ o<n:=by rw[List.length_take] at hlen;omega
  exact if_neg this
 ·obtain ⟨h1,h2⟩:=get hx
  exact (h.obj o x h2).ltF (n:=n) (fun o k=>L1 k) hf h1 (hlt o x h1 h2)
 ·obtain ⟨_,hx⟩:=get hx
  obtain ⟨_,hx'⟩:=get hx'
  exact h.sep o o' x x' b b' hx hr hx' hl hne (ho hb).2 (ho hb').2
 ·obtain ⟨h1,hx⟩:=get hx
  show (if Frz β (Go.CP.fN n st) b.blk then w.heap[b.blk]? else β.f b.blk)=none
  rw[if_neg ?_]
  ·exact h.sepf o x b hx hr (ho hb).2
  ·rintro ⟨o',y,bl,k1,k2,k3,k4⟩
   rcases Nat.lt_or_ge o' n with k|k
   ·rw[DG k] at k1;cases k1;cases k2
   ·rw[gJ k] at k1
    exact h.sep o o' x y b bl hx hr k1 (ar.fx k2) (by omega) (ho hb).2 k3 k4.symm
 ·rcases Nat.lt_or_ge o n with k|k
  ·exact (L1 k).trans (hle.o o b e)
  ·rw[hd o k] at e;cases e
 ·have e':(if Frz β (Go.CP.fN n st) b then w.heap[b]? else β.f b)=some x:=e
  split at e'
  ·rename_i hF
   obtain ⟨o',y,bl,k1,k2,k3,k4⟩:=hF
   have:=(hl.obj o' y k1).pV k2 k3
   rw[k4,← h.base,hle.n] at this
   omega
  ·exact hle.old b x e' l
 ·exact Rp.et (β:=β.frz (Go.CP.fN n st) w) (β':=β.cut n st w) (fun _ _ e=>e) hv (lN hl hdp hr)
end
end
theorem aw.Kk {P:Program} {f:FuncId} {xs:List LV} {st:aa} {R:LV→aa→Prop}
  (h:aw P f xs st fun r st'=>∃ v,st.length≤st'.length∧(∀ o x,o<st.length→st'[o]?=some x→st[o]?=some x∨x.lt st.length=true)∧dp (fN st.length st') v r∧v.plain=true∧R v (st'.take st.length)):aw P f xs st R:=by
 have go:∀ {w0:World} {β:Lay} {w w':World} {u:Value} {β':Lay} {r:LV} {st':aa},Rel w0 β st w→(∃ v,st.length≤st'.length∧(∀ o x,o<st.length→st'[o]?=some x→st[o]?=some x∨x.lt st.length=true)∧dp (fN st.length st') v r∧v.plain=true∧R v (st'.take st.length))→
   Rp β' r u→Rel w0 β' st' w'→β.le β'→∃ β2 v st2,R v st2∧Rp β2 v u∧Rel w0 β2 st2 w'∧β.le β2:=by
  rintro w0 β w w' u β' r st' h1 ⟨v,k1,k2,k3,k4,k5⟩ hr hrel hle
  have hd:∀ o,st.length≤o→β o=none:=h1.dom
  obtain ⟨q1,q2,q3⟩:=hrel.Kk (n:=st.length) k1 hle hd fun o x ho hx=>by
   rcases k2 o x ho hx with e|e
   ·exact (h1.obj o x e).lt hd
   ·exact e
  exact ⟨_,v,_,k5,q3 v r u k3 k4 hr,q1,q2⟩
 rcases h with h|h
 ·refine .inl ⟨h.1,fun w0 β w vs h1 h2=>(h.2 w0 β w vs h1 h2).mono ?_⟩
  rintro e w' ⟨β',r,st',u,hd,rfl,h4,h5,h6⟩
  obtain ⟨β2,v,st2,k1,k2,k3,k4⟩:=go h1 hd h4 h5 h6
  exact ⟨β2,v,st2,u,k1,rfl,k2,k3,k4⟩
 ·refine .inr fun w0 β w vs h1 h2=>?_
  obtain ⟨u,w',h3,β',r,st',hd,h5,h6,h7⟩:=h w0 β w vs h1 h2
  obtain ⟨β2,v,st2,k1,k2,k3,k4⟩:=go h1 hd h5 h6 h7
  exact ⟨u,w',h3,β2,v,st2,k1,k2,k3,k4⟩
theorem DH {st st' st2:aa} (_h:st.length≤st'.length) (hl:st2.length=st.length) (hs:∀ j,j<st.length→st'[j]?=st2[j]?):st'.take st.length=st2:=by
 apply List.ext_getElem?
 intro j
 rw[List.getElem?_take]
 split
 ·exact hs j (by assumption)
 ·rw[List.getElem?_eq_none (by omega)]
theorem aw.zF {P:Program} {f:FuncId} {xs:List LV} {st:aa} {R:LV→aa→Prop} {o:Nat} (ho:o<st.length)
  (h:aw P f xs st fun r st'=>∃ v y,Fr st st' (fun j=>j=o)∧st'[o]?=some y∧y.lt st.length=true∧dp (fN st.length st') v r∧v.plain=true∧R v (st.set o y)):aw P f xs st R:=by
 refine aw.Kk (h.mono ?_)
 rintro r st' ⟨v,y,hf,hy,hlt,hd,hp,hR⟩
 refine ⟨v,hf.len,fun j x hj hx=>?_,hd,hp,?_⟩
 ·by_cases e:j=o
  ·subst e;rw[hy] at hx;cases hx;exact .inr hlt
  ·exact .inl ((hf.same j hj e) ▸ hx)
 ·rw[DH (st2:=st.set o y) hf.len (by simp) fun j hj=>?_]
  ·exact hR
  ·by_cases e:j=o
   ·subst e;rw[hy,List.getElem?_set_self hj]
   ·rw[hf.same j hj e,List.getElem?_set_ne (Ne.symm e)]
theorem aw.Hc {P:Program} {f:FuncId} {xs:List LV} {st:aa} {R:LV→aa→Prop}
  (h:aw P f xs st fun r st'=>∃ v,Fr st st' (fun _=>False)∧dp (fN st.length st') v r∧v.plain=true∧R v st):aw P f xs st R:=by
 refine aw.Kk (h.mono ?_)
 rintro r st' ⟨v,hf,hd,hp,hR⟩
 refine ⟨v,hf.len,fun j x hj hx=>.inl ((hf.same j hj id) ▸ hx),hd,hp,?_⟩
 rw[DH (st2:=st) hf.len rfl fun j hj=>hf.same j hj id]
 exact hR
end Go.CP
