/- Parts of the proof. -/
import Derived.Test.YtknegckgmklnhaaGreatDoorCp37
namespace Go.CP
section
variable {P:Program}
def oQ (P:Program) (dk:Bool) (rs:List ResultVar) (R:LV→aa→Prop) (ds:List cV) (t:List LV) (st:aa):Prop:=match dk with
 | true=>match ds with
  | []=>mq P rs R t st
  | _=>False
 | false=>jB P ds st fun st'=>mq P rs R t st'
def dQ (P:Program) (dk:Bool) (rs:List ResultVar) (R:LV→aa→Prop) (g cuts:List Nat):Nat→List Item→List cV→List LV→aa→Prop
 | 0,k,ds,t,st=>LTg P (kindOf dk) rs k ds R t st
 | n+1,k,ds,t,st=>match k with
  | []=>oQ P dk rs R ds t st
  | .code .skip::k=>dQ P dk rs R g cuts n k ds t st
  | .code (.label _)::k=>dQ P dk rs R g cuts n k ds t st
  | .code (.seq a b)::k=>dQ P dk rs R g cuts n (.code a::.code b::k) ds t st
  | .code (.cond c a b)::k=>bd (ev t c) fun v=>aG v (dQ P dk rs R g cuts n (.code a::k) ds t st) (dQ P dk rs R g cuts n (.code b::k) ds t st)
  | .code (.block id c)::k=>dQ P dk rs R g cuts n (.code c::.inBlock id::k) ds t st
  | .code (.loop c)::k=>LTg P (kindOf dk) rs (.inLoop c::k) ds R (aJ g t) st
  | .inLoop c::k=>LTg P (kindOf dk) rs (.inLoop c::k) ds R (aJ g t) st
  | .inBlock id::k=>match cuts.contains id with
   | true=>LTg P (kindOf dk) rs k ds R (aJ g t) st
   | false=>dQ P dk rs R g cuts n k ds t st
  | .inScope _::k=>dQ P dk rs R g cuts n k ds t st
  | .code (.exit id)::k=>match exitTo id k with
   | some k'=>match cuts.contains id with
    | true=>LTg P (kindOf dk) rs k' ds R (aJ g t) st
    | false=>dQ P dk rs R g cuts n k' ds t st
   | none=>False
  | .code .ret::_=>oQ P dk rs R ds t st
  | .code (.region _ ops draw)::k=>match draw with
   | false=>match da ops with
    | none=>match ir dk ops with
     | some o=>bM P ops (List.range' 1 (ops.size-1)) (fun t st=>dQ P dk rs R g cuts n k ds t st) (br t o.dst .nili) st
     | none=>bM P ops (List.range ops.size) (fun t st=>dQ P dk rs R g cuts n k ds t st) t st
    | some p=>bM P ops (List.range (ops.size-1)) (fun t st=>match xv P t p.2 with
     | some d=>dQ P dk rs R g cuts n k (d::ds) (br t p.1.dst ak) st
     | none=>False) t st
   | true=>match kZ ops (Region.before ops) with
    | true=>bV P ops (Region.before ops) (rowsOf P ops) (fun t st=>dQ P dk rs R g cuts n k ds t st) ops.size 0 [] t st
    | false=>False
  | _=>False
theorem LTg.forget {κ:CallKind} {rs:List ResultVar} {R:LV→aa→Prop} {k:List Item} {ds:List cV} {g:List Nat} {t:List LV} {st:aa} (h:LTg P κ rs k ds R (aJ g t) st):LTg P κ rs k ds R t st:=
 fun w0 β w a fn h1 h2=>h w0 β w a fn h1 (nr h2)
theorem fw {dk:Bool} {rs:List ResultVar} {R:LV→aa→Prop} {k:List Item} {ds:List cV} {t:List LV} {st:aa}
  (hs:∀ (b:Frame) (a:Act) (cs:List Frame) (w:World),step P (lone (b.at a k) cs w)=.next (lone { b.at a k with mode:=.returning } cs w)) (h:oQ P dk rs R ds t st):LTg P (kindOf dk) rs k ds R t st:=by
 unfold oQ at h
 split at h
 ·split at h
  ·exact LTg.uQ hs h
  ·exact h.elim
 ·exact LTg.finish hs h
theorem LTg.rX {rs:List ResultVar} {R:LV→aa→Prop} {id:Nat} {ops:Array Oper} {o:Oper} {cl:Call} {m:Nat} {k:List Item} {ds:List cV} {t:List LV} {st:aa} {K:List LV→aa→Prop} (hm:ops.size=m+1) (ho:ops[0]?=some o) (hg:o.guard=none) (hop:o.op=.call cl)
  (hcl:cl.callee=.builtin .recover) (h:bM P ops (List.range' 1 m) K (br t o.dst .nili) st) (hK:∀ t st,K t st→LTg P .deferred rs k ds R t st):LTg P .deferred rs (.code (.region id ops false)::k) ds R t st:=by
 intro w0 β w a fn h1 h2 h3 h4 b cs hf hk hc
 obtain ⟨c,cs',rfl,hcm⟩:=hc
 have s1:=step_region (P:=P) (b:=b) (a:=a) (k:=k) (cs:=c::cs') (w:=w) (id:=id) (ops:=ops)
 rw[hm,List.range_eq_range',List.range'_succ] at s1
 have s2:=kz (P:=P) (b:=b) (a:=a) (k:=k) (cs:=cs') (w:=w) (rest:=List.range' (0+1) m) hk hcm ho hg hop hcl
 have hput:Rps β (br t o.dst .nili) (a.put o.dst .nilIface).tmps.toList:=cZ h2 rfl
 have hops:=b9 (dl:=a.defers) (Q:=fun e a' w'=>e=.normal∧∃ β' t' st',LTg P .deferred rs k ds R t' st'∧Rel w0 β' st' w'∧Rps β' t' a'.tmps.toList∧a'.defers=a.defers∧β.le β') h1 hput (put_defers' ..) h
  fun β' t' st' a' w' k1 k2 k3 k4 k5=>⟨rfl,β',t',st',hK _ _ k1,k2,k3,k4,k5⟩
 obtain ⟨e,a',w',⟨he,β',t',st',k1,k2,k3,k4,k5⟩,harr⟩:=wp_ops _ _ _ hops b k (c::cs')
 subst he
 obtain ⟨e,w'',fr,h5,h6,h7,h8⟩:=k1 w0 β' w' a' fn k2 k3 (by rw[k4];exact h3.mono k5) h4 b (c::cs') hf hk ⟨c,cs',rfl,hcm⟩
 exact ⟨e,w'',fr,h5.le k5,.of_steps (.head s1 (.head s2 harr)) h6,h7,h8⟩
theorem iv (hm:P.follows .mixedOrders=true) {dk:Bool} {rs:List ResultVar} {R:LV→aa→Prop} {g cuts:List Nat}:∀ (n:Nat) {k:List Item} {ds:List cV} {t:List LV} {st:aa},
  dQ P dk rs R g cuts n k ds t st→LTg P (kindOf dk) rs k ds R t st
 | 0,_,_,_,_,h=>h
 | n+1,k,ds,t,st,h=>by
  have go:∀ {k ds t st},dQ P dk rs R g cuts n k ds t st→LTg P (kindOf dk) rs k ds R t st:=fun h=>iv hm n h
  unfold dQ at h
  split at h
  ·exact fw (fun b a cs w=>step_end) h
  ·exact LTg.move (fun b a cs w=>step_skip) (go h)
  ·exact LTg.move (fun b a cs w=>step_label) (go h)
  ·exact LTg.move (fun b a cs w=>step_seq) (go h)
  ·unfold bd at h
   split at h
   ·rename_i v hv
    unfold aG at h
    split at h
    ·exact LTg.cond hv (go h)
    ·exact LTg.cond hv (go h)
    ·exact h.elim
   ·exact h.elim
  ·exact LTg.move (fun b a cs w=>step_block) (go h)
  ·rename_i c k
   intro w0 β w a fn h1 h2 h3 h4 b cs hf hk hc
   obtain ⟨e,w',fr,h5,h6,h7,h8⟩:=h.forget w0 β w a fn h1 h2 h3 h4 b cs hf hk hc
   refine ⟨e,w',fr,h5,?_,h7,h8⟩
   have hs1:step P (lone (b.at a (.code (.loop c)::k)) cs w)=.next (lone (b.at a (.code c::.inLoop c::k)) cs w):=step_loop
   have hs2:step P (lone (b.at a (.inLoop c::k)) cs w)=.next (lone (b.at a (.code c::.inLoop c::k)) cs w):=step_inLoop
   cases e with
   | returned v=>
    obtain ⟨m,hm'⟩:=h6
    cases m with
    | zero=>
     simp only[runN] at hm'
     have hfr:fr=b.at a (.inLoop c::k):=by
      simp only[lone,Stepped.next.injEq,Machine.mk.injEq] at hm'
      have:=hm'.2.1
      simp only[Array.mk.injEq,List.cons.injEq,Goroutine.mk.injEq] at this
      exact this.1.1.symm
     have hl:fr.mode=.returning:=by
      cases dk
      ·exact h8.1
      ·exact h8.2.1
     rw[hfr] at hl;simp[Frame.at] at hl
    | succ m=>
     simp only[runN,hs2] at hm'
     exact ⟨m+1,by simp only[runN,hs1];exact hm'⟩
   | panicked ch=>obtain ⟨_,r,_,v,_,he,_⟩:=h5;cases he
   | outgrown=>obtain ⟨_,r,_,v,_,he,_⟩:=h5;cases he
  ·exact h.forget
  ·split at h
   ·exact LTg.move (fun b a cs w=>step_inBlock) h.forget
   ·exact LTg.move (fun b a cs w=>step_inBlock) (go h)
  ·exact LTg.move (fun b a cs w=>step_inScope) (go h)
  ·split at h
   ·rename_i k' hx
    split at h
    ·exact LTg.move (fun b a cs w=>step_exit hx) h.forget
    ·exact LTg.move (fun b a cs w=>step_exit hx) (go h)
   ·exact h.elim
  ·exact fw (fun b a cs w=>step_ret) h
  ·rename_i id ops draw k
   split at h
   ·split at h
    ·split at h
     ·rename_i o hrf
      obtain ⟨rfl,ho,hg,c,hop,hcl⟩:=fE hrf
      obtain ⟨m,hm'⟩:∃ m,ops.size=m+1:=⟨ops.size-1,by have:=(Array.getElem?_eq_some_iff.1 ho).1;omega⟩
      rw[hm',Nat.add_sub_cancel] at h
      exact LTg.rX hm' ho hg hop hcl h fun _ _ h=>go h
     ·refine LTg.code fun w0 β w a h1 h2=>?_
      exact wp_region (b9 h1 h2 rfl h fun β' t' st' a' w' k1 k2 k3 k4 k5=>⟨rfl,β',t',st',go k1,k2,k3,k4,k5⟩)
    ·rename_i p hd
     obtain ⟨o,c⟩:=p
     refine LTg.xu fun w0 β w a h1 h2=>?_
     refine wp_region ?_
     obtain ⟨m,hm'⟩:∃ m,ops.size=m+1:=by
      refine ⟨ops.size-1,?_⟩
      unfold da at hd
      split at hd
      ·rename_i o' ho'
       have:=(Array.getElem?_eq_some_iff.1 ho').1
       omega
      ·cases hd
     have ho:ops[m]?=some o∧o.op=.defer c∧o.guard=none:=by
      unfold da at hd
      rw[hm',Nat.add_sub_cancel] at hd
      split at hd
      ·rename_i o' ho'
       split at hd
       ·rename_i c' e1 e2
        cases hd
        exact ⟨ho',e1,e2⟩
       ·cases hd
      ·cases hd
     rw[hm',Nat.add_sub_cancel] at h
     rw[hm',List.range_succ]
     refine dx h1 h2 rfl h fun β' t' st'' a' w' k1 k2 k3 k4 k5=>?_
     split at k1
     ·rename_i d hl
      obtain ⟨dv,e1,e2⟩:=jC (w:=w') ho.2.1 hl k3
      simp only[wpOps,ho.1]
      have hw:Region.wanted o (yielded ops a'.tmps)=true:=by simp[Region.wanted,ho.2.2]
      rw[if_pos hw]
      refine .inl ?_
      unfold Oper.wp
      rw[e1]
      refine ⟨trivial,β',_,_,d,dv,go k1,k2,?_,?_,e2,k5⟩
      ·exact cZ (a:={ a' with defers:=dv::a'.defers }) k3 Rp.undef
      ·rw[put_defers'];show dv::a'.defers=dv::a.defers;rw[k4]
     ·exact k1.elim
   ·split at h
    ·rename_i hok
     refine LTg.code fun w0 β w a h1 h2=>?_
     refine wp_region_any hm (jT (ui hok) _ (T0:=t) (T:=t) (TD:=t) (D:=Array.replicate _ false) (m:=0) (pend:=[]) (β:=β) ?_ h (h1.tT (Nat.le_succ _)) h2 rfl ?_ ?_)
     ·have hn:∀ (N i:Nat),¬ In (Array.replicate N false) i:=by
       intro N i hi
       unfold In at hi
       simp[Array.getElem?_replicate] at hi
       split at hi<;>simp at hi
      have he:∀ N,aZ N 0=Array.replicate N false:=fun N=>by apply Array.ext<;>simp[aZ]
      rw[he]
      exact ⟨⟨by simp,fun i o hi=>absurd hi (hn _ i)⟩,⟨by simp,fun i o hi=>absurd hi (hn _ i)⟩,fun i hi=>hi,⟨rfl,fun i o d hi=>absurd hi (hn _ i),fun _ _=>rfl⟩,⟨rfl,fun i o d hi=>absurd hi (hn _ i),fun _ _=>rfl⟩,
       fun i o hi=>absurd hi (hn _ i),fun j o hj=>absurd hj (hn _ j)⟩
     ·unfold todo
      exact Nat.le_trans (List.length_filter_le _ _) (by simp)
     ·intro β' t' st' a' w' k1 k2 k3 k4 k5
      exact ⟨rfl,β',t',st',go k1,k2,k3,k4,k5⟩
    ·exact h.elim
  ·exact h.elim
theorem LTg.round (hm:P.follows .mixedOrders=true) {dk:Bool} {rs:List ResultVar} {R:LV→aa→Prop} {g cuts:List Nat} (n:Nat) {c:Code} {k:List Item} {ds:List cV} {t:List LV} {st:aa} (h:dQ P dk rs R g cuts n (.code c::.inLoop c::k) ds t st) :
  LTg P (kindOf dk) rs (.inLoop c::k) ds R t st:=LTg.move (fun b a cs w=>step_inLoop) (iv hm n h)
theorem LTg.at (hm:P.follows .mixedOrders=true) {dk:Bool} {rs:List ResultVar} {R:LV→aa→Prop} {g cuts:List Nat} (n:Nat) {k:List Item} {ds:List cV} {t:List LV} {st:aa}
  (h:dQ P dk rs R g cuts n (cF k) ds t st):LTg P (kindOf dk) rs k ds R t st:=by
 unfold cF at h
 split at h
 ·exact LTg.round hm n h
 ·exact iv hm n h
end
end Go.CP
namespace Go.CP
mutual
def LV.lt (n:Nat):LV→Bool
 | .ptr o _=>decide (o<n)
 | .sl o _ _ _=>decide (o<n)
 | .map o=>decide (o<n)
 | .iface _ v=>LV.lt n v
 | .agg cs=>LV.lts n cs
 | .tup cs=>LV.lts n cs
 | .fn _ a b=>LV.lts n a&&LV.lts n b
 | .isl cs _ _=>LV.lts n cs
 | .iptr cs _=>LV.lts n cs
 | .imap a b=>LV.lts n a&&LV.lts n b
 | _=>true
def LV.lts (n:Nat):List LV→Bool
 | []=>true
 | a::l=>LV.lt n a&&LV.lts n l
end
theorem LV.xw {n:Nat}:∀ {l:List LV},(∀ x ∈ l,x.lt n=true)→LV.lts n l=true
 | [],_=>rfl
 | a::l,h=>by simp only[LV.lts,h a (by simp),LV.xw (l:=l) fun x hx=>h x (by simp[hx]),Bool.true_and]
section
variable {n:Nat} {β β':Lay}
mutual
theorem Rp.lt (hd:∀ o,n≤o→β o=none):∀ {v:LV} {u:Value},Rp β v u→v.lt n=true
 | .bool _,_,_=>rfl
 | .int ..,_,_=>rfl
 | .flt ..,_,_=>rfl
 | .cplx ..,_,_=>rfl
 | .str _,_,_=>rfl
 | .nilp,_,_=>rfl
 | .ptr o k,_,⟨b,e,_⟩=>by
  simp only[LV.lt,decide_eq_true_eq]
  rcases Nat.lt_or_ge o n with h|h
  ·exact h
  ·rw[hd o h] at e;cases e
 | .nils,_,_=>rfl
 | .sl o k l c,_,⟨b,e,_⟩=>by
  simp only[LV.lt,decide_eq_true_eq]
  rcases Nat.lt_or_ge o n with h|h
  ·exact h
  ·rw[hd o h] at e;cases e
 | .nilm,_,_=>rfl
 | .map o,_,⟨b,e,_⟩=>by
  simp only[LV.lt,decide_eq_true_eq]
  rcases Nat.lt_or_ge o n with h|h
  ·exact h
  ·rw[hd o h] at e;cases e
 | .nilf,_,_=>rfl
 | .fn _ a b,_,⟨vs,us,e,r,s⟩=>by
  simp only[LV.lt,aK]
  exact ⟨Rps.lt hd r,Rps.lt hd s⟩
 | .nili,_,_=>rfl
 | .iface _ v,_,⟨u,e,r⟩=>by simp only[LV.lt];exact Rp.lt hd r
 | .agg cs,_,⟨vs,e,r⟩=>by simp only[LV.lt];exact Rps.lt hd r
 | .tup cs,_,⟨vs,e,r⟩=>by simp only[LV.lt];exact Rps.lt hd r
 | .dF _ _,_,_=>rfl
 | .emp,_,_=>rfl
 | .txt,_,_=>rfl
 | .aJ,_,_=>rfl
 | .isl cs _ _,_,⟨us,r,_⟩=>by simp only[LV.lt];exact Rps.lt hd r
 | .iptr cs _,_,⟨us,b,base,r,_⟩=>by simp only[LV.lt];exact Rps.lt hd r
 | .imap a c,_,⟨b,us,ws,e,r,s,fz⟩=>by
  simp only[LV.lt,aK]
  exact ⟨Rps.lt hd r,Rps.lt hd s⟩
theorem Rps.lt (hd:∀ o,n≤o→β o=none):∀ {v:List LV} {u:List Value},Rps β v u→LV.lts n v=true
 | [],_,_=>rfl
 | _::_,_,⟨v,us,e,r,s⟩=>by
  simp only[LV.lts,aK]
  exact ⟨Rp.lt hd r,Rps.lt hd s⟩
end
def elt (n:Nat) (e:LV × LV):Bool:=e.1.lt n&&e.2.lt n
def ah.lt (n:Nat):ah→Bool
 | .cells _ l=>LV.lts n l
 | .map _ es _ _=>es.all (elt n)
 | .iter om _ _ _=>match om with
  | some o=>decide (o<n)
  | none=>true
 | .fiter cur rest=>(match cur with
  | some c=>elt n c
  | none=>true)&&rest.all (elt n)
 | .dead=>true
theorem Entries.lt (hd:∀ o,n≤o→β o=none):∀ {l:List (LV × LV)} {v:List MapEntry},Entries β l v→l.all (elt n)=true
 | [],_,_=>rfl
 | _::_,_,⟨v,us,e,r,s⟩=>by
  simp only[List.all_cons,elt,aK]
  exact ⟨⟨r.1.lt hd,r.2.lt hd⟩,Entries.lt hd s⟩
theorem OR.lt {N o:Nat} {w:World} (hd:∀ o,n≤o→β o=none):∀ {x:ah},OR N β w o x→x.lt n=true
 | .dead,_=>rfl
 | .cells _ l,⟨b,e,c,t,fz,h1,h2,h3,h4,h5⟩=>by
  refine LV.xw fun x hx=>?_
  obtain ⟨i,hi⟩:=List.mem_iff_getElem?.1 hx
  obtain ⟨u,_,r⟩:=h4 i x hi
  exact r.lt hd
 | .map _ _ _ _,⟨b,e,c,h1,h2,h3⟩=>h2.lt hd
 | .iter om _ _ _,⟨b,e,c,h1,h2,h3⟩=>by
  cases om with
  | none=>rfl
  | some p=>
   obtain ⟨b',e1,e2⟩:=h2
   simp only[ah.lt,decide_eq_true_eq]
   rcases Nat.lt_or_ge p n with h|h
   ·exact h
   ·rw[hd p h] at e1;cases e1
 | .fiter cur rest,⟨b,e,c,s,k,h1,⟨es,q1,q2,⟨lm,q3,q4⟩,q5⟩,h3⟩=>by
  simp only[ah.lt,aK]
  refine ⟨?_,q3.lt hd⟩
  cases cur with
  | none=>rfl
  | some c=>
   obtain ⟨e,he,hs,hc⟩:=q5
   simp only[elt,aK]
   exact ⟨hc.1.lt hd,hc.2.lt hd⟩
end
def iw (n:Nat) (st:aa):aa:=List.replicate n .dead++st.drop n
theorem xx {n:Nat} {st:aa} (h:n≤st.length):(iw n st).length=st.length:=by simp[iw];omega
theorem yS {n o:Nat} {st:aa} (h:o<n):(iw n st)[o]?=some .dead:=by
 unfold iw
 rw[bD (by simpa using h)]
 simp[h]
theorem mG {n o:Nat} {st:aa} (h:n≤o):(iw n st)[o]?=st[o]?:=by
 unfold iw
 rw[List.getElem?_append_right (by simpa using h),vY,List.getElem?_drop]
 congr 1;omega
theorem bH.iw {m0:Md} {st:aa} {f:Option Nat} {sz k n:Nat} {cs:List LV} (h:bH m0 st f sz k cs) (hn:∀ o,f=some o→n≤o):bH m0 (iw n st) f sz k cs:=by
 refine ⟨h.1,?_⟩
 cases f with
 | none=>exact h.2
 | some o=>obtain ⟨rest,h2⟩:=h.2;exact ⟨rest,(mG (hn o rfl)).trans h2⟩
section
variable {w0 w:World} {β0 β:Lay} {st:aa} {n:Nat}
theorem Rel.iw (h:Rel w0 β st w) (hn:n≤st.length):Rel w0 β (iw n st) w:=by
 have get:∀ {i:Nat} {z:ah},(Go.CP.iw n st)[i]?=some z→z=.dead∨(n≤i∧st[i]?=some z):=by
  intro i z hz
  rcases Nat.lt_or_ge i n with k|k
  ·rw[yS k] at hz;exact .inl (Option.some.inj hz).symm
  ·rw[mG k] at hz;exact .inr ⟨k,hz⟩
 refine ⟨h.below,fun o ho=>h.dom o (by rw[xx hn] at ho;exact ho),fun o x hx=>?_,fun o o' x x' b b' hx hr hx' hl hne hb hb'=>?_,h.base,h.froz,fun o x b hx hr hb=>?_⟩
 ·rcases get hx with rfl|⟨_,hx⟩
  ·trivial
  ·exact h.obj o x hx
 ·rcases get hx with rfl|⟨_,hx⟩
  ·cases hr
  ·rcases get hx' with rfl|⟨_,hx'⟩
   ·cases hl
   ·exact h.sep o o' x x' b b' hx hr hx' hl hne hb hb'
 ·rcases get hx with rfl|⟨_,hx⟩
  ·cases hr
  ·exact h.sepf o x b hx hr hb
section
open Classical
noncomputable def Lay.cut (β:Lay) (n:Nat) (st:aa) (w:World):Lay:=⟨fun o=>if o<n then β o else none,(β.frz (Go.CP.iw n st) w).f,β.n⟩
end
end
end Go.CP
namespace Go.CP
section
variable {P:Program}
def eB (P:Program) (dk:Bool) (rs:List ResultVar) (R:LV→aa→Prop) (gl:List Nat) (cuts rc:List (Nat × List Nat)):Nat→List Item→List cV→List LV→aa→Prop
 | 0,k,ds,t,st=>LTg P (kindOf dk) rs k ds R t st
 | n+1,k,ds,t,st=>match k with
  | []=>oQ P dk rs R ds t st
  | .code .skip::k=>eB P dk rs R gl cuts rc n k ds t st
  | .code (.label _)::k=>eB P dk rs R gl cuts rc n k ds t st
  | .code (.seq a b)::k=>eB P dk rs R gl cuts rc n (.code a::.code b::k) ds t st
  | .code (.cond c a b)::k=>bd (ev t c) fun v=>aG v (eB P dk rs R gl cuts rc n (.code a::k) ds t st) (eB P dk rs R gl cuts rc n (.code b::k) ds t st)
  | .code (.block id c)::k=>eB P dk rs R gl cuts rc n (.code c::.inBlock id::k) ds t st
  | .code (.loop c)::k=>LTg P (kindOf dk) rs (.inLoop c::k) ds R (aJ gl t) st
  | .inLoop c::k=>LTg P (kindOf dk) rs (.inLoop c::k) ds R (aJ gl t) st
  | .inBlock id::k=>match cuts.lookup id with
   | some g=>LTg P (kindOf dk) rs k ds R (aJ g t) st
   | none=>eB P dk rs R gl cuts rc n k ds t st
  | .inScope _::k=>eB P dk rs R gl cuts rc n k ds t st
  | .code (.exit id)::k=>match exitTo id k with
   | some k'=>match cuts.lookup id with
    | some g=>LTg P (kindOf dk) rs k' ds R (aJ g t) st
    | none=>eB P dk rs R gl cuts rc n k' ds t st
   | none=>False
  | .code .ret::_=>oQ P dk rs R ds t st
  | .code (.region id ops draw)::k=>match draw with
   | false=>match da ops with
    | none=>match ir dk ops with
     | some o=>bM P ops (List.range' 1 (ops.size-1)) (fun t st=>eB P dk rs R gl cuts rc n k ds t st) (br t o.dst .nili) st
     | none=>bM P ops (List.range ops.size) (fun t st=>match rc.lookup id with
      | some g=>LTg P (kindOf dk) rs k ds R (aJ g t) st
      | none=>eB P dk rs R gl cuts rc n k ds t st) t st
    | some p=>bM P ops (List.range (ops.size-1)) (fun t st=>match xv P t p.2 with
     | some d=>eB P dk rs R gl cuts rc n k (d::ds) (br t p.1.dst ak) st
     | none=>False) t st
   | true=>match kZ ops (Region.before ops) with
    | true=>bV P ops (Region.before ops) (rowsOf P ops) (fun t st=>match rc.lookup id with
      | some g=>LTg P (kindOf dk) rs k ds R (aJ g t) st
      | none=>eB P dk rs R gl cuts rc n k ds t st) ops.size 0 [] t st
    | false=>False
  | _=>False
theorem fi (hm:P.follows .mixedOrders=true) {dk:Bool} {rs:List ResultVar} {R:LV→aa→Prop} {gl:List Nat} {cuts rc:List (Nat × List Nat)}:∀ (n:Nat) {k:List Item} {ds:List cV} {t:List LV} {st:aa},
  eB P dk rs R gl cuts rc n k ds t st→LTg P (kindOf dk) rs k ds R t st
 | 0,_,_,_,_,h=>h
 | n+1,k,ds,t,st,h=>by
  have go:∀ {k ds t st},eB P dk rs R gl cuts rc n k ds t st→LTg P (kindOf dk) rs k ds R t st:=fun h=>fi hm n h
  have behind:∀ {id:Nat} {k ds t st},(match rc.lookup id with
    | some g=>LTg P (kindOf dk) rs k ds R (aJ g t) st
    | none=>eB P dk rs R gl cuts rc n k ds t st)→LTg P (kindOf dk) rs k ds R t st:=by
   intro id k ds t st h
   split at h
   ·exact h.forget
   ·exact go h
  unfold eB at h
  split at h
  ·exact fw (fun b a cs w=>step_end) h
  ·exact LTg.move (fun b a cs w=>step_skip) (go h)
  ·exact LTg.move (fun b a cs w=>step_label) (go h)
  ·exact LTg.move (fun b a cs w=>step_seq) (go h)
  ·unfold bd at h
   split at h
   ·rename_i v hv
    unfold aG at h
    split at h
    ·exact LTg.cond hv (go h)
    ·exact LTg.cond hv (go h)
    ·exact h.elim
   ·exact h.elim
  ·exact LTg.move (fun b a cs w=>step_block) (go h)
  ·rename_i c k
   intro w0 β w a fn h1 h2 h3 h4 b cs hf hk hc
   obtain ⟨e,w',fr,h5,h6,h7,h8⟩:=h.forget w0 β w a fn h1 h2 h3 h4 b cs hf hk hc
   refine ⟨e,w',fr,h5,?_,h7,h8⟩
   have hs1:step P (lone (b.at a (.code (.loop c)::k)) cs w)=.next (lone (b.at a (.code c::.inLoop c::k)) cs w):=step_loop
   have hs2:step P (lone (b.at a (.inLoop c::k)) cs w)=.next (lone (b.at a (.code c::.inLoop c::k)) cs w):=step_inLoop
   cases e with
   | returned v=>
    obtain ⟨m,hm'⟩:=h6
    cases m with
    | zero=>
     simp only[runN] at hm'
     have hfr:fr=b.at a (.inLoop c::k):=by
      simp only[lone,Stepped.next.injEq,Machine.mk.injEq] at hm'
      have:=hm'.2.1
      simp only[Array.mk.injEq,List.cons.injEq,Goroutine.mk.injEq] at this
      exact this.1.1.symm
     have hl:fr.mode=.returning:=by
      cases dk
      ·exact h8.1
      ·exact h8.2.1
     rw[hfr] at hl;simp[Frame.at] at hl
    | succ m=>
     simp only[runN,hs2] at hm'
     exact ⟨m+1,by simp only[runN,hs1];exact hm'⟩
   | panicked ch=>obtain ⟨_,r,_,v,_,he,_⟩:=h5;cases he
   | outgrown=>obtain ⟨_,r,_,v,_,he,_⟩:=h5;cases he
  ·exact h.forget
  ·split at h
   ·exact LTg.move (fun b a cs w=>step_inBlock) h.forget
   ·exact LTg.move (fun b a cs w=>step_inBlock) (go h)
  ·exact LTg.move (fun b a cs w=>step_inScope) (go h)
  ·split at h
   ·rename_i k' hx
    split at h
    ·exact LTg.move (fun b a cs w=>step_exit hx) h.forget
    ·exact LTg.move (fun b a cs w=>step_exit hx) (go h)
   ·exact h.elim
  ·exact fw (fun b a cs w=>step_ret) h
  ·rename_i id ops draw k
   split at h
   ·split at h
    ·split at h
     ·rename_i o hrf
      obtain ⟨rfl,ho,hg,c,hop,hcl⟩:=fE hrf
      obtain ⟨m,hm'⟩:∃ m,ops.size=m+1:=⟨ops.size-1,by have:=(Array.getElem?_eq_some_iff.1 ho).1;omega⟩
      rw[hm',Nat.add_sub_cancel] at h
      exact LTg.rX hm' ho hg hop hcl h fun _ _ h=>go h
     ·refine LTg.code fun w0 β w a h1 h2=>?_
      exact wp_region (b9 h1 h2 rfl h fun β' t' st' a' w' k1 k2 k3 k4 k5=>⟨rfl,β',t',st',behind k1,k2,k3,k4,k5⟩)
    ·rename_i p hd
     obtain ⟨o,c⟩:=p
     refine LTg.xu fun w0 β w a h1 h2=>?_
     refine wp_region ?_
     obtain ⟨m,hm'⟩:∃ m,ops.size=m+1:=by
      refine ⟨ops.size-1,?_⟩
      unfold da at hd
      split at hd
      ·rename_i o' ho'
       have:=(Array.getElem?_eq_some_iff.1 ho').1
       omega
      ·cases hd
     have ho:ops[m]?=some o∧o.op=.defer c∧o.guard=none:=by
      unfold da at hd
      rw[hm',Nat.add_sub_cancel] at hd
      split at hd
      ·rename_i o' ho'
       split at hd
       ·rename_i c' e1 e2
        cases hd
        exact ⟨ho',e1,e2⟩
       ·cases hd
      ·cases hd
     rw[hm',Nat.add_sub_cancel] at h
     rw[hm',List.range_succ]
     refine dx h1 h2 rfl h fun β' t' st'' a' w' k1 k2 k3 k4 k5=>?_
     split at k1
     ·rename_i d hl
      obtain ⟨dv,e1,e2⟩:=jC (w:=w') ho.2.1 hl k3
      simp only[wpOps,ho.1]
      have hw:Region.wanted o (yielded ops a'.tmps)=true:=by simp[Region.wanted,ho.2.2]
      rw[if_pos hw]
      refine .inl ?_
      unfold Oper.wp
      rw[e1]
      refine ⟨trivial,β',_,_,d,dv,go k1,k2,?_,?_,e2,k5⟩
      ·exact cZ (a:={ a' with defers:=dv::a'.defers }) k3 Rp.undef
      ·rw[put_defers'];show dv::a'.defers=dv::a.defers;rw[k4]
     ·exact k1.elim
   ·split at h
    ·rename_i hok
     refine LTg.code fun w0 β w a h1 h2=>?_
     refine wp_region_any hm (jT (ui hok) _ (T0:=t) (T:=t) (TD:=t) (D:=Array.replicate _ false) (m:=0) (pend:=[]) (β:=β) ?_ h (h1.tT (Nat.le_succ _)) h2 rfl ?_ ?_)
     ·have hn:∀ (N i:Nat),¬ In (Array.replicate N false) i:=by
       intro N i hi
       unfold In at hi
       simp[Array.getElem?_replicate] at hi
       split at hi<;>simp at hi
      have he:∀ N,aZ N 0=Array.replicate N false:=fun N=>by apply Array.ext<;>simp[aZ]
      rw[he]
      exact ⟨⟨by simp,fun i o hi=>absurd hi (hn _ i)⟩,⟨by simp,fun i o hi=>absurd hi (hn _ i)⟩,fun i hi=>hi,⟨rfl,fun i o d hi=>absurd hi (hn _ i),fun _ _=>rfl⟩,⟨rfl,fun i o d hi=>absurd hi (hn _ i),fun _ _=>rfl⟩,
       fun i o hi=>absurd hi (hn _ i),fun j o hj=>absurd hj (hn _ j)⟩
     ·unfold todo
      exact Nat.le_trans (List.length_filter_le _ _) (by simp)
     ·intro β' t' st' a' w' k1 k2 k3 k4 k5
      exact ⟨rfl,β',t',st',behind k1,k2,k3,k4,k5⟩
    ·exact h.elim
  ·exact h.elim
theorem LTg.AU (hm:P.follows .mixedOrders=true) {dk:Bool} {rs:List ResultVar} {R:LV→aa→Prop} {gl:List Nat} {cuts rc:List (Nat × List Nat)} (n:Nat) {c:Code} {k:List Item} {ds:List cV} {t:List LV} {st:aa} (h:eB P dk rs R gl cuts rc n (.code c::.inLoop c::k) ds t st) :
  LTg P (kindOf dk) rs (.inLoop c::k) ds R t st:=LTg.move (fun b a cs w=>step_inLoop) (fi hm n h)
theorem LTg.atC (hm:P.follows .mixedOrders=true) {dk:Bool} {rs:List ResultVar} {R:LV→aa→Prop} {gl:List Nat} {cuts rc:List (Nat × List Nat)} (n:Nat) {k:List Item} {ds:List cV} {t:List LV} {st:aa}
  (h:eB P dk rs R gl cuts rc n (cF k) ds t st):LTg P (kindOf dk) rs k ds R t st:=by
 unfold cF at h
 split at h
 ·exact LTg.AU hm n h
 ·exact fi hm n h
theorem ag.ofC {f:FuncId} {fn:Func} {c:Code} {xs:List LV} {st:aa} {rs:List ResultVar} {R:LV→aa→Prop} {gl:List Nat} {cuts rc:List (Nat × List Nat)} {n:Nat} (hm:P.follows .mixedOrders=true)
  (hf:P.funcs[f]?=some fn) (hb:fn.body=some c) (hn:(fn.name == "runtime.NumGoroutine")=false) (hrs:fn.results.toList=rs)
  (h:eB P false rs R gl cuts rc n [.code c] [] (xs++List.replicate (fn.ntmps-xs.length) ak) st):ag P f xs st R:=ag.ofG hf hb hn hrs (fi hm n h)
theorem cQ.ofC {f:FuncId} {fn:Func} {c:Code} {xs:List LV} {st:aa} {rs:List ResultVar} {K:aa→Prop} {gl:List Nat} {cuts rc:List (Nat × List Nat)} {n:Nat} (hm:P.follows .mixedOrders=true)
  (hf:P.funcs[f]?=some fn) (hb:fn.body=some c) (hrs:fn.results.toList=rs)
  (h:eB P true rs (fun _ st'=>K st') gl cuts rc n [.code c] [] (xs++List.replicate (fn.ntmps-xs.length) ak) st):cQ P f xs st K:=cQ.ofG hf hb hrs (fi hm n h)
theorem LTg.atE (hm:P.follows .mixedOrders=true) {dk:Bool} {rs:List ResultVar} {R:LV→aa→Prop} {gl:List Nat} {cuts rc:List (Nat × List Nat)} {n:Nat} {k:List Item} {ds:List cV} {t:List LV} {st:aa} {W:Prop}
  (e:eB P dk rs R gl cuts rc n (cF k) ds t st=W) (h:W):LTg P (kindOf dk) rs k ds R t st:=LTg.atC hm n (e.mpr h)
theorem ag.ofE {f:FuncId} {fn:Func} {c:Code} {xs:List LV} {st:aa} {rs:List ResultVar} {R:LV→aa→Prop} {gl:List Nat} {cuts rc:List (Nat × List Nat)} {n:Nat} {W:Prop} (hm:P.follows .mixedOrders=true)
  (hf:P.funcs[f]?=some fn) (hb:fn.body=some c) (hn:(fn.name == "runtime.NumGoroutine")=false) (hrs:fn.results.toList=rs)
  (e:eB P false rs R gl cuts rc n [.code c] [] (xs++List.replicate (fn.ntmps-xs.length) ak) st=W) (h:W):ag P f xs st R:=ag.ofC hm hf hb hn hrs (e.mpr h)
theorem cQ.ofE {f:FuncId} {fn:Func} {c:Code} {xs:List LV} {st:aa} {rs:List ResultVar} {K:aa→Prop} {gl:List Nat} {cuts rc:List (Nat × List Nat)} {n:Nat} {W:Prop} (hm:P.follows .mixedOrders=true)
  (hf:P.funcs[f]?=some fn) (hb:fn.body=some c) (hrs:fn.results.toList=rs)
  (e:eB P true rs (fun _ st'=>K st') gl cuts rc n [.code c] [] (xs++List.replicate (fn.ntmps-xs.length) ak) st=W) (h:W):cQ P f xs st K:=cQ.ofC hm hf hb hrs (e.mpr h)
end
def jD:Code→List Item→List (List Item)
 | .region _ _ _,k=>[k]
 | .seq a b,k=>jD a (.code b::k)++jD b k
 | .cond _ a b,k=>jD a k++jD b k
 | .block id c,k=>k::jD c (.inBlock id::k)
 | .loop c,k=>(.inLoop c::k)::jD c (.inLoop c::k)
 | _,_=>[]
def cw (fn:Func) (n:Nat):List Item:=match fn.body with
 | some c=>(jD c []).getD n []
 | none=>[]
end Go.CP
