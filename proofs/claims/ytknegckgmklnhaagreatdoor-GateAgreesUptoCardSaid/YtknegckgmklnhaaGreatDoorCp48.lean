/- Parts of the proof. -/
import Derived.Test.YtknegckgmklnhaaGreatDoorCp37
import Derived.Test.YtknegckgmklnhaaGreatDoorVaW
namespace Go.CP
section
variable {P:Program}
def mc (P:Program) (dk:Bool) (rs:List ResultVar) (R:LV→aa→Prop) (ds:List cm) (t:List LV) (st:aa):Prop:=match dk with
 | true=>match ds with
  | []=>fX P rs R t st
  | _=>False
 | false=>fE P ds st fun st'=>fX P rs R t st'
def ew (P:Program) (dk:Bool) (rs:List ResultVar) (R:LV→aa→Prop) (g cuts:List Nat):Nat→List Item→List cm→List LV→aa→Prop
 | 0,k,ds,t,st=>LTg P (kindOf dk) rs k ds R t st
 | n+1,k,ds,t,st=>match k with
  | []=>mc P dk rs R ds t st
  | .code .skip::k=>ew P dk rs R g cuts n k ds t st
  | .code (.label _)::k=>ew P dk rs R g cuts n k ds t st
  | .code (.seq a b)::k=>ew P dk rs R g cuts n (.code a::.code b::k) ds t st
  | .code (.cond c a b)::k=>bd (ev t c) fun v=>aL v (ew P dk rs R g cuts n (.code a::k) ds t st) (ew P dk rs R g cuts n (.code b::k) ds t st)
  | .code (.block id c)::k=>ew P dk rs R g cuts n (.code c::.inBlock id::k) ds t st
  | .code (.loop c)::k=>LTg P (kindOf dk) rs (.inLoop c::k) ds R (aJ g t) st
  | .inLoop c::k=>LTg P (kindOf dk) rs (.inLoop c::k) ds R (aJ g t) st
  | .inBlock id::k=>match cuts.contains id with
   | true=>LTg P (kindOf dk) rs k ds R (aJ g t) st
   | false=>ew P dk rs R g cuts n k ds t st
  | .inScope _::k=>ew P dk rs R g cuts n k ds t st
  | .code (.exit id)::k=>match exitTo id k with
   | some k'=>match cuts.contains id with
    | true=>LTg P (kindOf dk) rs k' ds R (aJ g t) st
    | false=>ew P dk rs R g cuts n k' ds t st
   | none=>False
  | .code .ret::_=>mc P dk rs R ds t st
  | .code (.region _ ops draw)::k=>match draw with
   | false=>match cw ops with
    | none=>match gz dk ops with
     | some o=>bw P ops (List.range' 1 (ops.size-1)) (fun t st=>ew P dk rs R g cuts n k ds t st) (aW t o.dst .nili) st
     | none=>bw P ops (List.range ops.size) (fun t st=>ew P dk rs R g cuts n k ds t st) t st
    | some p=>bw P ops (List.range (ops.size-1)) (fun t st=>match vW P t p.2 with
     | some d=>ew P dk rs R g cuts n k (d::ds) (aW t p.1.dst af) st
     | none=>False) t st
   | true=>match iu ops (Region.before ops) with
    | true=>bT P ops (Region.before ops) (rowsOf P ops) (fun t st=>ew P dk rs R g cuts n k ds t st) ops.size 0 [] t st
    | false=>False
  | _=>False
theorem LTg.forget {κ:CallKind} {rs:List ResultVar} {R:LV→aa→Prop} {k:List Item} {ds:List cm} {g:List Nat} {t:List LV} {st:aa} (h:LTg P κ rs k ds R (aJ g t) st):LTg P κ rs k ds R t st:=
 fun w0 β w a fn h1 h2=>h w0 β w a fn h1 (kb h2)
theorem dP {dk:Bool} {rs:List ResultVar} {R:LV→aa→Prop} {k:List Item} {ds:List cm} {t:List LV} {st:aa}
  (hs:∀ (b:Frame) (a:Act) (cs:List Frame) (w:World),step P (lone (b.at a k) cs w)=.next (lone { b.at a k with mode:=.returning } cs w)) (h:mc P dk rs R ds t st):LTg P (kindOf dk) rs k ds R t st:=by
 unfold mc at h
 split at h
 ·split at h
  ·exact LTg.uJ hs h
  ·exact h.elim
 ·exact LTg.finish hs h
theorem LTg.r0 {rs:List ResultVar} {R:LV→aa→Prop} {id:Nat} {ops:Array Oper} {o:Oper} {cl:Call} {m:Nat} {k:List Item} {ds:List cm} {t:List LV} {st:aa} {K:List LV→aa→Prop} (hm:ops.size=m+1) (ho:ops[0]?=some o) (hg:o.guard=none) (hop:o.op=.call cl)
  (hcl:cl.callee=.builtin .recover) (h:bw P ops (List.range' 1 m) K (aW t o.dst .nili) st) (hK:∀ t st,K t st→LTg P .deferred rs k ds R t st):LTg P .deferred rs (.code (.region id ops false)::k) ds R t st:=by
 intro w0 β w a fn h1 h2 h3 h4 b cs hf hk hc
 obtain ⟨c,cs',rfl,hcm⟩:=hc
 have s1:=step_region (P:=P) (b:=b) (a:=a) (k:=k) (cs:=c::cs') (w:=w) (id:=id) (ops:=ops)
 rw[hm,List.range_eq_range',List.range'_succ] at s1
 have s2:=kq (P:=P) (b:=b) (a:=a) (k:=k) (cs:=cs') (w:=w) (rest:=List.range' (0+1) m) hk hcm ho hg hop hcl
 have hput:Rps β (aW t o.dst .nili) (a.put o.dst .nilIface).tmps.toList:=bZ h2 rfl
 have hops:=bN (dl:=a.defers) (Q:=fun e a' w'=>e=.normal∧∃ β' t' st',LTg P .deferred rs k ds R t' st'∧Rel w0 β' st' w'∧Rps β' t' a'.tmps.toList∧a'.defers=a.defers∧β.le β') h1 hput (put_defers' ..) h
  fun β' t' st' a' w' k1 k2 k3 k4 k5=>⟨rfl,β',t',st',hK _ _ k1,k2,k3,k4,k5⟩
 obtain ⟨e,a',w',⟨he,β',t',st',k1,k2,k3,k4,k5⟩,harr⟩:=wp_ops _ _ _ hops b k (c::cs')
 subst he
 obtain ⟨e,w'',fr,h5,h6,h7,h8⟩:=k1 w0 β' w' a' fn k2 k3 (by rw[k4];exact h3.mono k5) h4 b (c::cs') hf hk ⟨c,cs',rfl,hcm⟩
 exact ⟨e,w'',fr,h5.le k5,.of_steps (.head s1 (.head s2 harr)) h6,h7,h8⟩
theorem iE (hm:P.follows .mixedOrders=true) {dk:Bool} {rs:List ResultVar} {R:LV→aa→Prop} {g cuts:List Nat}:∀ (n:Nat) {k:List Item} {ds:List cm} {t:List LV} {st:aa},
  ew P dk rs R g cuts n k ds t st→LTg P (kindOf dk) rs k ds R t st
 | 0,_,_,_,_,h=>h
 | n+1,k,ds,t,st,h=>by
  have go:∀ {k ds t st},ew P dk rs R g cuts n k ds t st→LTg P (kindOf dk) rs k ds R t st:=fun h=>iE hm n h
  unfold ew at h
  split at h
  ·exact dP (fun b a cs w=>step_end) h
  ·exact LTg.move (fun b a cs w=>step_skip) (go h)
  ·exact LTg.move (fun b a cs w=>step_label) (go h)
  ·exact LTg.move (fun b a cs w=>step_seq) (go h)
  ·unfold bd at h
   split at h
   ·rename_i v hv
    unfold aL at h
    split at h
    ·exact LTg.cond hv (go h)
    ·exact LTg.cond hv (go h)
    ·exact h.elim
   ·exact h.elim
  ·exact LTg.move (fun b a cs w=>step_block) (go h)
  ·rename_i c k
   intro w0 β w a fn h1 h2 h3 h4 b cs hf hk hc
   obtain ⟨e,w',fr,h5,h6,h7,h8⟩:=h.forget w0 β w a fn h1 h2 h3 h4 b cs hf hk hc
   refine ⟨e,w',fr,h5,?_,h7,h8⟩
   have hs1:step P (lone (b.at a (.code (.loop c)::k)) cs w)=.next (lone (b.at a (.code c::.inLoop c::k)) cs w):=step_loop
   have hs2:step P (lone (b.at a (.inLoop c::k)) cs w)=.next (lone (b.at a (.code c::.inLoop c::k)) cs w):=step_inLoop
   cases e with
   | returned v=>
    obtain ⟨m,hm'⟩:=h6
    cases m with
    | zero=>
     simp only[runN] at hm'
     have hfr:fr=b.at a (.inLoop c::k):=by
      simp only[lone,Stepped.next.injEq,Machine.mk.injEq] at hm'
      have:=hm'.2.1
      simp only[Array.mk.injEq,List.cons.injEq,Goroutine.mk.injEq] at this
      exact this.1.1.symm
     have hl:fr.mode=.returning:=by
      cases dk
      ·exact h8.1
      ·exact h8.2.1
     rw[hfr] at hl;simp[Frame.at] at hl
    | succ m=>
     simp only[runN,hs2] at hm'
     exact ⟨m+1,by simp only[runN,hs1];exact hm'⟩
   | panicked ch=>obtain ⟨_,r,_,v,_,he,_⟩:=h5;cases he
   | outgrown=>obtain ⟨_,r,_,v,_,he,_⟩:=h5;cases he
  ·exact h.forget
  ·split at h
   ·exact LTg.move (fun b a cs w=>step_inBlock) h.forget
   ·exact LTg.move (fun b a cs w=>step_inBlock) (go h)
  ·exact LTg.move (fun b a cs w=>step_inScope) (go h)
  ·split at h
   ·rename_i k' hx
    split at h
    ·exact LTg.move (fun b a cs w=>step_exit hx) h.forget
    ·exact LTg.move (fun b a cs w=>step_exit hx) (go h)
   ·exact h.elim
  ·exact dP (fun b a cs w=>step_ret) h
  ·rename_i id ops draw k
   split at h
   ·split at h
    ·split at h
     ·rename_i o hrf
      obtain ⟨rfl,ho,hg,c,hop,hcl⟩:=eK hrf
      obtain ⟨m,hm'⟩:∃ m,ops.size=m+1:=⟨ops.size-1,by have:=(Array.getElem?_eq_some_iff.1 ho).1;omega⟩
      rw[hm',Nat.add_sub_cancel] at h
      exact LTg.r0 hm' ho hg hop hcl h fun _ _ h=>go h
     ·refine LTg.code fun w0 β w a h1 h2=>?_
      exact wp_region (bN h1 h2 rfl h fun β' t' st' a' w' k1 k2 k3 k4 k5=>⟨rfl,β',t',st',go k1,k2,k3,k4,k5⟩)
    ·rename_i p hd
     obtain ⟨o,c⟩:=p
     refine LTg.rY fun w0 β w a h1 h2=>?_
     refine wp_region ?_
     obtain ⟨m,hm'⟩:∃ m,ops.size=m+1:=by
      refine ⟨ops.size-1,?_⟩
      unfold cw at hd
      split at hd
      ·rename_i o' ho'
       have:=(Array.getElem?_eq_some_iff.1 ho').1
       omega
      ·cases hd
     have ho:ops[m]?=some o∧o.op=.defer c∧o.guard=none:=by
      unfold cw at hd
      rw[hm',Nat.add_sub_cancel] at hd
      split at hd
      ·rename_i o' ho'
       split at hd
       ·rename_i c' e1 e2
        cases hd
        exact ⟨ho',e1,e2⟩
       ·cases hd
      ·cases hd
     rw[hm',Nat.add_sub_cancel] at h
     rw[hm',List.range_succ]
     refine dc h1 h2 rfl h fun β' t' st'' a' w' k1 k2 k3 k4 k5=>?_
     split at k1
     ·rename_i d hl
      obtain ⟨dv,e1,e2⟩:=gQ (w:=w') ho.2.1 hl k3
      simp only[wpOps,ho.1]
      have hw:Region.wanted o (yielded ops a'.tmps)=true:=by simp[Region.wanted,ho.2.2]
      rw[if_pos hw]
      refine .inl ?_
      unfold Oper.wp
      rw[e1]
      refine ⟨trivial,β',_,_,d,dv,go k1,k2,?_,?_,e2,k5⟩
      ·exact bZ (a:={ a' with defers:=dv::a'.defers }) k3 Rp.undef
      ·rw[put_defers'];show dv::a'.defers=dv::a.defers;rw[k4]
     ·exact k1.elim
   ·split at h
    ·rename_i hok
     refine LTg.code fun w0 β w a h1 h2=>?_
     refine wp_region_any hm (ka (rq hok) _ (T0:=t) (T:=t) (TD:=t) (D:=Array.replicate _ false) (m:=0) (pend:=[]) (β:=β) ?_ h (h1.qI (Nat.le_succ _)) h2 rfl ?_ ?_)
     ·have hn:∀ (N i:Nat),¬ In (Array.replicate N false) i:=by
       intro N i hi
       unfold In at hi
       simp[Array.getElem?_replicate] at hi
       split at hi<;>simp at hi
      have he:∀ N,aG N 0=Array.replicate N false:=fun N=>by apply Array.ext<;>simp[aG]
      rw[he]
      exact ⟨⟨by simp,fun i o hi=>absurd hi (hn _ i)⟩,⟨by simp,fun i o hi=>absurd hi (hn _ i)⟩,fun i hi=>hi,⟨rfl,fun i o d hi=>absurd hi (hn _ i),fun _ _=>rfl⟩,⟨rfl,fun i o d hi=>absurd hi (hn _ i),fun _ _=>rfl⟩,
       fun i o hi=>absurd hi (hn _ i),fun j o hj=>absurd hj (hn _ j)⟩
     ·unfold todo
      exact Nat.le_trans (List.length_filter_le _ _) (by simp)
     ·intro β' t' st' a' w' k1 k2 k3 k4 k5
      exact ⟨rfl,β',t',st',go k1,k2,k3,k4,k5⟩
    ·exact h.elim
  ·exact h.elim
theorem LTg.round (hm:P.follows .mixedOrders=true) {dk:Bool} {rs:List ResultVar} {R:LV→aa→Prop} {g cuts:List Nat} (n:Nat) {c:Code} {k:List Item} {ds:List cm} {t:List LV} {st:aa} (h:ew P dk rs R g cuts n (.code c::.inLoop c::k) ds t st) :
  LTg P (kindOf dk) rs (.inLoop c::k) ds R t st:=LTg.move (fun _b _a _cs _w=>step_inLoop) (iE hm n h)
theorem LTg.at (hm:P.follows .mixedOrders=true) {dk:Bool} {rs:List ResultVar} {R:LV→aa→Prop} {g cuts:List Nat} (n:Nat) {k:List Item} {ds:List cm} {t:List LV} {st:aa}
  (h:ew P dk rs R g cuts n (bB k) ds t st):LTg P (kindOf dk) rs k ds R t st:=by
 unfold bB at h
 split at h
 ·exact LTg.round hm n h
 ·exact iE hm n h
end
end Go.CP
namespace Go.CP
mutual
def LV.lt (n:Nat):LV→Bool
 | .ptr o _=>decide (o<n)
 | .sl o _ _ _=>decide (o<n)
 | .map o=>decide (o<n)
 | .iface _ v=>LV.lt n v
 | .agg cs=>LV.lts n cs
 | .tup cs=>LV.lts n cs
 | .fn _ a b=>LV.lts n a&&LV.lts n b
 | .isl cs _ _=>LV.lts n cs
 | .iptr cs _=>LV.lts n cs
 | .imap a b=>LV.lts n a&&LV.lts n b
 | _=>true
def LV.lts (n:Nat):List LV→Bool
 | []=>true
 | a::l=>LV.lt n a&&LV.lts n l
end
theorem LV.xl {n:Nat}:∀ {l:List LV},(∀ x ∈ l,x.lt n=true)→LV.lts n l=true
 | [],_=>rfl
 | a::l,h=>by simp only[LV.lts,h a (by simp),LV.xl (l:=l) fun x hx=>h x (by simp[hx]),Bool.true_and]
section
variable {n:Nat} {β β':Lay}
mutual
theorem Rp.lt (hd:∀ o,n≤o→β o=none):∀ {v:LV} {u:Value},Rp β v u→v.lt n=true
 | .bool _,_,_=>rfl
 | .int ..,_,_=>rfl
 | .flt ..,_,_=>rfl
 | .cplx ..,_,_=>rfl
 | .str _,_,_=>rfl
 | .nilp,_,_=>rfl
 | .ptr o k,_,⟨b,e,_⟩=>by
  simp only[LV.lt,decide_eq_true_eq]
  rcases Nat.lt_or_ge o n with h|h
  ·exact h
  ·rw[hd o h] at e;cases e
 | .nils,_,_=>rfl
 | .sl o k l c,_,⟨b,e,_⟩=>by
  simp only[LV.lt,decide_eq_true_eq]
  rcases Nat.lt_or_ge o n with h|h
  ·exact h
  ·rw[hd o h] at e;cases e
 | .nilm,_,_=>rfl
 | .map o,_,⟨b,e,_⟩=>by
  simp only[LV.lt,decide_eq_true_eq]
  rcases Nat.lt_or_ge o n with h|h
  ·exact h
  ·rw[hd o h] at e;cases e
 | .nilf,_,_=>rfl
 | .fn _ a b,_,⟨vs,us,e,r,s⟩=>by
  simp only[LV.lt,aF]
  exact ⟨Rps.lt hd r,Rps.lt hd s⟩
 | .nili,_,_=>rfl
 | .iface _ v,_,⟨u,e,r⟩=>by simp only[LV.lt];exact Rp.lt hd r
 | .agg cs,_,⟨vs,e,r⟩=>by simp only[LV.lt];exact Rps.lt hd r
 | .tup cs,_,⟨vs,e,r⟩=>by simp only[LV.lt];exact Rps.lt hd r
 | .dY _ _,_,_=>rfl
 | .emp,_,_=>rfl
 | .txt,_,_=>rfl
 | .aJ,_,_=>rfl
 | .isl cs _ _,_,⟨us,r,_⟩=>by simp only[LV.lt];exact Rps.lt hd r
 | .iptr cs _,_,⟨us,b,base,r,_⟩=>by simp only[LV.lt];exact Rps.lt hd r
 | .imap a c,_,⟨b,us,ws,e,r,s,fz⟩=>by
  simp only[LV.lt,aF]
  exact ⟨Rps.lt hd r,Rps.lt hd s⟩
theorem Rps.lt (hd:∀ o,n≤o→β o=none):∀ {v:List LV} {u:List Value},Rps β v u→LV.lts n v=true
 | [],_,_=>rfl
 | _::_,_,⟨v,us,e,r,s⟩=>by
  simp only[LV.lts,aF]
  exact ⟨Rp.lt hd r,Rps.lt hd s⟩
end
def elt (n:Nat) (e:LV × LV):Bool:=e.1.lt n&&e.2.lt n
def al.lt (n:Nat):al→Bool
 | .cells _ l=>LV.lts n l
 | .map _ es _ _=>es.all (elt n)
 | .iter om _ _ _=>match om with
  | some o=>decide (o<n)
  | none=>true
 | .fiter cur rest=>(match cur with
  | some c=>elt n c
  | none=>true)&&rest.all (elt n)
 | .dead=>true
theorem Entries.lt (hd:∀ o,n≤o→β o=none):∀ {l:List (LV × LV)} {v:List MapEntry},Entries β l v→l.all (elt n)=true
 | [],_,_=>rfl
 | _::_,_,⟨v,us,e,r,s⟩=>by
  simp only[List.all_cons,elt,aF]
  exact ⟨⟨r.1.lt hd,r.2.lt hd⟩,Entries.lt hd s⟩
theorem OR.lt {N o:Nat} {w:World} (hd:∀ o,n≤o→β o=none):∀ {x:al},OR N β w o x→x.lt n=true
 | .dead,_=>rfl
 | .cells _ l,⟨b,e,c,t,fz,h1,h2,h3,h4,h5⟩=>by
  refine LV.xl fun x hx=>?_
  obtain ⟨i,hi⟩:=List.mem_iff_getElem?.1 hx
  obtain ⟨u,_,r⟩:=h4 i x hi
  exact r.lt hd
 | .map _ _ _ _,⟨b,e,c,h1,h2,h3⟩=>h2.lt hd
 | .iter om _ _ _,⟨b,e,c,h1,h2,h3⟩=>by
  cases om with
  | none=>rfl
  | some p=>
   obtain ⟨b',e1,e2⟩:=h2
   simp only[al.lt,decide_eq_true_eq]
   rcases Nat.lt_or_ge p n with h|h
   ·exact h
   ·rw[hd p h] at e1;cases e1
 | .fiter cur rest,⟨b,e,c,s,k,h1,⟨es,q1,q2,⟨lm,q3,q4⟩,q5⟩,h3⟩=>by
  simp only[al.lt,aF]
  refine ⟨?_,q3.lt hd⟩
  cases cur with
  | none=>rfl
  | some c=>
   obtain ⟨e,he,hs,hc⟩:=q5
   simp only[elt,aF]
   exact ⟨hc.1.lt hd,hc.2.lt hd⟩
end
def iG (n:Nat) (st:aa):aa:=List.replicate n .dead++st.drop n
theorem xm {n:Nat} {st:aa} (h:n≤st.length):(iG n st).length=st.length:=by simp[iG];omega
theorem yT {n o:Nat} {st:aa} (h:o<n):(iG n st)[o]?=some .dead:=by
 unfold iG
 rw[bH (by simpa using h)]
 simp[h]
theorem mA {n o:Nat} {st:aa} (h:n≤o):(iG n st)[o]?=st[o]?:=by
 unfold iG
 rw[List.getElem?_append_right (by simpa using h),wx,List.getElem?_drop]
 congr 1;omega
theorem bS.iG {m0:Md} {st:aa} {f:Option Nat} {sz k n:Nat} {cs:List LV} (h:bS m0 st f sz k cs) (hn:∀ o,f=some o→n≤o):bS m0 (iG n st) f sz k cs:=by
 refine ⟨h.1,?_⟩
 cases f with
 | none=>exact h.2
 | some o=>obtain ⟨rest,h2⟩:=h.2;exact ⟨rest,(mA (hn o rfl)).trans h2⟩
section
variable {w0 w:World} {β0 β:Lay} {st:aa} {n:Nat}
theorem Rel.iG (h:Rel w0 β st w) (hn:n≤st.length):Rel w0 β (iG n st) w:=by
 have get:∀ {i:Nat} {z:al},(Go.CP.iG n st)[i]?=some z→z=.dead∨(n≤i∧st[i]?=some z):=by
  intro i z hz
  rcases Nat.lt_or_ge i n with k|k
  ·rw[yT k] at hz;exact .inl (Option.some.inj hz).symm
  ·rw[mA k] at hz;exact .inr ⟨k,hz⟩
 refine ⟨h.below,fun o ho=>h.dom o (by rw[xm hn] at ho;exact ho),fun o x hx=>?_,fun o o' x x' b b' hx hr hx' hl hne hb hb'=>?_,h.base,h.froz,fun o x b hx hr hb=>?_⟩
 ·rcases get hx with rfl|⟨_,hx⟩
  ·trivial
  ·exact h.obj o x hx
 ·rcases get hx with rfl|⟨_,hx⟩
  ·cases hr
  ·rcases get hx' with rfl|⟨_,hx'⟩
   ·cases hl
   ·exact h.sep o o' x x' b b' hx hr hx' hl hne hb hb'
 ·rcases get hx with rfl|⟨_,hx⟩
  ·cases hr
  ·exact h.sepf o x b hx hr hb
section
open Classical
noncomputable def Lay.cut (β:Lay) (n:Nat) (st:aa) (w:World):Lay:=⟨fun o=>if o<n then β o else none,(β.frz (Go.CP.iG n st) w).f,β.n⟩
end
end
end Go.CP
namespace Go.CP
section
variable {P:Program}
def eX (P:Program) (dk:Bool) (rs:List ResultVar) (R:LV→aa→Prop) (gl:List Nat) (cuts rc:List (Nat × List Nat)):Nat→List Item→List cm→List LV→aa→Prop
 | 0,k,ds,t,st=>LTg P (kindOf dk) rs k ds R t st
 | n+1,k,ds,t,st=>match k with
  | []=>mc P dk rs R ds t st
  | .code .skip::k=>eX P dk rs R gl cuts rc n k ds t st
  | .code (.label _)::k=>eX P dk rs R gl cuts rc n k ds t st
  | .code (.seq a b)::k=>eX P dk rs R gl cuts rc n (.code a::.code b::k) ds t st
  | .code (.cond c a b)::k=>bd (ev t c) fun v=>aL v (eX P dk rs R gl cuts rc n (.code a::k) ds t st) (eX P dk rs R gl cuts rc n (.code b::k) ds t st)
  | .code (.block id c)::k=>eX P dk rs R gl cuts rc n (.code c::.inBlock id::k) ds t st
  | .code (.loop c)::k=>LTg P (kindOf dk) rs (.inLoop c::k) ds R (aJ gl t) st
  | .inLoop c::k=>LTg P (kindOf dk) rs (.inLoop c::k) ds R (aJ gl t) st
  | .inBlock id::k=>match cuts.lookup id with
   | some g=>LTg P (kindOf dk) rs k ds R (aJ g t) st
   | none=>eX P dk rs R gl cuts rc n k ds t st
  | .inScope _::k=>eX P dk rs R gl cuts rc n k ds t st
  | .code (.exit id)::k=>match exitTo id k with
   | some k'=>match cuts.lookup id with
    | some g=>LTg P (kindOf dk) rs k' ds R (aJ g t) st
    | none=>eX P dk rs R gl cuts rc n k' ds t st
   | none=>False
  | .code .ret::_=>mc P dk rs R ds t st
  | .code (.region id ops draw)::k=>match draw with
   | false=>match cw ops with
    | none=>match gz dk ops with
     | some o=>bw P ops (List.range' 1 (ops.size-1)) (fun t st=>eX P dk rs R gl cuts rc n k ds t st) (aW t o.dst .nili) st
     | none=>bw P ops (List.range ops.size) (fun t st=>match rc.lookup id with
      | some g=>LTg P (kindOf dk) rs k ds R (aJ g t) st
      | none=>eX P dk rs R gl cuts rc n k ds t st) t st
    | some p=>bw P ops (List.range (ops.size-1)) (fun t st=>match vW P t p.2 with
     | some d=>eX P dk rs R gl cuts rc n k (d::ds) (aW t p.1.dst af) st
     | none=>False) t st
   | true=>match iu ops (Region.before ops) with
    | true=>bT P ops (Region.before ops) (rowsOf P ops) (fun t st=>match rc.lookup id with
      | some g=>LTg P (kindOf dk) rs k ds R (aJ g t) st
      | none=>eX P dk rs R gl cuts rc n k ds t st) ops.size 0 [] t st
    | false=>False
  | _=>False
theorem fF (hm:P.follows .mixedOrders=true) {dk:Bool} {rs:List ResultVar} {R:LV→aa→Prop} {gl:List Nat} {cuts rc:List (Nat × List Nat)}:∀ (n:Nat) {k:List Item} {ds:List cm} {t:List LV} {st:aa},
  eX P dk rs R gl cuts rc n k ds t st→LTg P (kindOf dk) rs k ds R t st
 | 0,_,_,_,_,h=>h
 | n+1,k,ds,t,st,h=>by
  have go:∀ {k ds t st},eX P dk rs R gl cuts rc n k ds t st→LTg P (kindOf dk) rs k ds R t st:=fun h=>fF hm n h
  have behind:∀ {id:Nat} {k ds t st},(match rc.lookup id with
    | some g=>LTg P (kindOf dk) rs k ds R (aJ g t) st
    | none=>eX P dk rs R gl cuts rc n k ds t st)→LTg P (kindOf dk) rs k ds R t st:=by
   intro id k ds t st h
   split at h
   ·exact h.forget
   ·exact go h
  unfold eX at h
  split at h
  ·exact dP (fun b a cs w=>step_end) h
  ·exact LTg.move (fun b a cs w=>step_skip) (go h)
  ·exact LTg.move (fun b a cs w=>step_label) (go h)
  ·exact LTg.move (fun b a cs w=>step_seq) (go h)
  ·unfold bd at h
   split at h
   ·rename_i v hv
    unfold aL at h
    split at h
    ·exact LTg.cond hv (go h)
    ·exact LTg.cond hv (go h)
    ·exact h.elim
   ·exact h.elim
  ·exact LTg.move (fun b a cs w=>step_block) (go h)
  ·rename_i c k
   intro w0 β w a fn h1 h2 h3 h4 b cs hf hk hc
   obtain ⟨e,w',fr,h5,h6,h7,h8⟩:=h.forget w0 β w a fn h1 h2 h3 h4 b cs hf hk hc
   refine ⟨e,w',fr,h5,?_,h7,h8⟩
   have hs1:step P (lone (b.at a (.code (.loop c)::k)) cs w)=.next (lone (b.at a (.code c::.inLoop c::k)) cs w):=step_loop
   have hs2:step P (lone (b.at a (.inLoop c::k)) cs w)=.next (lone (b.at a (.code c::.inLoop c::k)) cs w):=step_inLoop
   cases e with
   | returned v=>
    obtain ⟨m,hm'⟩:=h6
    cases m with
    | zero=>
     simp only[runN] at hm'
     have hfr:fr=b.at a (.inLoop c::k):=by
      simp only[lone,Stepped.next.injEq,Machine.mk.injEq] at hm'
      have:=hm'.2.1
      simp only[Array.mk.injEq,List.cons.injEq,Goroutine.mk.injEq] at this
      exact this.1.1.symm
     have hl:fr.mode=.returning:=by
      cases dk
      ·exact h8.1
      ·exact h8.2.1
     rw[hfr] at hl;simp[Frame.at] at hl
    | succ m=>
     simp only[runN,hs2] at hm'
     exact ⟨m+1,by simp only[runN,hs1];exact hm'⟩
   | panicked ch=>obtain ⟨_,r,_,v,_,he,_⟩:=h5;cases he
   | outgrown=>obtain ⟨_,r,_,v,_,he,_⟩:=h5;cases he
  ·exact h.forget
  ·split at h
   ·exact LTg.move (fun b a cs w=>step_inBlock) h.forget
   ·exact LTg.move (fun b a cs w=>step_inBlock) (go h)
  ·exact LTg.move (fun b a cs w=>step_inScope) (go h)
  ·split at h
   ·rename_i k' hx
    split at h
    ·exact LTg.move (fun b a cs w=>step_exit hx) h.forget
    ·exact LTg.move (fun b a cs w=>step_exit hx) (go h)
   ·exact h.elim
  ·exact dP (fun b a cs w=>step_ret) h
  ·rename_i id ops draw k
   split at h
   ·split at h
    ·split at h
     ·rename_i o hrf
      obtain ⟨rfl,ho,hg,c,hop,hcl⟩:=eK hrf
      obtain ⟨m,hm'⟩:∃ m,ops.size=m+1:=⟨ops.size-1,by have:=(Array.getElem?_eq_some_iff.1 ho).1;omega⟩
      rw[hm',Nat.add_sub_cancel] at h
      exact LTg.r0 hm' ho hg hop hcl h fun _ _ h=>go h
     ·refine LTg.code fun w0 β w a h1 h2=>?_
      exact wp_region (bN h1 h2 rfl h fun β' t' st' a' w' k1 k2 k3 k4 k5=>⟨rfl,β',t',st',behind k1,k2,k3,k4,k5⟩)
    ·rename_i p hd
     obtain ⟨o,c⟩:=p
     refine LTg.rY fun w0 β w a h1 h2=>?_
     refine wp_region ?_
     obtain ⟨m,hm'⟩:∃ m,ops.size=m+1:=by
      refine ⟨ops.size-1,?_⟩
      unfold cw at hd
      split at hd
      ·rename_i o' ho'
       have:=(Array.getElem?_eq_some_iff.1 ho').1
       omega
      ·cases hd
     have ho:ops[m]?=some o∧o.op=.defer c∧o.guard=none:=by
      unfold cw at hd
      rw[hm',Nat.add_sub_cancel] at hd
      split at hd
      ·rename_i o' ho'
       split at hd
       ·rename_i c' e1 e2
        cases hd
        exact ⟨ho',e1,e2⟩
       ·cases hd
      ·cases hd
     rw[hm',Nat.add_sub_cancel] at h
     rw[hm',List.range_succ]
     refine dc h1 h2 rfl h fun β' t' st'' a' w' k1 k2 k3 k4 k5=>?_
     split at k1
     ·rename_i d hl
      obtain ⟨dv,e1,e2⟩:=gQ (w:=w') ho.2.1 hl k3
      simp only[wpOps,ho.1]
      have hw:Region.wanted o (yielded ops a'.tmps)=true:=by simp[Region.wanted,ho.2.2]
      rw[if_pos hw]
      refine .inl ?_
      unfold Oper.wp
      rw[e1]
      refine ⟨trivial,β',_,_,d,dv,go k1,k2,?_,?_,e2,k5⟩
      ·exact bZ (a:={ a' with defers:=dv::a'.defers }) k3 Rp.undef
      ·rw[put_defers'];show dv::a'.defers=dv::a.defers;rw[k4]
     ·exact k1.elim
   ·split at h
    ·rename_i hok
     refine LTg.code fun w0 β w a h1 h2=>?_
     refine wp_region_any hm (ka (rq hok) _ (T0:=t) (T:=t) (TD:=t) (D:=Array.replicate _ false) (m:=0) (pend:=[]) (β:=β) ?_ h (h1.qI (Nat.le_succ _)) h2 rfl ?_ ?_)
     ·have hn:∀ (N i:Nat),¬ In (Array.replicate N false) i:=by
       intro N i hi
       unfold In at hi
       simp[Array.getElem?_replicate] at hi
       split at hi<;>simp at hi
      have he:∀ N,aG N 0=Array.replicate N false:=fun N=>by apply Array.ext<;>simp[aG]
      rw[he]
      exact ⟨⟨by simp,fun i o hi=>absurd hi (hn _ i)⟩,⟨by simp,fun i o hi=>absurd hi (hn _ i)⟩,fun i hi=>hi,⟨rfl,fun i o d hi=>absurd hi (hn _ i),fun _ _=>rfl⟩,⟨rfl,fun i o d hi=>absurd hi (hn _ i),fun _ _=>rfl⟩,
       fun i o hi=>absurd hi (hn _ i),fun j o hj=>absurd hj (hn _ j)⟩
     ·unfold todo
      exact Nat.le_trans (List.length_filter_le _ _) (by simp)
     ·intro β' t' st' a' w' k1 k2 k3 k4 k5
      exact ⟨rfl,β',t',st',behind k1,k2,k3,k4,k5⟩
    ·exact h.elim
  ·exact h.elim
theorem LTg.A0 (hm:P.follows .mixedOrders=true) {dk:Bool} {rs:List ResultVar} {R:LV→aa→Prop} {gl:List Nat} {cuts rc:List (Nat × List Nat)} (n:Nat) {c:Code} {k:List Item} {ds:List cm} {t:List LV} {st:aa} (h:eX P dk rs R gl cuts rc n (.code c::.inLoop c::k) ds t st) :
  LTg P (kindOf dk) rs (.inLoop c::k) ds R t st:=LTg.move (fun _b _a _cs _w=>step_inLoop) (fF hm n h)
theorem LTg.atC (hm:P.follows .mixedOrders=true) {dk:Bool} {rs:List ResultVar} {R:LV→aa→Prop} {gl:List Nat} {cuts rc:List (Nat × List Nat)} (n:Nat) {k:List Item} {ds:List cm} {t:List LV} {st:aa}
  (h:eX P dk rs R gl cuts rc n (bB k) ds t st):LTg P (kindOf dk) rs k ds R t st:=by
 unfold bB at h
 split at h
 ·exact LTg.A0 hm n h
 ·exact fF hm n h
theorem ak.ofC {f:FuncId} {fn:Func} {c:Code} {xs:List LV} {st:aa} {rs:List ResultVar} {R:LV→aa→Prop} {gl:List Nat} {cuts rc:List (Nat × List Nat)} {n:Nat} (hm:P.follows .mixedOrders=true)
  (hf:P.funcs[f]?=some fn) (hb:fn.body=some c) (hn:(fn.name == "runtime.NumGoroutine")=false) (hrs:fn.results.toList=rs)
  (h:eX P false rs R gl cuts rc n [.code c] [] (xs++List.replicate (fn.ntmps-xs.length) af) st):ak P f xs st R:=ak.ofG hf hb hn hrs (fF hm n h)
theorem cG.ofC {f:FuncId} {fn:Func} {c:Code} {xs:List LV} {st:aa} {rs:List ResultVar} {K:aa→Prop} {gl:List Nat} {cuts rc:List (Nat × List Nat)} {n:Nat} (hm:P.follows .mixedOrders=true)
  (hf:P.funcs[f]?=some fn) (hb:fn.body=some c) (hrs:fn.results.toList=rs)
  (h:eX P true rs (fun _ st'=>K st') gl cuts rc n [.code c] [] (xs++List.replicate (fn.ntmps-xs.length) af) st):cG P f xs st K:=cG.ofG hf hb hrs (fF hm n h)
theorem LTg.atE (hm:P.follows .mixedOrders=true) {dk:Bool} {rs:List ResultVar} {R:LV→aa→Prop} {gl:List Nat} {cuts rc:List (Nat × List Nat)} {n:Nat} {k:List Item} {ds:List cm} {t:List LV} {st:aa} {W:Prop}
  (e:eX P dk rs R gl cuts rc n (bB k) ds t st=W) (h:W):LTg P (kindOf dk) rs k ds R t st:=LTg.atC hm n (e.mpr h)
theorem ak.ofE {f:FuncId} {fn:Func} {c:Code} {xs:List LV} {st:aa} {rs:List ResultVar} {R:LV→aa→Prop} {gl:List Nat} {cuts rc:List (Nat × List Nat)} {n:Nat} {W:Prop} (hm:P.follows .mixedOrders=true)
  (hf:P.funcs[f]?=some fn) (hb:fn.body=some c) (hn:(fn.name == "runtime.NumGoroutine")=false) (hrs:fn.results.toList=rs)
  (e:eX P false rs R gl cuts rc n [.code c] [] (xs++List.replicate (fn.ntmps-xs.length) af) st=W) (h:W):ak P f xs st R:=ak.ofC hm hf hb hn hrs (e.mpr h)
theorem cG.ofE {f:FuncId} {fn:Func} {c:Code} {xs:List LV} {st:aa} {rs:List ResultVar} {K:aa→Prop} {gl:List Nat} {cuts rc:List (Nat × List Nat)} {n:Nat} {W:Prop} (hm:P.follows .mixedOrders=true)
  (hf:P.funcs[f]?=some fn) (hb:fn.body=some c) (hrs:fn.results.toList=rs)
  (e:eX P true rs (fun _ st'=>K st') gl cuts rc n [.code c] [] (xs++List.replicate (fn.ntmps-xs.length) af) st=W) (h:W):cG P f xs st K:=cG.ofC hm hf hb hrs (e.mpr h)
end
def jH:Code→List Item→List (List Item)
 | .region _ _ _,k=>[k]
 | .seq a b,k=>jH a (.code b::k)++jH b k
 | .cond _ a b,k=>jH a k++jH b k
 | .block id c,k=>k::jH c (.inBlock id::k)
 | .loop c,k=>(.inLoop c::k)::jH c (.inLoop c::k)
 | _,_=>[]
def du (fn:Func) (n:Nat):List Item:=match fn.body with
 | some c=>(jH c []).getD n []
 | none=>[]
end Go.CP
namespace Go.Proofs.YtknegckgmklnhaaGreatDoor
open Go Go.CP
theorem pz (gl:List Nat) (rc:List (Nat × List Nat)) {dk:Bool} {rs:List ResultVar} {R:LV.RT} {k:List Item} {ds:List cm} {t:List LV} {st:aa} {W:Prop} (h:W) (e:eX Tryz.prog dk rs R gl [] rc 3000 (bB k) ds t st=W:=by kernel_rfl):LTg Tryz.prog (kindOf dk) rs k ds R t st:=LTg.atE ag e h
theorem cz (gl:List Nat) (rc:List (Nat × List Nat)) (rs:List ResultVar) {f:FuncId} {fn:Func} {xs:List LV} {st:aa} {R:LV.RT} {W:Prop} (hf:Tryz.prog.funcs[f]?=some fn) (h:W) (hb:fn.body=some (ay fn):=by kernel_rfl) (hn:(fn.name == "runtime.NumGoroutine")=false:=by kernel_rfl) (hrs:fn.results.toList=rs:=by kernel_rfl) (e:eX Tryz.prog false rs R gl [] rc 3000 [.code (ay fn)] [] (xs++List.replicate (fn.ntmps-xs.length) af) st=W:=by kernel_rfl):ak Tryz.prog f xs st R:=ak.ofE ag hf hb hn hrs e h
set_option maxRecDepth 100000
def r5 (x5 x7 x8 x9:LV) (R:LV.RT) (st:aa):Prop:=LTg Tryz.prog (kindOf false) [.tmp 4] (du Tryz.f15 5) [] R (LV.jk 5 (x5::.aJ::x7::x8::x9::(LV.jk 51 []))) st
def B7:List (Nat × List Nat):=[(5,(LV.gx 0 61 [5,7,8,9]))]
def w15 (a0 a1:LV) (R:LV.RT) (st:aa):Prop:=
 bd2 (cy st a0) fun v0 st1=>bd (ldA st1 v0 7) fun v2=>LZ 24 [v2] st1 fun v3 oR=>bd (aU BinOp.gtr v3 (i64 0)) fun v5=>aL v5 (LZ 54 [] oR fun v6 st7=>R v6 st7)
 (bd (bg a1) fun v8=>bd (aU BinOp.gtr v8 (i64 10)) fun v9=>aL v9 (LZ 54 [] oR fun v10 rW=>R v10 rW)
 (LZ 54 [] oR fun v12 gT=>bd (lun UnOp.not v12) fun v14=>aL v14 (LZ 54 [] gT fun v15 aC=>R v15 aC)
 (bd (ldA gT v0 7) fun v17=>LZ 27 [v17] gT fun v18 aT=>LZ 29 [v18] aT fun v20 bY=>nw bY [LV.nili] fun eQ c7=>bd2 (lmk (stV c7 1 eQ v20)) fun _v24 iN=>bd (ldA iN eQ 1) fun v26=>LZ 67 [v26,a1] iN fun v27 c8=>bd (ah v27 0) fun v29=>bd (ah v27 1) fun dO=>nw c8 [LV.nili] fun v31 lE=>bd2 (lmk (stV lE 1 v31 v29)) fun _v33 iD=>bd (ldA iD eQ 1) fun gE=>(nw iD [LV.nili] fun v36 iS=>ldA iS eQ 1=some gE∧
 LZ 69 [] iS fun v38 mK=>ldA mK eQ 1=some gE∧
 LZ 68 [gE,v38,a1] mK fun v40 lT=>bd (ah v40 0) fun v42=>bd (ah v40 1) fun v43=>bd2 (lmk (stV lT 1 v36 v42)) fun _v44 p7=>r5 eQ dO v36 v43 R p7)∧
 LZ 69 [] iD fun v46 iF=>ldA iF eQ 1=some gE∧
 (nw iF [LV.nili] fun v48 nE=>ldA nE eQ 1=some gE∧
 LZ 68 [gE,v46,a1] nE fun v50 p8=>bd (ah v50 0) fun v52=>bd (ah v50 1) fun v53=>bd2 (lmk (stV p8 1 v48 v52)) fun _v54 p9=>r5 eQ dO v48 v53 R p9)∧
 LZ 68 [gE,v46,a1] iF fun v56 tO=>bd (ah v56 0) fun v58=>bd (ah v56 1) fun v59=>nw tO [LV.nili] fun v60 oF=>ldA oF eQ 1=some gE∧bd2 (lmk (stV oF 1 v60 v58)) fun _v62 st63=>r5 eQ dO v60 v59 R st63)))
theorem c15 (a0 a1:LV) {R:LV.RT} {st:aa} (h:w15 a0 a1 R st):LZ 15 [a0,a1] st R:=
 cz [] B7 [.tmp 4] Tryz.func15 h
def zP (x5 x7 x8 x9:LV) (R:LV.RT) (st:aa):Prop:=
 bd (aU BinOp.neq x7 (i64 0)) fun v0=>aL v0 (bd (ldA st x5 1) fun v1=>bd (ldA st x5 1) fun v2=>LZ 56 [v1,v2] st fun v3 iD=>R v3 iD)
 (bd (aU BinOp.neq x9 (i64 0)) fun v5=>aL v5 (bd (ldA st x5 1) fun v6=>bd (ldA st x5 1) fun v7=>LZ 56 [v6,v7] st fun v8 iF=>R v8 iF)
 (bd (ldA st x5 1) fun iN=>bd (ldA st x5 1) fun iS=>LZ 56 [iN,iS] st fun mK eQ=>aL mK
 (bd (ldA eQ x8 1) fun nE=>bd (ldA eQ x5 1) fun oF=>LZ 56 [nE,oF] eQ fun oR gE=>aL oR (bd (ldA gE x8 1) fun rW=>LZ 55 [rW] gE fun aC gT=>bd (lun UnOp.not aC) fun aT=>R aT gT) (R (LV.bool false) gE))
 (R (LV.bool false) eQ)))
theorem B8 (x5 x7 x8 x9:LV) {R:LV.RT} {st:aa} (h:zP x5 x7 x8 x9 R st):r5 x5 x7 x8 x9 R st:=
 pz [] B7 h
end Go.Proofs.YtknegckgmklnhaaGreatDoor
namespace Go.CP
theorem ak.B9 {P:Program} {f:FuncId} {xs:List LV} {st:aa} {R:LV→aa→Prop} (h:ak P f xs [] fun r s=>∃ v,dp s v r∧v.plain=true∧R v st) (hx:LV.ar xs=true):ak P f xs st R:=by
 have go:∀ {w0:World} {β:Lay} {w w':World} {u:Value} {β':Lay} {r v:LV} {st':aa},Rel w0 β st w→dp st' v r→v.plain=true→Rp β' r u→Rel w β' st' w'→(β.bare w.heap.size).le β'→
   ∃ β2,Rp β2 v u∧Rel w0 β2 st w'∧β.le β2:=by
  intro w0 β w w' u β' r v st' h1 hd hv hr hrel hle
  have e:=pY hrel hle fun _=>rfl
  obtain ⟨k1,k2⟩:=h1.behind hrel.below e (kj hrel)
  exact ⟨_,Rp.ct (β:=β'.frz st' w') (β':=β.fz (β'.frz st' w')) (fun _ _ e=>e) hv (iy hrel hd hr),k1,k2⟩
 rcases h with h|h
 ·refine .inl ⟨h.1,fun w0 β w vs h1 h2=>?_⟩
  refine (h.2 w _ w vs h1.bare (Rps.ct (β:=β) (β':=β.bare w.heap.size) (fun _ _ e=>e) hx h2)).mono ?_
  rintro e w' ⟨β',r,st',u,⟨v,hd,hv,hR⟩,rfl,h4,h5,h6⟩
  obtain ⟨β2,k1,k2,k3⟩:=go h1 hd hv h4 h5 h6
  exact ⟨β2,v,st,u,hR,rfl,k1,k2,k3⟩
 ·refine .inr fun w0 β w vs h1 h2=>?_
  obtain ⟨u,w',h3,β',r,st',⟨v,hd,hv,hR⟩,h5,h6,h7⟩:=h w _ w vs h1.bare (Rps.ct (β:=β) (β':=β.bare w.heap.size) (fun _ _ e=>e) hx h2)
  obtain ⟨β2,k1,k2,k3⟩:=go h1 hd hv h5 h6 h7
  exact ⟨u,w',h3,β2,v,st,hR,k1,k2,k3⟩
structure Pb (P:Program) (f:FuncId) (xs:List LV) (Q:LV→Prop):Prop where
 call:∀ {st:aa} {R:LV→aa→Prop},(∀ v,Q v→R v st)→ak P f xs st R
def Dp (Q:LV→Prop) (r:LV) (s:aa):Prop:=∃ v,dp s v r∧v.plain=true∧Q v
theorem Pb.of {P:Program} {f:FuncId} {xs:List LV} {Q:LV→Prop} (h:ak P f xs [] (Dp Q)) (hx:LV.ar xs=true):Pb P f xs Q:=
 ⟨fun hR=>ak.B9 (h.mono fun _ _ ⟨v,h1,h2,h3⟩=>⟨v,h1,h2,hR v h3⟩) hx⟩
end Go.CP
