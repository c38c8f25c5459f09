/- Parts of the proof. -/
import Derived.Test.YtknegckgmklnhaaGreatDoorCp18
namespace Go.CP
def In (D:Array Bool) (i:Nat):Prop:=D.getD i false=true
theorem In.set {D:Array Bool} {i j:Nat} (h:In D j):In (D.setIfInBounds i true) j:=getD_set_true h
theorem In.eb {D:Array Bool} {i j:Nat} (h:In (D.setIfInBounds i true) j):j=i∨In D j:=by
 by_cases e:i=j
 ·exact .inl e.symm
 ·right;unfold In at *;rwa [getD_set_ne false e] at h
theorem In.self {D:Array Bool} {i:Nat} (h:i<D.size):In (D.setIfInBounds i true) i:=by unfold In;simp[h]
section
variable {ops:Array Oper}
def jY (o:Oper) (D:Array Bool):Prop:=∀ e ∈ o.after,Region.binds .any e=true→In D e.on
structure ec (ops:Array Oper) (D:Array Bool):Prop where
 size:D.size=ops.size
 pre:∀ (i:Nat) (o:Oper),In D i→ops[i]?=some o→jY o D
theorem In.lt {D:Array Bool} {i:Nat} (h:In D i):i<D.size:=by
 unfold In at h
 rcases Nat.lt_or_ge i D.size with k|k
 ·exact k
 ·simp[Array.getElem?_eq_none k] at h
theorem mem_ready' {D:Array Bool} {i:Nat} (hs:D.size=ops.size):i ∈ Region.ready .any ops D↔¬ In D i∧∃ o,ops[i]?=some o∧jY o D:=by
 rw[mem_ready]
 constructor
 ·rintro ⟨h0,o,ho,h⟩
  refine ⟨fun hi=>?_,o,ho,h⟩
  have hlt:=hi.lt
  unfold In at hi
  simp[hlt] at h0 hi
  rw[h0] at hi;cases hi
 ·rintro ⟨h0,o,ho,h⟩
  refine ⟨?_,o,ho,h⟩
  have hlt:i<D.size:=by rw[hs];exact (Array.getElem?_eq_some_iff.1 ho).1
  unfold In at h0
  simp[hlt] at h0 ⊢
  exact h0
def nB (acc:Array Nat) (o:Oper):Nat:=o.after.foldl (fun s e=>if Region.binds .any e then s ||| 2 ^ e.on ||| acc.getD e.on 0 else s) 0
theorem tq {acc:Array Nat} {o:Oper} {j:Nat} (h:(nB acc o).testBit j=true):∃ e ∈ o.after,Region.binds .any e=true∧(j=e.on∨(acc.getD e.on 0).testBit j=true):=by
 unfold nB at h
 rw[← Array.foldl_toList] at h
 have key:∀ (l:List Edge) (s:Nat),(l.foldl (fun s e=>if Region.binds .any e then s ||| 2 ^ e.on ||| acc.getD e.on 0 else s) s).testBit j=true→
   s.testBit j=true∨∃ e ∈ l,Region.binds .any e=true∧(j=e.on∨(acc.getD e.on 0).testBit j=true):=by
  intro l
  induction l with
  | nil=>intro s h;exact .inl h
  | cons e l ih=>
   intro s h
   simp only[List.foldl_cons] at h
   rcases ih _ h with h|⟨e',he',h'⟩
   ·split at h
    ·rename_i hb
     rw[Nat.testBit_or,Nat.testBit_or,Bool.or_eq_true,Bool.or_eq_true] at h
     rcases h with (h|h) | h
     ·exact .inl h
     ·rw[Nat.testBit_two_pow] at h
      exact .inr ⟨e,by simp,hb,.inl (by simpa using (of_decide_eq_true h).symm)⟩
     ·exact .inr ⟨e,by simp,hb,.inr h⟩
    ·exact .inl h
   ·exact .inr ⟨e',by simp[he'],h'⟩
 rcases key _ _ h with h|⟨e,he,h⟩
 ·simp at h
 ·exact ⟨e,by simpa using he,h⟩
theorem vD:Region.before ops=ops.toList.foldl (fun acc o=>acc.push (nB acc o)) #[]:=by
 unfold Region.before
 rw[← Array.foldl_toList];rfl
theorem uq:∀ (l:List Oper) (acc:Array Nat),∃ r:List Nat,(l.foldl (fun acc o=>acc.push (nB acc o)) acc).toList=acc.toList++r∧r.length=l.length∧
  ∀ i o,l[i]?=some o→r[i]?=some (nB ⟨acc.toList++r.take i⟩ o)
 | [],acc=>⟨[],by simp,rfl,by simp⟩
 | o::l,acc=>by
  obtain ⟨r,h1,h2,h3⟩:=uq l (acc.push (nB acc o))
  refine ⟨nB acc o::r,by simp[h1],by simp[h2],?_⟩
  intro i o' hi
  cases i with
  | zero=>simp at hi;subst hi;simp
  | succ i=>
   simp at hi
   have:=h3 i o' hi
   simp only[bE,List.take_succ_cons]
   rw[this]
   simp
theorem rp {i j:Nat} {o:Oper} (ho:ops[i]?=some o) (h:((Region.before ops).getD i 0).testBit j=true) :
  ∃ e ∈ o.after,Region.binds .any e=true∧(j=e.on∨((Region.before ops).getD e.on 0).testBit j=true):=by
 obtain ⟨r,h1,h2,h3⟩:=uq ops.toList #[]
 rw[← vD] at h1
 simp only[aR] at h1 h3
 have hb:∀ k,(Region.before ops).getD k 0=r.getD k 0:=by
  intro k
  rw[← h1]
  simp[Array.getD_eq_getD_getElem?,List.getD_eq_getElem?_getD]
 rw[hb] at h
 have hr:=h3 i o (by simpa using ho)
 rw[List.getD_eq_getElem?_getD,hr,Option.getD_some] at h
 obtain ⟨e,he,hbi,h⟩:=tq h
 refine ⟨e,he,hbi,?_⟩
 rcases h with h|h
 ·exact .inl h
 ·right
  rw[hb]
  rw[Array.getD_eq_getD_getElem?,List.getElem?_toArray,List.getElem?_take] at h
  split at h
  ·rw[List.getD_eq_getElem?_getD];exact h
  ·simp at h
structure Ok (ops:Array Oper):Prop where
 lex:∀ (i:Nat) (o:Oper),ops[i]?=some o→∀ e ∈ o.after,Region.binds .any e=true→e.on<i
 dst:∀ (i j:Nat) (o o':Oper) (d:Nat),i≠j→ops[i]?=some o→ops[j]?=some o'→o'.dst=some d→o.dst≠some d
 names:∀ (i j:Nat) (o o':Oper) (d:Nat),i≠j→ops[i]?=some o→ops[j]?=some o'→o'.dst=some d→d ∈ o.looksAt ops→
  ((Region.before ops).getD i 0).testBit j=true∨((Region.before ops).getD j 0).testBit i=true
theorem rq (h:iu ops (Region.before ops)=true):Ok ops:=by
 unfold iu at h
 rw[List.all_eq_true] at h
 have row:∀ (i:Nat) (o:Oper),ops[i]?=some o→(∀ e ∈ o.after,Region.binds .any e=true→e.on<i)∧∀ (j:Nat) (o':Oper) (d:Nat),i≠j→ops[j]?=some o'→o'.dst=some d→
   o.dst≠some d∧(d ∈ o.looksAt ops→((Region.before ops).getD i 0).testBit j=true∨((Region.before ops).getD j 0).testBit i=true):=by
  intro i o ho
  have hi:=h i (by simpa using (Array.getElem?_eq_some_iff.1 ho).1)
  simp only[ho,aF,List.all_eq_true] at hi
  refine ⟨fun e he hbd=>by
   have h1:=hi.1 e (by simpa using he)
   simp only[hbd,dU,Bool.false_or,decide_eq_true_eq] at h1
   exact h1,?_⟩
  intro j o' d hne hj hd
  have h2:=hi.2 j (by simpa using (Array.getElem?_eq_some_iff.1 hj).1)
  simp only[hj,Option.bind_some,hd,Bool.or_eq_true,beq_iff_eq,aF,bne_iff_ne,Bool.not_eq_true',List.contains_eq_mem,decide_eq_false_iff_not] at h2
  rcases h2 with h2|⟨h2,h3⟩
  ·exact absurd h2 hne
  ·refine ⟨h2,fun hd'=>?_⟩
   rcases h3 with (h3|h3) | h3
   ·exact absurd hd' h3
   ·exact .inl h3
   ·exact .inr h3
 exact ⟨fun i o ho=>(row i o ho).1,fun i j o o' d hne ho hj hd=>((row i o ho).2 j o' d hne hj hd).1,fun i j o o' d hne ho hj hd=>((row i o ho).2 j o' d hne hj hd).2⟩
theorem ec.anc {D:Array Bool} (hc:ec ops D) (hok:Ok ops):∀ (i:Nat) {o:Oper} {j:Nat},ops[i]?=some o→jY o D→((Region.before ops).getD i 0).testBit j=true→In D j:=by
 intro i
 induction i using Nat.strongRecOn with
 | _ i ih=>
  intro o j ho hp hb
  obtain ⟨e,he,hbi,h⟩:=rp ho hb
  have hin:=hp e he hbi
  rcases h with h|h
  ·subst h;exact hin
  ·have hlt:e.on<ops.size:=by rw[← hc.size];exact hin.lt
   have ho':ops[e.on]?=some ops[e.on]:=Array.getElem?_eq_getElem hlt
   exact ih e.on (hok.lex i o ho e he hbi) ho' (hc.pre _ _ hin ho') h
structure Agr (ops:Array Oper) (T0 T:List LV) (D:Array Bool) (TD:List LV):Prop where
 len:TD.length=T0.length
 wr:∀ (i:Nat) (o:Oper) (d:Nat),In D i→ops[i]?=some o→o.dst=some d→TD[d]?=T[d]?
 un:∀ (k:Nat),(∀ (i:Nat) (o:Oper),In D i→ops[i]?=some o→o.dst≠some k)→TD[k]?=T0[k]?
theorem Agr.look {T0 T T1 T2:List LV} {D1 D2:Array Bool} {j:Nat} {o:Oper} (hok:Ok ops) (c1:ec ops D1) (c2:ec ops D2) (a1:Agr ops T0 T D1 T1) (a2:Agr ops T0 T D2 T2)
  (ho:ops[j]?=some o) (p1:jY o D1) (p2:jY o D2) (n1:¬ In D1 j) (n2:¬ In D2 j):∀ k ∈ o.looksAt ops,T1.getD k af=T2.getD k af:=by
 intro k hk
 have same:∀ (i:Nat) (o':Oper),ops[i]?=some o'→o'.dst=some k→(In D1 i↔In D2 i):=by
  intro i o' hi hd
  by_cases e:i=j
  ·subst e;exact ⟨fun h=>absurd h n1,fun h=>absurd h n2⟩
  ·rcases hok.names j i o o' k (fun h=>e h.symm) ho hi hd hk with h|h
   ·exact ⟨fun _=>c2.anc hok j ho p2 h,fun _=>c1.anc hok j ho p1 h⟩
   ·exact ⟨fun hi'=>absurd (c1.anc hok i hi (c1.pre _ _ hi' hi) h) n1,fun hi'=>absurd (c2.anc hok i hi (c2.pre _ _ hi' hi) h) n2⟩
 have:T1[k]?=T2[k]?:=by
  by_cases hw:∃ (i:Nat) (o':Oper),In D1 i∧ops[i]?=some o'∧o'.dst=some k
  ·obtain ⟨i,o',hi,ho',hd⟩:=hw
   rw[a1.wr i o' k hi ho' hd,a2.wr i o' k ((same i o' ho' hd).1 hi) ho' hd]
  ·rw[a1.un k (fun i o' hi ho' hd=>hw ⟨i,o',hi,ho',hd⟩),a2.un k (fun i o' hi ho' hd=>hw ⟨i,o',(same i o' ho' hd).2 hi,ho',hd⟩)]
 simp only[List.getD_eq_getElem?_getD,this]
theorem fx {t:List LV} {dst:Option Tmp} {v:LV} {k:Nat} (h:dst≠some k):(aW t dst v)[k]?=t[k]?:=by
 cases dst with
 | none=>rfl
 | some d=>
  simp only[aW]
  rw[List.getElem?_set_ne (fun e=>h (by rw[e]))]
theorem cO {t:List LV} {dst:Option Tmp} {v:LV}:(aW t dst v).length=t.length:=by
 cases dst<;>simp[aW]
theorem Agr.walk {T0 T TD:List LV} {D:Array Bool} {i:Nat} {o:Oper} {v:LV} (hok:Ok ops) (a:Agr ops T0 T D TD) (ho:ops[i]?=some o) (hn:¬ In D i):Agr ops T0 (aW T o.dst v) D TD:=by
 refine ⟨a.len,?_,a.un⟩
 intro j o' d hj ho' hd
 rw[a.wr j o' d hj ho' hd,fx (hok.dst i j o o' d (fun e=>hn (e ▸ hj)) ho ho' hd)]
theorem Agr.grow {T0 T TD:List LV} {D:Array Bool} {i:Nat} {o:Oper} {v:LV} (hok:Ok ops) (a:Agr ops T0 T D TD) (ho:ops[i]?=some o) (hi:i<D.size) (hT:T.length=T0.length)
  (hv:∀ d,o.dst=some d→d<T.length→T[d]?=some v):Agr ops T0 T (D.setIfInBounds i true) (aW TD o.dst v):=by
 refine ⟨by rw[cO];exact a.len,?_,?_⟩
 ·intro j o' d hj ho' hd
  rcases hj.eb with e|hj
  ·subst e
   rw[ho] at ho';cases ho'
   rw[hd]
   simp only[aW]
   by_cases hlt:d<T.length
   ·rw[hv d hd hlt,List.getElem?_set_self (by rw[a.len,← hT];exact hlt)]
   ·rw[List.getElem?_eq_none (by rw[List.length_set,a.len,← hT];omega),List.getElem?_eq_none (by omega)]
  ·by_cases e:i=j
   ·subst e
    rw[ho] at ho';cases ho'
    rw[hd]
    simp only[aW]
    by_cases hlt:d<T.length
    ·rw[hv d hd hlt,List.getElem?_set_self (by rw[a.len,← hT];exact hlt)]
    ·rw[List.getElem?_eq_none (by rw[List.length_set,a.len,← hT];omega),List.getElem?_eq_none (by omega)]
   ·rw[fx (hok.dst i j o o' d e ho ho' hd)]
    exact a.wr j o' d hj ho' hd
 ·intro k hk
  rw[fx (hk i o (In.self hi) ho)]
  exact a.un k fun j o' hj ho'=>hk j o' hj.set ho'
theorem ec.set {D:Array Bool} {i:Nat} {o:Oper} (hc:ec ops D) (ho:ops[i]?=some o) (hp:jY o D):ec ops (D.setIfInBounds i true):=by
 refine ⟨by simpa using hc.size,?_⟩
 intro j o' hj ho' e he hb
 rcases hj.eb with h|h
 ·subst h;rw[ho] at ho';cases ho';exact (hp e he hb).set
 ·exact (hc.pre j o' h ho' e he hb).set
theorem ec.all {D:Array Bool} (hc:ec ops D) (hok:Ok ops) (h:Region.ready .any ops D=[]):∀ i,i<ops.size→In D i:=by
 intro i
 induction i using Nat.strongRecOn with
 | _ i ih=>
  intro hi
  have ho:ops[i]?=some ops[i]:=Array.getElem?_eq_getElem hi
  refine Classical.byContradiction fun hn=>?_
  have:i ∈ Region.ready .any ops D:=(mem_ready' hc.size).2 ⟨hn,_,ho,fun e he hb=>ih e.on (hok.lex i _ ho e he hb) (Nat.lt_trans (hok.lex i _ ho e he hb) hi)⟩
  rw[h] at this;simp at this
end
end Go.CP
