/- Parts of the proof. -/
import Derived.Test.YtknegckgmklnhaaGreatDoorCp21
namespace Go.CP
section
variable {P:Program} {ops:Array Oper} {dl:List Deferred}
def cL (ops:Array Oper) (o:Oper) (T:List LV):Option Bool:=match o.guard with
 | none=>some true
 | some (j,want)=>match (ops[j]?).bind (·.dst) with
  | none=>none
  | some d=>match T.getD d af with
   | .bool b=>some (b==want)
   | .tup []=>some false
   | _=>none
def qop (P:Program) (o:Oper) (T:List LV) (st:aa):Option LV:=match cls P o.op with
 | .A=>dQ P T o.op
 | .L=>gi P T st o.op
 | _=>none
def qev (P:Program) (ops:Array Oper) (o:Oper) (T:List LV) (st:aa):Option LV:=match cL ops o T with
 | some true=>qop P o T st
 | some false=>some af
 | none=>none
theorem ed {o:Oper} {T T':List LV} (h:∀ k ∈ o.looksAt ops,T.getD k af=T'.getD k af):cL ops o T=cL ops o T':=by
 unfold cL
 cases hg:o.guard with
 | none=>rfl
 | some jw=>
  obtain ⟨j,want⟩:=jw
  simp only
  cases hd:(ops[j]?).bind (·.dst) with
  | none=>rfl
  | some d=>
   simp only
   rw[h d (by unfold Oper.looksAt;simp[hg,hd])]
theorem cj {o:Oper} {k:Nat} (h:k ∈ fW o.op):k ∈ o.looksAt ops:=by
 unfold Oper.looksAt
 exact List.mem_append.2 (.inl h)
theorem oW {o:Oper} {T T':List LV} {st:aa} (h:∀ k ∈ o.looksAt ops,T.getD k af=T'.getD k af):qev P ops o T st=qev P ops o T' st:=by
 unfold qev qop
 rw[ed h,tn (P:=P) (o:=o.op) (fun k hk=>h k (cj hk)),tp (P:=P) (st:=st) (o:=o.op) (fun k hk=>h k (cj hk))]
theorem dM {β:Lay} {o:Oper} {T:List LV} {a:Act} {b:Bool} (ht:Rps β T a.tmps.toList) (h:cL ops o T=some b):Region.wanted o (yielded ops a.tmps)=b:=by
 unfold cL at h
 unfold Region.wanted
 split at h
 ·rename_i hg;simp at h;subst h;simp[hg]
 ·rename_i j want hg
  split at h
  ·simp at h
  ·rename_i d hd
   split at h
   ·rename_i c hc
    simp at h;subst h
    rw[hg]
    simp only[dG ht hd hc]
    cases c<;>cases want<;>rfl
   ·rename_i hc
    simp at h;subst h
    rw[hg]
    simp only[fP ht hd hc]
    rfl
   ·simp at h
theorem ff {bf:Array Nat} {i:Nat} {st:aa}:∀ {pend:List (Nat × List LV × LV)} {R:Prop},recheck P ops bf i st pend R→
  R∧∀ j t v,(j,t,v) ∈ pend→(bf.getD i 0).testBit j=true∨∃ o,ops[j]?=some o∧gi P t st o.op=some v
 | [],R,h=>⟨h,by simp⟩
 | (j,t,v)::r,R,h=>by
  simp only[recheck] at h
  split at h
  ·rename_i hb
   obtain ⟨h1,h2⟩:=ff h
   refine ⟨h1,?_⟩
   intro j' t' v' hm
   rcases List.mem_cons.1 hm with e|e
   ·simp only[Prod.mk.injEq] at e;obtain ⟨rfl,rfl,rfl⟩:=e;exact .inl hb
   ·exact h2 j' t' v' e
  ·obtain ⟨h0,h⟩:=h
   obtain ⟨h1,h2⟩:=ff h
   refine ⟨h1,?_⟩
   intro j' t' v' hm
   rcases List.mem_cons.1 hm with e|e
   ·simp only[Prod.mk.injEq] at e;obtain ⟨rfl,rfl,rfl⟩:=e
    right
    split at h0
    ·rename_i o ho;exact ⟨o,ho,h0⟩
    ·exact h0.elim
   ·exact h2 j' t' v' e
def aG (n m:Nat):Array Bool:=(Array.range n).map fun i=>m.testBit i
theorem pT {n m:Nat}:(aG n m).size=n:=by simp[aG]
theorem pU {n m i:Nat}:In (aG n m) i↔i<n∧m.testBit i=true:=by
 unfold In aG
 rcases Nat.lt_or_ge i n with h|h
 ·simp[h]
 ·simp[Nat.not_lt.2 h]
theorem fQ {n m i:Nat}:aG n (m ||| 2 ^ i)=(aG n m).setIfInBounds i true:=by
 apply Array.ext
 ·simp[aG]
 ·intro j h1 h2
  simp only[aG,Array.size_map,Array.size_range] at h1
  rw[Array.getElem_setIfInBounds (by simpa[aG] using h1)]
  simp only[aG,Array.getElem_map,Array.getElem_range,Nat.testBit_or,Nat.testBit_two_pow]
  by_cases e:i=j
  ·subst e;simp
  ·simp[e]
theorem nC {l:List Edge} {m:Nat}:((l.foldl (fun s e=>if Region.binds .any e then s ||| 2 ^ e.on else s) 0) &&& m==l.foldl (fun s e=>if Region.binds .any e then s ||| 2 ^ e.on else s) 0)=true↔
  ∀ e ∈ l,Region.binds .any e=true→m.testBit e.on=true:=by
 have key:∀ (l:List Edge) (s j:Nat),(l.foldl (fun s e=>if Region.binds .any e then s ||| 2 ^ e.on else s) s).testBit j=true↔s.testBit j=true∨∃ e ∈ l,Region.binds .any e=true∧e.on=j:=by
  intro l
  induction l with
  | nil=>intro s j;simp
  | cons e l ih=>
   intro s j
   simp only[List.foldl_cons]
   rw[ih]
   by_cases hb:Region.binds .any e=true
   ·simp only[hb,if_true,Nat.testBit_or,Nat.testBit_two_pow,Bool.or_eq_true,decide_eq_true_eq]
    constructor
    ·rintro ((h|h) | ⟨e',h1,h2⟩)
     ·exact .inl h
     ·exact .inr ⟨e,by simp,hb,h⟩
     ·exact .inr ⟨e',by simp[h1],h2⟩
    ·rintro (h|⟨e',h1,h2,h3⟩)
     ·exact .inl (.inl h)
     ·rcases List.mem_cons.1 h1 with e1|h1
      ·subst e1;exact .inl (.inr h3)
      ·exact .inr ⟨e',h1,h2,h3⟩
   ·simp only[hb]
    constructor
    ·rintro (h|⟨e',h1,h2⟩)
     ·exact .inl h
     ·exact .inr ⟨e',by simp[h1],h2⟩
    ·rintro (h|⟨e',h1,h2,h3⟩)
     ·exact .inl h
     ·rcases List.mem_cons.1 h1 with e1|h1
      ·subst e1;exact absurd h2 hb
      ·exact .inr ⟨e',h1,h2,h3⟩
 rw[beq_iff_eq]
 constructor
 ·intro h e he hb
  have h1:(l.foldl (fun s e=>if Region.binds .any e then s ||| 2 ^ e.on else s) 0).testBit e.on=true:=(key l 0 e.on).2 (.inr ⟨e,he,hb,rfl⟩)
  rw[← h,Nat.testBit_and,aF] at h1
  exact h1.2
 ·intro h
  apply Nat.eq_of_testBit_eq
  intro j
  rw[Nat.testBit_and]
  cases hj:(l.foldl (fun s e=>if Region.binds .any e then s ||| 2 ^ e.on else s) 0).testBit j
  ·simp
  ·rcases (key l 0 j).1 hj with h0|⟨e,he,hb,e2⟩
   ·simp at h0
   ·subst e2;simp[h e he hb]
def rdy (ops:Array Oper) (m i:Nat):Prop:=i ∈ Region.ready .any ops (aG ops.size m)
theorem mx {m i:Nat}:rdy ops m i↔∃ o,ops[i]?=some o∧m.testBit i=false∧∀ e ∈ o.after,Region.binds .any e=true→e.on<ops.size∧m.testBit e.on=true:=by
 unfold rdy
 rw[mem_ready' pT,pU]
 constructor
 ·rintro ⟨h1,o,ho,h2⟩
  have hi:i<ops.size:=(Array.getElem?_eq_some_iff.1 ho).1
  refine ⟨o,ho,?_,fun e he hb=>pU.1 (h2 e he hb)⟩
  cases hb:m.testBit i
  ·rfl
  ·exact absurd ⟨hi,hb⟩ h1
 ·rintro ⟨o,ho,h1,h2⟩
  exact ⟨fun h=>by rw[h1] at h;simp at h,o,ho,fun e he hb=>pU.2 (h2 e he hb)⟩
def ck (i:Nat):Pk→Prop
 | .done=>False
 | .one j=>i=j
 | .many l=>i ∈ l
theorem iv (hok:Ok ops) {m:Nat}:∀ (l:List Oper) (i:Nat) (c:List Nat),(∀ k,ops[i+k]?=l[k]?)→i+l.length=ops.size→
  (∀ j,j ∈ c↔rdy ops m j∧j<i)→(∀ j ∈ c,∀ o,ops[j]?=some o→cV P o=false)→
  (∀ r,cT m (l.map fun o=>(o.after.toList.foldl (fun s e=>if Region.binds .any e then s ||| 2 ^ e.on else s) 0,cV P o)) i c=r→
   (r=.done∧∀ j,¬ rdy ops m j)∨(∃ x o,r=.one x∧rdy ops m x∧ops[x]?=some o∧cV P o=true)∨
    ((∃ j,ck j r)∧∀ j,(ck j r↔rdy ops m j)∧(rdy ops m j→∀ o,ops[j]?=some o→cV P o=false)))
 | [],i,c,hl,hn,hc,hq,r,hr=>by
  have big:∀ j,rdy ops m j↔j ∈ c:=by
   intro j
   rw[hc]
   refine ⟨fun hj=>⟨hj,?_⟩,fun h=>h.1⟩
   obtain ⟨o,ho,_⟩:=mx.1 hj
   have:=(Array.getElem?_eq_some_iff.1 ho).1
   simp at hn;omega
  match c,hr with
  | [],hr=>simp only[List.map_nil,cT] at hr;subst hr;exact .inl ⟨rfl,fun j hj=>by simpa using (big j).1 hj⟩
  | [x],hr=>
   simp only[List.map_nil,cT] at hr;subst hr
   exact .inr (.inr ⟨⟨x,by simp[ck]⟩,fun j=>⟨by rw[big];simp[ck],fun hj=>hq j ((big j).1 hj)⟩⟩)
  | x::y::c,hr=>
   simp only[List.map_nil,cT] at hr;subst hr
   exact .inr (.inr ⟨⟨x,by simp[ck]⟩,fun j=>⟨by rw[big];simp[ck],fun hj=>hq j ((big j).1 hj)⟩⟩)
 | o::l,i,c,hl,hn,hc,hq,r,hr=>by
  have ho:ops[i]?=some o:=by simpa using hl 0
  have hl':∀ k,ops[i+1+k]?=l[k]?:=fun k=>by have:=hl (k+1);simpa[Nat.add_assoc,Nat.add_comm 1 k] using this
  have hn':i+1+l.length=ops.size:=by simp at hn;omega
  simp only[List.map_cons,cT] at hr
  have hready:(m.testBit i || !((o.after.toList.foldl (fun s e=>if Region.binds .any e then s ||| 2 ^ e.on else s) 0 &&& m)==o.after.toList.foldl (fun s e=>if Region.binds .any e then s ||| 2 ^ e.on else s) 0))=false↔rdy ops m i:=by
   rw[Bool.or_eq_false_iff,Bool.not_eq_false',nC,mx]
   constructor
   ·rintro ⟨h1,h2⟩
    exact ⟨o,ho,h1,fun e he hb=>⟨Nat.lt_trans (hok.lex i o ho e he hb) (Array.getElem?_eq_some_iff.1 ho).1,h2 e (by simpa using he) hb⟩⟩
   ·rintro ⟨o',ho',h1,h2⟩
    rw[ho] at ho';cases ho'
    exact ⟨h1,fun e he hb=>(h2 e (by simpa using he) hb).2⟩
  split at hr
  ·rename_i hnr
   have hnr':¬ rdy ops m i:=fun h=>by rw[hready.2 h] at hnr;cases hnr
   refine iv hok l (i+1) c hl' hn' (fun j=>?_) hq r hr
   rw[hc]
   refine ⟨fun h=>⟨h.1,Nat.lt_succ_of_lt h.2⟩,fun h=>⟨h.1,?_⟩⟩
   rcases Nat.lt_succ_iff_lt_or_eq.1 h.2 with h2|h2
   ·exact h2
   ·subst h2;exact absurd h.1 hnr'
  ·rename_i hnr
   have hri:=hready.1 hnr
   split at hr
   ·rename_i hqo
    subst hr
    exact .inr (.inl ⟨i,o,rfl,hri,ho,hqo⟩)
   ·rename_i hqo
    refine iv hok l (i+1) (i::c) hl' hn' (fun j=>?_) (fun j hj o' ho'=>?_) r hr
    ·rw[List.mem_cons,hc]
     constructor
     ·rintro (h|h)
      ·subst h;exact ⟨hri,Nat.lt_succ_self _⟩
      ·exact ⟨h.1,Nat.lt_succ_of_lt h.2⟩
     ·rintro ⟨h1,h2⟩
      rcases Nat.lt_succ_iff_lt_or_eq.1 h2 with h2|h2
      ·exact .inr ⟨h1,h2⟩
      ·exact .inl h2
    ·rcases List.mem_cons.1 hj with e|hj
     ·subst e;rw[ho] at ho';cases ho';exact hqo
     ·exact hq j hj o' ho'
theorem oX (hok:Ok ops) (m:Nat):(cg (rowsOf P ops) m=.done∧∀ j,¬ rdy ops m j)∨(∃ x o,cg (rowsOf P ops) m=.one x∧rdy ops m x∧ops[x]?=some o∧cV P o=true)∨
  ((∃ j,ck j (cg (rowsOf P ops) m))∧∀ j,(ck j (cg (rowsOf P ops) m)↔rdy ops m j)∧(rdy ops m j→∀ o,ops[j]?=some o→cV P o=false)):=
 iv (P:=P) hok (m:=m) ops.toList 0 [] (by simp) (by simp) (by simp) (by simp) _ rfl
theorem vE (hok:Ok ops) {m:Nat} (h:cg (rowsOf P ops) m=.done):Region.ready .any ops (aG ops.size m)=[]:=by
 rcases oX (P:=P) hok m with ⟨_,h2⟩ | ⟨x,o,h2,_⟩ | ⟨h2,_⟩
 ·exact List.eq_nil_iff_forall_not_mem.2 h2
 ·rw[h] at h2;cases h2
 ·obtain ⟨j,hj⟩:=h2
  rw[h] at hj;exact hj.elim
theorem lr {f:Nat→Prop}:∀ {l:List Nat},rn f l→∀ i ∈ l,f i
 | [],_,i,hi=>by simp at hi
 | [x],h,i,hi=>by simp at hi;subst hi;exact h
 | x::y::l,h,i,hi=>by
  rcases List.mem_cons.1 hi with e|hi
  ·subst e;exact h.1
  ·exact lr h.2 i hi
theorem jZ {bf:Array Nat} {K:List LV→aa→Prop} {rows:List (Nat × Bool)} {n m:Nat} {pend:List (Nat × List LV × LV)} {T:List LV} {st:aa} {i:Nat} {o:Oper}
  (h:bT P ops bf rows K (n+1) m pend T st) (hp:ck i (cg rows m)) (ho:ops[i]?=some o) :
  (cL ops o T=some true∧cU P ops bf i o pend T st fun pend v st'=>bo (bV ops i) v fun v=>bT P ops bf rows K n (m ||| 2 ^ i) pend (aW T o.dst v) st')∨
  (cL ops o T=some false∧bT P ops bf rows K n (m ||| 2 ^ i) pend (aW T o.dst af) st):=by
 have h:eU P ops bf i pend T st fun pend t st=>bT P ops bf rows K n (m ||| 2 ^ i) pend t st:=by
  simp only[bT] at h
  split at h
  ·rename_i hd;rw[hd] at hp;exact hp.elim
  ·rename_i j hd;rw[hd] at hp;simp only[ck] at hp;subst hp;exact h
  ·rename_i l hd;rw[hd] at hp;exact lr h i hp
 simp only[eU,ho,force_eq] at h
 unfold cL
 cases hg:o.guard with
 | none=>simp only[hg] at h;exact .inl ⟨rfl,h⟩
 | some jw=>
  obtain ⟨j,want⟩:=jw
  simp only[hg] at h ⊢
  cases hd:(ops[j]?).bind (·.dst) with
  | none=>simp only[hd] at h
  | some d=>
   simp only[hd] at h ⊢
   rcases fu h with ⟨hb,h⟩ | ⟨hb,h⟩ | ⟨hb,h⟩
   ·have hs:=(cv hb).2
    rw[hs] at h
    rw[hb]
    cases want
    ·exact .inr ⟨rfl,h⟩
    ·exact .inl ⟨rfl,h⟩
   ·have hs:=(cv hb).2
    rw[hs] at h
    rw[hb]
    cases want
    ·exact .inl ⟨rfl,h⟩
    ·exact .inr ⟨rfl,h⟩
   ·rw[hb]
    exact .inr ⟨rfl,h⟩
def Fact (P:Program) (ops:Array Oper) (T0 T:List LV) (E:Array Bool) (pend:List (Nat × List LV × LV)) (st:aa) (j:Nat) (o:Oper):Prop:=
 ∃ Ej Tj v,ec ops Ej∧¬ In Ej j∧jY o Ej∧(∀ k,In Ej k→In E k)∧Agr ops T0 T Ej Tj∧qev P ops o Tj st=some v∧(∀ d,o.dst=some d→d<T.length→T[d]?=some v)∧
  (cls P o.op=.L→cL ops o Tj=some true→(j,Tj,v) ∈ pend)
structure Inv (P:Program) (ops:Array Oper) (T0 T:List LV) (E D:Array Bool) (TD:List LV) (pend:List (Nat × List LV × LV)) (st:aa):Prop where
 cE:ec ops E
 cD:ec ops D
 sub:∀ i,In D i→In E i
 aE:Agr ops T0 T E T
 aD:Agr ops T0 T D TD
 nonq:∀ (i:Nat) (o:Oper),In E i→ops[i]?=some o→cV P o=false→In D i
 fact:∀ (j:Nat) (o:Oper),In E j→¬ In D j→ops[j]?=some o→Fact P ops T0 T E pend st j o
theorem dN {T:List LV} {dst:Option Tmp} {v:LV} {d:Nat} (h:dst=some d) (hd:d<(aW T dst v).length):(aW T dst v)[d]?=some v:=by
 subst h
 rw[cO] at hd
 simp only[aW]
 rw[List.getElem?_set_self hd]
theorem saturate (hok:Ok ops) {bf:Array Nat} {K:List LV→aa→Prop} {T0 TD:List LV} {D:Array Bool} {st:aa}:∀ (n:Nat) {m:Nat} {pend:List (Nat × List LV × LV)} {T:List LV},
  Inv P ops T0 T (aG ops.size m) D TD pend st→bT P ops bf (rowsOf P ops) K n m pend T st→
  ∃ n' m' pend' T',Inv P ops T0 T' (aG ops.size m') D TD pend' st∧bT P ops bf (rowsOf P ops) K n' m' pend' T' st∧
   (cg (rowsOf P ops) m'=.done∨∃ k,n'=k+1∧(∃ j,ck j (cg (rowsOf P ops) m'))∧∀ j,(ck j (cg (rowsOf P ops) m')↔rdy ops m' j)∧(rdy ops m' j→∀ o,ops[j]?=some o→cV P o=false))
 | 0,m,pend,T,hI,h=>by
  refine ⟨0,m,pend,T,hI,h,.inl ?_⟩
  simp only[bT] at h
  split at h
  ·assumption
  ·exact h.elim
 | n+1,m,pend,T,hI,h=>by
  rcases oX (P:=P) hok m with ⟨hp,_⟩ | ⟨i,o,hp,hr,ho,hq⟩ | ⟨hp,hp2⟩
  ·exact ⟨n+1,m,pend,T,hI,h,.inl hp⟩
  ·have hr:=hr
   unfold rdy at hr
   rw[mem_ready' hI.cE.size] at hr
   obtain ⟨hnE,o2,ho2,hpre⟩:=hr
   rw[ho] at ho2;cases ho2
   ·have hnD:¬ In D i:=fun hi=>hnE (hI.sub i hi)
    have hlen:T.length=T0.length:=hI.aE.len
    have hiE:i<(aG ops.size m).size:=by rw[hI.cE.size];exact (Array.getElem?_eq_some_iff.1 ho).1
    -- the state of the walk behind a quiet operation
    have next:∀ {v:LV} {pend':List (Nat × List LV × LV)},(∀ x ∈ pend,x ∈ pend')→qev P ops o T st=some v→(cls P o.op=.L→cL ops o T=some true→(i,T,v) ∈ pend')→
      Inv P ops T0 (aW T o.dst v) (aG ops.size (m ||| 2 ^ i)) D TD pend' st:=by
     intro v pend' hsub hv hpd
     rw[fQ]
     refine ⟨hI.cE.set ho hpre,hI.cD,fun k hk=>(hI.sub k hk).set,?_,hI.aD.walk hok ho hnD,?_,?_⟩
     ·exact (hI.aE.walk (v:=v) hok ho hnE).grow hok ho hiE (by rw[cO];exact hlen) (fun d hd hlt=>dN hd hlt)
     ·intro k o' hk ho' hq'
      rcases hk.eb with e|hk
      ·subst e;rw[ho] at ho';cases ho';rw[hq] at hq';cases hq'
      ·exact hI.nonq k o' hk ho' hq'
     ·intro k o' hk hkD ho'
      rcases hk.eb with e|hk
      ·subst e;rw[ho] at ho';cases ho'
       exact ⟨aG ops.size m,T,v,hI.cE,hnE,hpre,fun k hk=>hk.set,hI.aE.walk hok ho hnE,hv,fun d hd hlt=>dN hd hlt,hpd⟩
      ·obtain ⟨Ej,Tj,vj,f1,f2,f3,f4,f5,f6,f7,f8⟩:=hI.fact k o' hk hkD ho'
       refine ⟨Ej,Tj,vj,f1,f2,f3,fun q hq=>(f4 q hq).set,f5.walk hok ho (fun hm=>hnE (f4 i hm)),f6,?_,fun a b=>hsub _ (f8 a b)⟩
       intro d hd hlt
       rw[fx (hok.dst i k o o' d (fun e=>hnE (e ▸ hk)) ho ho' hd)]
       exact f7 d hd (by rwa [cO] at hlt)
    rcases jZ h (by rw[hp];rfl) ho with ⟨hg,hd⟩ | ⟨hg,hd⟩
    ·unfold cU at hd
     split at hd
     ·rename_i hc
      unfold bd at hd
      split at hd
      ·rename_i v hv
       exact saturate hok n (next (pend':=pend) (fun _ h=>h) (by simp[qev,hg,qop,hc,hv]) (fun e=>by rw[hc] at e;cases e)) (cx hd)
      ·exact hd.elim
     ·rename_i hc
      unfold bd at hd
      split at hd
      ·rename_i v hv
       exact saturate hok n (next (pend':=(i,T,v)::pend) (fun _ h=>List.mem_cons_of_mem _ h) (by simp[qev,hg,qop,hc,hv]) (fun _ _=>by simp)) (cx hd)
      ·exact hd.elim
     ·rename_i hc;simp[cV,hc] at hq
     ·rename_i hc;simp[cV,hc] at hq
     ·rename_i hc;simp[cV,hc] at hq
     ·exact hd.elim
    ·exact saturate hok n (next (pend':=pend) (fun _ h=>h) (by simp[qev,hg]) (fun _ e=>by rw[hg] at e;cases e)) hd
  ·exact ⟨n+1,m,pend,T,hI,h,.inr ⟨n,rfl,hp,hp2⟩⟩
def todo (ops:Array Oper) (D:Array Bool):Nat:=((List.range ops.size).filter fun i=>!D.getD i false).length
theorem j2 {D:Array Bool} {i:Nat} (hs:D.size=ops.size) (hi:i<ops.size) (hn:¬ In D i):todo ops (D.setIfInBounds i true)<todo ops D:=by
 unfold todo
 have h1:((List.range ops.size).filter fun k=>!(D.setIfInBounds i true).getD k false)=((List.range ops.size).filter fun k=>!D.getD k false).filter fun k=>k != i:=by
  rw[List.filter_filter]
  apply List.filter_congr
  intro k _
  by_cases e:i=k
  ·subst e
   have:In (D.setIfInBounds i true) i:=In.self (by omega)
   unfold In at this;rw[this];simp
  ·rw[getD_set_ne false e]
   have:(k != i)=true:=by simpa using fun h=>e h.symm
   simp[this]
 rw[h1]
 apply List.length_filter_lt_length_iff_exists.2
 refine ⟨i,?_,by simp⟩
 rw[List.mem_filter]
 refine ⟨by simpa using hi,?_⟩
 unfold In at hn
 cases hb:D.getD i false
 ·rfl
 ·exact absurd hb hn
theorem my {m j:Nat} {p:Prop} (hs:(aG ops.size m).size=ops.size) (hj:rdy ops m j) (h:∀ i,i<ops.size→In (aG ops.size m) i):p:=by
 unfold rdy at hj
 rw[mem_ready' hs] at hj
 obtain ⟨h1,o,ho,_⟩:=hj
 exact absurd (h j (Array.getElem?_eq_some_iff.1 ho).1) h1
theorem ka (hok:Ok ops) {w0:World} {K:List LV→aa→Prop} {Q:Exit→Act→World→Prop} {T0:List LV}:∀ (fuel:Nat) {β:Lay} {D:Array Bool} {m:Nat} {TD T:List LV} {pend:List (Nat × List LV × LV)} {st:aa} {n:Nat} {a:Act} {w:World},
  Inv P ops T0 T (aG ops.size m) D TD pend st→bT P ops (Region.before ops) (rowsOf P ops) K n m pend T st→Rel w0 β st w→Rps β TD a.tmps.toList→a.defers=dl→todo ops D≤fuel→
  (∀ β' t' st' a' w',K t' st'→Rel w0 β' st' w'→Rps β' t' a'.tmps.toList→a'.defers=dl→β.le β'→Q .normal a' w')→wpAny P .any ops Q fuel D a w:=by
 intro fuel
 induction fuel with
 | zero=>
  intro β D m TD T pend st n a w hI h hrel ht hd hf hq
  -- all is listed
  have hall:Region.ready .any ops D=[]:=by
   cases hr:Region.ready .any ops D with
   | nil=>rfl
   | cons i r=>
    have hm:i ∈ Region.ready .any ops D:=by rw[hr];simp
    rw[mem_ready' hI.cD.size] at hm
    obtain ⟨hn,o,ho,_⟩:=hm
    have:=j2 hI.cD.size (Array.getElem?_eq_some_iff.1 ho).1 hn
    omega
  refine ⟨hall,?_⟩
  have hD:=hI.cD.all hok hall
  obtain ⟨n',m',pend',T',hI',h',hpk⟩:=saturate hok n hI h
  rcases hpk with hpk|⟨k0,_,⟨j0,hj0⟩,hpk⟩
  ·have hK:K T' st:=by
    cases n'<;>simp only[bT,hpk] at h'<;>exact h'
   have hT:TD=T':=by
    apply List.ext_getElem?
    intro k
    by_cases hw:∃ (i:Nat) (o':Oper),In D i∧ops[i]?=some o'∧o'.dst=some k
    ·obtain ⟨i,o',hi,ho',hd'⟩:=hw
     rw[hI'.aD.wr i o' k hi ho' hd']
    ·rw[hI'.aD.un k (fun i o' hi ho' hd'=>hw ⟨i,o',hi,ho',hd'⟩),hI'.aE.un k (fun i o' hi ho' hd'=>hw ⟨i,o',hD i (Array.getElem?_eq_some_iff.1 ho').1,ho',hd'⟩)]
   subst hT
   exact hq β TD st a w hK hrel ht hd (Lay.le.refl _)
  ·exact my hI'.cE.size ((hpk j0).1.1 hj0) fun i hi=>hI'.sub i (hD i hi)
 | succ fuel ih=>
  intro β D m TD T pend st n a w hI h hrel ht hd hf hq
  obtain ⟨n',m',pend',T',hI',h',hpk⟩:=saturate hok n hI h
  refine ⟨fun hall=>?_,fun i hi=>?_⟩
  ·have hD:=hI'.cD.all hok hall
   rcases hpk with hpk|⟨k0,_,⟨j0,hj0⟩,hpk⟩
   ·have hK:K T' st:=by
     cases n'<;>simp only[bT,hpk] at h'<;>exact h'
    have hT:TD=T':=by
     apply List.ext_getElem?
     intro k
     by_cases hw:∃ (i:Nat) (o':Oper),In D i∧ops[i]?=some o'∧o'.dst=some k
     ·obtain ⟨i,o',hi,ho',hd'⟩:=hw
      rw[hI'.aD.wr i o' k hi ho' hd']
     ·rw[hI'.aD.un k (fun i o' hi ho' hd'=>hw ⟨i,o',hi,ho',hd'⟩),hI'.aE.un k (fun i o' hi ho' hd'=>hw ⟨i,o',hD i (Array.getElem?_eq_some_iff.1 ho').1,ho',hd'⟩)]
    subst hT
    exact hq β TD st a w hK hrel ht hd (Lay.le.refl _)
   ·exact my hI'.cE.size ((hpk j0).1.1 hj0) fun i hi=>hI'.sub i (hD i hi)
  ·rw[mem_ready' hI'.cD.size] at hi
   obtain ⟨hnD,o,ho,hpre⟩:=hi
   have hlt:i<ops.size:=(Array.getElem?_eq_some_iff.1 ho).1
   have htodo:todo ops (D.setIfInBounds i true)≤fuel:=by
    have:=j2 hI'.cD.size hlt hnD
    omega
   have hTlen:T'.length=T0.length:=hI'.aE.len
   by_cases hiE:In (aG ops.size m') i
   ·-- a quiet operation that the walk has done
    obtain ⟨Ej,Tj,v,f1,f2,f3,f4,f5,f6,f7,f8⟩:=hI'.fact i o hiE hnD ho
    have hlook:=Agr.look hok f1 hI'.cD f5 hI'.aD ho f3 hpre f2 hnD
    rw[oW hlook] at f6
    have hI2:Inv P ops T0 T' (aG ops.size m') (D.setIfInBounds i true) (aW TD o.dst v) pend' st:=by
     refine ⟨hI'.cE,hI'.cD.set ho hpre,?_,hI'.aE,hI'.aD.grow hok ho (by rw[hI'.cD.size];exact hlt) hTlen f7,fun k o' hk ho' hq'=>(hI'.nonq k o' hk ho' hq').set,fun k o' hk hkD ho'=>hI'.fact k o' hk (fun e=>hkD e.set) ho'⟩
     intro k hk
     rcases hk.eb with e|hk
     ·subst e;exact hiE
     ·exact hI'.sub k hk
    unfold wpOp
    rw[ho]
    simp only
    unfold qev at f6
    split at f6
    ·rename_i hg
     rw[if_pos (dM ht hg)]
     left
     unfold qop at f6
     have fin:∀ {u:Value},(execOp a.eval o).run P w=.ok (.value u) w→Rp β v u→o.wp P a w (wpAny P .any ops Q fuel (D.setIfInBounds i true)) Q:=by
      intro u hu hv
      unfold Oper.wp
      rw[hu]
      exact ih hI2 h' hrel (bZ ht hv) (by rw[put_defers'];exact hd) htodo hq
     split at f6
     ·obtain ⟨u,h1,h2⟩:=jC (w:=w) ht f6
      exact fin h1 h2
     ·obtain ⟨u,h1,h2⟩:=jF hrel ht f6
      exact fin h1 h2
     ·simp at f6
    ·rename_i hg
     simp at f6;subst f6
     rw[if_neg (by rw[dM ht hg];simp)]
     exact ih hI2 h' hrel (bZ ht Rp.undef) (by rw[put_defers'];exact hd) htodo hq
    ·simp at f6
   ·-- the next operation of the walk
    have hrE:i ∈ Region.ready .any ops (aG ops.size m'):=(mem_ready' hI'.cE.size).2 ⟨hiE,o,ho,fun e he hb=>hI'.sub _ (hpre e he hb)⟩
    have hpE:jY o (aG ops.size m'):=fun e he hb=>hI'.sub _ (hpre e he hb)
    rcases hpk with hpk|⟨k0,hn',_,hpk⟩
    ·rw[vE hok hpk] at hrE;simp at hrE
    ·have hnq:=(hpk i).2 hrE o ho
     have hpi:=(hpk i).1.2 hrE
     ·subst hn'
      have hlook:=Agr.look hok hI'.cE hI'.cD hI'.aE hI'.aD ho hpE hpre hiE hnD
      have hiEs:i<(aG ops.size m').size:=by rw[hI'.cE.size];exact hlt
      have hiDs:i<D.size:=by rw[hI'.cD.size];exact hlt
      -- behind it
      have next:∀ {v:LV} {st':aa},(∀ (j:Nat) (oj:Oper),In (aG ops.size m') j→¬ In D j→ops[j]?=some oj→Fact P ops T0 T' (aG ops.size m') pend' st' j oj)→
        Inv P ops T0 (aW T' o.dst v) (aG ops.size (m' ||| 2 ^ i)) (D.setIfInBounds i true) (aW TD o.dst v) pend' st':=by
       intro v st' hfact
       rw[fQ]
       have haD:=hI'.aD.walk (v:=v) hok ho hnD
       refine ⟨hI'.cE.set ho hpE,hI'.cD.set ho hpre,?_,(hI'.aE.walk (v:=v) hok ho hiE).grow hok ho hiEs (by rw[cO];exact hTlen) (fun d hd hl=>dN hd hl),
        haD.grow hok ho hiDs (by rw[cO];exact hTlen) (fun d hd hl=>dN hd hl),?_,?_⟩
       ·intro k hk
        rcases hk.eb with e|hk
        ·subst e;exact In.self hiEs
        ·exact (hI'.sub k hk).set
       ·intro k o' hk ho' hq'
        rcases hk.eb with e|hk
        ·subst e;exact In.self hiDs
        ·exact (hI'.nonq k o' hk ho' hq').set
       ·intro k o' hk hkD ho'
        have hkD':¬ In D k:=fun e=>hkD e.set
        rcases hk.eb with e|hk
        ·subst e;exact absurd (In.self hiDs) hkD
        ·obtain ⟨Ej,Tj,vj,f1,f2,f3,f4,f5,f6,f7,f8⟩:=hfact k o' hk hkD' ho'
         refine ⟨Ej,Tj,vj,f1,f2,f3,fun q hq=>(f4 q hq).set,f5.walk hok ho (fun hm=>hiE (f4 i hm)),f6,?_,f8⟩
         intro d hd hl
         rw[fx (hok.dst i k o o' d (fun e=>hiE (e ▸ hk)) ho ho' hd)]
         exact f7 d hd (by rwa [cO] at hl)
      unfold wpOp
      rw[ho]
      simp only
      rcases jZ h' hpi ho with ⟨hg,hdr⟩ | ⟨hg,hdr⟩
      ·have hgD:cL ops o TD=some true:=by rw[← ed hlook];exact hg
       rw[if_pos (dM ht hgD)]
       left
       have hop:cZ P o TD st (fun v st'=>recheck P ops (Region.before ops) i st' pend' (bo (bV ops i) v fun v=>bT P ops (Region.before ops) (rowsOf P ops) K k0 (m' ||| 2 ^ i) pend' (aW T' o.dst v) st')):=by
        unfold cU at hdr
        unfold cZ
        split at hdr
        ·rename_i hc;simp[cV,hc] at hnq
        ·rename_i hc;simp[cV,hc] at hnq
        ·rename_i hc
         simp only[hc]
         rwa [← nA (P:=P) (st:=st) (o:=o.op) (fun k hk=>hlook k (cj hk))]
        ·rename_i hc
         simp only[hc]
         split at hdr
         ·rename_i c hcall
          simp only[hcall]
          rwa [← jl (t:=T') (fun k hk=>hlook k (cj (by rw[hcall];exact hk)))]
         ·exact hdr.elim
        ·rename_i hc
         simp only[hc]
         split at hdr
         ·rename_i it hnext
          simp only[hnext]
          rwa [← az (t:=T') (x:=it) (fun k e=>hlook k (cj (by rw[hnext];simp[fW,Op.operands,e])))]
         ·exact hdr.elim
        ·exact hdr.elim
       refine Oper.wp_mono ?_ (fO (Q:=Q) hrel ht hop)
       intro a' w' ⟨β',v,st',u,h1,h2,h3,h4,h5⟩
       subst h5
       obtain ⟨h6,h7⟩:=ff h1
       have h6:=cx h6
       refine ih (next (v:=v) (st':=st') ?_) h6 h3 (bZ (ht.mono h4) h2) (by rw[put_defers'];exact hd) htodo (fun β'' t'' st'' a'' w'' k1 k2 k3 k4 k5=>hq β'' t'' st'' a'' w'' k1 k2 k3 k4 (h4.trans k5))
       intro j oj hj hjD hoj
       obtain ⟨Ej,Tj,vj,f1,f2,f3,f4,f5,f6,f7,f8⟩:=hI'.fact j oj hj hjD hoj
       refine ⟨Ej,Tj,vj,f1,f2,f3,f4,f5,?_,f7,f8⟩
       unfold qev at f6 ⊢
       split at f6
       ·rename_i hgj
        unfold qop at f6 ⊢
        split at f6
        ·exact f6
        ·rename_i hcj
         rcases h7 j Tj vj (f8 hcj hgj) with hb|⟨oj',hoj',hl⟩
         ·exact absurd (hI'.cD.anc hok i ho hpre hb) hjD
         ·rw[hoj] at hoj';cases hoj';exact hl
        ·simp at f6
       ·exact f6
       ·simp at f6
      ·have hgD:cL ops o TD=some false:=by rw[← ed hlook];exact hg
       rw[if_neg (by rw[dM ht hgD];simp)]
       exact ih (next (v:=af) (st':=st) hI'.fact) hdr hrel (bZ ht Rp.undef) (by rw[put_defers'];exact hd) htodo hq
end
def LX.then (x:LX) (next q:Prop):Prop:=match x with
 | .normal=>next
 | _=>q
def LX.inBlock (x:LX) (id:Nat) (next q:Prop):Prop:=match x with
 | .exit i=>cond (i==id) next q
 | _=>q
section
variable {P:Program}
theorem qP.mono {w0:World} {Q Q':LX→List LV→aa→Prop} {β:Lay} {e:Exit} {a:Act} {w:World} (h:qP w0 Q β e a w) (hq:∀ x t st,Q x t st→Q' x t st):qP w0 Q' β e a w:=
 let ⟨β',x,t,st,h1,h2⟩:=h;⟨β',x,t,st,hq _ _ _ h1,h2⟩
theorem qP.le {w0:World} {Q:LX→List LV→aa→Prop} {β β':Lay} {e:Exit} {a:Act} {w:World} (h:qP w0 Q β' e a w) (hl:β.le β'):qP w0 Q β e a w:=
 let ⟨β'',x,t,st,h1,h2,h3,h4,h5,h6⟩:=h;⟨β'',x,t,st,h1,h2,h3,h4,h5,hl.trans h6⟩
theorem LW.mono {c:Code} {Q Q':LX→List LV→aa→Prop} {t:List LV} {st:aa} (h:LW P c Q t st) (hq:∀ x t st,Q x t st→Q' x t st):LW P c Q' t st:=
 fun w0 β w a h1 h2 h3=>wp_mono (h w0 β w a h1 h2 h3) fun _ _ _ hp=>hp.mono hq
theorem wI.mono {c:Code} {Q Q':LX→List LV→aa→Prop} {t:List LV} {st:aa} (h:wI P c Q t st) (hq:∀ x t st,Q x t st→Q' x t st):wI P c Q' t st:=
 fun w0 β w a h1 h2 h3 b k cs=>let ⟨e,a',w',hp,harr⟩:=h w0 β w a h1 h2 h3 b k cs;⟨e,a',w',hp.mono hq,harr⟩
theorem ak.mono {f:FuncId} {xs:List LV} {st:aa} {R R':LV→aa→Prop} (h:ak P f xs st R) (hr:∀ v st,R v st→R' v st):ak P f xs st R':=by
 rcases h with h|h
 ·exact .inl ⟨h.1,fun w0 β w vs h1 h2=>(h.2 w0 β w vs h1 h2).mono fun _ _ ⟨β',r,st',v,h3,h4⟩=>⟨β',r,st',v,hr _ _ h3,h4⟩⟩
 ·exact .inr fun w0 β w vs h1 h2=>let ⟨u,w',h3,β',r,st',h4,h5⟩:=h w0 β w vs h1 h2;⟨u,w',h3,β',r,st',hr _ _ h4,h5⟩
def rr (P:Program) (t:List LV) (st:aa):ResultVar→Option LV
 | .tmp i=>some (t.getD i af)
 | .cell a ty=>mS P st ty (t.getD a af)
def lQ (P:Program) (t:List LV) (st:aa):List ResultVar→Option (List LV)
 | []=>some []
 | r::rs=>match rr P t st r,lQ P t st rs with
  | some v,some vs=>some (v::vs)
  | _,_=>none
def lR (P:Program) (t:List LV) (st:aa):List ResultVar→(List LV→Prop)→Prop
 | [],K=>K []
 | .tmp i::rs,K=>lR P t st rs fun vs=>K (t.getD i af::vs)
 | .cell a ty::rs,K=>bd (mS P st ty (t.getD a af)) fun v=>lR P t st rs fun vs=>K (v::vs)
theorem dH {t:List LV} {st:aa}:∀ {rs:List ResultVar} {K:List LV→Prop},lR P t st rs K→∃ vs,lQ P t st rs=some vs∧K vs
 | [],K,h=>⟨[],rfl,h⟩
 | .tmp i::rs,K,h=>by
  simp only[lR] at h
  obtain ⟨vs,h1,h2⟩:=dH h
  exact ⟨_,by simp[lQ,rr,h1],h2⟩
 | .cell a ty::rs,K,h=>by
  simp only[lR] at h
  unfold bd at h
  split at h
  ·rename_i v hv
   obtain ⟨vs,h1,h2⟩:=dH h
   exact ⟨_,by simp only[lQ,rr,h1,hv],h2⟩
  ·exact h.elim
def ur:List LV→LV
 | [v]=>v
 | vs=>.tup vs
theorem lS {w0:World} {β:Lay} {st:aa} {w:World} {t:List LV} {tmps:Array Value} (h:Rel w0 β st w) (ht:Rps β t tmps.toList):∀ {rs:List ResultVar} {vs:List LV},lQ P t st rs=some vs→
  ∃ us:List Value,(rs.mapM (fun
   | .tmp t=>pure (tmps.getD t undef)
   | .cell a t=>do loadVar t (← asAddr (tmps.getD a undef))):Sem (List Value)).run P w=.ok us w∧Rps β vs us
 | [],vs,hl=>by simp[lQ] at hl;subst hl;exact ⟨[],rfl,rfl⟩
 | r::rs,vs,hl=>by
  simp only[lQ] at hl
  split at hl
  ·rename_i v vs' h1 h2
   simp at hl;subst hl
   obtain ⟨us,h3,h4⟩:=lS h ht h2
   have hg:∀ i,Rp β (t.getD i af) (tmps.getD i undef):=by
    intro i
    have:=ht.getD i
    simpa[Array.getD_eq_getD_getElem?,List.getD_eq_getElem?_getD] using this
   cases r with
   | tmp i=>
    simp[rr] at h1;subst h1
    refine ⟨tmps.getD i undef::us,?_,_,_,rfl,by simpa using hg i,h4⟩
    simp only[List.mapM_cons,ae,an,ab,h3]
   | cell a ty=>
    simp only[rr] at h1
    obtain ⟨u,h5,h6⟩:=nk (P:=P) h (hg a) h1
    refine ⟨u::us,?_,_,_,rfl,h6,h4⟩
    unfold Instr.loadAt at h5
    -- the address is one
    have hp:∃ x,tmps.getD a undef=.pointer (some x):=by
     have hga:=hg a
     unfold mS at h1
     split at h1
     ·split at h1
      ·unfold ldA at h1
       split at h1
       ·rename_i o k e;rw[e] at hga;obtain ⟨b,_,e2⟩:=hga;exact ⟨_,e2⟩
       ·rename_i g k e;rw[e] at hga;exact ⟨_,hga⟩
       ·rename_i cs k e;rw[e] at hga;obtain ⟨_,b,_,_,e2,_⟩:=hga;exact ⟨_,e2⟩
       ·simp at h1
      ·unfold ld1 at h1
       split at h1
       ·rename_i o k e;rw[e] at hga;obtain ⟨b,_,e2⟩:=hga;exact ⟨_,e2⟩
       ·rename_i g k e;rw[e] at hga;exact ⟨_,hga⟩
       ·rename_i cs k e;rw[e] at hga;obtain ⟨_,b,_,_,e2,_⟩:=hga;exact ⟨_,e2⟩
       ·simp at h1
     ·simp at h1
    obtain ⟨x,hx⟩:=hp
    rw[hx] at h5
    simp only[Instr.sureAddr,ae,an,ab] at h5
    have hadd:asAddr (tmps.getD a undef)=pure x:=by rw[hx];rfl
    simp only[List.mapM_cons,ae,hadd,an,ab,h5,h3]
  ·simp at hl
theorem dA {w0:World} {β:Lay} {st:aa} {w:World} {t:List LV} {tmps:Array Value} {fn:Func} {vs:List LV} (h:Rel w0 β st w) (ht:Rps β t tmps.toList) (hl:lQ P t st fn.results.toList=some vs) :
  ∃ u,(results fn tmps).run P w=.ok u w∧Rp β (ur vs) u:=by
 obtain ⟨us,h1,h2⟩:=lS h ht hl
 unfold results
 rw[Array.mapM_eq_mapM_toList]
 refine ⟨if h:(us.toArray).size=1 then us.toArray[0] else .tuple us.toArray,?_,?_⟩
 ·simp only[ae,Sem.run_map,an]
  erw [h1]
  rfl
 ·have hlen:=h2.length
  match vs,us,h2,hlen with
  | [],[],_,_=>exact ⟨[],rfl,rfl⟩
  | [v],[u],⟨_,_,e,r,_⟩,_=>simp only[List.cons.injEq] at e;obtain ⟨rfl,_⟩:=e;exact r
  | v::v'::vs,u::u'::us,h2,_=>exact ⟨_,by simp,h2⟩
  | [],_::_,_,hl=>simp at hl
  | [_],[],_,hl=>simp at hl
  | [_],_::_::_,_,hl=>simp at hl
  | _::_::_,[],_,hl=>simp at hl
  | _::_::_,[_],_,hl=>simp at hl
end
end Go.CP
