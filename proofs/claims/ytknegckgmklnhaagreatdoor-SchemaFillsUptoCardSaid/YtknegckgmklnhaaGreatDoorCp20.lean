/- The clean machine, part 20: regions whose order is drawn: one walk, the quiet operations first, serves every order. The definitions, and what operands say. -/
import Derived.Test.YtknegckgmklnhaaGreatDoorCp18
namespace Go.CP
def dI (P:Program) (o:Oper):Bool:=match cls P o.op with
 | .A | .L=>true
 | _=>false
inductive Pk where
 | done
 | one (i:Nat)
 | many (l:List Nat)
def rowsOf (P:Program) (ops:Array Oper):List (Nat × Bool):=
 ops.toList.map fun o=>(o.after.toList.foldl (fun s e=>if Region.binds .any e then s ||| 2 ^ e.on else s) 0,dI P o)
def fj (m:Nat):List (Nat × Bool)→Nat→List Nat→Pk
 | [],_,[]=>.done
 | [],_,[j]=>.one j
 | [],_,l=>.many l
 | (p,q)::r,i,c=>match m.testBit i || !((p &&& m)==p) with
  | true=>fj m r (i+1) c
  | false=>match q with
   | true=>.one i
   | false=>fj m r (i+1) (i::c)
def fk (rows:List (Nat × Bool)) (m:Nat):Pk:=fj m rows 0 []
def recheck (P:Program) (ops:Array Oper) (bf:Array Nat) (i:Nat) (st:aa):List (Nat × List LV × LV)→Prop→Prop
 | [],R=>R
 | (j,t,v)::r,R=>match (bf.getD i 0).testBit j with
  | true=>recheck P ops bf i st r R
  | false=>(match ops[j]? with
   | some o=>jG P t st o.op=some v
   | none=>False)∧recheck P ops bf i st r R
def dH (P:Program) (ops:Array Oper) (bf:Array Nat) (i:Nat) (o:Oper) (pend:List (Nat × List LV × LV)) (t:List LV) (st:aa)
  (next:List (Nat × List LV × LV)→LV→aa→Prop):Prop:=match cls P o.op with
 | .A=>bd (fg P t o.op) fun v=>next pend v st
 | .L=>bd (jG P t st o.op) fun v=>next ((i,t,v)::pend) v st
 | .W=>bd2 (gk P t st o.op) fun v st'=>recheck P ops bf i st' pend (next pend v st')
 | .C=>match o.op with
  | .call c=>bd2 (gp t c) fun f xs=>aw P f xs st fun v st'=>recheck P ops bf i st' pend (next pend v st')
  | _=>False
 | .N=>match o.op with
  | .next it false=>bd (ev t it) fun x=>jL st x fun v st'=>recheck P ops bf i st' pend (next pend v st')
  | _=>False
 | .no=>False
def fQ (P:Program) (ops:Array Oper) (bf:Array Nat) (i:Nat) (pend:List (Nat × List LV × LV)) (t:List LV) (st:aa)
  (next:List (Nat × List LV × LV)→List LV→aa→Prop):Prop:=match ops[i]? with
 | none=>False
 | some o=>match o.guard with
  | none=>dH P ops bf i o pend t st fun pend v st'=>cj (dn ops i) v fun v=>force (bQ t o.dst v) fun t=>next pend t st'
  | some (j,want)=>match (ops[j]?).bind (·.dst) with
   | none=>False
   | some d=>zw (guarded ops j) (t.getD d aJ)
     (match want with
      | true=>dH P ops bf i o pend (t.set d (.bool true)) st fun pend v st'=>cj (dn ops i) v fun v=>force (bQ (t.set d (.bool true)) o.dst v) fun t=>next pend t st'
      | false=>force (bQ (t.set d (.bool true)) o.dst aJ) fun t=>next pend t st)
     (match want with
      | true=>force (bQ (t.set d (.bool false)) o.dst aJ) fun t=>next pend t st
      | false=>dH P ops bf i o pend (t.set d (.bool false)) st fun pend v st'=>cj (dn ops i) v fun v=>force (bQ (t.set d (.bool false)) o.dst v) fun t=>next pend t st')
     (force (bQ t o.dst aJ) fun t=>next pend t st)
def yD (f:Nat→Prop):List Nat→Prop
 | []=>True
 | [i]=>f i
 | i::l=>f i∧yD f l
def ck (P:Program) (ops:Array Oper) (bf:Array Nat) (rows:List (Nat × Bool)) (K:List LV→aa→Prop):Nat→Nat→List (Nat × List LV × LV)→List LV→aa→Prop
 | 0,m,_,t,st=>match fk rows m with
  | .done=>K t st
  | _=>False
 | n+1,m,pend,t,st=>match fk rows m with
  | .done=>K t st
  | .one i=>fQ P ops bf i pend t st fun pend t st=>ck P ops bf rows K n (m ||| 2 ^ i) pend t st
  | .many l=>yD (fun i=>fQ P ops bf i pend t st fun pend t st=>ck P ops bf rows K n (m ||| 2 ^ i) pend t st) l
def nW (ops:Array Oper) (bf:Array Nat):Bool:=
 ((List.range ops.size).all fun i=>match ops[i]? with
  | none=>false
  | some o=>(o.after.toList.all fun e=>!Region.binds .any e||decide (e.on<i)) &&
   (List.range ops.size).all fun j=>i==j||match (ops[j]?).bind (·.dst) with
    | none=>true
    | some d=>o.dst != some d&&(!(o.looksAt ops).contains d||(bf.getD i 0).testBit j||(bf.getD j 0).testBit i))
def jX (o:Op):List Tmp:=o.operands.toList.filterMap fun | .tmp t=>some t|_=>none
section
variable {P:Program} {t t':List LV}
theorem a7 {x:Operand} (h:∀ k,x=.tmp k→t.getD k aJ=t'.getD k aJ):ev t x=ev t' x:=by
 cases x<;>simp only[ev]
 rw[h _ rfl]
theorem fm:∀ {xs:List Operand},(∀ k,Operand.tmp k ∈ xs→t.getD k aJ=t'.getD k aJ)→evs t xs=evs t' xs
 | [],_=>rfl
 | x::xs,h=>by
  simp only[evs]
  rw[a7 (x:=x) (fun k e=>h k (by simp[e])),fm (xs:=xs) (fun k e=>h k (by simp[e]))]
theorem nX:∀ {xs:List (Nat × Operand)},(∀ k,Operand.tmp k ∈ xs.map (·.2)→t.getD k aJ=t'.getD k aJ)→evp t xs=evp t' xs
 | [],_=>rfl
 | (i,x)::xs,h=>by
  simp only[evp]
  rw[a7 (x:=x) (fun k e=>h k (by simp[e])),nX (xs:=xs) (fun k e=>h k (by simp only[List.map_cons,List.mem_cons];exact .inr e))]
theorem gu {x:Option Operand} (h:∀ k,x=some (.tmp k)→t.getD k aJ=t'.getD k aJ):evo t x=evo t' x:=by
 cases x with
 | none=>rfl
 | some x=>simp only[evo];rw[a7 (x:=x) (fun k e=>h k (by rw[e]))]
theorem jl {o:Op} {k:Nat}:k ∈ jX o↔Operand.tmp k ∈ o.operands:=by
 unfold jX
 rw[List.mem_filterMap]
 constructor
 ·rintro ⟨x,hx,e⟩
  cases x<;>simp at e
  subst e;simpa using hx
 ·intro h
  exact ⟨.tmp k,by simpa using h,rfl⟩
theorem xh {o:Op} (h:∀ k ∈ jX o,t.getD k aJ=t'.getD k aJ):fg P t o=fg P t' o:=by
 have h':∀ k,Operand.tmp k ∈ o.operands→t.getD k aJ=t'.getD k aJ:=fun k hk=>h k (jl.2 hk)
 clear h
 cases o<;>simp only[fg]<;>simp only[Op.operands] at h'
 case move x=>exact a7 fun k e=>h' k (by simp[e])
 case assign x=>exact a7 fun k e=>h' k (by simp[e])
 case pick c a b=>
  rw[a7 (x:=c) fun k e=>h' k (by simp[e]),a7 (x:=a) fun k e=>h' k (by simp[e]),a7 (x:=b) fun k e=>h' k (by simp[e])]
 case nilCheck x=>rw[a7 (x:=x) fun k e=>h' k (by simp[e])]
 case binOp op ty x y yt=>rw[a7 (x:=x) fun k e=>h' k (by simp[e]),a7 (x:=y) fun k e=>h' k (by simp[e])]
 case unOp op ty x=>rw[a7 (x:=x) fun k e=>h' k (by simp[e])]
 case convert s d x=>rw[a7 (x:=x) fun k e=>h' k (by simp[e])]
 case makeInterface ty x=>rw[a7 (x:=x) fun k e=>h' k (by simp[e])]
 case makeFunc fn xs ys=>rw[fm (xs:=xs.toList) fun k e=>h' k (by simp;left;simpa using e),fm (xs:=ys.toList) fun k e=>h' k (by simp;right;simpa using e)]
 case field ty x f=>rw[a7 (x:=x) fun k e=>h' k (by simp[e])]
 case fieldAddr ty x f=>rw[a7 (x:=x) fun k e=>h' k (by simp[e])]
 case indexAddr ty x i=>rw[a7 (x:=x) fun k e=>h' k (by simp[e]),a7 (x:=i) fun k e=>h' k (by simp[e])]
 case index ty x i=>rw[a7 (x:=x) fun k e=>h' k (by simp[e]),a7 (x:=i) fun k e=>h' k (by simp[e])]
 case slice ty x l hh m=>
  rw[a7 (x:=x) fun k e=>h' k (by simp[e]),gu (x:=l) fun k e=>h' k (by simp[e]),gu (x:=hh) fun k e=>h' k (by simp[e]),gu (x:=m) fun k e=>h' k (by simp[e])]
 case extract x i=>rw[a7 (x:=x) fun k e=>h' k (by simp[e])]
 case typeAssert x xt a ok=>rw[a7 (x:=x) fun k e=>h' k (by simp[e])]
 case build ty parts=>rw[nX (xs:=parts.toList) fun k e=>h' k (by simpa using e)]
 case call c=>rw[fm (xs:=c.args.toList) fun k e=>h' k (by simp only[Call.operands];exact Array.mem_append.2 (.inr (by simpa using e)))]
theorem xi {o:Op} {st:aa} (h:∀ k ∈ jX o,t.getD k aJ=t'.getD k aJ):jG P t st o=jG P t' st o:=by
 have h':∀ k,Operand.tmp k ∈ o.operands→t.getD k aJ=t'.getD k aJ:=fun k hk=>h k (jl.2 hk)
 clear h
 cases o<;>simp only[jG]<;>simp only[Op.operands] at h'
 case load ty x=>rw[a7 (x:=x) fun k e=>h' k (by simp[e])]
 case entry x=>rw[a7 (x:=x) fun k e=>h' k (by simp[e])]
 case lookup ty x k ok=>rw[a7 (x:=x) fun k e=>h' k (by simp[e]),a7 (x:=k) fun j e=>h' j (by simp[e])]
 case slice ty x l hh m=>
  rw[a7 (x:=x) fun k e=>h' k (by simp[e]),gu (x:=l) fun k e=>h' k (by simp[e]),gu (x:=hh) fun k e=>h' k (by simp[e]),gu (x:=m) fun k e=>h' k (by simp[e])]
 case convert s d x=>rw[a7 (x:=x) fun k e=>h' k (by simp[e])]
 case call c=>rw[fm (xs:=c.args.toList) fun k e=>h' k (by simp only[Call.operands];exact Array.mem_append.2 (.inr (by simpa using e)))]
theorem xj {o:Op} {st:aa} (h:∀ k ∈ jX o,t.getD k aJ=t'.getD k aJ):gk P t st o=gk P t' st o:=by
 have h':∀ k,Operand.tmp k ∈ o.operands→t.getD k aJ=t'.getD k aJ:=fun k hk=>h k (jl.2 hk)
 clear h
 cases o<;>simp only[gk]<;>simp only[Op.operands] at h'
 case box ty x=>rw[a7 (x:=x) fun k e=>h' k (by simp[e])]
 case buildSlice ty n parts=>rw[nX (xs:=parts.toList) fun k e=>h' k (by simpa using e)]
 case store ty p x=>rw[a7 (x:=p) fun k e=>h' k (by simp[e]),a7 (x:=x) fun k e=>h' k (by simp[e])]
 case makeMap ty r=>cases r<;>rfl
 case makeSlice ty l c=>rw[a7 (x:=l) fun k e=>h' k (by simp[e]),a7 (x:=c) fun k e=>h' k (by simp[e])]
 case mapUpdate ty m k x=>rw[a7 (x:=m) fun j e=>h' j (by simp[e]),a7 (x:=k) fun j e=>h' j (by simp[e]),a7 (x:=x) fun j e=>h' j (by simp[e])]
 case insert ty m k x=>rw[a7 (x:=m) fun j e=>h' j (by simp[e]),a7 (x:=k) fun j e=>h' j (by simp[e]),a7 (x:=x) fun j e=>h' j (by simp[e])]
 case mapEntry ty m k=>rw[a7 (x:=m) fun j e=>h' j (by simp[e]),a7 (x:=k) fun j e=>h' j (by simp[e])]
 case entryStore ty m k x=>rw[a7 (x:=m) fun j e=>h' j (by simp[e]),a7 (x:=k) fun j e=>h' j (by simp[e]),a7 (x:=x) fun j e=>h' j (by simp[e])]
 case range ty x=>rw[a7 (x:=x) fun j e=>h' j (by simp[e])]
 case next it s=>cases s<;>simp only[]<;>rw[a7 (x:=it) fun j e=>h' j (by simp[e])]
 case convert s d x=>rw[a7 (x:=x) fun k e=>h' k (by simp[e])]
 case call c=>rw[fm (xs:=c.args.toList) fun k e=>h' k (by simp only[Call.operands];exact Array.mem_append.2 (.inr (by simpa using e)))]
theorem rF {c:Call} (h:∀ k ∈ jX (.call c),t.getD k aJ=t'.getD k aJ):gp t c=gp t' c:=by
 have h':∀ k,Operand.tmp k ∈ c.operands→t.getD k aJ=t'.getD k aJ:=fun k hk=>h k (jl.2 hk)
 unfold gp
 cases hc:c.callee with
 | value f=>
  simp only
  rw[a7 (x:=f) fun k e=>h' k (by simp[Call.operands,hc,e]),fm (xs:=c.args.toList) fun k e=>h' k (by simp only[Call.operands];exact Array.mem_append.2 (.inr (by simpa using e)))]
 | invoke r m=>rfl
 | builtin b=>rfl
end
def In (D:Array Bool) (i:Nat):Prop:=D.getD i false=true
theorem In.set {D:Array Bool} {i j:Nat} (h:In D j):In (D.setIfInBounds i true) j:=getD_set_true h
theorem In.jY {D:Array Bool} {i j:Nat} (h:In (D.setIfInBounds i true) j):j=i∨In D j:=by
 by_cases e:i=j
 ·exact .inl e.symm
 ·right;unfold In at *;rwa [getD_set_ne false e] at h
theorem In.self {D:Array Bool} {i:Nat} (h:i<D.size):In (D.setIfInBounds i true) i:=by unfold In;simp[h]
section
variable {ops:Array Oper}
def oT (o:Oper) (D:Array Bool):Prop:=∀ e ∈ o.after,Region.binds .any e=true→In D e.on
structure fX (ops:Array Oper) (D:Array Bool):Prop where
 size:D.size=ops.size
 pre:∀ (i:Nat) (o:Oper),In D i→ops[i]?=some o→oT o D
theorem In.lt {D:Array Bool} {i:Nat} (h:In D i):i<D.size:=by
 unfold In at h
 rcases Nat.lt_or_ge i D.size with k|k
 ·exact k
 ·simp[Array.getElem?_eq_none k] at h
theorem mem_ready' {D:Array Bool} {i:Nat} (hs:D.size=ops.size):i ∈ Region.ready .any ops D↔¬ In D i∧∃ o,ops[i]?=some o∧oT o D:=by
 rw[mem_ready]
 constructor
 ·rintro ⟨h0,o,ho,h⟩
  refine ⟨fun hi=>?_,o,ho,h⟩
  have hlt:=hi.lt
  unfold In at hi
  simp[hlt] at h0 hi
  rw[h0] at hi;cases hi
 ·rintro ⟨h0,o,ho,h⟩
  refine ⟨?_,o,ho,h⟩
  have hlt:i<D.size:=by rw[hs];exact (Array.getElem?_eq_some_iff.1 ho).1
  unfold In at h0
  simp[hlt] at h0 ⊢
  exact h0
def qu (acc:Array Nat) (o:Oper):Nat:=o.after.foldl (fun s e=>if Region.binds .any e then s ||| 2 ^ e.on ||| acc.getD e.on 0 else s) 0
theorem xk {acc:Array Nat} {o:Oper} {j:Nat} (h:(qu acc o).testBit j=true):∃ e ∈ o.after,Region.binds .any e=true∧(j=e.on∨(acc.getD e.on 0).testBit j=true):=by
 unfold qu at h
 rw[← Array.foldl_toList] at h
 have key:∀ (l:List Edge) (s:Nat),(l.foldl (fun s e=>if Region.binds .any e then s ||| 2 ^ e.on ||| acc.getD e.on 0 else s) s).testBit j=true→
   s.testBit j=true∨∃ e ∈ l,Region.binds .any e=true∧(j=e.on∨(acc.getD e.on 0).testBit j=true):=by
  intro l
  induction l with
  | nil=>intro s h;exact .inl h
  | cons e l ih=>
   intro s h
   simp only[List.foldl_cons] at h
   rcases ih _ h with h|⟨e',he',h'⟩
   ·split at h
    ·rename_i hb
     rw[Nat.testBit_or,Nat.testBit_or,Bool.or_eq_true,Bool.or_eq_true] at h
     rcases h with (h|h) | h
     ·exact .inl h
     ·rw[Nat.testBit_two_pow] at h
      exact .inr ⟨e,by simp,hb,.inl (by simpa using (of_decide_eq_true h).symm)⟩
     ·exact .inr ⟨e,by simp,hb,.inr h⟩
    ·exact .inl h
   ·exact .inr ⟨e',by simp[he'],h'⟩
 rcases key _ _ h with h|⟨e,he,h⟩
 ·simp at h
 ·exact ⟨e,by simpa using he,h⟩
theorem zQ:Region.before ops=ops.toList.foldl (fun acc o=>acc.push (qu acc o)) #[]:=by
 unfold Region.before
 rw[← Array.foldl_toList];rfl
theorem yE:∀ (l:List Oper) (acc:Array Nat),∃ r:List Nat,(l.foldl (fun acc o=>acc.push (qu acc o)) acc).toList=acc.toList++r∧r.length=l.length∧
  ∀ i o,l[i]?=some o→r[i]?=some (qu ⟨acc.toList++r.take i⟩ o)
 | [],acc=>⟨[],by simp,rfl,by simp⟩
 | o::l,acc=>by
  obtain ⟨r,h1,h2,h3⟩:=yE l (acc.push (qu acc o))
  refine ⟨qu acc o::r,by simp[h1],by simp[h2],?_⟩
  intro i o' hi
  cases i with
  | zero=>simp at hi;subst hi;simp
  | succ i=>
   simp at hi
   have:=h3 i o' hi
   simp only[List.getElem?_cons_succ,List.take_succ_cons]
   rw[this]
   simp
theorem uS {i j:Nat} {o:Oper} (ho:ops[i]?=some o) (h:((Region.before ops).getD i 0).testBit j=true) :
  ∃ e ∈ o.after,Region.binds .any e=true∧(j=e.on∨((Region.before ops).getD e.on 0).testBit j=true):=by
 obtain ⟨r,h1,h2,h3⟩:=yE ops.toList #[]
 rw[← zQ] at h1
 simp only[List.nil_append] at h1 h3
 have hb:∀ k,(Region.before ops).getD k 0=r.getD k 0:=by
  intro k
  rw[← h1]
  simp[Array.getD_eq_getD_getElem?,List.getD_eq_getElem?_getD]
 rw[hb] at h
 have hr:=h3 i o (by simpa using ho)
 rw[List.getD_eq_getElem?_getD,hr,Option.getD_some] at h
 obtain ⟨e,he,hbi,h⟩:=xk h
 refine ⟨e,he,hbi,?_⟩
 rcases h with h|h
 ·exact .inl h
 ·right
  rw[hb]
  rw[Array.getD_eq_getD_getElem?,List.getElem?_toArray,List.getElem?_take] at h
  split at h
  ·rw[List.getD_eq_getElem?_getD];exact h
  ·simp at h
structure Ok (ops:Array Oper):Prop where
 lex:∀ (i:Nat) (o:Oper),ops[i]?=some o→∀ e ∈ o.after,Region.binds .any e=true→e.on<i
 dst:∀ (i j:Nat) (o o':Oper) (d:Nat),i≠j→ops[i]?=some o→ops[j]?=some o'→o'.dst=some d→o.dst≠some d
 names:∀ (i j:Nat) (o o':Oper) (d:Nat),i≠j→ops[i]?=some o→ops[j]?=some o'→o'.dst=some d→d ∈ o.looksAt ops→
  ((Region.before ops).getD i 0).testBit j=true∨((Region.before ops).getD j 0).testBit i=true
theorem yF (h:nW ops (Region.before ops)=true):Ok ops:=by
 unfold nW at h
 rw[List.all_eq_true] at h
 have row:∀ (i:Nat) (o:Oper),ops[i]?=some o→(∀ e ∈ o.after,Region.binds .any e=true→e.on<i)∧∀ (j:Nat) (o':Oper) (d:Nat),i≠j→ops[j]?=some o'→o'.dst=some d→
   o.dst≠some d∧(d ∈ o.looksAt ops→((Region.before ops).getD i 0).testBit j=true∨((Region.before ops).getD j 0).testBit i=true):=by
  intro i o ho
  have hi:=h i (by simpa using (Array.getElem?_eq_some_iff.1 ho).1)
  simp only[ho,Bool.and_eq_true,List.all_eq_true] at hi
  refine ⟨fun e he hbd=>by
   have h1:=hi.1 e (by simpa using he)
   simp only[hbd,Bool.not_true,Bool.false_or,decide_eq_true_eq] at h1
   exact h1,?_⟩
  intro j o' d hne hj hd
  have h2:=hi.2 j (by simpa using (Array.getElem?_eq_some_iff.1 hj).1)
  simp only[hj,Option.bind_some,hd,Bool.or_eq_true,beq_iff_eq,Bool.and_eq_true,bne_iff_ne,Bool.not_eq_true',List.contains_eq_mem,decide_eq_false_iff_not] at h2
  rcases h2 with h2|⟨h2,h3⟩
  ·exact absurd h2 hne
  ·refine ⟨h2,fun hd'=>?_⟩
   rcases h3 with (h3|h3) | h3
   ·exact absurd hd' h3
   ·exact .inl h3
   ·exact .inr h3
 exact ⟨fun i o ho=>(row i o ho).1,fun i j o o' d hne ho hj hd=>((row i o ho).2 j o' d hne hj hd).1,fun i j o o' d hne ho hj hd=>((row i o ho).2 j o' d hne hj hd).2⟩
theorem fX.anc {D:Array Bool} (hc:fX ops D) (hok:Ok ops):∀ (i:Nat) {o:Oper} {j:Nat},ops[i]?=some o→oT o D→((Region.before ops).getD i 0).testBit j=true→In D j:=by
 intro i
 induction i using Nat.strongRecOn with
 | _ i ih=>
  intro o j ho hp hb
  obtain ⟨e,he,hbi,h⟩:=uS ho hb
  have hin:=hp e he hbi
  rcases h with h|h
  ·subst h;exact hin
  ·have hlt:e.on<ops.size:=by rw[← hc.size];exact hin.lt
   have ho':ops[e.on]?=some ops[e.on]:=Array.getElem?_eq_getElem hlt
   exact ih e.on (hok.lex i o ho e he hbi) ho' (hc.pre _ _ hin ho') h
structure Agr (ops:Array Oper) (T0 T:List LV) (D:Array Bool) (TD:List LV):Prop where
 len:TD.length=T0.length
 wr:∀ (i:Nat) (o:Oper) (d:Nat),In D i→ops[i]?=some o→o.dst=some d→TD[d]?=T[d]?
 un:∀ (k:Nat),(∀ (i:Nat) (o:Oper),In D i→ops[i]?=some o→o.dst≠some k)→TD[k]?=T0[k]?
theorem Agr.look {T0 T T1 T2:List LV} {D1 D2:Array Bool} {j:Nat} {o:Oper} (hok:Ok ops) (c1:fX ops D1) (c2:fX ops D2) (a1:Agr ops T0 T D1 T1) (a2:Agr ops T0 T D2 T2)
  (ho:ops[j]?=some o) (p1:oT o D1) (p2:oT o D2) (n1:¬ In D1 j) (n2:¬ In D2 j):∀ k ∈ o.looksAt ops,T1.getD k aJ=T2.getD k aJ:=by
 intro k hk
 have same:∀ (i:Nat) (o':Oper),ops[i]?=some o'→o'.dst=some k→(In D1 i↔In D2 i):=by
  intro i o' hi hd
  by_cases e:i=j
  ·subst e;exact ⟨fun h=>absurd h n1,fun h=>absurd h n2⟩
  ·rcases hok.names j i o o' k (fun h=>e h.symm) ho hi hd hk with h|h
   ·exact ⟨fun _=>c2.anc hok j ho p2 h,fun _=>c1.anc hok j ho p1 h⟩
   ·exact ⟨fun hi'=>absurd (c1.anc hok i hi (c1.pre _ _ hi' hi) h) n1,fun hi'=>absurd (c2.anc hok i hi (c2.pre _ _ hi' hi) h) n2⟩
 have:T1[k]?=T2[k]?:=by
  by_cases hw:∃ (i:Nat) (o':Oper),In D1 i∧ops[i]?=some o'∧o'.dst=some k
  ·obtain ⟨i,o',hi,ho',hd⟩:=hw
   rw[a1.wr i o' k hi ho' hd,a2.wr i o' k ((same i o' ho' hd).1 hi) ho' hd]
  ·rw[a1.un k (fun i o' hi ho' hd=>hw ⟨i,o',hi,ho',hd⟩),a2.un k (fun i o' hi ho' hd=>hw ⟨i,o',(same i o' ho' hd).2 hi,ho',hd⟩)]
 simp only[List.getD_eq_getElem?_getD,this]
theorem jZ {t:List LV} {dst:Option Tmp} {v:LV} {k:Nat} (h:dst≠some k):(bQ t dst v)[k]?=t[k]?:=by
 cases dst with
 | none=>rfl
 | some d=>
  simp only[bQ]
  rw[List.getElem?_set_ne (fun e=>h (by rw[e]))]
theorem gJ {t:List LV} {dst:Option Tmp} {v:LV}:(bQ t dst v).length=t.length:=by
 cases dst<;>simp[bQ]
theorem Agr.walk {T0 T TD:List LV} {D:Array Bool} {i:Nat} {o:Oper} {v:LV} (hok:Ok ops) (a:Agr ops T0 T D TD) (ho:ops[i]?=some o) (hn:¬ In D i):Agr ops T0 (bQ T o.dst v) D TD:=by
 refine ⟨a.len,?_,a.un⟩
 intro j o' d hj ho' hd
 rw[a.wr j o' d hj ho' hd,jZ (hok.dst i j o o' d (fun e=>hn (e ▸ hj)) ho ho' hd)]
theorem Agr.grow {T0 T TD:List LV} {D:Array Bool} {i:Nat} {o:Oper} {v:LV} (hok:Ok ops) (a:Agr ops T0 T D TD) (ho:ops[i]?=some o) (hi:i<D.size) (hT:T.length=T0.length)
  (hv:∀ d,o.dst=some d→d<T.length→T[d]?=some v):Agr ops T0 T (D.setIfInBounds i true) (bQ TD o.dst v):=by
 refine ⟨by rw[gJ];exact a.len,?_,?_⟩
 ·intro j o' d hj ho' hd
  rcases hj.jY with e|hj
  ·subst e
   rw[ho] at ho';cases ho'
   rw[hd]
   simp only[bQ]
   by_cases hlt:d<T.length
   ·rw[hv d hd hlt,List.getElem?_set_self (by rw[a.len,← hT];exact hlt)]
   ·rw[List.getElem?_eq_none (by rw[List.length_set,a.len,← hT];omega),List.getElem?_eq_none (by omega)]
  ·by_cases e:i=j
   ·subst e
    rw[ho] at ho';cases ho'
    rw[hd]
    simp only[bQ]
    by_cases hlt:d<T.length
    ·rw[hv d hd hlt,List.getElem?_set_self (by rw[a.len,← hT];exact hlt)]
    ·rw[List.getElem?_eq_none (by rw[List.length_set,a.len,← hT];omega),List.getElem?_eq_none (by omega)]
   ·rw[jZ (hok.dst i j o o' d e ho ho' hd)]
    exact a.wr j o' d hj ho' hd
 ·intro k hk
  rw[jZ (hk i o (In.self hi) ho)]
  exact a.un k fun j o' hj ho'=>hk j o' hj.set ho'
theorem fX.set {D:Array Bool} {i:Nat} {o:Oper} (hc:fX ops D) (ho:ops[i]?=some o) (hp:oT o D):fX ops (D.setIfInBounds i true):=by
 refine ⟨by simpa using hc.size,?_⟩
 intro j o' hj ho' e he hb
 rcases hj.jY with h|h
 ·subst h;rw[ho] at ho';cases ho';exact (hp e he hb).set
 ·exact (hc.pre j o' h ho' e he hb).set
theorem fX.all {D:Array Bool} (hc:fX ops D) (hok:Ok ops) (h:Region.ready .any ops D=[]):∀ i,i<ops.size→In D i:=by
 intro i
 induction i using Nat.strongRecOn with
 | _ i ih=>
  intro hi
  have ho:ops[i]?=some ops[i]:=Array.getElem?_eq_getElem hi
  refine Classical.byContradiction fun hn=>?_
  have:i ∈ Region.ready .any ops D:=(mem_ready' hc.size).2 ⟨hn,_,ho,fun e he hb=>ih e.on (hok.lex i _ ho e he hb) (Nat.lt_trans (hok.lex i _ ho e he hb) hi)⟩
  rw[h] at this;simp at this
end
end Go.CP
