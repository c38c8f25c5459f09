/- Parts of the proof. -/
import Derived.Test.YtknegckgmklnhaaGreatDoorCp29
namespace Go.CP
abbrev Ora:=FuncId→List LV→aa→Option (LV × aa)
def nh (P:Program) (C:Ora):Prop:=∀ f xs st v st',C f xs st=some (v,st')→∀ K:LV→aa→Prop,K v st'→aw P f xs st K
def Bv {α:Type} (m:Nat) (K:Nat→α):α:=match m with
 | 0=>K 0
 | m+1=>K (m+1)
def Bx {α:Type} (n:Int) (K:Int→α):α:=match n with
 | .ofNat m=>Bv m fun m=>K (.ofNat m)
 | .negSucc m=>Bv m fun m=>K (.negSucc m)
def wB {α:Type} (v:LV) (K:LV→α):α:=match v with
 | .bool b=>(match b with|true=>K (.bool true) | false=>K (.bool false))
 | .int k n=>Bx n fun n=>K (.int k n)
 | v=>K v
def qo {β α:Type} (l:List β) (K:List β→α):α:=match l with
 | []=>K []
 | a::l=>qo l fun l'=>K (a::l')
theorem Fx {α:Type} {m:Nat} {K:Nat→α}:Bv m K=K m:=by cases m<;>rfl
theorem Fy {α:Type} {n:Int} {K:Int→α}:Bx n K=K n:=by cases n<;>simp only[Bx,Fx]
theorem mx {α:Type} {v:LV} {K:LV→α}:wB v K=K v:=by
 cases v<;>simp only[wB,Fy]
 rename_i b;cases b<;>rfl
theorem jQ {β α:Type}:∀ {l:List β} {K:List β→α},qo l K=K l
 | [],_=>rfl
 | _::l,_=>by simp only[qo];exact jQ (l:=l)
def q6 (P:Program) (C:Ora) (o:Oper) (t:List LV) (st:aa):Option (LV × aa):=match cls P o.op with
 | .A=>(match gi P t o.op with
  | some v=>wB v fun v=>some (v,st)
  | none=>none)
 | .L=>(match lh P t st o.op with
  | some v=>wB v fun v=>some (v,st)
  | none=>none)
 | .W=>iC P t st o.op
 | .C=>(match o.op with
  | .call c=>(match iE t c with
   | some (f,xs)=>C f xs st
   | none=>none)
  | _=>none)
 | .N=>(match o.op with
  | .next it false=>(match ev t it with
   | some x=>mU st x
   | none=>none)
  | _=>none)
 | .no=>none
def q7 (ops:Array Oper) (o:Oper) (t:List LV):Option Bool:=match o.guard with
 | none=>some true
 | some (j,want)=>match (ops[j]?).bind (·.dst) with
  | none=>none
  | some d=>match t.getD d aQ with
   | .bool b=>some (b==want)
   | .tup []=>(match guarded ops j with
    | true=>some false
    | false=>none)
   | _=>none
def sY (b:Bool) (v:LV):Bool:=match b with
 | false=>true
 | true=>match v with
  | .bool _=>true
  | _=>false
theorem iK {b:Bool} {v:LV} {K:LV→Prop} (h:sY b v=true) (hk:K v):cV b v K:=by
 unfold sY at h
 unfold cV
 split at h
 ·exact hk
 ·split at h
  ·rename_i c;cases c<;>exact hk
  ·cases h
def kG (P:Program) (C:Ora) (ops:Array Oper):List Nat→List LV→aa→Option (List LV × aa)
 | [],t,st=>qo t fun t=>some (t,st)
 | i::rest,t,st=>match ops[i]? with
  | none=>none
  | some o=>match q7 ops o t with
   | none=>none
   | some true=>(match q6 P C o t st with
    | some (v,st')=>(match sY (ej ops i) v with
     | true=>kG P C ops rest (cC t o.dst v) st'
     | false=>none)
    | none=>none)
   | some false=>kG P C ops rest (cC t o.dst aQ) st
def q8 (P:Program) (ops:Array Oper) (bf:Array Nat) (i:Nat) (st:aa):List (Nat × List LV × LV)→Bool
 | []=>true
 | (j,t,v)::r=>match (bf.getD i 0).testBit j with
  | true=>q8 P ops bf i st r
  | false=>match ops[j]? with
   | some o=>(match lh P t st o.op with
    | some u=>(match LV.same u v with
     | true=>q8 P ops bf i st r
     | false=>false)
    | none=>false)
   | none=>false
def my (f:Nat→Option (List (List Nat))):List Nat→Option (List (List Nat))
 | []=>some []
 | i::l=>match f i,my f l with
  | some a,some b=>some (a.map (i::·)++b)
  | _,_=>none
def jB (rows:List (Nat × Bool)):Nat→Nat→Option (List (List Nat))
 | 0,m=>match gp rows m with
  | .done=>some [[]]
  | _=>none
 | n+1,m=>match gp rows m with
  | .done=>some [[]]
  | .one i=>(match jB rows n (m ||| 2 ^ i) with
   | some a=>some (a.map (i::·))
   | none=>none)
  | .many l=>my (fun i=>jB rows n (m ||| 2 ^ i)) l
def dU (P:Program) (C:Ora) (ops:Array Oper) (bf:Array Nat):List Nat→List (Nat × List LV × LV)→List LV→aa→Option (List LV × aa)
 | [],_,t,st=>qo t fun t=>some (t,st)
 | i::l,pend,t,st=>match ops[i]? with
  | none=>none
  | some o=>match q7 ops o t with
   | none=>none
   | some true=>(match q6 P C o t st with
    | some (v,st')=>(match sY (ej ops i) v with
     | false=>none
     | true=>(match cls P o.op with
      | .A=>dU P C ops bf l pend (cC t o.dst v) st'
      | .L=>dU P C ops bf l ((i,t,v)::pend) (cC t o.dst v) st'
      | _=>(match q8 P ops bf i st' pend with
       | true=>dU P C ops bf l pend (cC t o.dst v) st'
       | false=>none)))
    | none=>none)
   | some false=>dU P C ops bf l pend (cC t o.dst aQ) st
def zi:List LV→List LV→List (LV × LV)→List (LV × LV)
 | a::as,b::bs,w=>(a,b)::zi as bs w
 | _,_,w=>w
def O1:List (LV × LV)→List (LV × LV)→List (LV × LV)→List (LV × LV)
 | a::as,b::bs,w=>(a.1,b.1)::(a.2,b.2)::O1 as bs w
 | _,_,w=>w
def O2 (x y:Option ar) (w:List (LV × LV)):List (LV × LV):=match x,y with
 | some (.cells _ a),some (.cells _ b)=>zi a b w
 | some (.map _ a _ _),some (.map _ b _ _)=>O1 a b w
 | _,_=>w
def O3 (n:Nat) (m:List (Nat × Nat)) (o p:Nat):Bool:=match Nat.ble n o&&Nat.ble n p with
 | true=>(match m.find? (fun q=>q.1==o||q.2==p) with
  | some _=>false
  | none=>true)
 | false=>false
def uni (n:Nat) (s c:aa):Nat→List (LV × LV)→List (Nat × Nat)→List (Nat × Nat)
 | 0,_,m=>m
 | k+1,w,m=>match w with
  | []=>m
  | (a,b)::w=>
   let obj (o p:Nat):List (Nat × Nat):=(match O3 n m o p with
    | true=>uni n s c k (O2 s[o]? c[p]? w) ((o,p)::m)
    | false=>uni n s c k w m)
   match a,b with
   | .ptr o _,.ptr p _=>obj o p
   | .sl o _ _ _,.sl p _ _ _=>obj o p
   | .map o,.map p=>obj o p
   | .agg x,.agg y=>uni n s c k (zi x y w) m
   | .tup x,.tup y=>uni n s c k (zi x y w) m
   | .iface _ x,.iface _ y=>uni n s c k ((x,y)::w) m
   | .fn _ x u,.fn _ y v=>uni n s c k (zi x y (zi u v w)) m
   | _,_=>uni n s c k w m
def M6:aa→aa→List (LV × LV)→List (LV × LV)
 | x::s,y::c,w=>O2 (some x) (some y) (M6 s c w)
 | _,_,w=>w
def O4 (n:Nat) (m:List (Nat × Nat)):Nat→aa→aa
 | _,[]=>[]
 | o,x::s=>(match Nat.blt o n with
  | true=>x
  | false=>match m.find? (fun q=>q.2==o) with
   | some _=>x
   | none=>.dead)::O4 n m (o+1) s
def wC (P:Program) (C:Ora) (ops:Array Oper) (bf:Array Nat) (n:Nat) (t:List LV) (st:aa) (tc:List LV) (c:aa):List (List Nat)→Bool
 | []=>true
 | l::ls=>match dU P C ops bf l [] t st with
  | some (t',s')=>(match zg n (uni n s' c 10000 (zi t' tc (M6 (s'.take n) (c.take n) [])) []) t' s' tc c with
   | true=>wC P C ops bf n t st tc c ls
   | false=>false)
  | none=>false
def Dn (P:Program) (C:Ora) (ops:Array Oper) (bf:Array Nat) (ls:List (List Nat)) (t:List LV) (st:aa):Option (List LV × aa):=match ls with
 | []=>none
 | [l]=>dU P C ops bf l [] t st
 | l::ls=>match dU P C ops bf l [] t st with
  | none=>none
  | some (tc,sc)=>qo (O4 st.length (uni st.length sc sc 10000 (zi tc tc (M6 (sc.take st.length) (sc.take st.length) [])) []) 0 sc) fun c=>
   match wC P C ops bf st.length t st tc c (l::ls) with
   | true=>some (tc,c)
   | false=>none
def Bz (P:Program) (t:List LV) (st:aa):List ResultVar→Option (List LV)
 | []=>some []
 | .tmp i::rs=>(match Bz P t st rs with
  | some vs=>some (t.getD i aQ::vs)
  | none=>none)
 | .cell a ty::rs=>match sh P st ty (t.getD a aQ),Bz P t st rs with
  | some v,some vs=>some (v::vs)
  | _,_=>none
def J2 (P:Program) (rs:List ResultVar) (t:List LV) (st:aa):Option (LV × aa):=match Bz P t st rs with
 | some vs=>some (Dl vs,st)
 | none=>none
section
variable {P:Program} {C:Ora}
theorem zj {st st':aa} {x v:LV} (h:mU st x=some (v,st')):eh st x=some [(v,st')]:=by
 unfold mU at h
 split at h
 case h_2=>cases h
 rename_i r
 split at h
 ·rename_i a1 a2 a3 hr
  cases h
  unfold eh;simp only[hr]
 ·rename_i cur hr
  cases h
  unfold eh;simp only[hr]
 ·rename_i cur e hr
  cases h
  unfold eh;simp only[hr,iv,List.map_cons,List.map_nil]
 ·rename_i o since seen last hr
  split at h
  case h_2=>cases h
  rename_i md es bs n ho
  split at h
  case isFalse=>cases h
  rename_i hg
  split at h
  ·rename_i hl
   cases h
   unfold eh;simp only[hr,ho,if_pos hg,hl]
  ·rename_i e bb hl
   split at h
   case isFalse=>cases h
   rename_i hlt
   cases h
   unfold eh;simp only[hr,ho,if_pos hg,hl]
   rw[if_pos (by simpa using hlt)]
   rfl
  ·cases h
 ·cases h
theorem Fz {st st':aa} {x v:LV} {K:LV→aa→Prop} (h:mU st x=some (v,st')) (hk:K v st'):lr st x K:=by
 unfold lr
 rw[zj h]
 exact ⟨hk,trivial⟩
theorem q9 (hC:nh P C) {o:Oper} {t:List LV} {st st':aa} {v:LV} {K:LV→aa→Prop} (h:q6 P C o t st=some (v,st')) (hk:K v st'):gU P o t st K:=by
 unfold q6 at h
 unfold gU
 split at h<;>rename_i e<;>simp only[e]
 ·split at h
  ·rename_i u hu
   rw[mx] at h;cases h
   rw[hu];exact hk
  ·cases h
 ·split at h
  ·rename_i u hu
   rw[mx] at h;cases h
   rw[hu];exact hk
  ·cases h
 ·rw[h];exact hk
 ·split at h
  ·rename_i c e
   simp only[e]
   split at h
   ·rename_i f xs hx
    rw[hx];exact hC _ _ _ _ _ h K hk
   ·cases h
  ·cases h
 ·split at h
  ·rename_i it e
   simp only[e]
   split at h
   ·rename_i x hx
    rw[hx];exact Fz h hk
   ·cases h
  ·cases h
 ·cases h
def M7 (want:Bool) (p q:Prop):Prop:=match want with
 | true=>p
 | false=>q
theorem sZ {ops:Array Oper} {o:Oper} {t:List LV} {b:Bool} {j:Nat} {want:Bool} (hg:o.guard=some (j,want)) (h:q7 ops o t=some b):∃ d,(ops[j]?).bind (·.dst)=some d∧
  ∀ (run skip:List LV→Prop),(cond b (run t) (skip t))→
   E7 (guarded ops j) (t.getD d aQ) (M7 want (run (t.set d (.bool true))) (skip (t.set d (.bool true)))) (M7 want (skip (t.set d (.bool false))) (run (t.set d (.bool false)))) (skip t):=by
 unfold q7 at h
 simp only[hg] at h
 split at h
 ·cases h
 ·rename_i d hd
  refine ⟨d,hd,fun run skip hr=>?_⟩
  split at h
  ·rename_i c hc
   cases h
   have hs:=(fG hc).2
   rw[hc]
   cases c<;>cases want<;>cases hgd:guarded ops j<;>simp only[E7,aq,E6,M7]<;>rw[hs]<;>exact hr
  ·rename_i hc
   rw[hc]
   split at h
   ·rename_i hgd
    cases h
    rw[hgd];exact hr
   ·cases h
  ·cases h
theorem iG (hC:nh P C) {ops:Array Oper} {K:List LV→aa→Prop}:∀ {l:List Nat} {t t':List LV} {st st':aa},
  kG P C ops l t st=some (t',st')→K t' st'→cL P ops l K t st
 | [],t,t',st,st',h,hk=>by simp only[kG,jQ] at h;cases h;exact hk
 | i::rest,t,t',st,st',h,hk=>by
  have go:∀ {t st},kG P C ops rest t st=some (t',st')→cL P ops rest K t st:=fun h=>iG hC h hk
  unfold kG at h
  unfold cL
  cases ho:ops[i]? with
  | none=>simp only[ho] at h;cases h
  | some o=>
   simp only[ho] at h ⊢
   cases hw:q7 ops o t with
   | none=>simp only[hw] at h;cases h
   | some b=>
    have fin:cond b (gU P o t st fun v st'=>cV (ej ops i) v fun v=>force (cC t o.dst v) fun t=>cL P ops rest K t st') (force (cC t o.dst aQ) fun t=>cL P ops rest K t st):=by
     cases b with
     | true=>
      simp only[hw] at h
      split at h
      ·rename_i v s hv
       split at h
       ·rename_i hb
        refine q9 (K:=fun v st'=>cV (ej ops i) v fun v=>force (cC t o.dst v) fun t=>cL P ops rest K t st') hC hv (iK hb ?_)
        show force _ _
        rw[force_eq];exact go h
       ·cases h
      ·cases h
     | false=>
      simp only[hw] at h
      show force _ _
      rw[force_eq];exact go h
    cases hg:o.guard with
    | none=>
     simp only
     have:b=true:=by simp only[q7,hg] at hw;cases hw;rfl
     subst this;exact fin
    | some p=>
     obtain ⟨j,want⟩:=p
     obtain ⟨d,hd,hs⟩:=sZ hg hw
     simp only[hd]
     have:=hs (fun t=>gU P o t st fun v st'=>cV (ej ops i) v fun v=>force (cC t o.dst v) fun t=>cL P ops rest K t st') (fun t=>force (cC t o.dst aQ) fun t=>cL P ops rest K t st) fin
     cases want<;>exact this
theorem hU {ops:Array Oper} {bf:Array Nat} {i:Nat} {st:aa} {R:Prop}:∀ {pend:List (Nat × List LV × LV)},q8 P ops bf i st pend=true→R→recheck P ops bf i st pend R
 | [],_,hr=>hr
 | (j,t,v)::r,h,hr=>by
  unfold q8 at h
  unfold recheck
  cases hb:(bf.getD i 0).testBit j with
  | true=>simp only[hb] at h ⊢;exact hU h hr
  | false=>
   simp only[hb] at h ⊢
   cases ho:ops[j]? with
   | none=>simp only[ho] at h;cases h
   | some o=>
    simp only[ho] at h ⊢
    split at h
    ·rename_i u hu
     split at h
     ·rename_i hs;exact ⟨by rw[hu,LV.gH hs],hU h hr⟩
     ·cases h
    ·cases h
theorem zk (hC:nh P C) {ops:Array Oper} {bf:Array Nat} {i:Nat} {l:List Nat} {pend:List (Nat × List LV × LV)} {t t':List LV} {st st':aa} {next:List (Nat × List LV × LV)→List LV→aa→Prop}
  (h:dU P C ops bf (i::l) pend t st=some (t',st')):∃ p1 t1 s1,(∀ l',dU P C ops bf (i::l') pend t st=dU P C ops bf l' p1 t1 s1)∧(next p1 t1 s1→hJ P ops bf i pend t st next):=by
 unfold dU at h
 cases ho:ops[i]? with
 | none=>simp only[ho] at h;cases h
 | some o=>
  simp only[ho] at h
  cases hw:q7 ops o t with
  | none=>simp only[hw] at h;cases h
  | some b=>
   have fin:cond b (eD P ops bf i o pend t st fun p v s=>cV (ej ops i) v fun v=>force (cC t o.dst v) fun t=>next p t s) (force (cC t o.dst aQ) fun t=>next pend t st)→
     hJ P ops bf i pend t st next:=by
    intro fin
    unfold hJ
    simp only[ho]
    cases hg:o.guard with
    | none=>
     simp only
     have:b=true:=by simp only[q7,hg] at hw;cases hw;rfl
     subst this;exact fin
    | some p=>
     obtain ⟨j,want⟩:=p
     obtain ⟨d,hd,hs⟩:=sZ hg hw
     simp only[hd]
     have:=hs (fun t=>eD P ops bf i o pend t st fun p v s=>cV (ej ops i) v fun v=>force (cC t o.dst v) fun t=>next p t s) (fun t=>force (cC t o.dst aQ) fun t=>next pend t st) fin
     cases want<;>exact this
   cases b with
   | false=>
    refine ⟨pend,cC t o.dst aQ,st,fun l'=>?_,fun hn=>fin (by show force _ _;rw[force_eq];exact hn)⟩
    rw[dU];simp only[ho,hw]
   | true=>
    simp only[hw] at h
    cases hv:q6 P C o t st with
    | none=>simp only[hv] at h;cases h
    | some r=>
     obtain ⟨v,s⟩:=r
     simp only[hv] at h
     cases hbi:sY (ej ops i) v with
     | false=>simp only[hbi] at h;cases h
     | true=>
     simp only[hbi] at h
     have hop:=fun (K:LV→aa→Prop) (hk:K v s)=>q9 hC hv hk
     cases hc:cls P o.op with
     | A=>
      refine ⟨pend,cC t o.dst v,s,fun l'=>?_,fun hn=>fin ?_⟩
      ·rw[dU];simp only[ho,hw,hv,hbi,hc]
      ·have:=hop (fun v s=>cV (ej ops i) v fun v=>force (cC t o.dst v) fun t=>next pend t s) (iK hbi (by rw[force_eq];exact hn))
       show eD P ops bf i o pend t st fun p v s=>cV (ej ops i) v fun v=>force (cC t o.dst v) fun t=>next p t s
       unfold gU at this
       unfold eD
       simp only[hc] at this ⊢
       unfold q6 at hv
       simp only[hc] at hv
       split at hv
       ·rw[mx] at hv;cases hv;exact this
       ·cases hv
     | L=>
      refine ⟨(i,t,v)::pend,cC t o.dst v,s,fun l'=>?_,fun hn=>fin ?_⟩
      ·rw[dU];simp only[ho,hw,hv,hbi,hc]
      ·show eD P ops bf i o pend t st fun p v s=>cV (ej ops i) v fun v=>force (cC t o.dst v) fun t=>next p t s
       unfold eD
       unfold q6 at hv
       simp only[hc] at hv ⊢
       split at hv
       ·rename_i u hu
        rw[mx] at hv;cases hv
        rw[hu]
        rw[ab]
        refine iK hbi ?_
        rw[force_eq];exact hn
       ·cases hv
     | W=>
      simp only[hc] at h
      cases hr:q8 P ops bf i s pend with
      | false=>simp only[hr] at h;cases h
      | true=>
       refine ⟨pend,cC t o.dst v,s,fun l'=>?_,fun hn=>fin ?_⟩
       ·rw[dU];simp only[ho,hw,hv,hbi,hc,hr]
       ·have:=hop (fun v s=>recheck P ops bf i s pend (cV (ej ops i) v fun v=>force (cC t o.dst v) fun t=>next pend t s)) (hU hr (iK hbi (by rw[force_eq];exact hn)))
        show eD P ops bf i o pend t st fun p v s=>cV (ej ops i) v fun v=>force (cC t o.dst v) fun t=>next p t s
        unfold gU at this
        unfold eD
        simp only[hc] at this ⊢
        exact this
     | C=>
      simp only[hc] at h
      cases hr:q8 P ops bf i s pend with
      | false=>simp only[hr] at h;cases h
      | true=>
       refine ⟨pend,cC t o.dst v,s,fun l'=>?_,fun hn=>fin ?_⟩
       ·rw[dU];simp only[ho,hw,hv,hbi,hc,hr]
       ·have:=hop (fun v s=>recheck P ops bf i s pend (cV (ej ops i) v fun v=>force (cC t o.dst v) fun t=>next pend t s)) (hU hr (iK hbi (by rw[force_eq];exact hn)))
        show eD P ops bf i o pend t st fun p v s=>cV (ej ops i) v fun v=>force (cC t o.dst v) fun t=>next p t s
        unfold gU at this
        unfold eD
        simp only[hc] at this ⊢
        exact this
     | N=>
      simp only[hc] at h
      cases hr:q8 P ops bf i s pend with
      | false=>simp only[hr] at h;cases h
      | true=>
       refine ⟨pend,cC t o.dst v,s,fun l'=>?_,fun hn=>fin ?_⟩
       ·rw[dU];simp only[ho,hw,hv,hbi,hc,hr]
       ·have:=hop (fun v s=>recheck P ops bf i s pend (cV (ej ops i) v fun v=>force (cC t o.dst v) fun t=>next pend t s)) (hU hr (iK hbi (by rw[force_eq];exact hn)))
        show eD P ops bf i o pend t st fun p v s=>cV (ej ops i) v fun v=>force (cC t o.dst v) fun t=>next p t s
        unfold gU at this
        unfold eD
        simp only[hc] at this ⊢
        exact this
     | no=>
      unfold q6 at hv
      simp only[hc] at hv
      cases hv
theorem zl {f:Nat→Prop}:∀ {l:List Nat},(∀ i ∈ l,f i)→Dg f l
 | [],_=>trivial
 | [x],h=>h x (by simp)
 | x::y::l,h=>⟨h x (by simp),zl fun i hi=>h i (List.mem_cons_of_mem _ hi)⟩
theorem iX {f:Nat→Option (List (List Nat))}:∀ {l:List Nat} {ls:List (List Nat)},my f l=some ls→∀ i ∈ l,∃ a,f i=some a∧∀ x ∈ a,i::x ∈ ls
 | [],ls,_,i,hi=>by simp at hi
 | j::l,ls,h,i,hi=>by
  simp only[my] at h
  split at h
  ·rename_i a b ha hb
   cases h
   rcases List.mem_cons.1 hi with e|hi
   ·subst e;exact ⟨a,ha,fun x hx=>List.mem_append.2 (.inl (List.mem_map.2 ⟨x,hx,rfl⟩))⟩
   ·obtain ⟨a',h1,h2⟩:=iX hb i hi
    exact ⟨a',h1,fun x hx=>List.mem_append.2 (.inr (h2 x hx))⟩
  ·cases h
theorem kH {rows:List (Nat × Bool)} {m:Nat}:∀ {r:List (Nat × Bool)} {i:Nat} {c l:List Nat},gm m r i c=.many l→l≠[]
 | [],i,c,l,h=>by
  match c,h with
  | [],h=>simp[gm] at h
  | [x],h=>simp[gm] at h
  | x::y::c,h=>simp only[gm,Pk.many.injEq] at h;rw[← h];simp
 | (p,q)::r,i,c,l,h=>by
  simp only[gm] at h
  split at h
  ·exact kH (rows:=rows) h
  ·split at h
   ·cases h
   ·exact kH (rows:=rows) h
theorem qp {rows:List (Nat × Bool)}:∀ {n m:Nat} {ls:List (List Nat)},jB rows n m=some ls→∃ l,l ∈ ls
 | 0,m,ls,h=>by
  simp only[jB] at h
  split at h
  ·cases h;exact ⟨_,List.mem_singleton.2 rfl⟩
  ·cases h
 | n+1,m,ls,h=>by
  simp only[jB] at h
  split at h
  ·cases h;exact ⟨_,List.mem_singleton.2 rfl⟩
  ·split at h
   ·rename_i a ha
    cases h
    obtain ⟨l,hl⟩:=qp ha
    exact ⟨_,List.mem_map.2 ⟨l,hl,rfl⟩⟩
   ·cases h
  ·rename_i l hp
   have hne:=kH (rows:=rows) hp
   cases l with
   | nil=>exact absurd rfl hne
   | cons i l=>
    obtain ⟨a,ha,hx⟩:=iX h i (by simp)
    obtain ⟨x,hxa⟩:=qp ha
    exact ⟨_,hx x hxa⟩
theorem oE (hC:nh P C) {ops:Array Oper} {bf:Array Nat} {rows:List (Nat × Bool)} {K:List LV→aa→Prop}:∀ {n m:Nat} {ls:List (List Nat)} {pend:List (Nat × List LV × LV)} {t:List LV} {st:aa},
  jB rows n m=some ls→(∀ l ∈ ls,∃ t' st',dU P C ops bf l pend t st=some (t',st')∧K t' st')→cX P ops bf rows K n m pend t st
 | 0,m,ls,pend,t,st,h,hk=>by
  simp only[jB] at h
  simp only[cX]
  split at h
  ·rename_i hp
   cases h
   obtain ⟨t',st',h1,h2⟩:=hk [] (by simp)
   simp only[dU,jQ] at h1;cases h1
   simp only[hp];exact h2
  ·cases h
 | n+1,m,ls,pend,t,st,h,hk=>by
  -- one of the first operations,and all that may come behind it
  have step:∀ {i:Nat} {a:List (List Nat)},jB rows n (m ||| 2 ^ i)=some a→(∀ x ∈ a,i::x ∈ ls)→
    hJ P ops bf i pend t st fun pend t st=>cX P ops bf rows K n (m ||| 2 ^ i) pend t st:=by
   intro i a ha hx
   obtain ⟨l0,hl0⟩:=qp ha
   obtain ⟨t',st',h1,_⟩:=hk _ (hx _ hl0)
   obtain ⟨p1,t1,s1,h2,h3⟩:=zk hC (next:=fun pend t st=>cX P ops bf rows K n (m ||| 2 ^ i) pend t st) h1
   refine h3 (oE hC ha fun l hl=>?_)
   rw[← h2 l]
   exact hk _ (hx _ hl)
  simp only[jB] at h
  simp only[cX]
  split at h
  ·rename_i hp
   cases h
   obtain ⟨t',st',h1,h2⟩:=hk [] (by simp)
   simp only[dU,jQ] at h1;cases h1
   simp only[hp];exact h2
  ·rename_i i hp
   simp only[hp]
   split at h
   ·rename_i a ha
    cases h
    exact step ha fun x hx=>List.mem_map.2 ⟨x,hx,rfl⟩
   ·cases h
  ·rename_i l hp
   simp only[hp]
   refine zl fun i hi=>?_
   obtain ⟨a,ha,hx⟩:=iX h i hi
   exact step ha hx
theorem ra {ops:Array Oper} {bf:Array Nat} {n:Nat} {t tc:List LV} {st c:aa}:∀ {ls:List (List Nat)},wC P C ops bf n t st tc c ls=true→
  ∀ l ∈ ls,∃ t' s',dU P C ops bf l [] t st=some (t',s')∧∃ m,zg n m t' s' tc c=true
 | [],_,l,hl=>by simp at hl
 | l::ls,h,x,hx=>by
  simp only[wC] at h
  split at h
  ·rename_i t' s' hr
   split at h
   ·rename_i hi
    rcases List.mem_cons.1 hx with e|hx
    ·subst e;exact ⟨t',s',hr,_,hi⟩
    ·exact ra h x hx
   ·cases h
  ·cases h
theorem nJ {t:List LV} {st:aa}:∀ {rs:List ResultVar} {vs:List LV} {K:List LV→Prop},Bz P t st rs=some vs→K vs→qY P t st rs K
 | [],vs,K,h,hk=>by simp only[Bz] at h;cases h;exact hk
 | .tmp i::rs,vs,K,h,hk=>by
  simp only[Bz] at h
  split at h
  ·rename_i us hu
   cases h
   exact nJ (K:=fun vs=>K (t.getD i aQ::vs)) hu hk
  ·cases h
 | .cell a ty::rs,vs,K,h,hk=>by
  simp only[Bz] at h
  split at h
  ·rename_i v us hv hu
   cases h
   simp only[qY,hv,bd]
   exact nJ (K:=fun vs=>K (v::vs)) hu hk
  ·cases h
theorem s9 {rs:List ResultVar} {R:LV→aa→Prop} {t:List LV} {st st':aa} {v:LV} (h:J2 P rs t st=some (v,st')) (hk:R v st'):rE P rs R t st:=by
 unfold J2 at h
 split at h
 ·rename_i vs hv
  cases h
  exact nJ (K:=fun vs=>R (Dl vs) st) hv hk
 ·cases h
theorem step_scope' {b:Frame} {a:Act} {c:Code} {k:List Item} {cs:List Frame} {w:World}:step P (lone (b.at a (.code (.scope c)::k)) cs w)=.next (lone (b.at a (.code c::.inScope c::k)) cs w):=
 step_lone_go (by simp[stepG,stepG.exec,Frame.at])
theorem step_goto' {b:Frame} {a:Act} {l:Nat} {k k':List Item} {cs:List Frame} {w:World} (h:gotoIn l k=some k'):step P (lone (b.at a (.code (.goto l)::k)) cs w)=.next (lone (b.at a k') cs w):=
 step_lone_go (by simp[stepG,stepG.exec,Frame.at,h])
end
end Go.CP
