/- Parts of the proof. -/
import Derived.Test.YtknegckgmklnhaaGreatDoorCp29
namespace Go.CP
abbrev Ora:=FuncId→List LV→aa→Option (LV × aa)
def jc (P:Program) (C:Ora):Prop:=∀ f xs st v st',C f xs st=some (v,st')→∀ K:LV→aa→Prop,K v st'→ag P f xs st K
def td {α:Type} (m:Nat) (K:Nat→α):α:=match m with
 | 0=>K 0
 | m+1=>K (m+1)
def te {α:Type} (n:Int) (K:Int→α):α:=match n with
 | .ofNat m=>td m fun m=>K (.ofNat m)
 | .negSucc m=>td m fun m=>K (.negSucc m)
def pG {α:Type} (v:LV) (K:LV→α):α:=match v with
 | .bool b=>(match b with|true=>K (.bool true) | false=>K (.bool false))
 | .int k n=>te n fun n=>K (.int k n)
 | v=>K v
def lf {β α:Type} (l:List β) (K:List β→α):α:=match l with
 | []=>K []
 | a::l=>lf l fun l'=>K (a::l')
theorem vw {α:Type} {m:Nat} {K:Nat→α}:td m K=K m:=by cases m<;>rfl
theorem vz {α:Type} {n:Int} {K:Int→α}:te n K=K n:=by cases n<;>simp only[te,vw]
theorem iI {α:Type} {v:LV} {K:LV→α}:pG v K=K v:=by
 cases v<;>simp only[pG,vz]
 rename_i b;cases b<;>rfl
theorem fQ {β α:Type}:∀ {l:List β} {K:List β→α},lf l K=K l
 | [],_=>rfl
 | _::l,_=>by simp only[lf];exact fQ (l:=l)
def lX (P:Program) (C:Ora) (o:Oper) (t:List LV) (st:aa):Option (LV × aa):=match cls P o.op with
 | .A=>(match dT P t o.op with
  | some v=>pG v fun v=>some (v,st)
  | none=>none)
 | .L=>(match gD P t st o.op with
  | some v=>pG v fun v=>some (v,st)
  | none=>none)
 | .W=>eI P t st o.op
 | .C=>(match o.op with
  | .call c=>(match eJ t c with
   | some (f,xs)=>C f xs st
   | none=>none)
  | _=>none)
 | .N=>(match o.op with
  | .next it false=>(match ev t it with
   | some x=>iT st x
   | none=>none)
  | _=>none)
 | .no=>none
def lY (ops:Array Oper) (o:Oper) (t:List LV):Option Bool:=match o.guard with
 | none=>some true
 | some (j,want)=>match (ops[j]?).bind (·.dst) with
  | none=>none
  | some d=>match t.getD d ak with
   | .bool b=>some (b==want)
   | .tup []=>(match guarded ops j with
    | true=>some false
    | false=>none)
   | _=>none
def nv (b:Bool) (v:LV):Bool:=match b with
 | false=>true
 | true=>match v with
  | .bool _=>true
  | _=>false
theorem eO {b:Bool} {v:LV} {K:LV→Prop} (h:nv b v=true) (hk:K v):bU b v K:=by
 unfold nv at h
 unfold bU
 split at h
 ·exact hk
 ·split at h
  ·rename_i c;cases c<;>exact hk
  ·cases h
def gm (P:Program) (C:Ora) (ops:Array Oper):List Nat→List LV→aa→Option (List LV × aa)
 | [],t,st=>lf t fun t=>some (t,st)
 | i::rest,t,st=>match ops[i]? with
  | none=>none
  | some o=>match lY ops o t with
   | none=>none
   | some true=>(match lX P C o t st with
    | some (v,st')=>(match nv (cC ops i) v with
     | true=>gm P C ops rest (br t o.dst v) st'
     | false=>none)
    | none=>none)
   | some false=>gm P C ops rest (br t o.dst ak) st
def lZ (P:Program) (ops:Array Oper) (bf:Array Nat) (i:Nat) (st:aa):List (Nat × List LV × LV)→Bool
 | []=>true
 | (j,t,v)::r=>match (bf.getD i 0).testBit j with
  | true=>lZ P ops bf i st r
  | false=>match ops[j]? with
   | some o=>(match gD P t st o.op with
    | some u=>(match LV.same u v with
     | true=>lZ P ops bf i st r
     | false=>false)
    | none=>false)
   | none=>false
def iJ (f:Nat→Option (List (List Nat))):List Nat→Option (List (List Nat))
 | []=>some []
 | i::l=>match f i,iJ f l with
  | some a,some b=>some (a.map (i::·)++b)
  | _,_=>none
def fA (rows:List (Nat × Bool)):Nat→Nat→Option (List (List Nat))
 | 0,m=>match dX rows m with
  | .done=>some [[]]
  | _=>none
 | n+1,m=>match dX rows m with
  | .done=>some [[]]
  | .one i=>(match fA rows n (m ||| 2 ^ i) with
   | some a=>some (a.map (i::·))
   | none=>none)
  | .many l=>iJ (fun i=>fA rows n (m ||| 2 ^ i)) l
def cq (P:Program) (C:Ora) (ops:Array Oper) (bf:Array Nat):List Nat→List (Nat × List LV × LV)→List LV→aa→Option (List LV × aa)
 | [],_,t,st=>lf t fun t=>some (t,st)
 | i::l,pend,t,st=>match ops[i]? with
  | none=>none
  | some o=>match lY ops o t with
   | none=>none
   | some true=>(match lX P C o t st with
    | some (v,st')=>(match nv (cC ops i) v with
     | false=>none
     | true=>(match cls P o.op with
      | .A=>cq P C ops bf l pend (br t o.dst v) st'
      | .L=>cq P C ops bf l ((i,t,v)::pend) (br t o.dst v) st'
      | _=>(match lZ P ops bf i st' pend with
       | true=>cq P C ops bf l pend (br t o.dst v) st'
       | false=>none)))
    | none=>none)
   | some false=>cq P C ops bf l pend (br t o.dst ak) st
def q6:List LV→List LV→List (LV × LV)→List (LV × LV)
 | a::as,b::bs,w=>(a,b)::q6 as bs w
 | _,_,w=>w
def BM:List (LV × LV)→List (LV × LV)→List (LV × LV)→List (LV × LV)
 | a::as,b::bs,w=>(a.1,b.1)::(a.2,b.2)::BM as bs w
 | _,_,w=>w
def BN (x y:Option ah) (w:List (LV × LV)):List (LV × LV):=match x,y with
 | some (.cells _ a),some (.cells _ b)=>q6 a b w
 | some (.map _ a _ _),some (.map _ b _ _)=>BM a b w
 | _,_=>w
def BO (n:Nat) (m:List (Nat × Nat)) (o p:Nat):Bool:=match Nat.ble n o&&Nat.ble n p with
 | true=>(match m.find? (fun q=>q.1==o||q.2==p) with
  | some _=>false
  | none=>true)
 | false=>false
def uni (n:Nat) (s c:aa):Nat→List (LV × LV)→List (Nat × Nat)→List (Nat × Nat)
 | 0,_,m=>m
 | k+1,w,m=>match w with
  | []=>m
  | (a,b)::w=>
   let obj (o p:Nat):List (Nat × Nat):=(match BO n m o p with
    | true=>uni n s c k (BN s[o]? c[p]? w) ((o,p)::m)
    | false=>uni n s c k w m)
   match a,b with
   | .ptr o _,.ptr p _=>obj o p
   | .sl o _ _ _,.sl p _ _ _=>obj o p
   | .map o,.map p=>obj o p
   | .agg x,.agg y=>uni n s c k (q6 x y w) m
   | .tup x,.tup y=>uni n s c k (q6 x y w) m
   | .iface _ x,.iface _ y=>uni n s c k ((x,y)::w) m
   | .fn _ x u,.fn _ y v=>uni n s c k (q6 x y (q6 u v w)) m
   | _,_=>uni n s c k w m
def Aa:aa→aa→List (LV × LV)→List (LV × LV)
 | x::s,y::c,w=>BN (some x) (some y) (Aa s c w)
 | _,_,w=>w
def BP (n:Nat) (m:List (Nat × Nat)):Nat→aa→aa
 | _,[]=>[]
 | o,x::s=>(match Nat.blt o n with
  | true=>x
  | false=>match m.find? (fun q=>q.2==o) with
   | some _=>x
   | none=>.dead)::BP n m (o+1) s
def pH (P:Program) (C:Ora) (ops:Array Oper) (bf:Array Nat) (n:Nat) (t:List LV) (st:aa) (tc:List LV) (c:aa):List (List Nat)→Bool
 | []=>true
 | l::ls=>match cq P C ops bf l [] t st with
  | some (t',s')=>(match qZ n (uni n s' c 10000 (q6 t' tc (Aa (s'.take n) (c.take n) [])) []) t' s' tc c with
   | true=>pH P C ops bf n t st tc c ls
   | false=>false)
  | none=>false
def uq (P:Program) (C:Ora) (ops:Array Oper) (bf:Array Nat) (ls:List (List Nat)) (t:List LV) (st:aa):Option (List LV × aa):=match ls with
 | []=>none
 | [l]=>cq P C ops bf l [] t st
 | l::ls=>match cq P C ops bf l [] t st with
  | none=>none
  | some (tc,sc)=>lf (BP st.length (uni st.length sc sc 10000 (q6 tc tc (Aa (sc.take st.length) (sc.take st.length) [])) []) 0 sc) fun c=>
   match pH P C ops bf st.length t st tc c (l::ls) with
   | true=>some (tc,c)
   | false=>none
def tf (P:Program) (t:List LV) (st:aa):List ResultVar→Option (List LV)
 | []=>some []
 | .tmp i::rs=>(match tf P t st rs with
  | some vs=>some (t.getD i ak::vs)
  | none=>none)
 | .cell a ty::rs=>match mI P st ty (t.getD a ak),tf P t st rs with
  | some v,some vs=>some (v::vs)
  | _,_=>none
def yw (P:Program) (rs:List ResultVar) (t:List LV) (st:aa):Option (LV × aa):=match tf P t st rs with
 | some vs=>some (um vs,st)
 | none=>none
section
variable {P:Program} {C:Ora}
theorem q7 {st st':aa} {x v:LV} (h:iT st x=some (v,st')):cB st x=some [(v,st')]:=by
 unfold iT at h
 split at h
 case h_2=>cases h
 rename_i r
 split at h
 ·rename_i a1 a2 a3 hr
  cases h
  unfold cB;simp only[hr]
 ·rename_i cur hr
  cases h
  unfold cB;simp only[hr]
 ·rename_i cur e hr
  cases h
  unfold cB;simp only[hr,eH,List.map_cons,List.map_nil]
 ·rename_i o since seen last hr
  split at h
  case h_2=>cases h
  rename_i md es bs n ho
  split at h
  case isFalse=>cases h
  rename_i hg
  split at h
  ·rename_i hl
   cases h
   unfold cB;simp only[hr,ho,if_pos hg,hl]
  ·rename_i e bb hl
   split at h
   case isFalse=>cases h
   rename_i hlt
   cases h
   unfold cB;simp only[hr,ho,if_pos hg,hl]
   rw[if_pos (by simpa using hlt)]
   rfl
  ·cases h
 ·cases h
theorem vA {st st':aa} {x v:LV} {K:LV→aa→Prop} (h:iT st x=some (v,st')) (hk:K v st'):gN st x K:=by
 unfold gN
 rw[q7 h]
 exact ⟨hk,trivial⟩
theorem l8 (hC:jc P C) {o:Oper} {t:List LV} {st st':aa} {v:LV} {K:LV→aa→Prop} (h:lX P C o t st=some (v,st')) (hk:K v st'):er P o t st K:=by
 unfold lX at h
 unfold er
 split at h<;>rename_i e<;>simp only[e]
 ·split at h
  ·rename_i u hu
   rw[iI] at h;cases h
   rw[hu];exact hk
  ·cases h
 ·split at h
  ·rename_i u hu
   rw[iI] at h;cases h
   rw[hu];exact hk
  ·cases h
 ·rw[h];exact hk
 ·split at h
  ·rename_i c e
   simp only[e]
   split at h
   ·rename_i f xs hx
    rw[hx];exact hC _ _ _ _ _ h K hk
   ·cases h
  ·cases h
 ·split at h
  ·rename_i it e
   simp only[e]
   split at h
   ·rename_i x hx
    rw[hx];exact vA h hk
   ·cases h
  ·cases h
 ·cases h
def Ab (want:Bool) (p q:Prop):Prop:=match want with
 | true=>p
 | false=>q
theorem nx {ops:Array Oper} {o:Oper} {t:List LV} {b:Bool} {j:Nat} {want:Bool} (hg:o.guard=some (j,want)) (h:lY ops o t=some b):∃ d,(ops[j]?).bind (·.dst)=some d∧
  ∀ (run skip:List LV→Prop),(cond b (run t) (skip t))→
   u7 (guarded ops j) (t.getD d ak) (Ab want (run (t.set d (.bool true))) (skip (t.set d (.bool true)))) (Ab want (skip (t.set d (.bool false))) (run (t.set d (.bool false)))) (skip t):=by
 unfold lY at h
 simp only[hg] at h
 split at h
 ·cases h
 ·rename_i d hd
  refine ⟨d,hd,fun run skip hr=>?_⟩
  split at h
  ·rename_i c hc
   cases h
   have hs:=(dw hc).2
   rw[hc]
   cases c<;>cases want<;>cases hgd:guarded ops j<;>simp only[u7,aG,u6,Ab]<;>rw[hs]<;>exact hr
  ·rename_i hc
   rw[hc]
   split at h
   ·rename_i hgd
    cases h
    rw[hgd];exact hr
   ·cases h
  ·cases h
theorem eK (hC:jc P C) {ops:Array Oper} {K:List LV→aa→Prop}:∀ {l:List Nat} {t t':List LV} {st st':aa},
  gm P C ops l t st=some (t',st')→K t' st'→bM P ops l K t st
 | [],t,t',st,st',h,hk=>by simp only[gm,fQ] at h;cases h;exact hk
 | i::rest,t,t',st,st',h,hk=>by
  have go:∀ {t st},gm P C ops rest t st=some (t',st')→bM P ops rest K t st:=fun h=>eK hC h hk
  unfold gm at h
  unfold bM
  cases ho:ops[i]? with
  | none=>simp only[ho] at h;cases h
  | some o=>
   simp only[ho] at h ⊢
   cases hw:lY ops o t with
   | none=>simp only[hw] at h;cases h
   | some b=>
    have fin:cond b (er P o t st fun v st'=>bU (cC ops i) v fun v=>force (br t o.dst v) fun t=>bM P ops rest K t st') (force (br t o.dst ak) fun t=>bM P ops rest K t st):=by
     cases b with
     | true=>
      simp only[hw] at h
      split at h
      ·rename_i v s hv
       split at h
       ·rename_i hb
        refine l8 (K:=fun v st'=>bU (cC ops i) v fun v=>force (br t o.dst v) fun t=>bM P ops rest K t st') hC hv (eO hb ?_)
        show force _ _
        rw[force_eq];exact go h
       ·cases h
      ·cases h
     | false=>
      simp only[hw] at h
      show force _ _
      rw[force_eq];exact go h
    cases hg:o.guard with
    | none=>
     simp only
     have:b=true:=by simp only[lY,hg] at hw;cases hw;rfl
     subst this;exact fin
    | some p=>
     obtain ⟨j,want⟩:=p
     obtain ⟨d,hd,hs⟩:=nx hg hw
     simp only[hd]
     have:=hs (fun t=>er P o t st fun v st'=>bU (cC ops i) v fun v=>force (br t o.dst v) fun t=>bM P ops rest K t st') (fun t=>force (br t o.dst ak) fun t=>bM P ops rest K t st) fin
     cases want<;>exact this
theorem ez {ops:Array Oper} {bf:Array Nat} {i:Nat} {st:aa} {R:Prop}:∀ {pend:List (Nat × List LV × LV)},lZ P ops bf i st pend=true→R→recheck P ops bf i st pend R
 | [],_,hr=>hr
 | (j,t,v)::r,h,hr=>by
  unfold lZ at h
  unfold recheck
  cases hb:(bf.getD i 0).testBit j with
  | true=>simp only[hb] at h ⊢;exact ez h hr
  | false=>
   simp only[hb] at h ⊢
   cases ho:ops[j]? with
   | none=>simp only[ho] at h;cases h
   | some o=>
    simp only[ho] at h ⊢
    split at h
    ·rename_i u hu
     split at h
     ·rename_i hs;exact ⟨by rw[hu,LV.eh hs],ez h hr⟩
     ·cases h
    ·cases h
theorem q8 (hC:jc P C) {ops:Array Oper} {bf:Array Nat} {i:Nat} {l:List Nat} {pend:List (Nat × List LV × LV)} {t t':List LV} {st st':aa} {next:List (Nat × List LV × LV)→List LV→aa→Prop}
  (h:cq P C ops bf (i::l) pend t st=some (t',st')):∃ p1 t1 s1,(∀ l',cq P C ops bf (i::l') pend t st=cq P C ops bf l' p1 t1 s1)∧(next p1 t1 s1→ey P ops bf i pend t st next):=by
 unfold cq at h
 cases ho:ops[i]? with
 | none=>simp only[ho] at h;cases h
 | some o=>
  simp only[ho] at h
  cases hw:lY ops o t with
  | none=>simp only[hw] at h;cases h
  | some b=>
   have fin:cond b (cO P ops bf i o pend t st fun p v s=>bU (cC ops i) v fun v=>force (br t o.dst v) fun t=>next p t s) (force (br t o.dst ak) fun t=>next pend t st)→
     ey P ops bf i pend t st next:=by
    intro fin
    unfold ey
    simp only[ho]
    cases hg:o.guard with
    | none=>
     simp only
     have:b=true:=by simp only[lY,hg] at hw;cases hw;rfl
     subst this;exact fin
    | some p=>
     obtain ⟨j,want⟩:=p
     obtain ⟨d,hd,hs⟩:=nx hg hw
     simp only[hd]
     have:=hs (fun t=>cO P ops bf i o pend t st fun p v s=>bU (cC ops i) v fun v=>force (br t o.dst v) fun t=>next p t s) (fun t=>force (br t o.dst ak) fun t=>next pend t st) fin
     cases want<;>exact this
   cases b with
   | false=>
    refine ⟨pend,br t o.dst ak,st,fun l'=>?_,fun hn=>fin (by show force _ _;rw[force_eq];exact hn)⟩
    rw[cq];simp only[ho,hw]
   | true=>
    simp only[hw] at h
    cases hv:lX P C o t st with
    | none=>simp only[hv] at h;cases h
    | some r=>
     obtain ⟨v,s⟩:=r
     simp only[hv] at h
     cases hbi:nv (cC ops i) v with
     | false=>simp only[hbi] at h;cases h
     | true=>
     simp only[hbi] at h
     have hop:=fun (K:LV→aa→Prop) (hk:K v s)=>l8 hC hv hk
     cases hc:cls P o.op with
     | A=>
      refine ⟨pend,br t o.dst v,s,fun l'=>?_,fun hn=>fin ?_⟩
      ·rw[cq];simp only[ho,hw,hv,hbi,hc]
      ·have:=hop (fun v s=>bU (cC ops i) v fun v=>force (br t o.dst v) fun t=>next pend t s) (eO hbi (by rw[force_eq];exact hn))
       show cO P ops bf i o pend t st fun p v s=>bU (cC ops i) v fun v=>force (br t o.dst v) fun t=>next p t s
       unfold er at this
       unfold cO
       simp only[hc] at this ⊢
       unfold lX at hv
       simp only[hc] at hv
       split at hv
       ·rw[iI] at hv;cases hv;exact this
       ·cases hv
     | L=>
      refine ⟨(i,t,v)::pend,br t o.dst v,s,fun l'=>?_,fun hn=>fin ?_⟩
      ·rw[cq];simp only[ho,hw,hv,hbi,hc]
      ·show cO P ops bf i o pend t st fun p v s=>bU (cC ops i) v fun v=>force (br t o.dst v) fun t=>next p t s
       unfold cO
       unfold lX at hv
       simp only[hc] at hv ⊢
       split at hv
       ·rename_i u hu
        rw[iI] at hv;cases hv
        rw[hu]
        rw[ae]
        refine eO hbi ?_
        rw[force_eq];exact hn
       ·cases hv
     | W=>
      simp only[hc] at h
      cases hr:lZ P ops bf i s pend with
      | false=>simp only[hr] at h;cases h
      | true=>
       refine ⟨pend,br t o.dst v,s,fun l'=>?_,fun hn=>fin ?_⟩
       ·rw[cq];simp only[ho,hw,hv,hbi,hc,hr]
       ·have:=hop (fun v s=>recheck P ops bf i s pend (bU (cC ops i) v fun v=>force (br t o.dst v) fun t=>next pend t s)) (ez hr (eO hbi (by rw[force_eq];exact hn)))
        show cO P ops bf i o pend t st fun p v s=>bU (cC ops i) v fun v=>force (br t o.dst v) fun t=>next p t s
        unfold er at this
        unfold cO
        simp only[hc] at this ⊢
        exact this
     | C=>
      simp only[hc] at h
      cases hr:lZ P ops bf i s pend with
      | false=>simp only[hr] at h;cases h
      | true=>
       refine ⟨pend,br t o.dst v,s,fun l'=>?_,fun hn=>fin ?_⟩
       ·rw[cq];simp only[ho,hw,hv,hbi,hc,hr]
       ·have:=hop (fun v s=>recheck P ops bf i s pend (bU (cC ops i) v fun v=>force (br t o.dst v) fun t=>next pend t s)) (ez hr (eO hbi (by rw[force_eq];exact hn)))
        show cO P ops bf i o pend t st fun p v s=>bU (cC ops i) v fun v=>force (br t o.dst v) fun t=>next p t s
        unfold er at this
        unfold cO
        simp only[hc] at this ⊢
        exact this
     | N=>
      simp only[hc] at h
      cases hr:lZ P ops bf i s pend with
      | false=>simp only[hr] at h;cases h
      | true=>
       refine ⟨pend,br t o.dst v,s,fun l'=>?_,fun hn=>fin ?_⟩
       ·rw[cq];simp only[ho,hw,hv,hbi,hc,hr]
       ·have:=hop (fun v s=>recheck P ops bf i s pend (bU (cC ops i) v fun v=>force (br t o.dst v) fun t=>next pend t s)) (ez hr (eO hbi (by rw[force_eq];exact hn)))
        show cO P ops bf i o pend t st fun p v s=>bU (cC ops i) v fun v=>force (br t o.dst v) fun t=>next p t s
        unfold er at this
        unfold cO
        simp only[hc] at this ⊢
        exact this
     | no=>
      unfold lX at hv
      simp only[hc] at hv
      cases hv
theorem q9 {f:Nat→Prop}:∀ {l:List Nat},(∀ i ∈ l,f i)→ug f l
 | [],_=>trivial
 | [x],h=>h x (by simp)
 | x::y::l,h=>⟨h x (by simp),q9 fun i hi=>h i (List.mem_cons_of_mem _ hi)⟩
theorem eX {f:Nat→Option (List (List Nat))}:∀ {l:List Nat} {ls:List (List Nat)},iJ f l=some ls→∀ i ∈ l,∃ a,f i=some a∧∀ x ∈ a,i::x ∈ ls
 | [],ls,_,i,hi=>by simp at hi
 | j::l,ls,h,i,hi=>by
  simp only[iJ] at h
  split at h
  ·rename_i a b ha hb
   cases h
   rcases List.mem_cons.1 hi with e|hi
   ·subst e;exact ⟨a,ha,fun x hx=>List.mem_append.2 (.inl (List.mem_map.2 ⟨x,hx,rfl⟩))⟩
   ·obtain ⟨a',h1,h2⟩:=eX hb i hi
    exact ⟨a',h1,fun x hx=>List.mem_append.2 (.inr (h2 x hx))⟩
  ·cases h
theorem gp {rows:List (Nat × Bool)} {m:Nat}:∀ {r:List (Nat × Bool)} {i:Nat} {c l:List Nat},dW m r i c=.many l→l≠[]
 | [],i,c,l,h=>by
  match c,h with
  | [],h=>simp[dW] at h
  | [x],h=>simp[dW] at h
  | x::y::c,h=>simp only[dW,Pk.many.injEq] at h;rw[← h];simp
 | (p,q)::r,i,c,l,h=>by
  simp only[dW] at h
  split at h
  ·exact gp (rows:=rows) h
  ·split at h
   ·cases h
   ·exact gp (rows:=rows) h
theorem lg {rows:List (Nat × Bool)}:∀ {n m:Nat} {ls:List (List Nat)},fA rows n m=some ls→∃ l,l ∈ ls
 | 0,m,ls,h=>by
  simp only[fA] at h
  split at h
  ·cases h;exact ⟨_,List.mem_singleton.2 rfl⟩
  ·cases h
 | n+1,m,ls,h=>by
  simp only[fA] at h
  split at h
  ·cases h;exact ⟨_,List.mem_singleton.2 rfl⟩
  ·split at h
   ·rename_i a ha
    cases h
    obtain ⟨l,hl⟩:=lg ha
    exact ⟨_,List.mem_map.2 ⟨l,hl,rfl⟩⟩
   ·cases h
  ·rename_i l hp
   have hne:=gp (rows:=rows) hp
   cases l with
   | nil=>exact absurd rfl hne
   | cons i l=>
    obtain ⟨a,ha,hx⟩:=eX h i (by simp)
    obtain ⟨x,hxa⟩:=lg ha
    exact ⟨_,hx x hxa⟩
theorem jX (hC:jc P C) {ops:Array Oper} {bf:Array Nat} {rows:List (Nat × Bool)} {K:List LV→aa→Prop}:∀ {n m:Nat} {ls:List (List Nat)} {pend:List (Nat × List LV × LV)} {t:List LV} {st:aa},
  fA rows n m=some ls→(∀ l ∈ ls,∃ t' st',cq P C ops bf l pend t st=some (t',st')∧K t' st')→bV P ops bf rows K n m pend t st
 | 0,m,ls,pend,t,st,h,hk=>by
  simp only[fA] at h
  simp only[bV]
  split at h
  ·rename_i hp
   cases h
   obtain ⟨t',st',h1,h2⟩:=hk [] (by simp)
   simp only[cq,fQ] at h1;cases h1
   simp only[hp];exact h2
  ·cases h
 | n+1,m,ls,pend,t,st,h,hk=>by
  -- one of the first operations,and all that may come behind it
  have step:∀ {i:Nat} {a:List (List Nat)},fA rows n (m ||| 2 ^ i)=some a→(∀ x ∈ a,i::x ∈ ls)→
    ey P ops bf i pend t st fun pend t st=>bV P ops bf rows K n (m ||| 2 ^ i) pend t st:=by
   intro i a ha hx
   obtain ⟨l0,hl0⟩:=lg ha
   obtain ⟨t',st',h1,_⟩:=hk _ (hx _ hl0)
   obtain ⟨p1,t1,s1,h2,h3⟩:=q8 hC (next:=fun pend t st=>bV P ops bf rows K n (m ||| 2 ^ i) pend t st) h1
   refine h3 (jX hC ha fun l hl=>?_)
   rw[← h2 l]
   exact hk _ (hx _ hl)
  simp only[fA] at h
  simp only[bV]
  split at h
  ·rename_i hp
   cases h
   obtain ⟨t',st',h1,h2⟩:=hk [] (by simp)
   simp only[cq,fQ] at h1;cases h1
   simp only[hp];exact h2
  ·rename_i i hp
   simp only[hp]
   split at h
   ·rename_i a ha
    cases h
    exact step ha fun x hx=>List.mem_map.2 ⟨x,hx,rfl⟩
   ·cases h
  ·rename_i l hp
   simp only[hp]
   refine q9 fun i hi=>?_
   obtain ⟨a,ha,hx⟩:=eX h i hi
   exact step ha hx
theorem l9 {ops:Array Oper} {bf:Array Nat} {n:Nat} {t tc:List LV} {st c:aa}:∀ {ls:List (List Nat)},pH P C ops bf n t st tc c ls=true→
  ∀ l ∈ ls,∃ t' s',cq P C ops bf l [] t st=some (t',s')∧∃ m,qZ n m t' s' tc c=true
 | [],_,l,hl=>by simp at hl
 | l::ls,h,x,hx=>by
  simp only[pH] at h
  split at h
  ·rename_i t' s' hr
   split at h
   ·rename_i hi
    rcases List.mem_cons.1 hx with e|hx
    ·subst e;exact ⟨t',s',hr,_,hi⟩
    ·exact l9 h x hx
   ·cases h
  ·cases h
theorem ju {t:List LV} {st:aa}:∀ {rs:List ResultVar} {vs:List LV} {K:List LV→Prop},tf P t st rs=some vs→K vs→lV P t st rs K
 | [],vs,K,h,hk=>by simp only[tf] at h;cases h;exact hk
 | .tmp i::rs,vs,K,h,hk=>by
  simp only[tf] at h
  split at h
  ·rename_i us hu
   cases h
   exact ju (K:=fun vs=>K (t.getD i ak::vs)) hu hk
  ·cases h
 | .cell a ty::rs,vs,K,h,hk=>by
  simp only[tf] at h
  split at h
  ·rename_i v us hv hu
   cases h
   simp only[lV,hv,bd]
   exact ju (K:=fun vs=>K (v::vs)) hu hk
  ·cases h
theorem ny {rs:List ResultVar} {R:LV→aa→Prop} {t:List LV} {st st':aa} {v:LV} (h:yw P rs t st=some (v,st')) (hk:R v st'):mq P rs R t st:=by
 unfold yw at h
 split at h
 ·rename_i vs hv
  cases h
  exact ju (K:=fun vs=>R (um vs) st) hv hk
 ·cases h
theorem step_scope' {b:Frame} {a:Act} {c:Code} {k:List Item} {cs:List Frame} {w:World}:step P (lone (b.at a (.code (.scope c)::k)) cs w)=.next (lone (b.at a (.code c::.inScope c::k)) cs w):=
 step_lone_go (by simp[stepG,stepG.exec,Frame.at])
theorem step_goto' {b:Frame} {a:Act} {l:Nat} {k k':List Item} {cs:List Frame} {w:World} (h:gotoIn l k=some k'):step P (lone (b.at a (.code (.goto l)::k)) cs w)=.next (lone (b.at a k') cs w):=
 step_lone_go (by simp[stepG,stepG.exec,Frame.at,h])
end
end Go.CP
