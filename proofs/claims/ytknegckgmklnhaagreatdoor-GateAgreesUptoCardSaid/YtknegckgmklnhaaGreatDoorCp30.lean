/- Parts of the proof. -/
import Derived.Test.YtknegckgmklnhaaGreatDoorCp29
namespace Go.CP
abbrev Ora:=FuncId→List LV→aa→Option (LV × aa)
def jn (P:Program) (C:Ora):Prop:=∀ f xs st v st',C f xs st=some (v,st')→∀ K:LV→aa→Prop,K v st'→ak P f xs st K
def tu {α:Type} (m:Nat) (K:Nat→α):α:=match m with
 | 0=>K 0
 | m+1=>K (m+1)
def tw {α:Type} (n:Int) (K:Int→α):α:=match n with
 | .ofNat m=>tu m fun m=>K (.ofNat m)
 | .negSucc m=>tu m fun m=>K (.negSucc m)
def pV {α:Type} (v:LV) (K:LV→α):α:=match v with
 | .bool b=>(match b with|true=>K (.bool true) | false=>K (.bool false))
 | .int k n=>tw n fun n=>K (.int k n)
 | v=>K v
def lu {β α:Type} (l:List β) (K:List β→α):α:=match l with
 | []=>K []
 | a::l=>lu l fun l'=>K (a::l')
theorem vG {α:Type} {m:Nat} {K:Nat→α}:tu m K=K m:=by cases m<;>rfl
theorem vH {α:Type} {n:Int} {K:Int→α}:tw n K=K n:=by cases n<;>simp only[tw,vG]
theorem iR {α:Type} {v:LV} {K:LV→α}:pV v K=K v:=by
 cases v<;>simp only[pV,vH]
 rename_i b;cases b<;>rfl
theorem gy {β α:Type}:∀ {l:List β} {K:List β→α},lu l K=K l
 | [],_=>rfl
 | _::l,_=>by simp only[lu];exact gy (l:=l)
def lU (P:Program) (C:Ora) (o:Oper) (t:List LV) (st:aa):Option (LV × aa):=match cls P o.op with
 | .A=>(match dQ P t o.op with
  | some v=>pV v fun v=>some (v,st)
  | none=>none)
 | .L=>(match gi P t st o.op with
  | some v=>pV v fun v=>some (v,st)
  | none=>none)
 | .W=>eP P t st o.op
 | .C=>(match o.op with
  | .call c=>(match dD t c with
   | some (f,xs)=>C f xs st
   | none=>none)
  | _=>none)
 | .N=>(match o.op with
  | .next it false=>(match ev t it with
   | some x=>jc st x
   | none=>none)
  | _=>none)
 | .no=>none
def lV (ops:Array Oper) (o:Oper) (t:List LV):Option Bool:=match o.guard with
 | none=>some true
 | some (j,want)=>match (ops[j]?).bind (·.dst) with
  | none=>none
  | some d=>match t.getD d af with
   | .bool b=>some (b==want)
   | .tup []=>(match guarded ops j with
    | true=>some false
    | false=>none)
   | _=>none
def nG (b:Bool) (v:LV):Bool:=match b with
 | false=>true
 | true=>match v with
  | .bool _=>true
  | _=>false
theorem fm {b:Bool} {v:LV} {K:LV→Prop} (h:nG b v=true) (hk:K v):bo b v K:=by
 unfold nG at h
 unfold bo
 split at h
 ·exact hk
 ·split at h
  ·rename_i c;cases c<;>exact hk
  ·cases h
def fY (P:Program) (C:Ora) (ops:Array Oper):List Nat→List LV→aa→Option (List LV × aa)
 | [],t,st=>lu t fun t=>some (t,st)
 | i::rest,t,st=>match ops[i]? with
  | none=>none
  | some o=>match lV ops o t with
   | none=>none
   | some true=>(match lU P C o t st with
    | some (v,st')=>(match nG (bV ops i) v with
     | true=>fY P C ops rest (aW t o.dst v) st'
     | false=>none)
    | none=>none)
   | some false=>fY P C ops rest (aW t o.dst af) st
def lW (P:Program) (ops:Array Oper) (bf:Array Nat) (i:Nat) (st:aa):List (Nat × List LV × LV)→Bool
 | []=>true
 | (j,t,v)::r=>match (bf.getD i 0).testBit j with
  | true=>lW P ops bf i st r
  | false=>match ops[j]? with
   | some o=>(match gi P t st o.op with
    | some u=>(match LV.same u v with
     | true=>lW P ops bf i st r
     | false=>false)
    | none=>false)
   | none=>false
def iT (f:Nat→Option (List (List Nat))):List Nat→Option (List (List Nat))
 | []=>some []
 | i::l=>match f i,iT f l with
  | some a,some b=>some (a.map (i::·)++b)
  | _,_=>none
def fB (rows:List (Nat × Bool)):Nat→Nat→Option (List (List Nat))
 | 0,m=>match cg rows m with
  | .done=>some [[]]
  | _=>none
 | n+1,m=>match cg rows m with
  | .done=>some [[]]
  | .one i=>(match fB rows n (m ||| 2 ^ i) with
   | some a=>some (a.map (i::·))
   | none=>none)
  | .many l=>iT (fun i=>fB rows n (m ||| 2 ^ i)) l
def cr (P:Program) (C:Ora) (ops:Array Oper) (bf:Array Nat):List Nat→List (Nat × List LV × LV)→List LV→aa→Option (List LV × aa)
 | [],_,t,st=>lu t fun t=>some (t,st)
 | i::l,pend,t,st=>match ops[i]? with
  | none=>none
  | some o=>match lV ops o t with
   | none=>none
   | some true=>(match lU P C o t st with
    | some (v,st')=>(match nG (bV ops i) v with
     | false=>none
     | true=>(match cls P o.op with
      | .A=>cr P C ops bf l pend (aW t o.dst v) st'
      | .L=>cr P C ops bf l ((i,t,v)::pend) (aW t o.dst v) st'
      | _=>(match lW P ops bf i st' pend with
       | true=>cr P C ops bf l pend (aW t o.dst v) st'
       | false=>none)))
    | none=>none)
   | some false=>cr P C ops bf l pend (aW t o.dst af) st
def rE:List LV→List LV→List (LV × LV)→List (LV × LV)
 | a::as_,b::bs,w=>(a,b)::rE as_ bs w
 | _,_,w=>w
def BQ:List (LV × LV)→List (LV × LV)→List (LV × LV)→List (LV × LV)
 | a::as_,b::bs,w=>(a.1,b.1)::(a.2,b.2)::BQ as_ bs w
 | _,_,w=>w
def BR (x y:Option al) (w:List (LV × LV)):List (LV × LV):=match x,y with
 | some (.cells _ a),some (.cells _ b)=>rE a b w
 | some (.map _ a _ _),some (.map _ b _ _)=>BQ a b w
 | _,_=>w
def BS (n:Nat) (m:List (Nat × Nat)) (o p:Nat):Bool:=match Nat.ble n o&&Nat.ble n p with
 | true=>(match m.find? (fun q=>q.1==o||q.2==p) with
  | some _=>false
  | none=>true)
 | false=>false
def uni (n:Nat) (s c:aa):Nat→List (LV × LV)→List (Nat × Nat)→List (Nat × Nat)
 | 0,_,m=>m
 | k+1,w,m=>match w with
  | []=>m
  | (a,b)::w=>
   let obj (o p:Nat):List (Nat × Nat):=(match BS n m o p with
    | true=>uni n s c k (BR s[o]? c[p]? w) ((o,p)::m)
    | false=>uni n s c k w m)
   match a,b with
   | .ptr o _,.ptr p _=>obj o p
   | .sl o _ _ _,.sl p _ _ _=>obj o p
   | .map o,.map p=>obj o p
   | .agg x,.agg y=>uni n s c k (rE x y w) m
   | .tup x,.tup y=>uni n s c k (rE x y w) m
   | .iface _ x,.iface _ y=>uni n s c k ((x,y)::w) m
   | .fn _ x u,.fn _ y v=>uni n s c k (rE x y (rE u v w)) m
   | _,_=>uni n s c k w m
def Ap:aa→aa→List (LV × LV)→List (LV × LV)
 | x::s,y::c,w=>BR (some x) (some y) (Ap s c w)
 | _,_,w=>w
def BT (n:Nat) (m:List (Nat × Nat)):Nat→aa→aa
 | _,[]=>[]
 | o,x::s=>(match Nat.blt o n with
  | true=>x
  | false=>match m.find? (fun q=>q.2==o) with
   | some _=>x
   | none=>.dead)::BT n m (o+1) s
def pW (P:Program) (C:Ora) (ops:Array Oper) (bf:Array Nat) (n:Nat) (t:List LV) (st:aa) (tc:List LV) (c:aa):List (List Nat)→Bool
 | []=>true
 | l::ls=>match cr P C ops bf l [] t st with
  | some (t',s')=>(match rC n (uni n s' c 10000 (rE t' tc (Ap (s'.take n) (c.take n) [])) []) t' s' tc c with
   | true=>pW P C ops bf n t st tc c ls
   | false=>false)
  | none=>false
def pX (P:Program) (C:Ora) (ops:Array Oper) (bf:Array Nat) (ls:List (List Nat)) (t:List LV) (st:aa):Option (List LV × aa):=match ls with
 | []=>none
 | [l]=>cr P C ops bf l [] t st
 | l::ls=>match cr P C ops bf l [] t st with
  | none=>none
  | some (tc,sc)=>lu (BT st.length (uni st.length sc sc 10000 (rE tc tc (Ap (sc.take st.length) (sc.take st.length) [])) []) 0 sc) fun c=>
   match pW P C ops bf st.length t st tc c (l::ls) with
   | true=>some (tc,c)
   | false=>none
def tz (P:Program) (t:List LV) (st:aa):List ResultVar→Option (List LV)
 | []=>some []
 | .tmp i::rs=>(match tz P t st rs with
  | some vs=>some (t.getD i af::vs)
  | none=>none)
 | .cell a ty::rs=>match mS P st ty (t.getD a af),tz P t st rs with
  | some v,some vs=>some (v::vs)
  | _,_=>none
def vI (P:Program) (rs:List ResultVar) (t:List LV) (st:aa):Option (LV × aa):=match tz P t st rs with
 | some vs=>some (ur vs,st)
 | none=>none
def walk (P:Program) (C:Ora) (rs:List ResultVar):Nat→List Item→List LV→aa→Option (LV × aa)
 | 0,_,_,_=>none
 | n+1,k,t,st=>match k with
  | []=>vI P rs t st
  | .code c::k=>(match c with
   | .skip=>walk P C rs n k t st
   | .label _=>walk P C rs n k t st
   | .seq a b=>walk P C rs n (.code a::.code b::k) t st
   | .cond c a b=>(match ev t c with
    | some (.bool true)=>walk P C rs n (.code a::k) t st
    | some (.bool false)=>walk P C rs n (.code b::k) t st
    | _=>none)
   | .block id c=>walk P C rs n (.code c::.inBlock id::k) t st
   | .loop c=>walk P C rs n (.inLoop c::k) t st
   | .scope c=>walk P C rs n (.code c::.inScope c::k) t st
   | .goto l=>(match gotoIn l k with
    | some k'=>walk P C rs n k' t st
    | none=>none)
   | .exit id=>(match exitTo id k with
    | some k'=>walk P C rs n k' t st
    | none=>none)
   | .ret=>vI P rs t st
   | .region _ ops draw=>(match draw with
    | false=>(match fY P C ops (List.range ops.size) t st with
     | some (t,st)=>walk P C rs n k t st
     | none=>none)
    | true=>match iu ops (Region.before ops) with
     | true=>(match fB (rowsOf P ops) ops.size 0 with
      | some ls=>(match pX P C ops (Region.before ops) ls t st with
       | some (t,st)=>walk P C rs n k t st
       | none=>none)
      | none=>none)
     | false=>none)
   | _=>none)
  | .inLoop c::k=>walk P C rs n (.code c::.inLoop c::k) t st
  | .inBlock _::k=>walk P C rs n k t st
  | .inScope _::k=>walk P C rs n k t st
  | _=>none
section
variable {P:Program} {C:Ora}
theorem rF {st st':aa} {x v:LV} (h:jc st x=some (v,st')):cJ st x=some [(v,st')]:=by
 unfold jc at h
 split at h
 case h_2=>cases h
 rename_i r
 split at h
 ·rename_i a1 a2 a3 hr
  cases h
  unfold cJ;simp only[hr]
 ·rename_i cur hr
  cases h
  unfold cJ;simp only[hr]
 ·rename_i cur e hr
  cases h
  unfold cJ;simp only[hr,fa,List.map_cons,List.map_nil]
 ·rename_i o since seen last hr
  split at h
  case h_2=>cases h
  rename_i md es bs n ho
  split at h
  case isFalse=>cases h
  rename_i hg
  split at h
  ·rename_i hl
   cases h
   unfold cJ;simp only[hr,ho,if_pos hg,hl]
  ·rename_i e bb hl
   split at h
   case isFalse=>cases h
   rename_i hlt
   cases h
   unfold cJ;simp only[hr,ho,if_pos hg,hl]
   rw[if_pos (by simpa using hlt)]
   rfl
  ·cases h
 ·cases h
theorem vJ {st st':aa} {x v:LV} {K:LV→aa→Prop} (h:jc st x=some (v,st')) (hk:K v st'):fU st x K:=by
 unfold fU
 rw[rF h]
 exact ⟨hk,trivial⟩
theorem lX (hC:jn P C) {o:Oper} {t:List LV} {st st':aa} {v:LV} {K:LV→aa→Prop} (h:lU P C o t st=some (v,st')) (hk:K v st'):cZ P o t st K:=by
 unfold lU at h
 unfold cZ
 split at h<;>rename_i e<;>simp only[e]
 ·split at h
  ·rename_i u hu
   rw[iR] at h;cases h
   rw[hu];exact hk
  ·cases h
 ·split at h
  ·rename_i u hu
   rw[iR] at h;cases h
   rw[hu];exact hk
  ·cases h
 ·rw[h];exact hk
 ·split at h
  ·rename_i c e
   simp only[e]
   split at h
   ·rename_i f xs hx
    rw[hx];exact hC _ _ _ _ _ h K hk
   ·cases h
  ·cases h
 ·split at h
  ·rename_i it e
   simp only[e]
   split at h
   ·rename_i x hx
    rw[hx];exact vJ h hk
   ·cases h
  ·cases h
 ·cases h
def Aq (want:Bool) (p q:Prop):Prop:=match want with
 | true=>p
 | false=>q
theorem nH {ops:Array Oper} {o:Oper} {t:List LV} {b:Bool} {j:Nat} {want:Bool} (hg:o.guard=some (j,want)) (h:lV ops o t=some b):∃ d,(ops[j]?).bind (·.dst)=some d∧
  ∀ (run skip:List LV→Prop),(cond b (run t) (skip t))→
   qJ (guarded ops j) (t.getD d af) (Aq want (run (t.set d (.bool true))) (skip (t.set d (.bool true)))) (Aq want (skip (t.set d (.bool false))) (run (t.set d (.bool false)))) (skip t):=by
 unfold lV at h
 simp only[hg] at h
 split at h
 ·cases h
 ·rename_i d hd
  refine ⟨d,hd,fun run skip hr=>?_⟩
  split at h
  ·rename_i c hc
   cases h
   have hs:=(cv hc).2
   rw[hc]
   cases c<;>cases want<;>cases hgd:guarded ops j<;>simp only[qJ,aL,vh,Aq]<;>rw[hs]<;>exact hr
  ·rename_i hc
   rw[hc]
   split at h
   ·rename_i hgd
    cases h
    rw[hgd];exact hr
   ·cases h
  ·cases h
theorem fg (hC:jn P C) {ops:Array Oper} {K:List LV→aa→Prop}:∀ {l:List Nat} {t t':List LV} {st st':aa},
  fY P C ops l t st=some (t',st')→K t' st'→bw P ops l K t st
 | [],t,t',st,st',h,hk=>by simp only[fY,gy] at h;cases h;exact hk
 | i::rest,t,t',st,st',h,hk=>by
  have go:∀ {t st},fY P C ops rest t st=some (t',st')→bw P ops rest K t st:=fun h=>fg hC h hk
  unfold fY at h
  unfold bw
  cases ho:ops[i]? with
  | none=>simp only[ho] at h;cases h
  | some o=>
   simp only[ho] at h ⊢
   cases hw:lV ops o t with
   | none=>simp only[hw] at h;cases h
   | some b=>
    have fin:cond b (cZ P o t st fun v st'=>bo (bV ops i) v fun v=>force (aW t o.dst v) fun t=>bw P ops rest K t st') (force (aW t o.dst af) fun t=>bw P ops rest K t st):=by
     cases b with
     | true=>
      simp only[hw] at h
      split at h
      ·rename_i v s hv
       split at h
       ·rename_i hb
        refine lX (K:=fun v st'=>bo (bV ops i) v fun v=>force (aW t o.dst v) fun t=>bw P ops rest K t st') hC hv (fm hb ?_)
        show force _ _
        rw[force_eq];exact go h
       ·cases h
      ·cases h
     | false=>
      simp only[hw] at h
      show force _ _
      rw[force_eq];exact go h
    cases hg:o.guard with
    | none=>
     simp only
     have:b=true:=by simp only[lV,hg] at hw;cases hw;rfl
     subst this;exact fin
    | some p=>
     obtain ⟨j,want⟩:=p
     obtain ⟨d,hd,hs⟩:=nH hg hw
     simp only[hd]
     have:=hs (fun t=>cZ P o t st fun v st'=>bo (bV ops i) v fun v=>force (aW t o.dst v) fun t=>bw P ops rest K t st') (fun t=>force (aW t o.dst af) fun t=>bw P ops rest K t st) fin
     cases want<;>exact this
theorem eW {ops:Array Oper} {bf:Array Nat} {i:Nat} {st:aa} {R:Prop}:∀ {pend:List (Nat × List LV × LV)},lW P ops bf i st pend=true→R→recheck P ops bf i st pend R
 | [],_,hr=>hr
 | (j,t,v)::r,h,hr=>by
  unfold lW at h
  unfold recheck
  cases hb:(bf.getD i 0).testBit j with
  | true=>simp only[hb] at h ⊢;exact eW h hr
  | false=>
   simp only[hb] at h ⊢
   cases ho:ops[j]? with
   | none=>simp only[ho] at h;cases h
   | some o=>
    simp only[ho] at h ⊢
    split at h
    ·rename_i u hu
     split at h
     ·rename_i hs;exact ⟨by rw[hu,LV.eJ hs],eW h hr⟩
     ·cases h
    ·cases h
theorem rG (hC:jn P C) {ops:Array Oper} {bf:Array Nat} {i:Nat} {l:List Nat} {pend:List (Nat × List LV × LV)} {t t':List LV} {st st':aa} {next:List (Nat × List LV × LV)→List LV→aa→Prop}
  (h:cr P C ops bf (i::l) pend t st=some (t',st')):∃ p1 t1 s1,(∀ l',cr P C ops bf (i::l') pend t st=cr P C ops bf l' p1 t1 s1)∧(next p1 t1 s1→eU P ops bf i pend t st next):=by
 unfold cr at h
 cases ho:ops[i]? with
 | none=>simp only[ho] at h;cases h
 | some o=>
  simp only[ho] at h
  cases hw:lV ops o t with
  | none=>simp only[hw] at h;cases h
  | some b=>
   have fin:cond b (cU P ops bf i o pend t st fun p v s=>bo (bV ops i) v fun v=>force (aW t o.dst v) fun t=>next p t s) (force (aW t o.dst af) fun t=>next pend t st)→
     eU P ops bf i pend t st next:=by
    intro fin
    unfold eU
    simp only[ho]
    cases hg:o.guard with
    | none=>
     simp only
     have:b=true:=by simp only[lV,hg] at hw;cases hw;rfl
     subst this;exact fin
    | some p=>
     obtain ⟨j,want⟩:=p
     obtain ⟨d,hd,hs⟩:=nH hg hw
     simp only[hd]
     have:=hs (fun t=>cU P ops bf i o pend t st fun p v s=>bo (bV ops i) v fun v=>force (aW t o.dst v) fun t=>next p t s) (fun t=>force (aW t o.dst af) fun t=>next pend t st) fin
     cases want<;>exact this
   cases b with
   | false=>
    refine ⟨pend,aW t o.dst af,st,fun l'=>?_,fun hn=>fin (by show force _ _;rw[force_eq];exact hn)⟩
    rw[cr];simp only[ho,hw]
   | true=>
    simp only[hw] at h
    cases hv:lU P C o t st with
    | none=>simp only[hv] at h;cases h
    | some r=>
     obtain ⟨v,s⟩:=r
     simp only[hv] at h
     cases hbi:nG (bV ops i) v with
     | false=>simp only[hbi] at h;cases h
     | true=>
     simp only[hbi] at h
     have hop:=fun (K:LV→aa→Prop) (hk:K v s)=>lX hC hv hk
     cases hc:cls P o.op with
     | A=>
      refine ⟨pend,aW t o.dst v,s,fun l'=>?_,fun hn=>fin ?_⟩
      ·rw[cr];simp only[ho,hw,hv,hbi,hc]
      ·have:=hop (fun v s=>bo (bV ops i) v fun v=>force (aW t o.dst v) fun t=>next pend t s) (fm hbi (by rw[force_eq];exact hn))
       show cU P ops bf i o pend t st fun p v s=>bo (bV ops i) v fun v=>force (aW t o.dst v) fun t=>next p t s
       unfold cZ at this
       unfold cU
       simp only[hc] at this ⊢
       unfold lU at hv
       simp only[hc] at hv
       split at hv
       ·rw[iR] at hv;cases hv;exact this
       ·cases hv
     | L=>
      refine ⟨(i,t,v)::pend,aW t o.dst v,s,fun l'=>?_,fun hn=>fin ?_⟩
      ·rw[cr];simp only[ho,hw,hv,hbi,hc]
      ·show cU P ops bf i o pend t st fun p v s=>bo (bV ops i) v fun v=>force (aW t o.dst v) fun t=>next p t s
       unfold cU
       unfold lU at hv
       simp only[hc] at hv ⊢
       split at hv
       ·rename_i u hu
        rw[iR] at hv;cases hv
        rw[hu]
        rw[ad]
        refine fm hbi ?_
        rw[force_eq];exact hn
       ·cases hv
     | W=>
      simp only[hc] at h
      cases hr:lW P ops bf i s pend with
      | false=>simp only[hr] at h;cases h
      | true=>
       refine ⟨pend,aW t o.dst v,s,fun l'=>?_,fun hn=>fin ?_⟩
       ·rw[cr];simp only[ho,hw,hv,hbi,hc,hr]
       ·have:=hop (fun v s=>recheck P ops bf i s pend (bo (bV ops i) v fun v=>force (aW t o.dst v) fun t=>next pend t s)) (eW hr (fm hbi (by rw[force_eq];exact hn)))
        show cU P ops bf i o pend t st fun p v s=>bo (bV ops i) v fun v=>force (aW t o.dst v) fun t=>next p t s
        unfold cZ at this
        unfold cU
        simp only[hc] at this ⊢
        exact this
     | C=>
      simp only[hc] at h
      cases hr:lW P ops bf i s pend with
      | false=>simp only[hr] at h;cases h
      | true=>
       refine ⟨pend,aW t o.dst v,s,fun l'=>?_,fun hn=>fin ?_⟩
       ·rw[cr];simp only[ho,hw,hv,hbi,hc,hr]
       ·have:=hop (fun v s=>recheck P ops bf i s pend (bo (bV ops i) v fun v=>force (aW t o.dst v) fun t=>next pend t s)) (eW hr (fm hbi (by rw[force_eq];exact hn)))
        show cU P ops bf i o pend t st fun p v s=>bo (bV ops i) v fun v=>force (aW t o.dst v) fun t=>next p t s
        unfold cZ at this
        unfold cU
        simp only[hc] at this ⊢
        exact this
     | N=>
      simp only[hc] at h
      cases hr:lW P ops bf i s pend with
      | false=>simp only[hr] at h;cases h
      | true=>
       refine ⟨pend,aW t o.dst v,s,fun l'=>?_,fun hn=>fin ?_⟩
       ·rw[cr];simp only[ho,hw,hv,hbi,hc,hr]
       ·have:=hop (fun v s=>recheck P ops bf i s pend (bo (bV ops i) v fun v=>force (aW t o.dst v) fun t=>next pend t s)) (eW hr (fm hbi (by rw[force_eq];exact hn)))
        show cU P ops bf i o pend t st fun p v s=>bo (bV ops i) v fun v=>force (aW t o.dst v) fun t=>next p t s
        unfold cZ at this
        unfold cU
        simp only[hc] at this ⊢
        exact this
     | no=>
      unfold lU at hv
      simp only[hc] at hv
      cases hv
theorem rH {f:Nat→Prop}:∀ {l:List Nat},(∀ i ∈ l,f i)→rn f l
 | [],_=>trivial
 | [x],h=>h x (by simp)
 | x::y::l,h=>⟨h x (by simp),rH fun i hi=>h i (List.mem_cons_of_mem _ hi)⟩
theorem fC {f:Nat→Option (List (List Nat))}:∀ {l:List Nat} {ls:List (List Nat)},iT f l=some ls→∀ i ∈ l,∃ a,f i=some a∧∀ x ∈ a,i::x ∈ ls
 | [],ls,_,i,hi=>by simp at hi
 | j::l,ls,h,i,hi=>by
  simp only[iT] at h
  split at h
  ·rename_i a b ha hb
   cases h
   rcases List.mem_cons.1 hi with e|hi
   ·subst e;exact ⟨a,ha,fun x hx=>List.mem_append.2 (.inl (List.mem_map.2 ⟨x,hx,rfl⟩))⟩
   ·obtain ⟨a',h1,h2⟩:=fC hb i hi
    exact ⟨a',h1,fun x hx=>List.mem_append.2 (.inr (h2 x hx))⟩
  ·cases h
theorem gP {rows:List (Nat × Bool)} {m:Nat}:∀ {r:List (Nat × Bool)} {i:Nat} {c l:List Nat},cT m r i c=.many l→l≠[]
 | [],i,c,l,h=>by
  match c,h with
  | [],h=>simp[cT] at h
  | [x],h=>simp[cT] at h
  | x::y::c,h=>simp only[cT,Pk.many.injEq] at h;rw[← h];simp
 | (p,q)::r,i,c,l,h=>by
  simp only[cT] at h
  split at h
  ·exact gP (rows:=rows) h
  ·split at h
   ·cases h
   ·exact gP (rows:=rows) h
theorem lx {rows:List (Nat × Bool)}:∀ {n m:Nat} {ls:List (List Nat)},fB rows n m=some ls→∃ l,l ∈ ls
 | 0,m,ls,h=>by
  simp only[fB] at h
  split at h
  ·cases h;exact ⟨_,List.mem_singleton.2 rfl⟩
  ·cases h
 | n+1,m,ls,h=>by
  simp only[fB] at h
  split at h
  ·cases h;exact ⟨_,List.mem_singleton.2 rfl⟩
  ·split at h
   ·rename_i a ha
    cases h
    obtain ⟨l,hl⟩:=lx ha
    exact ⟨_,List.mem_map.2 ⟨l,hl,rfl⟩⟩
   ·cases h
  ·rename_i l hp
   have hne:=gP (rows:=rows) hp
   cases l with
   | nil=>exact absurd rfl hne
   | cons i l=>
    obtain ⟨a,ha,hx⟩:=fC h i (by simp)
    obtain ⟨x,hxa⟩:=lx ha
    exact ⟨_,hx x hxa⟩
theorem ki (hC:jn P C) {ops:Array Oper} {bf:Array Nat} {rows:List (Nat × Bool)} {K:List LV→aa→Prop}:∀ {n m:Nat} {ls:List (List Nat)} {pend:List (Nat × List LV × LV)} {t:List LV} {st:aa},
  fB rows n m=some ls→(∀ l ∈ ls,∃ t' st',cr P C ops bf l pend t st=some (t',st')∧K t' st')→bT P ops bf rows K n m pend t st
 | 0,m,ls,pend,t,st,h,hk=>by
  simp only[fB] at h
  simp only[bT]
  split at h
  ·rename_i hp
   cases h
   obtain ⟨t',st',h1,h2⟩:=hk [] (by simp)
   simp only[cr,gy] at h1;cases h1
   simp only[hp];exact h2
  ·cases h
 | n+1,m,ls,pend,t,st,h,hk=>by
  -- one of the first operations,and all that may come behind it
  have step:∀ {i:Nat} {a:List (List Nat)},fB rows n (m ||| 2 ^ i)=some a→(∀ x ∈ a,i::x ∈ ls)→
    eU P ops bf i pend t st fun pend t st=>bT P ops bf rows K n (m ||| 2 ^ i) pend t st:=by
   intro i a ha hx
   obtain ⟨l0,hl0⟩:=lx ha
   obtain ⟨t',st',h1,_⟩:=hk _ (hx _ hl0)
   obtain ⟨p1,t1,s1,h2,h3⟩:=rG hC (next:=fun pend t st=>bT P ops bf rows K n (m ||| 2 ^ i) pend t st) h1
   refine h3 (ki hC ha fun l hl=>?_)
   rw[← h2 l]
   exact hk _ (hx _ hl)
  simp only[fB] at h
  simp only[bT]
  split at h
  ·rename_i hp
   cases h
   obtain ⟨t',st',h1,h2⟩:=hk [] (by simp)
   simp only[cr,gy] at h1;cases h1
   simp only[hp];exact h2
  ·rename_i i hp
   simp only[hp]
   split at h
   ·rename_i a ha
    cases h
    exact step ha fun x hx=>List.mem_map.2 ⟨x,hx,rfl⟩
   ·cases h
  ·rename_i l hp
   simp only[hp]
   refine rH fun i hi=>?_
   obtain ⟨a,ha,hx⟩:=fC h i hi
   exact step ha hx
theorem lY {ops:Array Oper} {bf:Array Nat} {n:Nat} {t tc:List LV} {st c:aa}:∀ {ls:List (List Nat)},pW P C ops bf n t st tc c ls=true→
  ∀ l ∈ ls,∃ t' s',cr P C ops bf l [] t st=some (t',s')∧∃ m,rC n m t' s' tc c=true
 | [],_,l,hl=>by simp at hl
 | l::ls,h,x,hx=>by
  simp only[pW] at h
  split at h
  ·rename_i t' s' hr
   split at h
   ·rename_i hi
    rcases List.mem_cons.1 hx with e|hx
    ·subst e;exact ⟨t',s',hr,_,hi⟩
    ·exact lY h x hx
   ·cases h
  ·cases h
theorem jG {t:List LV} {st:aa}:∀ {rs:List ResultVar} {vs:List LV} {K:List LV→Prop},tz P t st rs=some vs→K vs→lR P t st rs K
 | [],vs,K,h,hk=>by simp only[tz] at h;cases h;exact hk
 | .tmp i::rs,vs,K,h,hk=>by
  simp only[tz] at h
  split at h
  ·rename_i us hu
   cases h
   exact jG (K:=fun vs=>K (t.getD i af::vs)) hu hk
  ·cases h
 | .cell a ty::rs,vs,K,h,hk=>by
  simp only[tz] at h
  split at h
  ·rename_i v us hv hu
   cases h
   simp only[lR,hv,bd]
   exact jG (K:=fun vs=>K (v::vs)) hu hk
  ·cases h
theorem nI {rs:List ResultVar} {R:LV→aa→Prop} {t:List LV} {st st':aa} {v:LV} (h:vI P rs t st=some (v,st')) (hk:R v st'):fX P rs R t st:=by
 unfold vI at h
 split at h
 ·rename_i vs hv
  cases h
  exact jG (K:=fun vs=>R (ur vs) st) hv hk
 ·cases h
theorem step_scope' {b:Frame} {a:Act} {c:Code} {k:List Item} {cs:List Frame} {w:World}:step P (lone (b.at a (.code (.scope c)::k)) cs w)=.next (lone (b.at a (.code c::.inScope c::k)) cs w):=
 step_lone_go (by simp[stepG,stepG.exec,Frame.at])
theorem step_goto' {b:Frame} {a:Act} {l:Nat} {k k':List Item} {cs:List Frame} {w:World} (h:gotoIn l k=some k'):step P (lone (b.at a (.code (.goto l)::k)) cs w)=.next (lone (b.at a k') cs w):=
 step_lone_go (by simp[stepG,stepG.exec,Frame.at,h])
end
end Go.CP
