/- The clean machine, part 30: a call run to its end by the kernel: calls and loops are walked through, every order of a drawn region is tried. -/
import Derived.Test.YtknegckgmklnhaaGreatDoorCp29
namespace Go.CP
abbrev Ora:=FuncId→List LV→aa→Option (LV × aa)
def lA (P:Program) (C:Ora):Prop:=∀ f xs st v st',C f xs st=some (v,st')→∀ K:LV→aa→Prop,K v st'→aw P f xs st K
def xn {α:Type} (m:Nat) (K:Nat→α):α:=match m with
 | 0=>K 0
 | m+1=>K (m+1)
def xo {α:Type} (n:Int) (K:Int→α):α:=match n with
 | .ofNat m=>xn m fun m=>K (.ofNat m)
 | .negSucc m=>xn m fun m=>K (.negSucc m)
def tr {α:Type} (v:LV) (K:LV→α):α:=match v with
 | .bool b=>(match b with|true=>K (.bool true) | false=>K (.bool false))
 | .int k n=>xo n fun n=>K (.int k n)
 | v=>K v
def nY {β α:Type} (l:List β) (K:List β→α):α:=match l with
 | []=>K []
 | a::l=>nY l fun l'=>K (a::l')
theorem zU {α:Type} {m:Nat} {K:Nat→α}:xn m K=K m:=by cases m<;>rfl
theorem zV {α:Type} {n:Int} {K:Int→α}:xo n K=K n:=by cases n<;>simp only[xo,zU]
theorem kP {α:Type} {v:LV} {K:LV→α}:tr v K=K v:=by
 cases v<;>simp only[tr,zV]
 rename_i b;cases b<;>rfl
theorem iQ {β α:Type}:∀ {l:List β} {K:List β→α},nY l K=K l
 | [],_=>rfl
 | _::l,_=>by simp only[nY];exact iQ (l:=l)
def oY (P:Program) (C:Ora) (o:Oper) (t:List LV) (st:aa):Option (LV × aa):=match cls P o.op with
 | .A=>(match fg P t o.op with
  | some v=>tr v fun v=>some (v,st)
  | none=>none)
 | .L=>(match jG P t st o.op with
  | some v=>tr v fun v=>some (v,st)
  | none=>none)
 | .W=>gk P t st o.op
 | .C=>(match o.op with
  | .call c=>(match gp t c with
   | some (f,xs)=>C f xs st
   | none=>none)
  | _=>none)
 | .N=>(match o.op with
  | .next it false=>(match ev t it with
   | some x=>lj st x
   | none=>none)
  | _=>none)
 | .no=>none
def oZ (ops:Array Oper) (o:Oper) (t:List LV):Option Bool:=match o.guard with
 | none=>some true
 | some (j,want)=>match (ops[j]?).bind (·.dst) with
  | none=>none
  | some d=>match t.getD d aJ with
   | .bool b=>some (b==want)
   | .tup []=>(match guarded ops j with
    | true=>some false
    | false=>none)
   | _=>none
def qx (b:Bool) (v:LV):Bool:=match b with
 | false=>true
 | true=>match v with
  | .bool _=>true
  | _=>false
theorem gw {b:Bool} {v:LV} {K:LV→Prop} (h:qx b v=true) (hk:K v):cj b v K:=by
 unfold qx at h
 unfold cj
 split at h
 ·exact hk
 ·split at h
  ·rename_i c;cases c<;>exact hk
  ·cases h
def jr (P:Program) (C:Ora) (ops:Array Oper):List Nat→List LV→aa→Option (List LV × aa)
 | [],t,st=>nY t fun t=>some (t,st)
 | i::rest,t,st=>match ops[i]? with
  | none=>none
  | some o=>match oZ ops o t with
   | none=>none
   | some true=>(match oY P C o t st with
    | some (v,st')=>(match qx (dn ops i) v with
     | true=>jr P C ops rest (bQ t o.dst v) st'
     | false=>none)
    | none=>none)
   | some false=>jr P C ops rest (bQ t o.dst aJ) st
def o0 (P:Program) (ops:Array Oper) (bf:Array Nat) (i:Nat) (st:aa):List (Nat × List LV × LV)→Bool
 | []=>true
 | (j,t,v)::r=>match (bf.getD i 0).testBit j with
  | true=>o0 P ops bf i st r
  | false=>match ops[j]? with
   | some o=>(match jG P t st o.op with
    | some u=>(match LV.same u v with
     | true=>o0 P ops bf i st r
     | false=>false)
    | none=>false)
   | none=>false
def kQ (f:Nat→Option (List (List Nat))):List Nat→Option (List (List Nat))
 | []=>some []
 | i::l=>match f i,kQ f l with
  | some a,some b=>some (a.map (i::·)++b)
  | _,_=>none
def iz (rows:List (Nat × Bool)):Nat→Nat→Option (List (List Nat))
 | 0,m=>match fk rows m with
  | .done=>some [[]]
  | _=>none
 | n+1,m=>match fk rows m with
  | .done=>some [[]]
  | .one i=>(match iz rows n (m ||| 2 ^ i) with
   | some a=>some (a.map (i::·))
   | none=>none)
  | .many l=>kQ (fun i=>iz rows n (m ||| 2 ^ i)) l
def cW (P:Program) (C:Ora) (ops:Array Oper) (bf:Array Nat):List Nat→List (Nat × List LV × LV)→List LV→aa→Option (List LV × aa)
 | [],_,t,st=>nY t fun t=>some (t,st)
 | i::l,pend,t,st=>match ops[i]? with
  | none=>none
  | some o=>match oZ ops o t with
   | none=>none
   | some true=>(match oY P C o t st with
    | some (v,st')=>(match qx (dn ops i) v with
     | false=>none
     | true=>(match cls P o.op with
      | .A=>cW P C ops bf l pend (bQ t o.dst v) st'
      | .L=>cW P C ops bf l ((i,t,v)::pend) (bQ t o.dst v) st'
      | _=>(match o0 P ops bf i st' pend with
       | true=>cW P C ops bf l pend (bQ t o.dst v) st'
       | false=>none)))
    | none=>none)
   | some false=>cW P C ops bf l pend (bQ t o.dst aJ) st
def u6:List LV→List LV→List (LV × LV)→List (LV × LV)
 | a::as,b::bs,w=>(a,b)::u6 as bs w
 | _,_,w=>w
def GA:List (LV × LV)→List (LV × LV)→List (LV × LV)→List (LV × LV)
 | a::as,b::bs,w=>(a.1,b.1)::(a.2,b.2)::GA as bs w
 | _,_,w=>w
def GB (x y:Option av) (w:List (LV × LV)):List (LV × LV):=match x,y with
 | some (.cells _ a),some (.cells _ b)=>u6 a b w
 | some (.map _ a _ _),some (.map _ b _ _)=>GA a b w
 | _,_=>w
def GC (n:Nat) (m:List (Nat × Nat)) (o p:Nat):Bool:=match Nat.ble n o&&Nat.ble n p with
 | true=>(match m.find? (fun q=>q.1==o||q.2==p) with
  | some _=>false
  | none=>true)
 | false=>false
def uni (n:Nat) (s c:aa):Nat→List (LV × LV)→List (Nat × Nat)→List (Nat × Nat)
 | 0,_,m=>m
 | k+1,w,m=>match w with
  | []=>m
  | (a,b)::w=>
   let obj (o p:Nat):List (Nat × Nat):=(match GC n m o p with
    | true=>uni n s c k (GB s[o]? c[p]? w) ((o,p)::m)
    | false=>uni n s c k w m)
   match a,b with
   | .ptr o _,.ptr p _=>obj o p
   | .sl o _ _ _,.sl p _ _ _=>obj o p
   | .map o,.map p=>obj o p
   | .agg x,.agg y=>uni n s c k (u6 x y w) m
   | .tup x,.tup y=>uni n s c k (u6 x y w) m
   | .iface _ x,.iface _ y=>uni n s c k ((x,y)::w) m
   | .fn _ x u,.fn _ y v=>uni n s c k (u6 x y (u6 u v w)) m
   | _,_=>uni n s c k w m
def E8:aa→aa→List (LV × LV)→List (LV × LV)
 | x::s,y::c,w=>GB (some x) (some y) (E8 s c w)
 | _,_,w=>w
def GD (n:Nat) (m:List (Nat × Nat)):Nat→aa→aa
 | _,[]=>[]
 | o,x::s=>(match Nat.blt o n with
  | true=>x
  | false=>match m.find? (fun q=>q.2==o) with
   | some _=>x
   | none=>.dead)::GD n m (o+1) s
def tu (P:Program) (C:Ora) (ops:Array Oper) (bf:Array Nat) (n:Nat) (t:List LV) (st:aa) (tc:List LV) (c:aa):List (List Nat)→Bool
 | []=>true
 | l::ls=>match cW P C ops bf l [] t st with
  | some (t',s')=>(match u4 n (uni n s' c 10000 (u6 t' tc (E8 (s'.take n) (c.take n) [])) []) t' s' tc c with
   | true=>tu P C ops bf n t st tc c ls
   | false=>false)
  | none=>false
def yK (P:Program) (C:Ora) (ops:Array Oper) (bf:Array Nat) (ls:List (List Nat)) (t:List LV) (st:aa):Option (List LV × aa):=match ls with
 | []=>none
 | [l]=>cW P C ops bf l [] t st
 | l::ls=>match cW P C ops bf l [] t st with
  | none=>none
  | some (tc,sc)=>nY (GD st.length (uni st.length sc sc 10000 (u6 tc tc (E8 (sc.take st.length) (sc.take st.length) [])) []) 0 sc) fun c=>
   match tu P C ops bf st.length t st tc c (l::ls) with
   | true=>some (tc,c)
   | false=>none
def xp (P:Program) (t:List LV) (st:aa):List ResultVar→Option (List LV)
 | []=>some []
 | .tmp i::rs=>(match xp P t st rs with
  | some vs=>some (t.getD i aJ::vs)
  | none=>none)
 | .cell a ty::rs=>match pO P st ty (t.getD a aJ),xp P t st rs with
  | some v,some vs=>some (v::vs)
  | _,_=>none
def Di (P:Program) (rs:List ResultVar) (t:List LV) (st:aa):Option (LV × aa):=match xp P t st rs with
 | some vs=>some (yI vs,st)
 | none=>none
section
variable {P:Program} {C:Ora}
theorem u7 {st st':aa} {x v:LV} (h:lj st x=some (v,st')):dm st x=some [(v,st')]:=by
 unfold lj at h
 split at h
 case h_2=>cases h
 rename_i r
 split at h
 ·rename_i a1 a2 a3 hr
  cases h
  unfold dm;simp only[hr]
 ·rename_i cur hr
  cases h
  unfold dm;simp only[hr]
 ·rename_i cur e hr
  cases h
  unfold dm;simp only[hr,gd,List.map_cons,List.map_nil]
 ·rename_i o since seen last hr
  split at h
  case h_2=>cases h
  rename_i md es bs n ho
  split at h
  case isFalse=>cases h
  rename_i hg
  split at h
  ·rename_i hl
   cases h
   unfold dm;simp only[hr,ho,if_pos hg,hl]
  ·rename_i e bb hl
   split at h
   case isFalse=>cases h
   rename_i hlt
   cases h
   unfold dm;simp only[hr,ho,if_pos hg,hl]
   rw[if_pos (by simpa using hlt)]
   rfl
  ·cases h
 ·cases h
theorem zW {st st':aa} {x v:LV} {K:LV→aa→Prop} (h:lj st x=some (v,st')) (hk:K v st'):jL st x K:=by
 unfold jL
 rw[u7 h]
 exact ⟨hk,trivial⟩
theorem o7 (hC:lA P C) {o:Oper} {t:List LV} {st st':aa} {v:LV} {K:LV→aa→Prop} (h:oY P C o t st=some (v,st')) (hk:K v st'):fM P o t st K:=by
 unfold oY at h
 unfold fM
 split at h<;>rename_i e<;>simp only[e]
 ·split at h
  ·rename_i u hu
   rw[kP] at h;cases h
   rw[hu];exact hk
  ·cases h
 ·split at h
  ·rename_i u hu
   rw[kP] at h;cases h
   rw[hu];exact hk
  ·cases h
 ·rw[h];exact hk
 ·split at h
  ·rename_i c e
   simp only[e]
   split at h
   ·rename_i f xs hx
    rw[hx];exact hC _ _ _ _ _ h K hk
   ·cases h
  ·cases h
 ·split at h
  ·rename_i it e
   simp only[e]
   split at h
   ·rename_i x hx
    rw[hx];exact zW h hk
   ·cases h
  ·cases h
 ·cases h
def E9 (want:Bool) (p q:Prop):Prop:=match want with
 | true=>p
 | false=>q
theorem qy {ops:Array Oper} {o:Oper} {t:List LV} {b:Bool} {j:Nat} {want:Bool} (hg:o.guard=some (j,want)) (h:oZ ops o t=some b):∃ d,(ops[j]?).bind (·.dst)=some d∧
  ∀ (run skip:List LV→Prop),(cond b (run t) (skip t))→
   zw (guarded ops j) (t.getD d aJ) (E9 want (run (t.set d (.bool true))) (skip (t.set d (.bool true)))) (E9 want (skip (t.set d (.bool false))) (run (t.set d (.bool false)))) (skip t):=by
 unfold oZ at h
 simp only[hg] at h
 split at h
 ·cases h
 ·rename_i d hd
  refine ⟨d,hd,fun run skip hr=>?_⟩
  split at h
  ·rename_i c hc
   cases h
   have hs:=(eH hc).2
   rw[hc]
   cases c<;>cases want<;>cases hgd:guarded ops j<;>simp only[zw,aq,zv,E9]<;>rw[hs]<;>exact hr
  ·rename_i hc
   rw[hc]
   split at h
   ·rename_i hgd
    cases h
    rw[hgd];exact hr
   ·cases h
  ·cases h
theorem gq (hC:lA P C) {ops:Array Oper} {K:List LV→aa→Prop}:∀ {l:List Nat} {t t':List LV} {st st':aa},
  jr P C ops l t st=some (t',st')→K t' st'→b8 P ops l K t st
 | [],t,t',st,st',h,hk=>by simp only[jr,iQ] at h;cases h;exact hk
 | i::rest,t,t',st,st',h,hk=>by
  have go:∀ {t st},jr P C ops rest t st=some (t',st')→b8 P ops rest K t st:=fun h=>gq hC h hk
  unfold jr at h
  unfold b8
  cases ho:ops[i]? with
  | none=>simp only[ho] at h;cases h
  | some o=>
   simp only[ho] at h ⊢
   cases hw:oZ ops o t with
   | none=>simp only[hw] at h;cases h
   | some b=>
    have fin:cond b (fM P o t st fun v st'=>cj (dn ops i) v fun v=>force (bQ t o.dst v) fun t=>b8 P ops rest K t st') (force (bQ t o.dst aJ) fun t=>b8 P ops rest K t st):=by
     cases b with
     | true=>
      simp only[hw] at h
      split at h
      ·rename_i v s hv
       split at h
       ·rename_i hb
        refine o7 (K:=fun v st'=>cj (dn ops i) v fun v=>force (bQ t o.dst v) fun t=>b8 P ops rest K t st') hC hv (gw hb ?_)
        show force _ _
        rw[force_eq];exact go h
       ·cases h
      ·cases h
     | false=>
      simp only[hw] at h
      show force _ _
      rw[force_eq];exact go h
    cases hg:o.guard with
    | none=>
     simp only
     have:b=true:=by simp only[oZ,hg] at hw;cases hw;rfl
     subst this;exact fin
    | some p=>
     obtain ⟨j,want⟩:=p
     obtain ⟨d,hd,hs⟩:=qy hg hw
     simp only[hd]
     have:=hs (fun t=>fM P o t st fun v st'=>cj (dn ops i) v fun v=>force (bQ t o.dst v) fun t=>b8 P ops rest K t st') (fun t=>force (bQ t o.dst aJ) fun t=>b8 P ops rest K t st) fin
     cases want<;>exact this
theorem fR {ops:Array Oper} {bf:Array Nat} {i:Nat} {st:aa} {R:Prop}:∀ {pend:List (Nat × List LV × LV)},o0 P ops bf i st pend=true→R→recheck P ops bf i st pend R
 | [],_,hr=>hr
 | (j,t,v)::r,h,hr=>by
  unfold o0 at h
  unfold recheck
  cases hb:(bf.getD i 0).testBit j with
  | true=>simp only[hb] at h ⊢;exact fR h hr
  | false=>
   simp only[hb] at h ⊢
   cases ho:ops[j]? with
   | none=>simp only[ho] at h;cases h
   | some o=>
    simp only[ho] at h ⊢
    split at h
    ·rename_i u hu
     split at h
     ·rename_i hs;exact ⟨by rw[hu,LV.fC hs],fR h hr⟩
     ·cases h
    ·cases h
theorem u9 (hC:lA P C) {ops:Array Oper} {bf:Array Nat} {i:Nat} {l:List Nat} {pend:List (Nat × List LV × LV)} {t t':List LV} {st st':aa} {next:List (Nat × List LV × LV)→List LV→aa→Prop}
  (h:cW P C ops bf (i::l) pend t st=some (t',st')):∃ p1 t1 s1,(∀ l',cW P C ops bf (i::l') pend t st=cW P C ops bf l' p1 t1 s1)∧(next p1 t1 s1→fQ P ops bf i pend t st next):=by
 unfold cW at h
 cases ho:ops[i]? with
 | none=>simp only[ho] at h;cases h
 | some o=>
  simp only[ho] at h
  cases hw:oZ ops o t with
  | none=>simp only[hw] at h;cases h
  | some b=>
   have fin:cond b (dH P ops bf i o pend t st fun p v s=>cj (dn ops i) v fun v=>force (bQ t o.dst v) fun t=>next p t s) (force (bQ t o.dst aJ) fun t=>next pend t st)→
     fQ P ops bf i pend t st next:=by
    intro fin
    unfold fQ
    simp only[ho]
    cases hg:o.guard with
    | none=>
     simp only
     have:b=true:=by simp only[oZ,hg] at hw;cases hw;rfl
     subst this;exact fin
    | some p=>
     obtain ⟨j,want⟩:=p
     obtain ⟨d,hd,hs⟩:=qy hg hw
     simp only[hd]
     have:=hs (fun t=>dH P ops bf i o pend t st fun p v s=>cj (dn ops i) v fun v=>force (bQ t o.dst v) fun t=>next p t s) (fun t=>force (bQ t o.dst aJ) fun t=>next pend t st) fin
     cases want<;>exact this
   cases b with
   | false=>
    refine ⟨pend,bQ t o.dst aJ,st,fun l'=>?_,fun hn=>fin (by show force _ _;rw[force_eq];exact hn)⟩
    rw[cW];simp only[ho,hw]
   | true=>
    simp only[hw] at h
    cases hv:oY P C o t st with
    | none=>simp only[hv] at h;cases h
    | some r=>
     obtain ⟨v,s⟩:=r
     simp only[hv] at h
     cases hbi:qx (dn ops i) v with
     | false=>simp only[hbi] at h;cases h
     | true=>
     simp only[hbi] at h
     have hop:=fun (K:LV→aa→Prop) (hk:K v s)=>o7 hC hv hk
     cases hc:cls P o.op with
     | A=>
      refine ⟨pend,bQ t o.dst v,s,fun l'=>?_,fun hn=>fin ?_⟩
      ·rw[cW];simp only[ho,hw,hv,hbi,hc]
      ·have:=hop (fun v s=>cj (dn ops i) v fun v=>force (bQ t o.dst v) fun t=>next pend t s) (gw hbi (by rw[force_eq];exact hn))
       show dH P ops bf i o pend t st fun p v s=>cj (dn ops i) v fun v=>force (bQ t o.dst v) fun t=>next p t s
       unfold fM at this
       unfold dH
       simp only[hc] at this ⊢
       unfold oY at hv
       simp only[hc] at hv
       split at hv
       ·rw[kP] at hv;cases hv;exact this
       ·cases hv
     | L=>
      refine ⟨(i,t,v)::pend,bQ t o.dst v,s,fun l'=>?_,fun hn=>fin ?_⟩
      ·rw[cW];simp only[ho,hw,hv,hbi,hc]
      ·show dH P ops bf i o pend t st fun p v s=>cj (dn ops i) v fun v=>force (bQ t o.dst v) fun t=>next p t s
       unfold dH
       unfold oY at hv
       simp only[hc] at hv ⊢
       split at hv
       ·rename_i u hu
        rw[kP] at hv;cases hv
        rw[hu]
        rw[ab]
        refine gw hbi ?_
        rw[force_eq];exact hn
       ·cases hv
     | W=>
      simp only[hc] at h
      cases hr:o0 P ops bf i s pend with
      | false=>simp only[hr] at h;cases h
      | true=>
       refine ⟨pend,bQ t o.dst v,s,fun l'=>?_,fun hn=>fin ?_⟩
       ·rw[cW];simp only[ho,hw,hv,hbi,hc,hr]
       ·have:=hop (fun v s=>recheck P ops bf i s pend (cj (dn ops i) v fun v=>force (bQ t o.dst v) fun t=>next pend t s)) (fR hr (gw hbi (by rw[force_eq];exact hn)))
        show dH P ops bf i o pend t st fun p v s=>cj (dn ops i) v fun v=>force (bQ t o.dst v) fun t=>next p t s
        unfold fM at this
        unfold dH
        simp only[hc] at this ⊢
        exact this
     | C=>
      simp only[hc] at h
      cases hr:o0 P ops bf i s pend with
      | false=>simp only[hr] at h;cases h
      | true=>
       refine ⟨pend,bQ t o.dst v,s,fun l'=>?_,fun hn=>fin ?_⟩
       ·rw[cW];simp only[ho,hw,hv,hbi,hc,hr]
       ·have:=hop (fun v s=>recheck P ops bf i s pend (cj (dn ops i) v fun v=>force (bQ t o.dst v) fun t=>next pend t s)) (fR hr (gw hbi (by rw[force_eq];exact hn)))
        show dH P ops bf i o pend t st fun p v s=>cj (dn ops i) v fun v=>force (bQ t o.dst v) fun t=>next p t s
        unfold fM at this
        unfold dH
        simp only[hc] at this ⊢
        exact this
     | N=>
      simp only[hc] at h
      cases hr:o0 P ops bf i s pend with
      | false=>simp only[hr] at h;cases h
      | true=>
       refine ⟨pend,bQ t o.dst v,s,fun l'=>?_,fun hn=>fin ?_⟩
       ·rw[cW];simp only[ho,hw,hv,hbi,hc,hr]
       ·have:=hop (fun v s=>recheck P ops bf i s pend (cj (dn ops i) v fun v=>force (bQ t o.dst v) fun t=>next pend t s)) (fR hr (gw hbi (by rw[force_eq];exact hn)))
        show dH P ops bf i o pend t st fun p v s=>cj (dn ops i) v fun v=>force (bQ t o.dst v) fun t=>next p t s
        unfold fM at this
        unfold dH
        simp only[hc] at this ⊢
        exact this
     | no=>
      unfold oY at hv
      simp only[hc] at hv
      cases hv
theorem va {f:Nat→Prop}:∀ {l:List Nat},(∀ i ∈ l,f i)→yD f l
 | [],_=>trivial
 | [x],h=>h x (by simp)
 | x::y::l,h=>⟨h x (by simp),va fun i hi=>h i (List.mem_cons_of_mem _ hi)⟩
theorem gN {f:Nat→Option (List (List Nat))}:∀ {l:List Nat} {ls:List (List Nat)},kQ f l=some ls→∀ i ∈ l,∃ a,f i=some a∧∀ x ∈ a,i::x ∈ ls
 | [],ls,_,i,hi=>by simp at hi
 | j::l,ls,h,i,hi=>by
  simp only[kQ] at h
  split at h
  ·rename_i a b ha hb
   cases h
   rcases List.mem_cons.1 hi with e|hi
   ·subst e;exact ⟨a,ha,fun x hx=>List.mem_append.2 (.inl (List.mem_map.2 ⟨x,hx,rfl⟩))⟩
   ·obtain ⟨a',h1,h2⟩:=gN hb i hi
    exact ⟨a',h1,fun x hx=>List.mem_append.2 (.inr (h2 x hx))⟩
  ·cases h
theorem js {rows:List (Nat × Bool)} {m:Nat}:∀ {r:List (Nat × Bool)} {i:Nat} {c l:List Nat},fj m r i c=.many l→l≠[]
 | [],i,c,l,h=>by
  match c,h with
  | [],h=>simp[fj] at h
  | [x],h=>simp[fj] at h
  | x::y::c,h=>simp only[fj,Pk.many.injEq] at h;rw[← h];simp
 | (p,q)::r,i,c,l,h=>by
  simp only[fj] at h
  split at h
  ·exact js (rows:=rows) h
  ·split at h
   ·cases h
   ·exact js (rows:=rows) h
theorem nZ {rows:List (Nat × Bool)}:∀ {n m:Nat} {ls:List (List Nat)},iz rows n m=some ls→∃ l,l ∈ ls
 | 0,m,ls,h=>by
  simp only[iz] at h
  split at h
  ·cases h;exact ⟨_,List.mem_singleton.2 rfl⟩
  ·cases h
 | n+1,m,ls,h=>by
  simp only[iz] at h
  split at h
  ·cases h;exact ⟨_,List.mem_singleton.2 rfl⟩
  ·split at h
   ·rename_i a ha
    cases h
    obtain ⟨l,hl⟩:=nZ ha
    exact ⟨_,List.mem_map.2 ⟨l,hl,rfl⟩⟩
   ·cases h
  ·rename_i l hp
   have hne:=js (rows:=rows) hp
   cases l with
   | nil=>exact absurd rfl hne
   | cons i l=>
    obtain ⟨a,ha,hx⟩:=gN h i (by simp)
    obtain ⟨x,hxa⟩:=nZ ha
    exact ⟨_,hx x hxa⟩
theorem mI (hC:lA P C) {ops:Array Oper} {bf:Array Nat} {rows:List (Nat × Bool)} {K:List LV→aa→Prop}:∀ {n m:Nat} {ls:List (List Nat)} {pend:List (Nat × List LV × LV)} {t:List LV} {st:aa},
  iz rows n m=some ls→(∀ l ∈ ls,∃ t' st',cW P C ops bf l pend t st=some (t',st')∧K t' st')→ck P ops bf rows K n m pend t st
 | 0,m,ls,pend,t,st,h,hk=>by
  simp only[iz] at h
  simp only[ck]
  split at h
  ·rename_i hp
   cases h
   obtain ⟨t',st',h1,h2⟩:=hk [] (by simp)
   simp only[cW,iQ] at h1;cases h1
   simp only[hp];exact h2
  ·cases h
 | n+1,m,ls,pend,t,st,h,hk=>by
  -- one of the first operations,and all that may come behind it
  have step:∀ {i:Nat} {a:List (List Nat)},iz rows n (m ||| 2 ^ i)=some a→(∀ x ∈ a,i::x ∈ ls)→
    fQ P ops bf i pend t st fun pend t st=>ck P ops bf rows K n (m ||| 2 ^ i) pend t st:=by
   intro i a ha hx
   obtain ⟨l0,hl0⟩:=nZ ha
   obtain ⟨t',st',h1,_⟩:=hk _ (hx _ hl0)
   obtain ⟨p1,t1,s1,h2,h3⟩:=u9 hC (next:=fun pend t st=>ck P ops bf rows K n (m ||| 2 ^ i) pend t st) h1
   refine h3 (mI hC ha fun l hl=>?_)
   rw[← h2 l]
   exact hk _ (hx _ hl)
  simp only[iz] at h
  simp only[ck]
  split at h
  ·rename_i hp
   cases h
   obtain ⟨t',st',h1,h2⟩:=hk [] (by simp)
   simp only[cW,iQ] at h1;cases h1
   simp only[hp];exact h2
  ·rename_i i hp
   simp only[hp]
   split at h
   ·rename_i a ha
    cases h
    exact step ha fun x hx=>List.mem_map.2 ⟨x,hx,rfl⟩
   ·cases h
  ·rename_i l hp
   simp only[hp]
   refine va fun i hi=>?_
   obtain ⟨a,ha,hx⟩:=gN h i hi
   exact step ha hx
theorem pb {ops:Array Oper} {bf:Array Nat} {n:Nat} {t tc:List LV} {st c:aa}:∀ {ls:List (List Nat)},tu P C ops bf n t st tc c ls=true→
  ∀ l ∈ ls,∃ t' s',cW P C ops bf l [] t st=some (t',s')∧∃ m,u4 n m t' s' tc c=true
 | [],_,l,hl=>by simp at hl
 | l::ls,h,x,hx=>by
  simp only[tu] at h
  split at h
  ·rename_i t' s' hr
   split at h
   ·rename_i hi
    rcases List.mem_cons.1 hx with e|hx
    ·subst e;exact ⟨t',s',hr,_,hi⟩
    ·exact pb h x hx
   ·cases h
  ·cases h
theorem lV {t:List LV} {st:aa}:∀ {rs:List ResultVar} {vs:List LV} {K:List LV→Prop},xp P t st rs=some vs→K vs→oW P t st rs K
 | [],vs,K,h,hk=>by simp only[xp] at h;cases h;exact hk
 | .tmp i::rs,vs,K,h,hk=>by
  simp only[xp] at h
  split at h
  ·rename_i us hu
   cases h
   exact lV (K:=fun vs=>K (t.getD i aJ::vs)) hu hk
  ·cases h
 | .cell a ty::rs,vs,K,h,hk=>by
  simp only[xp] at h
  split at h
  ·rename_i v us hv hu
   cases h
   simp only[oW,hv,bd]
   exact lV (K:=fun vs=>K (v::vs)) hu hk
  ·cases h
theorem qz {rs:List ResultVar} {R:LV→aa→Prop} {t:List LV} {st st':aa} {v:LV} (h:Di P rs t st=some (v,st')) (hk:R v st'):pC P rs R t st:=by
 unfold Di at h
 split at h
 ·rename_i vs hv
  cases h
  exact lV (K:=fun vs=>R (yI vs) st) hv hk
 ·cases h
theorem step_scope' {b:Frame} {a:Act} {c:Code} {k:List Item} {cs:List Frame} {w:World}:step P (lone (b.at a (.code (.scope c)::k)) cs w)=.next (lone (b.at a (.code c::.inScope c::k)) cs w):=
 step_lone_go (by simp[stepG,stepG.exec,Frame.at])
theorem step_goto' {b:Frame} {a:Act} {l:Nat} {k k':List Item} {cs:List Frame} {w:World} (h:gotoIn l k=some k'):step P (lone (b.at a (.code (.goto l)::k)) cs w)=.next (lone (b.at a k') cs w):=
 step_lone_go (by simp[stepG,stepG.exec,Frame.at,h])
end
end Go.CP
