/- Parts of the proof. -/
import Derived.Test.YtknegckgmklnhaaGreatDoorCp29
namespace Go.CP
abbrev Ora:=FuncId→List LV→aa→Option (LV × aa)
def l9 (P:Program) (C:Ora):Prop:=∀ f xs st v st',C f xs st=some (v,st')→∀ K:LV→aa→Prop,K v st'→az P f xs st K
def zG {α:Type} (m:Nat) (K:Nat→α):α:=match m with
 | 0=>K 0
 | m+1=>K (m+1)
def zH {α:Type} (n:Int) (K:Int→α):α:=match n with
 | .ofNat m=>zG m fun m=>K (.ofNat m)
 | .negSucc m=>zG m fun m=>K (.negSucc m)
def uN {α:Type} (v:LV) (K:LV→α):α:=match v with
 | .bool b=>(match b with|true=>K (.bool true) | false=>K (.bool false))
 | .int k n=>zH n fun n=>K (.int k n)
 | v=>K v
def oX {β α:Type} (l:List β) (K:List β→α):α:=match l with
 | []=>K []
 | a::l=>oX l fun l'=>K (a::l')
theorem DB {α:Type} {m:Nat} {K:Nat→α}:zG m K=K m:=by cases m<;>rfl
theorem DC {α:Type} {n:Int} {K:Int→α}:zH n K=K n:=by cases n<;>simp only[zH,DB]
theorem lH {α:Type} {v:LV} {K:LV→α}:uN v K=K v:=by
 cases v<;>simp only[uN,DC]
 rename_i b;cases b<;>rfl
theorem jl {β α:Type}:∀ {l:List β} {K:List β→α},oX l K=K l
 | [],_=>rfl
 | _::l,_=>by simp only[oX];exact jl (l:=l)
def pW (P:Program) (C:Ora) (o:Oper) (t:List LV) (st:aa):Option (LV × aa):=match cls P o.op with
 | .A=>(match fx P t o.op with
  | some v=>uN v fun v=>some (v,st)
  | none=>none)
 | .L=>(match kg P t st o.op with
  | some v=>uN v fun v=>some (v,st)
  | none=>none)
 | .W=>gJ P t st o.op
 | .C=>(match o.op with
  | .call c=>(match gK t c with
   | some (f,xs)=>C f xs st
   | none=>none)
  | _=>none)
 | .N=>(match o.op with
  | .next it false=>(match ev t it with
   | some x=>lQ st x
   | none=>none)
  | _=>none)
 | .no=>none
def pX (ops:Array Oper) (o:Oper) (t:List LV):Option Bool:=match o.guard with
 | none=>some true
 | some (j,want)=>match (ops[j]?).bind (·.dst) with
  | none=>none
  | some d=>match t.getD d aM with
   | .bool b=>some (b==want)
   | .tup []=>(match guarded ops j with
    | true=>some false
    | false=>none)
   | _=>none
def rA (b:Bool) (v:LV):Bool:=match b with
 | false=>true
 | true=>match v with
  | .bool _=>true
  | _=>false
theorem gQ {b:Bool} {v:LV} {K:LV→Prop} (h:rA b v=true) (hk:K v):cu b v K:=by
 unfold rA at h
 unfold cu
 split at h
 ·exact hk
 ·split at h
  ·rename_i c;cases c<;>exact hk
  ·cases h
def jL (P:Program) (C:Ora) (ops:Array Oper):List Nat→List LV→aa→Option (List LV × aa)
 | [],t,st=>oX t fun t=>some (t,st)
 | i::rest,t,st=>match ops[i]? with
  | none=>none
  | some o=>match pX ops o t with
   | none=>none
   | some true=>(match pW P C o t st with
    | some (v,st')=>(match rA (dn ops i) v with
     | true=>jL P C ops rest (bV t o.dst v) st'
     | false=>none)
    | none=>none)
   | some false=>jL P C ops rest (bV t o.dst aM) st
def pY (P:Program) (ops:Array Oper) (bf:Array Nat) (i:Nat) (st:aa):List (Nat × List LV × LV)→Bool
 | []=>true
 | (j,t,v)::r=>match (bf.getD i 0).testBit j with
  | true=>pY P ops bf i st r
  | false=>match ops[j]? with
   | some o=>(match kg P t st o.op with
    | some u=>(match LV.same u v with
     | true=>pY P ops bf i st r
     | false=>false)
    | none=>false)
   | none=>false
def lI (f:Nat→Option (List (List Nat))):List Nat→Option (List (List Nat))
 | []=>some []
 | i::l=>match f i,lI f l with
  | some a,some b=>some (a.map (i::·)++b)
  | _,_=>none
def iV (rows:List (Nat × Bool)):Nat→Nat→Option (List (List Nat))
 | 0,m=>match fC rows m with
  | .done=>some [[]]
  | _=>none
 | n+1,m=>match fC rows m with
  | .done=>some [[]]
  | .one i=>(match iV rows n (m ||| 2 ^ i) with
   | some a=>some (a.map (i::·))
   | none=>none)
  | .many l=>lI (fun i=>iV rows n (m ||| 2 ^ i)) l
def de (P:Program) (C:Ora) (ops:Array Oper) (bf:Array Nat):List Nat→List (Nat × List LV × LV)→List LV→aa→Option (List LV × aa)
 | [],_,t,st=>oX t fun t=>some (t,st)
 | i::l,pend,t,st=>match ops[i]? with
  | none=>none
  | some o=>match pX ops o t with
   | none=>none
   | some true=>(match pW P C o t st with
    | some (v,st')=>(match rA (dn ops i) v with
     | false=>none
     | true=>(match cls P o.op with
      | .A=>de P C ops bf l pend (bV t o.dst v) st'
      | .L=>de P C ops bf l ((i,t,v)::pend) (bV t o.dst v) st'
      | _=>(match pY P ops bf i st' pend with
       | true=>de P C ops bf l pend (bV t o.dst v) st'
       | false=>none)))
    | none=>none)
   | some false=>de P C ops bf l pend (bV t o.dst aM) st
def xn:List LV→List LV→List (LV × LV)→List (LV × LV)
 | a::as,b::bs,w=>(a,b)::xn as bs w
 | _,_,w=>w
def My:List (LV × LV)→List (LV × LV)→List (LV × LV)→List (LV × LV)
 | a::as,b::bs,w=>(a.1,b.1)::(a.2,b.2)::My as bs w
 | _,_,w=>w
def Mz (x y:Option av) (w:List (LV × LV)):List (LV × LV):=match x,y with
 | some (.cells _ a),some (.cells _ b)=>xn a b w
 | some (.map _ a _ _),some (.map _ b _ _)=>My a b w
 | _,_=>w
def MA (n:Nat) (m:List (Nat × Nat)) (o p:Nat):Bool:=match Nat.ble n o&&Nat.ble n p with
 | true=>(match m.find? (fun q=>q.1==o||q.2==p) with
  | some _=>false
  | none=>true)
 | false=>false
def uni (n:Nat) (s c:aa):Nat→List (LV × LV)→List (Nat × Nat)→List (Nat × Nat)
 | 0,_,m=>m
 | k+1,w,m=>match w with
  | []=>m
  | (a,b)::w=>
   let obj (o p:Nat):List (Nat × Nat):=(match MA n m o p with
    | true=>uni n s c k (Mz s[o]? c[p]? w) ((o,p)::m)
    | false=>uni n s c k w m)
   match a,b with
   | .ptr o _,.ptr p _=>obj o p
   | .sl o _ _ _,.sl p _ _ _=>obj o p
   | .map o,.map p=>obj o p
   | .agg x,.agg y=>uni n s c k (xn x y w) m
   | .tup x,.tup y=>uni n s c k (xn x y w) m
   | .iface _ x,.iface _ y=>uni n s c k ((x,y)::w) m
   | .fn _ x u,.fn _ y v=>uni n s c k (xn x y (xn u v w)) m
   | _,_=>uni n s c k w m
def KM:aa→aa→List (LV × LV)→List (LV × LV)
 | x::s,y::c,w=>Mz (some x) (some y) (KM s c w)
 | _,_,w=>w
def MB (n:Nat) (m:List (Nat × Nat)):Nat→aa→aa
 | _,[]=>[]
 | o,x::s=>(match Nat.blt o n with
  | true=>x
  | false=>match m.find? (fun q=>q.2==o) with
   | some _=>x
   | none=>.dead)::MB n m (o+1) s
def uO (P:Program) (C:Ora) (ops:Array Oper) (bf:Array Nat) (n:Nat) (t:List LV) (st:aa) (tc:List LV) (c:aa):List (List Nat)→Bool
 | []=>true
 | l::ls=>match de P C ops bf l [] t st with
  | some (t',s')=>(match xl n (uni n s' c 10000 (xn t' tc (KM (s'.take n) (c.take n) [])) []) t' s' tc c with
   | true=>uO P C ops bf n t st tc c ls
   | false=>false)
  | none=>false
def BM (P:Program) (C:Ora) (ops:Array Oper) (bf:Array Nat) (ls:List (List Nat)) (t:List LV) (st:aa):Option (List LV × aa):=match ls with
 | []=>none
 | [l]=>de P C ops bf l [] t st
 | l::ls=>match de P C ops bf l [] t st with
  | none=>none
  | some (tc,sc)=>oX (MB st.length (uni st.length sc sc 10000 (xn tc tc (KM (sc.take st.length) (sc.take st.length) [])) []) 0 sc) fun c=>
   match uO P C ops bf st.length t st tc c (l::ls) with
   | true=>some (tc,c)
   | false=>none
def zI (P:Program) (t:List LV) (st:aa):List ResultVar→Option (List LV)
 | []=>some []
 | .tmp i::rs=>(match zI P t st rs with
  | some vs=>some (t.getD i aM::vs)
  | none=>none)
 | .cell a ty::rs=>match qO P st ty (t.getD a aM),zI P t st rs with
  | some v,some vs=>some (v::vs)
  | _,_=>none
def H8 (P:Program) (rs:List ResultVar) (t:List LV) (st:aa):Option (LV × aa):=match zI P t st rs with
 | some vs=>some (BK vs,st)
 | none=>none
section
variable {P:Program} {C:Ora}
theorem xo {st st':aa} {x v:LV} (h:lQ st x=some (v,st')):eZ st x=some [(v,st')]:=by
 unfold lQ at h
 split at h
 case h_2=>cases h
 rename_i r
 split at h
 ·rename_i a1 a2 a3 hr
  cases h
  unfold eZ;simp only[hr]
 ·rename_i cur hr
  cases h
  unfold eZ;simp only[hr]
 ·rename_i cur e hr
  cases h
  unfold eZ;simp only[hr,mZ,List.map_cons,List.map_nil]
 ·rename_i o since seen last hr
  split at h
  case h_2=>cases h
  rename_i md es bs n ho
  split at h
  case isFalse=>cases h
  rename_i hg
  split at h
  ·rename_i hl
   cases h
   unfold eZ;simp only[hr,ho,if_pos hg,hl]
  ·rename_i e bb hl
   split at h
   case isFalse=>cases h
   rename_i hlt
   cases h
   unfold eZ;simp only[hr,ho,if_pos hg,hl]
   rw[if_pos (by simpa using hlt)]
   rfl
  ·cases h
 ·cases h
theorem DD {st st':aa} {x v:LV} {K:LV→aa→Prop} (h:lQ st x=some (v,st')) (hk:K v st'):qS st x K:=by
 unfold qS
 rw[xo h]
 exact ⟨hk,trivial⟩
theorem pZ (hC:l9 P C) {o:Oper} {t:List LV} {st st':aa} {v:LV} {K:LV→aa→Prop} (h:pW P C o t st=some (v,st')) (hk:K v st'):fZ P o t st K:=by
 unfold pW at h
 unfold fZ
 split at h<;>rename_i e<;>simp only[e]
 ·split at h
  ·rename_i u hu
   rw[lH] at h;cases h
   rw[hu];exact hk
  ·cases h
 ·split at h
  ·rename_i u hu
   rw[lH] at h;cases h
   rw[hu];exact hk
  ·cases h
 ·rw[h];exact hk
 ·split at h
  ·rename_i c e
   simp only[e]
   split at h
   ·rename_i f xs hx
    rw[hx];exact hC _ _ _ _ _ h K hk
   ·cases h
  ·cases h
 ·split at h
  ·rename_i it e
   simp only[e]
   split at h
   ·rename_i x hx
    rw[hx];exact DD h hk
   ·cases h
  ·cases h
 ·cases h
def KN (want:Bool) (p q:Prop):Prop:=match want with
 | true=>p
 | false=>q
theorem rB {ops:Array Oper} {o:Oper} {t:List LV} {b:Bool} {j:Nat} {want:Bool} (hg:o.guard=some (j,want)) (h:pX ops o t=some b):∃ d,(ops[j]?).bind (·.dst)=some d∧
  ∀ (run skip:List LV→Prop),(cond b (run t) (skip t))→
   Dd (guarded ops j) (t.getD d aM) (KN want (run (t.set d (.bool true))) (skip (t.set d (.bool true)))) (KN want (skip (t.set d (.bool false))) (run (t.set d (.bool false)))) (skip t):=by
 unfold pX at h
 simp only[hg] at h
 split at h
 ·cases h
 ·rename_i d hd
  refine ⟨d,hd,fun run skip hr=>?_⟩
  split at h
  ·rename_i c hc
   cases h
   have hs:=(eR hc).2
   rw[hc]
   cases c<;>cases want<;>cases hgd:guarded ops j<;>simp only[Dd,ak,Dc,KN]<;>rw[hs]<;>exact hr
  ·rename_i hc
   rw[hc]
   split at h
   ·rename_i hgd
    cases h
    rw[hgd];exact hr
   ·cases h
  ·cases h
theorem gM (hC:l9 P C) {ops:Array Oper} {K:List LV→aa→Prop}:∀ {l:List Nat} {t t':List LV} {st st':aa},
  jL P C ops l t st=some (t',st')→K t' st'→cf P ops l K t st
 | [],t,t',st,st',h,hk=>by simp only[jL,jl] at h;cases h;exact hk
 | i::rest,t,t',st,st',h,hk=>by
  have go:∀ {t st},jL P C ops rest t st=some (t',st')→cf P ops rest K t st:=fun h=>gM hC h hk
  unfold jL at h
  unfold cf
  cases ho:ops[i]? with
  | none=>simp only[ho] at h;cases h
  | some o=>
   simp only[ho] at h ⊢
   cases hw:pX ops o t with
   | none=>simp only[hw] at h;cases h
   | some b=>
    have fin:cond b (fZ P o t st fun v st'=>cu (dn ops i) v fun v=>force (bV t o.dst v) fun t=>cf P ops rest K t st') (force (bV t o.dst aM) fun t=>cf P ops rest K t st):=by
     cases b with
     | true=>
      simp only[hw] at h
      split at h
      ·rename_i v s hv
       split at h
       ·rename_i hb
        refine pZ (K:=fun v st'=>cu (dn ops i) v fun v=>force (bV t o.dst v) fun t=>cf P ops rest K t st') hC hv (gQ hb ?_)
        show force _ _
        rw[force_eq];exact go h
       ·cases h
      ·cases h
     | false=>
      simp only[hw] at h
      show force _ _
      rw[force_eq];exact go h
    cases hg:o.guard with
    | none=>
     simp only
     have:b=true:=by simp only[pX,hg] at hw;cases hw;rfl
     subst this;exact fin
    | some p=>
     obtain ⟨j,want⟩:=p
     obtain ⟨d,hd,hs⟩:=rB hg hw
     simp only[hd]
     have:=hs (fun t=>fZ P o t st fun v st'=>cu (dn ops i) v fun v=>force (bV t o.dst v) fun t=>cf P ops rest K t st') (fun t=>force (bV t o.dst aM) fun t=>cf P ops rest K t st) fin
     cases want<;>exact this
theorem gi {ops:Array Oper} {bf:Array Nat} {i:Nat} {st:aa} {R:Prop}:∀ {pend:List (Nat × List LV × LV)},pY P ops bf i st pend=true→R→recheck P ops bf i st pend R
 | [],_,hr=>hr
 | (j,t,v)::r,h,hr=>by
  unfold pY at h
  unfold recheck
  cases hb:(bf.getD i 0).testBit j with
  | true=>simp only[hb] at h ⊢;exact gi h hr
  | false=>
   simp only[hb] at h ⊢
   cases ho:ops[j]? with
   | none=>simp only[ho] at h;cases h
   | some o=>
    simp only[ho] at h ⊢
    split at h
    ·rename_i u hu
     split at h
     ·rename_i hs;exact ⟨by rw[hu,LV.fP hs],gi h hr⟩
     ·cases h
    ·cases h
theorem xp (hC:l9 P C) {ops:Array Oper} {bf:Array Nat} {i:Nat} {l:List Nat} {pend:List (Nat × List LV × LV)} {t t':List LV} {st st':aa} {next:List (Nat × List LV × LV)→List LV→aa→Prop}
  (h:de P C ops bf (i::l) pend t st=some (t',st')):∃ p1 t1 s1,(∀ l',de P C ops bf (i::l') pend t st=de P C ops bf l' p1 t1 s1)∧(next p1 t1 s1→gh P ops bf i pend t st next):=by
 unfold de at h
 cases ho:ops[i]? with
 | none=>simp only[ho] at h;cases h
 | some o=>
  simp only[ho] at h
  cases hw:pX ops o t with
  | none=>simp only[hw] at h;cases h
  | some b=>
   have fin:cond b (dG P ops bf i o pend t st fun p v s=>cu (dn ops i) v fun v=>force (bV t o.dst v) fun t=>next p t s) (force (bV t o.dst aM) fun t=>next pend t st)→
     gh P ops bf i pend t st next:=by
    intro fin
    unfold gh
    simp only[ho]
    cases hg:o.guard with
    | none=>
     simp only
     have:b=true:=by simp only[pX,hg] at hw;cases hw;rfl
     subst this;exact fin
    | some p=>
     obtain ⟨j,want⟩:=p
     obtain ⟨d,hd,hs⟩:=rB hg hw
     simp only[hd]
     have:=hs (fun t=>dG P ops bf i o pend t st fun p v s=>cu (dn ops i) v fun v=>force (bV t o.dst v) fun t=>next p t s) (fun t=>force (bV t o.dst aM) fun t=>next pend t st) fin
     cases want<;>exact this
   cases b with
   | false=>
    refine ⟨pend,bV t o.dst aM,st,fun l'=>?_,fun hn=>fin (by show force _ _;rw[force_eq];exact hn)⟩
    rw[de];simp only[ho,hw]
   | true=>
    simp only[hw] at h
    cases hv:pW P C o t st with
    | none=>simp only[hv] at h;cases h
    | some r=>
     obtain ⟨v,s⟩:=r
     simp only[hv] at h
     cases hbi:rA (dn ops i) v with
     | false=>simp only[hbi] at h;cases h
     | true=>
     simp only[hbi] at h
     have hop:=fun (K:LV→aa→Prop) (hk:K v s)=>pZ hC hv hk
     cases hc:cls P o.op with
     | A=>
      refine ⟨pend,bV t o.dst v,s,fun l'=>?_,fun hn=>fin ?_⟩
      ·rw[de];simp only[ho,hw,hv,hbi,hc]
      ·have:=hop (fun v s=>cu (dn ops i) v fun v=>force (bV t o.dst v) fun t=>next pend t s) (gQ hbi (by rw[force_eq];exact hn))
       show dG P ops bf i o pend t st fun p v s=>cu (dn ops i) v fun v=>force (bV t o.dst v) fun t=>next p t s
       unfold fZ at this
       unfold dG
       simp only[hc] at this ⊢
       unfold pW at hv
       simp only[hc] at hv
       split at hv
       ·rw[lH] at hv;cases hv;exact this
       ·cases hv
     | L=>
      refine ⟨(i,t,v)::pend,bV t o.dst v,s,fun l'=>?_,fun hn=>fin ?_⟩
      ·rw[de];simp only[ho,hw,hv,hbi,hc]
      ·show dG P ops bf i o pend t st fun p v s=>cu (dn ops i) v fun v=>force (bV t o.dst v) fun t=>next p t s
       unfold dG
       unfold pW at hv
       simp only[hc] at hv ⊢
       split at hv
       ·rename_i u hu
        rw[lH] at hv;cases hv
        rw[hu]
        rw[ab]
        refine gQ hbi ?_
        rw[force_eq];exact hn
       ·cases hv
     | W=>
      simp only[hc] at h
      cases hr:pY P ops bf i s pend with
      | false=>simp only[hr] at h;cases h
      | true=>
       refine ⟨pend,bV t o.dst v,s,fun l'=>?_,fun hn=>fin ?_⟩
       ·rw[de];simp only[ho,hw,hv,hbi,hc,hr]
       ·have:=hop (fun v s=>recheck P ops bf i s pend (cu (dn ops i) v fun v=>force (bV t o.dst v) fun t=>next pend t s)) (gi hr (gQ hbi (by rw[force_eq];exact hn)))
        show dG P ops bf i o pend t st fun p v s=>cu (dn ops i) v fun v=>force (bV t o.dst v) fun t=>next p t s
        unfold fZ at this
        unfold dG
        simp only[hc] at this ⊢
        exact this
     | C=>
      simp only[hc] at h
      cases hr:pY P ops bf i s pend with
      | false=>simp only[hr] at h;cases h
      | true=>
       refine ⟨pend,bV t o.dst v,s,fun l'=>?_,fun hn=>fin ?_⟩
       ·rw[de];simp only[ho,hw,hv,hbi,hc,hr]
       ·have:=hop (fun v s=>recheck P ops bf i s pend (cu (dn ops i) v fun v=>force (bV t o.dst v) fun t=>next pend t s)) (gi hr (gQ hbi (by rw[force_eq];exact hn)))
        show dG P ops bf i o pend t st fun p v s=>cu (dn ops i) v fun v=>force (bV t o.dst v) fun t=>next p t s
        unfold fZ at this
        unfold dG
        simp only[hc] at this ⊢
        exact this
     | N=>
      simp only[hc] at h
      cases hr:pY P ops bf i s pend with
      | false=>simp only[hr] at h;cases h
      | true=>
       refine ⟨pend,bV t o.dst v,s,fun l'=>?_,fun hn=>fin ?_⟩
       ·rw[de];simp only[ho,hw,hv,hbi,hc,hr]
       ·have:=hop (fun v s=>recheck P ops bf i s pend (cu (dn ops i) v fun v=>force (bV t o.dst v) fun t=>next pend t s)) (gi hr (gQ hbi (by rw[force_eq];exact hn)))
        show dG P ops bf i o pend t st fun p v s=>cu (dn ops i) v fun v=>force (bV t o.dst v) fun t=>next p t s
        unfold fZ at this
        unfold dG
        simp only[hc] at this ⊢
        exact this
     | no=>
      unfold pW at hv
      simp only[hc] at hv
      cases hv
theorem xq {f:Nat→Prop}:∀ {l:List Nat},(∀ i ∈ l,f i)→BF f l
 | [],_=>trivial
 | [x],h=>h x (by simp)
 | x::y::l,h=>⟨h x (by simp),xq fun i hi=>h i (List.mem_cons_of_mem _ hi)⟩
theorem ic {f:Nat→Option (List (List Nat))}:∀ {l:List Nat} {ls:List (List Nat)},lI f l=some ls→∀ i ∈ l,∃ a,f i=some a∧∀ x ∈ a,i::x ∈ ls
 | [],ls,_,i,hi=>by simp at hi
 | j::l,ls,h,i,hi=>by
  simp only[lI] at h
  split at h
  ·rename_i a b ha hb
   cases h
   rcases List.mem_cons.1 hi with e|hi
   ·subst e;exact ⟨a,ha,fun x hx=>List.mem_append.2 (.inl (List.mem_map.2 ⟨x,hx,rfl⟩))⟩
   ·obtain ⟨a',h1,h2⟩:=ic hb i hi
    exact ⟨a',h1,fun x hx=>List.mem_append.2 (.inr (h2 x hx))⟩
  ·cases h
theorem jM {rows:List (Nat × Bool)} {m:Nat}:∀ {r:List (Nat × Bool)} {i:Nat} {c l:List Nat},fB m r i c=.many l→l≠[]
 | [],i,c,l,h=>by
  match c,h with
  | [],h=>simp[fB] at h
  | [x],h=>simp[fB] at h
  | x::y::c,h=>simp only[fB,Pk.many.injEq] at h;rw[← h];simp
 | (p,q)::r,i,c,l,h=>by
  simp only[fB] at h
  split at h
  ·exact jM (rows:=rows) h
  ·split at h
   ·cases h
   ·exact jM (rows:=rows) h
theorem oY {rows:List (Nat × Bool)}:∀ {n m:Nat} {ls:List (List Nat)},iV rows n m=some ls→∃ l,l ∈ ls
 | 0,m,ls,h=>by
  simp only[iV] at h
  split at h
  ·cases h;exact ⟨_,List.mem_singleton.2 rfl⟩
  ·cases h
 | n+1,m,ls,h=>by
  simp only[iV] at h
  split at h
  ·cases h;exact ⟨_,List.mem_singleton.2 rfl⟩
  ·split at h
   ·rename_i a ha
    cases h
    obtain ⟨l,hl⟩:=oY ha
    exact ⟨_,List.mem_map.2 ⟨l,hl,rfl⟩⟩
   ·cases h
  ·rename_i l hp
   have hne:=jM (rows:=rows) hp
   cases l with
   | nil=>exact absurd rfl hne
   | cons i l=>
    obtain ⟨a,ha,hx⟩:=ic h i (by simp)
    obtain ⟨x,hxa⟩:=oY ha
    exact ⟨_,hx x hxa⟩
theorem nz (hC:l9 P C) {ops:Array Oper} {bf:Array Nat} {rows:List (Nat × Bool)} {K:List LV→aa→Prop}:∀ {n m:Nat} {ls:List (List Nat)} {pend:List (Nat × List LV × LV)} {t:List LV} {st:aa},
  iV rows n m=some ls→(∀ l ∈ ls,∃ t' st',de P C ops bf l pend t st=some (t',st')∧K t' st')→cx P ops bf rows K n m pend t st
 | 0,m,ls,pend,t,st,h,hk=>by
  simp only[iV] at h
  simp only[cx]
  split at h
  ·rename_i hp
   cases h
   obtain ⟨t',st',h1,h2⟩:=hk [] (by simp)
   simp only[de,jl] at h1;cases h1
   simp only[hp];exact h2
  ·cases h
 | n+1,m,ls,pend,t,st,h,hk=>by
  -- one of the first operations,and all that may come behind it
  have step:∀ {i:Nat} {a:List (List Nat)},iV rows n (m ||| 2 ^ i)=some a→(∀ x ∈ a,i::x ∈ ls)→
    gh P ops bf i pend t st fun pend t st=>cx P ops bf rows K n (m ||| 2 ^ i) pend t st:=by
   intro i a ha hx
   obtain ⟨l0,hl0⟩:=oY ha
   obtain ⟨t',st',h1,_⟩:=hk _ (hx _ hl0)
   obtain ⟨p1,t1,s1,h2,h3⟩:=xp hC (next:=fun pend t st=>cx P ops bf rows K n (m ||| 2 ^ i) pend t st) h1
   refine h3 (nz hC ha fun l hl=>?_)
   rw[← h2 l]
   exact hk _ (hx _ hl)
  simp only[iV] at h
  simp only[cx]
  split at h
  ·rename_i hp
   cases h
   obtain ⟨t',st',h1,h2⟩:=hk [] (by simp)
   simp only[de,jl] at h1;cases h1
   simp only[hp];exact h2
  ·rename_i i hp
   simp only[hp]
   split at h
   ·rename_i a ha
    cases h
    exact step ha fun x hx=>List.mem_map.2 ⟨x,hx,rfl⟩
   ·cases h
  ·rename_i l hp
   simp only[hp]
   refine xq fun i hi=>?_
   obtain ⟨a,ha,hx⟩:=ic h i hi
   exact step ha hx
theorem qa {ops:Array Oper} {bf:Array Nat} {n:Nat} {t tc:List LV} {st c:aa}:∀ {ls:List (List Nat)},uO P C ops bf n t st tc c ls=true→
  ∀ l ∈ ls,∃ t' s',de P C ops bf l [] t st=some (t',s')∧∃ m,xl n m t' s' tc c=true
 | [],_,l,hl=>by simp at hl
 | l::ls,h,x,hx=>by
  simp only[uO] at h
  split at h
  ·rename_i t' s' hr
   split at h
   ·rename_i hi
    rcases List.mem_cons.1 hx with e|hx
    ·subst e;exact ⟨t',s',hr,_,hi⟩
    ·exact qa h x hx
   ·cases h
  ·cases h
theorem mG {t:List LV} {st:aa}:∀ {rs:List ResultVar} {vs:List LV} {K:List LV→Prop},zI P t st rs=some vs→K vs→pU P t st rs K
 | [],vs,K,h,hk=>by simp only[zI] at h;cases h;exact hk
 | .tmp i::rs,vs,K,h,hk=>by
  simp only[zI] at h
  split at h
  ·rename_i us hu
   cases h
   exact mG (K:=fun vs=>K (t.getD i aM::vs)) hu hk
  ·cases h
 | .cell a ty::rs,vs,K,h,hk=>by
  simp only[zI] at h
  split at h
  ·rename_i v us hv hu
   cases h
   simp only[pU,hv,bd]
   exact mG (K:=fun vs=>K (v::vs)) hu hk
  ·cases h
theorem rC {rs:List ResultVar} {R:LV→aa→Prop} {t:List LV} {st st':aa} {v:LV} (h:H8 P rs t st=some (v,st')) (hk:R v st'):qq P rs R t st:=by
 unfold H8 at h
 split at h
 ·rename_i vs hv
  cases h
  exact mG (K:=fun vs=>R (BK vs) st) hv hk
 ·cases h
theorem step_scope' {b:Frame} {a:Act} {c:Code} {k:List Item} {cs:List Frame} {w:World}:step P (lone (b.at a (.code (.scope c)::k)) cs w)=.next (lone (b.at a (.code c::.inScope c::k)) cs w):=
 step_lone_go (by simp[stepG,stepG.exec,Frame.at])
theorem step_goto' {b:Frame} {a:Act} {l:Nat} {k k':List Item} {cs:List Frame} {w:World} (h:gotoIn l k=some k'):step P (lone (b.at a (.code (.goto l)::k)) cs w)=.next (lone (b.at a k') cs w):=
 step_lone_go (by simp[stepG,stepG.exec,Frame.at,h])
end
end Go.CP
