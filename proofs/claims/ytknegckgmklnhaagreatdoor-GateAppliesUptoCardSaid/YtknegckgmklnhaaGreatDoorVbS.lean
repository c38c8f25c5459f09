/- Parts of the proof. -/
import Derived.Test.YtknegckgmklnhaaGreatDoorVbW2
namespace Go.CP
abbrev Tx:=List UInt8
inductive KT where
 | mk (f:Nat) (l:List KT) (ns:List Tx) (ls:List Bool)
namespace KT
def f:KT→Nat|mk f _ _ _=>f
def l:KT→List KT|mk _ l _ _=>l
def ns:KT→List Tx|mk _ _ ns _=>ns
def ls:KT→List Bool|mk _ _ _ ls=>ls
theorem H6 {t x:KT} (h:x ∈ t.l):SizeOf.sizeOf x<SizeOf.sizeOf t:=by
 cases t
 have:=List.sizeOf_lt_of_mem h
 simp only[l] at this
 simp;omega
end KT
def bQ:List Tx:=[[97,110,121],[98,111,111,108],[105,110,116],[112,111,105,110,116],[116,101,120,116],[108,105,115,116],[109,97,112]]
def isLet (c:UInt8):Bool:=decide (97≤c.toNat∧c.toNat≤122)
def jT (c:UInt8):Bool:=isLet c||decide (48≤c.toNat∧c.toNat≤57)
def dQ:Tx→Tx
 | []=>[]
 | c::s=>if isLet c then c::s.takeWhile jT else []
def named (s:Tx):Bool:=decide (dQ s=s)&&decide (s≠[])&&decide (s.length≤20)
def iz (s:Tx):Option (Tx × Tx):=if dQ s=[]∨20<(dQ s).length then none else some (dQ s,s.drop (dQ s).length)
def gh (s:Tx):List Tx→Nat→Option (Nat × Tx)
 | [],_=>none
 | w::ws,i=>if w.isPrefixOf s then some (i,s.drop w.length) else gh s ws (i+1)
def eN (p:Tx→Option (KT × Tx)):Nat→Tx→Option (List KT × Tx)
 | 0,_=>none
 | n+1,s=>match p s with
  | none=>none
  | some (x,r)=>match r with
   | []=>none
   | c::r=>if c=93 then some ([x],r) else if c=44 then (match eN p n r with
    | none=>none
    | some (l,r)=>some (x::l,r)) else none
def dc:Tx→Bool × Tx
 | []=>(false,[])
 | c::r=>if c=63 then (true,r) else (false,c::r)
def nR (last:Option Tx) (s:Tx):Bool:=match last with
 | none=>true
 | some l=>Op.bytesLess l s
def dE (p:Tx→Option (KT × Tx)):Nat→Option Tx→Tx→Option (List (Tx × Bool × KT) × Tx)
 | 0,_,_=>none
 | n+1,last,s=>match iz s with
  | none=>none
  | some (nm,r0)=>if nR last nm=false then none else match (dc r0).2 with
   | []=>none
   | c::r2=>if c≠58 then none else match p r2 with
    | none=>none
    | some (x,r1)=>match r1 with
     | []=>none
     | c::r3=>if c=125 then some ([(nm,(dc r0).1,x)],r3) else if c=44 then (match dE p n (some nm) r3 with
      | none=>none
      | some (l,r4)=>some ((nm,(dc r0).1,x)::l,r4)) else none
def pT:Nat→Tx→Option (KT × Tx)
 | 0,_=>none
 | d+1,s=>match s with
  | []=>none
  | c::r=>if c=91 then (if r.head?=some 93 then some (.mk 7 [] [] [],r.tail) else match eN (pT d) 16 r with
    | none=>none
    | some (l,r)=>some (.mk 7 l [] [],r))
   else if c=123 then (if r.head?=some 125 then some (.mk 8 [] [] [],r.tail) else match dE (pT d) 16 none r with
    | none=>none
    | some (fs,r)=>some (.mk 8 (fs.map (·.2.2)) (fs.map (·.1)) (fs.map (·.2.1)),r))
   else match gh (c::r) bQ 0 with
    | none=>none
    | some (i,r)=>if i<5 then some (.mk i [] [] [],r) else match r with
     | []=>none
     | c::r=>if c≠40 then none else match pT d r with
      | none=>none
      | some (x,r)=>match r with
       | []=>none
       | c::r=>if c=41 then some (.mk i [x] [] [],r) else none
def ew (s:Tx):Option KT:=if 4096<s.length then none else match pT 8 s with
 | some (t,[])=>some t
 | _=>none
def iA:List Tx→Tx
 | []=>[]
 | [a]=>a
 | a::b::l=>a++44::iA (b::l)
def gu (n:Tx) (l:Bool) (t:Tx):Tx:=n++((if l then [63,58] else [58])++t)
def cY:List Tx→List Bool→List Tx→List Tx
 | n::ns,l::ls,t::ts=>gu n l t::cY ns ls ts
 | _,_,ts=>ts
def tL (f:Nat) (ts:List Tx) (ns:List Tx) (ls:List Bool):Tx:=
 if f=5 then [108,105,115,116,40]++(ts.getD 0 []++[41])
 else if f=6 then [109,97,112,40]++(ts.getD 0 []++[41])
 else if f=7 then 91::(iA ts++[93])
 else if f=8 then 123::(iA (cY ns ls ts)++[125])
 else bQ.getD f []
mutual
def kpr:KT→Tx
 | .mk f l ns ls=>tL f (H7 l) ns ls
def H7:List KT→List Tx
 | []=>[]
 | t::ts=>kpr t::H7 ts
end
theorem rY:∀ {l:List KT},H7 l=l.map kpr
 | []=>rfl
 | t::ts=>by simp[H7,rY (l:=ts)]
mutual
def KT.wf:Nat→KT→Prop
 | 0,_=>False
 | d+1,.mk f l ns ls=>f≤8∧(f<5→l=[])∧(f=5∨f=6→l.length=1)∧(f<8→ns=[]∧ls=[])∧(f=8→ns.length=l.length∧ls.length=l.length)∧l.length≤16∧ns.Pairwise ltB∧(∀ n ∈ ns,named n=true)∧KT.wfs d l
def KT.wfs:Nat→List KT→Prop
 | _,[]=>True
 | d,t::ts=>KT.wf d t∧KT.wfs d ts
end
theorem KT.mI {d:Nat}:∀ {l:List KT},KT.wfs d l↔∀ t ∈ l,t.wf d
 | []=>by simp[KT.wfs]
 | t::ts=>by simp[KT.wfs,KT.mI (l:=ts)]
theorem iM {c:UInt8} {s:Tx}:dQ (c::s)=if isLet c then c::s.takeWhile jT else []:=rfl
theorem ib {c:UInt8} {r:Tx}:dc (c::r)=if c=63 then (true,r) else (false,c::r):=rfl
theorem ju:∀ (s:Tx),s=dQ s++s.drop (dQ s).length
 | []=>rfl
 | c::s=>by
  rw[iM]
  split
  ·simp only[List.cons_append,aW,List.drop_succ_cons]
   congr 1
   exact (List.prefix_iff_eq_append.1 (List.takeWhile_prefix jT)).symm
  ·rfl
theorem lV {p:UInt8→Bool}:∀ {s:Tx},(s.takeWhile p).takeWhile p=s.takeWhile p
 | []=>rfl
 | c::s=>by
  simp only[List.takeWhile_cons]
  split
  ·rename_i h
   rw[List.takeWhile_cons,if_pos h,lV]
  ·rfl
theorem FM (s:Tx):dQ (dQ s)=dQ s:=by
 cases s with
 | nil=>rfl
 | cons c s=>
  rw[iM]
  split
  ·rename_i h
   rw[iM,if_pos h,lV]
  ·rfl
theorem nS {s n r:Tx} (h:iz s=some (n,r)):s=n++r∧named n=true∧n=dQ s:=by
 unfold iz at h
 split at h
 ·cases h
 ·rename_i hn
  simp only[aM,Prod.mk.injEq] at h
  obtain ⟨rfl,rfl⟩:=h
  refine ⟨ju s,?_,rfl⟩
  simp only[not_or,Nat.not_lt] at hn
  simp[named,FM,hn.1,hn.2]
theorem tM {s r:Tx}:∀ {ws:List Tx} {k i:Nat},gh s ws k=some (i,r)→∃ j w,i=k+j∧ws[j]?=some w∧s=w++r
 | [],_,_,h=>by cases h
 | w::ws,k,i,h=>by
  unfold gh at h
  split at h
  ·rename_i hp
   simp only[aM,Prod.mk.injEq] at h
   obtain ⟨rfl,rfl⟩:=h
   exact ⟨0,w,rfl,rfl,(List.prefix_iff_eq_append.1 (List.isPrefixOf_iff_prefix.1 hp)).symm⟩
  ·obtain ⟨j,w',h1,h2,h3⟩:=tM h
   exact ⟨j+1,w',by omega,by simpa using h2,h3⟩
theorem rl {p:Tx→Option (KT × Tx)} {Q:KT→Prop} (hp:∀ s t r,p s=some (t,r)→s=kpr t++r∧Q t):∀ {n:Nat} {s r:Tx} {l:List KT},eN p n s=some (l,r)→
  s=iA (l.map kpr)++93::r∧(∀ t ∈ l,Q t)∧l.length≤n∧l≠[]
 | 0,_,_,_,h=>by cases h
 | n+1,s,r,l,h=>by
  unfold eN at h
  split at h
  ·cases h
  ·rename_i x r1 hx
   obtain ⟨h1,h2⟩:=hp _ _ _ hx
   split at h
   ·cases h
   ·rename_i c r2
    split at h
    ·rename_i hc
     subst hc
     simp only[aM,Prod.mk.injEq] at h
     obtain ⟨rfl,rfl⟩:=h
     exact ⟨by simpa[iA] using h1,by simpa using h2,by simp,by simp⟩
    ·split at h
     ·rename_i hc
      subst hc
      split at h
      ·cases h
      ·rename_i l2 r3 h3
       simp only[aM,Prod.mk.injEq] at h
       obtain ⟨rfl,rfl⟩:=h
       obtain ⟨k1,k2,k3,k4⟩:=rl hp h3
       refine ⟨?_,fun t ht=>?_,by simp;omega,by simp⟩
       ·cases l2 with
        | nil=>exact absurd rfl k4
        | cons y l2=>
         simp only[List.map_cons,iA] at k1 ⊢
         rw[h1,k1];simp
       ·rcases List.mem_cons.1 ht with rfl|ht
        ·exact h2
        ·exact k2 t ht
     ·cases h
theorem zO (r:Tx):r=(if (dc r).1 then [63] else [])++(dc r).2:=by
 cases r with
 | nil=>rfl
 | cons c r=>
  rw[ib]
  by_cases h:c=63
  ·rw[if_pos h,h];rfl
  ·rw[if_neg h];rfl
abbrev fpr (e:Tx × Bool × KT):Tx:=gu e.1 e.2.1 (kpr e.2.2)
theorem oU {p:Tx→Option (KT × Tx)} {Q:KT→Prop} (hp:∀ s t r,p s=some (t,r)→s=kpr t++r∧Q t):∀ {n:Nat} {last:Option Tx} {s r:Tx} {l:List (Tx × Bool × KT)},dE p n last s=some (l,r)→
  s=iA (l.map fpr)++125::r∧(∀ e ∈ l,Q e.2.2∧named e.1=true)∧l.length≤n∧l≠[]∧(l.map (·.1)).Pairwise ltB∧∀ a,last=some a→∀ e ∈ l,ltB a e.1
 | 0,_,_,_,_,h=>by cases h
 | n+1,last,s,r,l,h=>by
  unfold dE at h
  split at h
  ·cases h
  ·rename_i nm r0 hn
   obtain ⟨n1,n2,_⟩:=nS hn
   split at h
   ·cases h
   rename_i hah
   have hah:nR last nm=true:=by simpa using hah
   have hlast:∀ a,last=some a→ltB a nm:=by rintro a rfl;exact hah
   have hl:=zO r0
   split at h
   ·cases h
   rename_i c r2 hr2
   split at h
   ·cases h
   rename_i hc
   have hc:c=58:=by simpa using hc
   subst hc
   split at h
   ·cases h
   rename_i x r1 hx
   obtain ⟨h1,h2⟩:=hp _ _ _ hx
   have e0:s=gu nm (dc r0).1 (kpr x)++r1:=by
    rw[n1]
    generalize hg:dc r0=q at hl hr2 ⊢
    rw[hl,hr2,h1]
    obtain ⟨q1,q2⟩:=q
    unfold gu
    cases q1<;>simp
   split at h
   ·cases h
   ·rename_i c r3
    split at h
    ·rename_i hc
     subst hc
     simp only[aM,Prod.mk.injEq] at h
     obtain ⟨rfl,rfl⟩:=h
     exact ⟨by simpa[iA] using e0,by simpa using ⟨h2,n2⟩,by simp,by simp,by simp,by simpa using hlast⟩
    ·split at h
     ·rename_i hc
      subst hc
      split at h
      ·cases h
      ·rename_i l2 r4 h3
       simp only[aM,Prod.mk.injEq] at h
       obtain ⟨rfl,rfl⟩:=h
       obtain ⟨k1,k2,k3,k4,k5,k6⟩:=oU hp h3
       have k6:=k6 nm rfl
       refine ⟨?_,fun t ht=>?_,by simp;omega,by simp,?_,fun a ha e he=>?_⟩
       ·cases l2 with
        | nil=>exact absurd rfl k4
        | cons y l2=>
         simp only[List.map_cons,iA] at k1 ⊢
         rw[e0,k1];simp
       ·rcases List.mem_cons.1 ht with rfl|ht
        ·exact ⟨h2,n2⟩
        ·exact k2 t ht
       ·simp only[List.map_cons,List.pairwise_cons]
        exact ⟨fun y hy=>by obtain ⟨e,he,rfl⟩:=List.mem_map.1 hy;exact k6 e he,k5⟩
       ·rcases List.mem_cons.1 he with rfl|he
        ·exact hlast a ha
        ·exact jS (hlast a ha) (k6 e he)
     ·cases h
theorem tN:∀ (l:List (Tx × Bool × KT)),cY (l.map (·.1)) (l.map (·.2.1)) ((l.map (·.2.2)).map kpr)=l.map fpr
 | []=>rfl
 | e::l=>by simp only[List.map_cons,cY,tN l]
theorem kM {j:Nat} {w:Tx} (h:bQ[j]?=some w):j<7∧w=bQ.getD j []:=by
 have:=(List.getElem?_eq_some_iff.1 h).1
 exact ⟨this,by rw[List.getD_eq_getElem?_getD,h];rfl⟩
theorem oV:∀ {d:Nat} {s r:Tx} {t:KT},pT d s=some (t,r)→s=kpr t++r∧t.wf d
 | 0,_,_,_,h=>by cases h
 | d+1,s,r,t,h=>by
  unfold pT at h
  split at h
  ·cases h
  rename_i c r0
  split at h
  ·rename_i hc;subst hc
   split at h
   ·rename_i hh
    simp only[aM,Prod.mk.injEq] at h
    obtain ⟨rfl,rfl⟩:=h
    cases r0 with
    | nil=>simp at hh
    | cons c r0=>
     simp only[List.head?_cons,aM] at hh
     subst hh
     exact ⟨rfl,by simp[KT.wf,KT.wfs]⟩
   ·split at h
    ·cases h
    ·rename_i l r1 hl
     simp only[aM,Prod.mk.injEq] at h
     obtain ⟨rfl,rfl⟩:=h
     obtain ⟨h1,h2,h3,_⟩:=rl (Q:=KT.wf d) (fun s t r h=>oV h) hl
     refine ⟨?_,?_⟩
     ·simp[kpr,tL,rY,h1]
     ·simp only[KT.wf]
      exact ⟨by omega,fun h=>by omega,fun h=>by omega,fun _=>by simp,fun h=>by omega,h3,.nil,by simp,KT.mI.2 h2⟩
  split at h
  ·rename_i hc;subst hc
   split at h
   ·rename_i hh
    simp only[aM,Prod.mk.injEq] at h
    obtain ⟨rfl,rfl⟩:=h
    cases r0 with
    | nil=>simp at hh
    | cons c r0=>
     simp only[List.head?_cons,aM] at hh
     subst hh
     exact ⟨rfl,by simp[KT.wf,KT.wfs]⟩
   ·split at h
    ·cases h
    ·rename_i l r1 hl
     simp only[aM,Prod.mk.injEq] at h
     obtain ⟨rfl,rfl⟩:=h
     obtain ⟨h1,h2,h3,h4,h5,_⟩:=oU (Q:=KT.wf d) (fun s t r h=>oV h) hl
     refine ⟨?_,?_⟩
     ·simp only[kpr,tL,rY,tN]
      simp[h1]
     ·simp only[KT.wf]
      refine ⟨by omega,fun h=>by omega,fun h=>by omega,fun h=>by omega,fun _=>by simp,by simpa using h3,h5,?_,KT.mI.2 ?_⟩
      ·intro n hn;obtain ⟨e,he,rfl⟩:=List.mem_map.1 hn;exact (h2 e he).2
      ·intro n hn;obtain ⟨e,he,rfl⟩:=List.mem_map.1 hn;exact (h2 e he).1
  split at h
  ·cases h
  rename_i i r1 hw
  obtain ⟨j,w,e1,e2,e3⟩:=tM hw
  obtain ⟨e4,e5⟩:=kM e2
  have e1:i=j:=by omega
  subst e1
  split at h
  ·rename_i hi
   simp only[aM,Prod.mk.injEq] at h
   obtain ⟨rfl,rfl⟩:=h
   refine ⟨?_,?_⟩
   ·simp only[kpr,tL]
    rw[if_neg (by omega),if_neg (by omega),if_neg (by omega),if_neg (by omega),← e5,← e3]
   ·simp only[KT.wf]
    exact ⟨by omega,fun _=>by simp,fun h=>by omega,fun _=>by simp,fun h=>by omega,by simp,.nil,by simp,by simp[KT.wfs]⟩
  ·rename_i hi
   split at h
   ·cases h
   rename_i c1 r2
   split at h
   ·cases h
   rename_i hc
   have hc:c1=40:=by simpa using hc
   subst hc
   split at h
   ·cases h
   rename_i x r3 hx
   obtain ⟨h1,h2⟩:=oV hx
   split at h
   ·cases h
   rename_i c2 r4
   split at h
   ·rename_i hc;subst hc
    simp only[aM,Prod.mk.injEq] at h
    obtain ⟨rfl,rfl⟩:=h
    refine ⟨?_,?_⟩
    ·rw[e3,h1,e5]
     have:i=5∨i=6:=by omega
     rcases this with rfl|rfl<;>simp[kpr,tL,H7,bQ]
    ·simp only[KT.wf,KT.wfs]
     exact ⟨by omega,fun h=>by omega,fun _=>by simp,fun _=>by simp,fun h=>by omega,by simp,.nil,by simp,h2,by simp[]⟩
   ·cases h
end Go.CP
namespace Go.Proofs.YtknegckgmklnhaaGreatDoor
open Go Go.CP
set_option maxRecDepth 100000
mutual
def lvT:T→LV
 | .null=>.nili
 | .unknown=>.iface 169 (.agg [])
 | .bool b=>.iface 4 (.bool b)
 | .int n=>.iface 3 (.int .i64 n)
 | .point a b=>.iface 170 (.cplx .f64 (fb a) (fb b))
 | .text s=>.iface 9 (.str s)
 | .list l=>.iface 171 (.isl (fh l) l.length none)
 | .map es=>.iface 173 (.imap (es.map fun e=>.str e.1) (ji es))
def fh:List T→List LV
 | []=>[]
 | t::ts=>lvT t::fh ts
def ji:List (List UInt8 × T)→List LV
 | []=>[]
 | e::es=>.agg [lvT e.2]::ji es
end
abbrev vT (t:T):LV:=.agg [lvT t]
theorem fW:∀ {l:List T},fh l=l.map lvT
 | []=>rfl
 | t::ts=>by simp[fh,fW (l:=ts)]
theorem rZ:∀ {l:List (List UInt8 × T)},ji l=l.map fun e=>vT e.2
 | []=>rfl
 | t::ts=>by simp[ji,rZ (l:=ts)]
mutual
@[simp] theorem eX:∀ {t:T},(lvT t).plain=true
 | .null=>rfl
 | .unknown=>rfl
 | .bool _=>rfl
 | .int _=>rfl
 | .point _ _=>rfl
 | .text _=>rfl
 | .list l=>by simp only[lvT,LV.plain];exact gv
 | .map es=>by
  simp only[lvT,LV.plain,bp]
  exact ⟨bV fun _ _=>rfl,nT⟩
@[simp] theorem gv:∀ {l:List T},LV.aG (fh l)=true
 | []=>rfl
 | t::ts=>by simp only[fh,LV.aG,bp];exact ⟨eX,gv⟩
@[simp] theorem nT:∀ {l:List (List UInt8 × T)},LV.aG (ji l)=true
 | []=>rfl
 | t::ts=>by simp only[ji,LV.aG,LV.plain,bp,Bool.and_true];exact ⟨eX,nT⟩
end
theorem mJ:∀ {t:T},(lvT t).one=true:=fun {t}=>by cases t<;>rfl
theorem cB {t:T}:(vT t).plain=true:=by simp only[LV.plain,LV.aG,eX,Bool.and_true]
theorem jU {t:T}:LV.aG [vT t]=true:=by simp only[LV.aG,cB,Bool.and_true]
theorem kN (t:T):Pu Tryz.prog 46 [vT t] (i64 t.kind):=
 Pu.of (c46 _ (by cases t<;>exact (rfl:_=_))) jU rfl
theorem H8:Pu Tryz.prog 66 [] (vT .null):=Pu.of (c66 (by exact ⟨_,rfl,_,_,rfl,rfl,rfl⟩)) rfl rfl
theorem call157:cZ Tryz.prog 157:=⟨Tryz.f157,bG Tryz.f157,Tryz.func157,by kernel_rfl,by kernel_rfl⟩
theorem call159:cZ Tryz.prog 159:=⟨Tryz.f159,bG Tryz.f159,Tryz.func159,by kernel_rfl,by kernel_rfl⟩
theorem dR {n b:Nat} (hn:n≤2 ^ 31) (hb:b≤256):eJ n b=true:=by
 have:n*b≤2 ^ 31*256:=Nat.mul_le_mul hn hb
 simp only[eJ,bp,decide_eq_true_eq]
 omega
theorem H9 {cs:List LV} {n:Nat} (hl:cs.length=n) (hb:n≤big) (hp:LV.aG cs=true):Pu Tryz.prog 157 [.isl cs n none] (.isl cs n none):=by
 refine Pu.of ?_ (by simp only[LV.aG,LV.plain,hp,Bool.and_true]) (by simp only[LV.plain,hp])
 rcases Nat.eq_zero_or_pos n with h0|h0
 ·subst h0
  have hc:cs=[]:=List.eq_nil_of_length_eq_zero hl
  subst hc
  refine aw.Na call157 (c157 _ ?_) (c157 _ ?_)
  ·exact .inr (.inr ⟨.inr rfl,rfl,rfl⟩)
  ·exact .inl ⟨0,0,.ex 0,.rw,[],rfl,rfl,rfl,Nat.le_refl _,rfl⟩
 ·apply c157
  show bd (eqB .eql (sj (.isl cs n none) .nils)) _
  rw[zw h0]
  show bd2 (bo ([]++[.cells .rw []]) 1 16 Md.rw (.sl 0 0 0 (.ex 0)) (.isl cs n none)) _
  exact zx h0 (by omega) (dR (by unfold big at hb;omega) (by omega)) rfl hp fun r s h=>h
theorem Ia {cs:List LV} {n:Nat} (hl:cs.length=n) (hb:n≤big) (hp:LV.aG cs=true):Pu Tryz.prog 159 [.isl cs n none] (.isl cs n none):=by
 refine Pu.of ?_ (by simp only[LV.aG,LV.plain,hp,Bool.and_true]) (by simp only[LV.plain,hp])
 rcases Nat.eq_zero_or_pos n with h0|h0
 ·subst h0
  have hc:cs=[]:=List.eq_nil_of_length_eq_zero hl
  subst hc
  refine aw.Na call159 (c159 _ ?_) (c159 _ ?_)
  ·exact .inr (.inr ⟨.inr rfl,rfl,rfl⟩)
  ·exact .inl ⟨0,0,.ex 0,.rw,[],rfl,rfl,rfl,Nat.le_refl _,rfl⟩
 ·apply c159
  show bd (eqB .eql (sj (.isl cs n none) .nils)) _
  rw[zw h0]
  show bd2 (bo ([]++[.cells .rw []]) 1 16 Md.rw (.sl 0 0 0 (.ex 0)) (.isl cs n none)) _
  exact zx h0 (by omega) (dR (by unfold big at hb;omega) (by omega)) rfl hp fun r s h=>h
theorem ic:∀ {ss seen:List (List UInt8)},ss.Nodup→(∀ s ∈ ss,s ∉ seen)→dA (ss.map .str) seen=some ss
 | [],_,_,_=>rfl
 | s::ss,seen,hn,hd=>by
  simp only[List.nodup_cons] at hn
  simp only[List.map_cons,dA]
  rw[if_neg (hd s (by simp)),ic hn.2 fun x hx=>by
   simp only[List.mem_cons,not_or]
   exact ⟨fun e=>hn.1 (e ▸ hx),hd x (by simp[hx])⟩]
  rfl
theorem Ky {es:List (List UInt8 × T)} {k:List UInt8}:ed (.str k) ((es.map fun e=>LV.str e.1).zip (ji es))=some ((T.find es k).map vT):=by
 induction es with
 | nil=>rfl
 | cons e es ih=>
  simp only[List.map_cons,ji,List.zip_cons_cons,ed,jm]
  by_cases h:k=e.1
  ·subst h;simp[T.find]
  ·have h1:(k==e.1)=false:=by simpa using h
   have h2:(e.1==k)=false:=by simpa using Ne.symm h
   simp only[h1,ih,T.find,List.find?_cons,h2]
theorem tP {es:List (List UInt8 × T)}:(ji es).length=es.length:=by rw[rZ];simp
theorem Cd {st:aa} {es:List (List UInt8 × T)} {k:List UInt8} {ok:Bool} (hn:(es.map (·.1)).Nodup) :
  so st true (some (.agg [.nili])) (.imap (es.map fun e=>.str e.1) (ji es)) (.str k) ok =
   some (if ok then .tup [vT ((T.find es k).getD .null),.bool (T.find es k).isSome] else vT ((T.find es k).getD .null)):=by
 have hk:(dA (es.map fun e=>LV.str e.1) []).isSome=true:=by
  have:=ic (ss:=es.map (·.1)) (seen:=[]) hn (by simp)
  rw[List.map_map] at this
  simp only[Function.comp_def] at this
  rw[this];rfl
 show uN _ _ _ _ _ _=_
 unfold uN
 rw[if_pos ⟨rfl,rfl,hk,by simp[tP]⟩,Ky]
 cases hf:T.find es k<;>cases ok<;>rfl
theorem u9 {t:T} (h:t.ok) (k:List UInt8):Pu Tryz.prog 50 [vT t,.str k] (.tup [vT ((t.at k).getD .null),.bool (t.at k).isSome]):=by
 refine Pu.of (c50 _ _ ?_) (by simp[LV.aG,LV.plain]) (by simp[LV.plain,LV.aG])
 cases t with
 | map es=>
  simp only[T.ok] at h
  show bd (so _ true (some (.agg [.nili])) (.imap (es.map fun e=>.str e.1) (ji es)) (.str k) true) _
  rw[Cd (ey h.2.2)]
  show bd (some _) _
  simp only[T.at]
  generalize (T.find es k).getD .null=y
  have hp:∀ s,dp s (vT y) (vT y):=fun s=>bu _ cB
  revert hp
  cases y<;>exact fun hp=>⟨_,rfl,_,_,rfl,hp _,_,_,rfl,rfl,rfl⟩
 | _=>exact ⟨_,rfl,_,_,rfl,⟨_,rfl,_,_,rfl,rfl,rfl⟩,_,_,rfl,rfl,rfl⟩
theorem Kz {l:List T} (h:l.length≤big):Pu Tryz.prog 94 [.isl (fh l) l.length none] (vT (.list l)):=by
 have hl:(fh l).length=l.length:=by rw[fW];simp
 refine Pu.of (c94 _ ?_) (by simp[LV.aG,LV.plain]) cB
 refine (H9 hl h gv).call ?_
 exact bu (v:=vT (.list l)) _ cB
abbrev vL (l:List T):LV:=.isl (fh l) l.length none
theorem tQ {l:List T}:(fh l).length=l.length:=by rw[fW];simp
theorem zP {l:List T} {i:Nat}:(fh l)[i]?=(l[i]?).map lvT:=by rw[fW];simp
theorem zQ {a b:List T}:fh (a++b)=fh a++fh b:=by simp[fW]
abbrev sL (l:List (List UInt8)):LV:=.isl (l.map .str) l.length none
theorem aK {i:Nat} (h:i<2 ^ 40):IntKind.i64.wrap ((i:Int)+1)=((i+1:Nat):Int):=by
 rw[wrap_i64 (by omega) (by omega)];simp
theorem Ce {es:List (List UInt8 × T)} (hn:(es.map (·.1)).Nodup) (hb:es.length≤big) {R:LV→aa→Prop} (hR:∀ r s,dp s (vL (es.map (·.2))) r→R r s) :
  ∀ (d i:Nat) (f:Option Nat) (st:aa),i+d=es.length→ca .rw st f 1 i (fh ((es.map (·.2)).take i))→
   ti (osl f 1 i) (.imap (es.map fun e=>.str e.1) (ji es)) (sL (es.map (·.1))) (i64 es.length) (i64 i) R st:=by
 intro d
 induction d with
 | zero=>
  intro i f st hi ho
  apply BE
  have:¬ ((i:Int)<es.length):=by omega
  simp only[wI,ad,au,ab,aL]
  refine ⟨fun h=>absurd h this,fun _=>hR _ _ ?_⟩
  have hi':i=es.length:=by omega
  subst hi'
  rw[List.take_of_length_le (by simp)] at ho
  have:=eL ho rfl (bU st gv)
  show dp st (.isl _ (es.map (·.2)).length none) _
  rw[bH];exact this
 | succ d ih=>
  intro i f st hi ho
  apply BE
  have hlt:i<es.length:=by omega
  obtain ⟨⟨k,t⟩,hk⟩:∃ e,es[i]=e:=⟨_,rfl⟩
  have hget:es[i]?=some (k,t):=by rw[bg hlt,hk]
  have hks:((es.map (·.1)).map LV.str)[i*1]?=some (.str k):=by simp[hget]
  have hlt':i<(es.map (·.1)).length:=by simpa using hlt
  have hfind:T.find es k=some t:=T.rk hn (cr hget)
  have e1:bn 1 (sL (es.map (·.1))) (i64 i)=some (.iptr ((es.map (·.1)).map .str) (i*1)):=cj hlt'
  simp only[wI,ad,au,ab,aL,e1,bA,hks,Cd hn,hfind,Option.getD_some,Bool.false_eq_true,if_false]
  refine ⟨fun _=>?_,fun h=>absurd (by omega:(i:Int)<es.length) h⟩
  have e2:aB (fun i=>some (i*1,1)) (List.replicate 1 [LV.nili]).flatten [(0,vT t)]=some [lvT t]:=rfl
  rw[e2]
  simp only[bE,af]
  have ho1:=ho.fr (st':=st++[.cells .rw [lvT t]]) (S:=fun _=>False) Fr.app (fun _ _ h=>h)
  obtain ⟨st2,f2,h1,h2,-⟩:=ho1.append (x:=.sl st.length 0 1 (.ex 1)) (k:=1) (new:=[lvT t]) (bytes:=16) (by simp[eA]) (by omega) rfl (by simp[mJ]) (dR (by unfold big at hb;omega) (by omega))
  rw[h1]
  simp only[af,aH,ab,aK (show i<2 ^ 40 by unfold big at hb;omega)]
  refine ih (i+1) f2 st2 (by omega) ?_
  have e3:(es.map (·.2)).take (i+1)=(es.map (·.2)).take i++[t]:=by
   rw[List.take_add_one];simp[hget]
  rw[e3,zQ]
  exact h2
theorem FN {es:List (List UInt8 × T)} (hn:(es.map (·.1)).Nodup) (hb:es.length≤big) (hk:Pu Tryz.prog 49 [vT (.map es)] (sL (es.map (·.1)))):Pu Tryz.prog 101 [vT (.map es)] (vL (es.map (·.2))):=by
 refine Pu.of (Nr _ ?_) (by simp[LV.aG,LV.plain]) (by simp[LV.plain])
 show aw Tryz.prog 49 [vT (.map es)] _ _
 refine hk.call ?_
 show ti (osl none 1 0) (.imap (es.map fun e=>.str e.1) (ji es)) (sL (es.map (·.1))) (i64 (es.map (·.1)).length) (i64 0) _ _
 rw[bH]
 exact Ce hn hb (fun r s h=>h) es.length 0 none _ (by omega) ca.nil
theorem Cf {l:List T} (hb:l.length≤big):Pu Tryz.prog 101 [vT (.list l)] (vL l):=by
 refine Pu.of (Nr _ ?_) (by simp[LV.aG,LV.plain]) (by simp[LV.plain])
 show aw Tryz.prog 159 [vL l] _ _
 exact (Ia tQ hb gv).call (bu (v:=vL l) _ (by simp[LV.plain]))
abbrev mE (es:List (List UInt8 × T)):List (LV × LV):=es.map fun e=>(.str e.1,vT e.2)
theorem KA {es:List (List UInt8 × T)} {k:List UInt8}:ed (.str k) (mE es)=some ((T.find es k).map vT):=by
 induction es with
 | nil=>rfl
 | cons e es ih=>
  simp only[mE,List.map_cons,ed,jm]
  by_cases h:k=e.1
  ·subst h;simp[T.find]
  ·have h1:(k==e.1)=false:=by simpa using h
   have h2:(e.1==k)=false:=by simpa using Ne.symm h
   simp only[h1]
   rw[show ed (.str k) (es.map fun e=>(LV.str e.1,vT e.2))=some ((T.find es k).map vT) from ih]
   simp only[T.find,List.find?_cons,h2]
theorem N0 {es:List (List UInt8 × T)} {k:List UInt8} {v:LV} (h:k ∉ es.map (·.1)):yy (.str k) v (mE es)=some (mE es++[(.str k,v)]):=by
 induction es with
 | nil=>rfl
 | cons e es ih=>
  simp only[List.map_cons,List.mem_cons,not_or] at h
  have h1:(k==e.1)=false:=by simpa using h.1
  simp only[mE,List.map_cons,yy,jm,h1]
  rw[show yy (.str k) v (es.map fun e=>(LV.str e.1,vT e.2))=some (mE es++[(.str k,v)]) from ih h.2]
  rfl
theorem Cg {es:List (List UInt8 × T)} (hn:(es.map (·.1)).Nodup):(dA (es.map fun e=>LV.str e.1) []).isSome=true:=by
 have:=ic (ss:=es.map (·.1)) (seen:=[]) hn (by simp)
 rw[List.map_map] at this
 simp only[Function.comp_def] at this
 rw[this];rfl
theorem N1 {st:aa} {o:Nat} {es es':List (List UInt8 × T)} {bs:List Nat} {n:Nat} (h:st[o]?=some (.map .rw (mE es') bs n)) (hp:es.Perm es') (hn:(es.map (·.1)).Nodup) :
  dp st (vT (.map es)) (.agg [.iface 173 (.map o)]):=by
 refine ⟨_,rfl,_,_,rfl,⟨_,rfl,.inl ⟨o,.rw,mE es',bs,n,mE es,rfl,h,rfl,hp.map _,Cg hn,?_,?_⟩⟩,rfl⟩
 ·simp
 ·rw[rZ]
  have:(mE es).map (·.2)=es.map fun e=>vT e.2:=by simp
  rw[this]
  exact bU _ (bV fun _ _=>cB)
theorem Ib {es:List (List UInt8 × T)} (hn:(es.map (·.1)).Nodup) (hb:es.length≤big) {R:LV→aa→Prop} {r o:Nat} (hro:r≠o) (hR:∀ s,dp s (.tup [vT (.map es),i64 0]) (.tup [.agg [.iface 173 (.map o)],i64 0])→R (.tup [.agg [.iface 173 (.map o)],i64 0]) s) :
  ∀ (d i:Nat) (bs:List Nat) (n:Nat) (st:aa),i+d=es.length→st[r]?=some (.cells .rw [.nili])→st[o]?=some (.map .rw (mE (es.take i)) bs n)→
   Dx (vL (es.map (·.2))) (.ptr r 0) (.map o) (sL (es.map (·.1))) (i64 es.length) (i64 i) R st:=by
 intro d
 induction d with
 | zero=>
  intro i bs n st hi hr ho
  apply LY
  have hi':i=es.length:=by omega
  subst hi'
  have:¬ ((es.length:Int)<es.length):=by omega
  simp only[DD,ad,au,ab,aL]
  refine ⟨fun h=>absurd h this,fun _=>?_⟩
  rw[List.take_length] at ho
  have e1:bh (aB (aF [(0,1)]) [LV.nili] [(0,LV.iface 173 (.map o))])=some (.agg [.iface 173 (.map o)]):=rfl
  have hlt:=cA hr
  have e2:stV st 1 (.ptr r 0) (.agg [.iface 173 (.map o)])=some (st.set r (.cells .rw [.iface 173 (.map o)])):=fq (vs:=[.iface 173 (.map o)]) hr (by simp) rfl rfl
  have e3:ldA (st.set r (.cells .rw [.iface 173 (.map o)])) (.ptr r 0) 1=some (.agg [.iface 173 (.map o)]):=du (bO hr) (by simp)
  simp only[e1,ab,e2,aA,af,e3]
  have ho':(st.set r (.cells .rw [.iface 173 (.map o)]))[o]?=some (.map .rw (mE es) bs n):=by rw[bK hro];exact ho
  exact hR _ ⟨_,rfl,_,_,rfl,N1 ho' (.refl _) hn,_,_,rfl,rfl,rfl⟩
 | succ d ih=>
  intro i bs n st hi hr ho
  apply LY
  have hlt:i<es.length:=by omega
  obtain ⟨⟨k,t⟩,hk⟩:∃ e,es[i]=e:=⟨_,rfl⟩
  have hget:es[i]?=some (k,t):=by rw[bg hlt,hk]
  have hks:((es.map (·.1)).map LV.str)[i*1]?=some (.str k):=by simp[hget]
  have hvs:(fh (es.map (·.2)))[i*1]?=some (lvT t):=by rw[zP];simp[hget]
  have hlt':i<(es.map (·.1)).length:=by simpa using hlt
  have hlt2:i<(es.map (·.2)).length:=by simpa using hlt
  have e0:bn 1 (sL (es.map (·.1))) (i64 i)=some (.iptr ((es.map (·.1)).map .str) (i*1)):=cj hlt'
  have e1:bn 1 (vL (es.map (·.2))) (i64 i)=some (.iptr (fh (es.map (·.2))) (i*1)):=cj hlt2
  have hnk:k ∉ (es.take i).map (·.1):=by
   have hsp:es=es.take i++(k,t)::es.drop (i+1):=by
    conv=>lhs;rw[← List.take_append_drop i es]
    rw[b6 hlt,hk]
   rw[hsp] at hn
   simp only[List.map_append,List.map_cons] at hn
   have h1:=(List.nodup_append.1 hn).2.2
   exact fun hc=>h1 k hc k (by simp) rfl
  have hf:T.find (es.take i) k=none:=T.FL.2 hnk
  have e2:so st true (some (.agg [.nili])) (.map o) (.str k) true=some (.tup [vT .null,.bool false]):=by
   show Da _ _ _ _ _ _=_
   simp only[Da,plainKey,if_true,mapOf,ho,KA,hf,Option.map_none]
   rfl
  have e3:stV (st++[ar.cells .rw [LV.nili]]) 1 (.ptr st.length 0) (vT .null)=some (st++[ar.cells .rw [LV.nili]]):=by
   have h:=fq (st:=st++[ar.cells .rw [LV.nili]]) (o:=st.length) (k:=0) (m:=.rw) (l:=[LV.nili]) (vs:=[LV.nili]) (n:=1) ay (by simp) rfl rfl
   refine h.trans ?_
   congr 1
   simp[cy]
  have hvl:i*1+1≤(fh (es.map (·.2))).length:=by rw[tQ];omega
  have e4:ldA (st++[ar.cells .rw [LV.nili]]) (.iptr (fh (es.map (·.2))) (i*1)) 1=some (vT t):=by
   rw[fk hvl]
   congr 2
   rw[List.take_one,List.head?_drop,hvs]
   rfl
  have ho1:(st++[ar.cells .rw [LV.nili]])[o]?=some (.map .rw (mE (es.take i)) bs n):=cb ho
  have hnx:mE (es.take (i+1))=mE (es.take i)++[(.str k,vT t)]:=by
   rw[List.take_add_one];simp[mE,hget]
  have e5:GF (st++[ar.cells .rw [LV.nili]]) true (.map o) (.str k) (vT t)=some ((st++[ar.cells .rw [LV.nili]]).set o (.map .rw (mE (es.take (i+1))) (bs++[n]) (n+1))):=by
   simp only[GF,plainKey,if_true,ho1,N0 hnk]
   rw[hnx]
   congr 2
   unfold rJ
   rw[if_neg (by simp)]
  simp only[DD,ad,au,ab,aL,e0,bA,hks,e2,av,aN,aO,cv,e3,aA,af,ae,e1,e4,e5,aH,aK (show i<2 ^ 40 by unfold big at hb;omega)]
  refine ⟨fun _=>?_,fun h=>absurd (by omega:(i:Int)<es.length) h⟩
  refine ih (i+1) (bs++[n]) (n+1) _ (by omega) ?_ ?_
  ·rw[bK (Ne.symm hro)];exact cb hr
  ·exact bO ho1
theorem N2 {es:List (List UInt8 × T)} (hn:(es.map (·.1)).Nodup) (hb:es.length≤big):Pu Tryz.prog 72 [sL (es.map (·.1)),vL (es.map (·.2))] (.tup [vT (.map es),i64 0]):=by
 refine Pu.of (c72 _ _ ?_) (by simp[LV.aG,LV.plain];exact bV fun _ _=>rfl) (by simp[LV.plain,LV.aG])
 have e:(((es.map (·.1)).length:Int) != ((es.map (·.2)).length:Int))=false:=by simp
 simp only[w72,cv,aU,ab,ad,bJ,e,ae,za]
 rw[bH]
 exact Ib hn hb (by decide) (fun s h=>h) es.length 0 [] 0 _ (by omega) rfl rfl
end Go.Proofs.YtknegckgmklnhaaGreatDoor
