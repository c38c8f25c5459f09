/- Parts of the proof. -/
import Derived.Test.YtknegckgmklnhaaGreatDoorCp41
import Derived.Shelf.SortM.Plain
import Derived.Shelf.SortM.SortNone
import Derived.Ground.GgzProg
import Derived.Ground.SlgmProg
namespace Go.CP
inductive T where
 | null|unknown
 | bool (b:Bool)
 | int (n:Int)
 | point (a b:Int)
 | text (s:List UInt8)
 | list (l:List T)
 | map (es:List (List UInt8 × T))
namespace T
def kind:T→Int
 | null=>0
 | unknown=>1
 | bool _=>2
 | int _=>3
 | point _ _=>4
 | text _=>5
 | list _=>6
 | map _=>7
end T
def fb (n:Int):Nat:=FloatKind.f64.nearest n
abbrev ltB (a b:List UInt8):Prop:=Op.bytesLess a b=true
def big:Nat:=2 ^ 30
mutual
def T.ok:T→Prop
 | .int n=>-9223372036854775808≤n∧n<9223372036854775808
 | .point a b=>(-9007199254740992≤a∧a≤9007199254740992)∧(-9007199254740992≤b∧b≤9007199254740992)
 | .text s=>s.length≤big
 | .list l=>l.length≤big∧T.oks l
 | .map es=>es.length≤big∧T.okm es∧(es.map (·.1)).Pairwise ltB
 | _=>True
def T.oks:List T→Prop
 | []=>True
 | t::ts=>T.ok t∧T.oks ts
def T.okm:List (List UInt8 × T)→Prop
 | []=>True
 | e::es=>(e.1.length≤big∧T.ok e.2)∧T.okm es
end
theorem ij:∀ x:List UInt8,Op.bytesLess x x=false
 | []=>rfl
 | a::x=>by simp[Op.bytesLess,ij x]
theorem lM:∀ {x y z:List UInt8},Op.bytesLess x y=true→Op.bytesLess y z=true→Op.bytesLess x z=true
 | _,_,[],_,h=>by simp[Op.bytesLess] at h
 | _,[],_::_,h,_=>by simp[Op.bytesLess] at h
 | [],_::_,_::_,_,_=>rfl
 | a::x,b::y,c::z,h,k=>by
  simp only[Op.bytesLess,Bool.or_eq_true,decide_eq_true_eq,Bool.and_eq_true,beq_iff_eq,UInt8.lt_iff_toNat_lt] at h k ⊢
  rcases h with h|⟨rfl,h⟩
  ·rcases k with k|⟨rfl,k⟩
   ·left;omega
   ·left;exact h
  ·rcases k with k|⟨rfl,k⟩
   ·left;exact k
   ·right;exact ⟨rfl,lM h k⟩
theorem pH:∀ {x y:List UInt8},Op.bytesLess x y=false→Op.bytesLess y x=false→x=y
 | [],[],_,_=>rfl
 | [],_::_,h,_=>by simp[Op.bytesLess] at h
 | _::_,[],_,h=>by simp[Op.bytesLess] at h
 | a::x,b::y,h,k=>by
  simp only[Op.bytesLess,Bool.or_eq_false_iff,decide_eq_false_iff_not,Bool.and_eq_false_iff,UInt8.lt_iff_toNat_lt] at h k
  have e:a=b:=UInt8.toNat_inj.1 (by omega)
  subst e
  simp only[beq_self_eq_true,Bool.true_eq_false,false_or] at h k
  rw[pH h.2 k.2]
theorem lN {x y:List UInt8} (h:Op.bytesLess x y=true):Op.bytesLess y x=false:=by
 rw[Bool.eq_false_iff]
 intro k
 have:=lM h k
 rw[ij] at this;cases this
theorem vp {a b:List UInt8} (h:ltB a b):a≠b:=fun e=>by subst e;unfold ltB at h;rw[ij] at h;cases h
theorem pI {l:List (List UInt8)} (h:l.Pairwise ltB):l.Nodup:=h.imp vp
def T.find (es:List (List UInt8 × T)) (k:List UInt8):Option T:=(es.find? fun e=>e.1==k).map (·.2)
def T.at (t:T) (k:List UInt8):Option T:=match t with
 | .map es=>T.find es k
 | _=>none
end Go.CP
namespace Go.CP
abbrev Tx:=List UInt8
inductive KT where
 | mk (f:Nat) (l:List KT) (ns:List Tx) (ls:List Bool)
namespace KT
def f:KT→Nat|mk f _ _ _=>f
def l:KT→List KT|mk _ l _ _=>l
def ns:KT→List Tx|mk _ _ ns _=>ns
def ls:KT→List Bool|mk _ _ _ ls=>ls
theorem yZ {t x:KT} (h:x ∈ t.l):SizeOf.sizeOf x<SizeOf.sizeOf t:=by
 cases t
 have:=List.sizeOf_lt_of_mem h
 simp only[l] at this
 simp;omega
end KT
def aU:List Tx:=[[97,110,121],[98,111,111,108],[105,110,116],[112,111,105,110,116],[116,101,120,116],[108,105,115,116],[109,97,112]]
def isLet (c:UInt8):Bool:=decide (97≤c.toNat∧c.toNat≤122)
def fT (c:UInt8):Bool:=isLet c||decide (48≤c.toNat∧c.toNat≤57)
def cJ:Tx→Tx
 | []=>[]
 | c::s=>if isLet c then c::s.takeWhile fT else []
def named (s:Tx):Bool:=decide (cJ s=s)&&decide (s≠[])&&decide (s.length≤20)
def fP (s:Tx):Option (Tx × Tx):=if cJ s=[]∨20<(cJ s).length then none else some (cJ s,s.drop (cJ s).length)
def eF (s:Tx):List Tx→Nat→Option (Nat × Tx)
 | [],_=>none
 | w::ws,i=>if w.isPrefixOf s then some (i,s.drop w.length) else eF s ws (i+1)
def dD (p:Tx→Option (KT × Tx)):Nat→Tx→Option (List KT × Tx)
 | 0,_=>none
 | n+1,s=>match p s with
  | none=>none
  | some (x,r)=>match r with
   | []=>none
   | c::r=>if c=93 then some ([x],r) else if c=44 then (match dD p n r with
    | none=>none
    | some (l,r)=>some (x::l,r)) else none
def cp:Tx→Bool × Tx
 | []=>(false,[])
 | c::r=>if c=63 then (true,r) else (false,c::r)
def k9 (last:Option Tx) (s:Tx):Bool:=match last with
 | none=>true
 | some l=>Op.bytesLess l s
def cF (p:Tx→Option (KT × Tx)):Nat→Option Tx→Tx→Option (List (Tx × Bool × KT) × Tx)
 | 0,_,_=>none
 | n+1,last,s=>match fP s with
  | none=>none
  | some (nm,r0)=>if k9 last nm=false then none else match (cp r0).2 with
   | []=>none
   | c::r2=>if c≠58 then none else match p r2 with
    | none=>none
    | some (x,r1)=>match r1 with
     | []=>none
     | c::r3=>if c=125 then some ([(nm,(cp r0).1,x)],r3) else if c=44 then (match cF p n (some nm) r3 with
      | none=>none
      | some (l,r4)=>some ((nm,(cp r0).1,x)::l,r4)) else none
def pT:Nat→Tx→Option (KT × Tx)
 | 0,_=>none
 | d+1,s=>match s with
  | []=>none
  | c::r=>if c=91 then (if r.head?=some 93 then some (.mk 7 [] [] [],r.tail) else match dD (pT d) 16 r with
    | none=>none
    | some (l,r)=>some (.mk 7 l [] [],r))
   else if c=123 then (if r.head?=some 125 then some (.mk 8 [] [] [],r.tail) else match cF (pT d) 16 none r with
    | none=>none
    | some (fs,r)=>some (.mk 8 (fs.map (·.2.2)) (fs.map (·.1)) (fs.map (·.2.1)),r))
   else match eF (c::r) aU 0 with
    | none=>none
    | some (i,r)=>if i<5 then some (.mk i [] [] [],r) else match r with
     | []=>none
     | c::r=>if c≠40 then none else match pT d r with
      | none=>none
      | some (x,r)=>match r with
       | []=>none
       | c::r=>if c=41 then some (.mk i [x] [] [],r) else none
def bV (s:Tx):Option KT:=if 4096<s.length then none else match pT 8 s with
 | some (t,[])=>some t
 | _=>none
def eG:List Tx→Tx
 | []=>[]
 | [a]=>a
 | a::b::l=>a++44::eG (b::l)
def eB (n:Tx) (l:Bool) (t:Tx):Tx:=n++((if l then [63,58] else [58])++t)
def bL:List Tx→List Bool→List Tx→List Tx
 | n::ns,l::ls,t::ts=>eB n l t::bL ns ls ts
 | _,_,ts=>ts
def nM (f:Nat) (ts:List Tx) (ns:List Tx) (ls:List Bool):Tx:=
 if f=5 then [108,105,115,116,40]++(ts.getD 0 []++[41])
 else if f=6 then [109,97,112,40]++(ts.getD 0 []++[41])
 else if f=7 then 91::(eG ts++[93])
 else if f=8 then 123::(eG (bL ns ls ts)++[125])
 else aU.getD f []
mutual
def kpr:KT→Tx
 | .mk f l ns ls=>nM f (xL l) ns ls
def xL:List KT→List Tx
 | []=>[]
 | t::ts=>kpr t::xL ts
end
theorem lO:∀ {l:List KT},xL l=l.map kpr
 | []=>rfl
 | t::ts=>by simp[xL,lO (l:=ts)]
mutual
def KT.wf:Nat→KT→Prop
 | 0,_=>False
 | d+1,.mk f l ns ls=>f≤8∧(f<5→l=[])∧(f=5∨f=6→l.length=1)∧(f<8→ns=[]∧ls=[])∧(f=8→ns.length=l.length∧ls.length=l.length)∧l.length≤16∧ns.Pairwise ltB∧(∀ n ∈ ns,named n=true)∧KT.wfs d l
def KT.wfs:Nat→List KT→Prop
 | _,[]=>True
 | d,t::ts=>KT.wf d t∧KT.wfs d ts
end
theorem KT.lP {d:Nat}:∀ {l:List KT},KT.wfs d l↔∀ t ∈ l,t.wf d
 | []=>by simp[KT.wfs]
 | t::ts=>by simp[KT.wfs,KT.lP (l:=ts)]
theorem eT {c:UInt8} {s:Tx}:cJ (c::s)=if isLet c then c::s.takeWhile fT else []:=rfl
theorem fx {c:UInt8} {r:Tx}:cp (c::r)=if c=63 then (true,r) else (false,c::r):=rfl
theorem gP:∀ (s:Tx),s=cJ s++s.drop (cJ s).length
 | []=>rfl
 | c::s=>by
  rw[eT]
  split
  ·simp only[List.cons_append,List.length_cons,List.drop_succ_cons]
   congr 1
   exact (List.prefix_iff_eq_append.1 (List.takeWhile_prefix fT)).symm
  ·rfl
theorem jI {p:UInt8→Bool}:∀ {s:Tx},(s.takeWhile p).takeWhile p=s.takeWhile p
 | []=>rfl
 | c::s=>by
  simp only[List.takeWhile_cons]
  split
  ·rename_i h
   rw[List.takeWhile_cons,if_pos h,jI]
  ·rfl
theorem xM (s:Tx):cJ (cJ s)=cJ s:=by
 cases s with
 | nil=>rfl
 | cons c s=>
  rw[eT]
  split
  ·rename_i h
   rw[eT,if_pos h,jI]
  ·rfl
theorem la {s n r:Tx} (h:fP s=some (n,r)):s=n++r∧named n=true∧n=cJ s:=by
 unfold fP at h
 split at h
 ·cases h
 ·rename_i hn
  simp only[Option.some.injEq,Prod.mk.injEq] at h
  obtain ⟨rfl,rfl⟩:=h
  refine ⟨gP s,?_,rfl⟩
  simp only[not_or,Nat.not_lt] at hn
  simp[named,xM,hn.1,hn.2]
theorem pJ {s r:Tx}:∀ {ws:List Tx} {k i:Nat},eF s ws k=some (i,r)→∃ j w,i=k+j∧ws[j]?=some w∧s=w++r
 | [],_,_,h=>by cases h
 | w::ws,k,i,h=>by
  unfold eF at h
  split at h
  ·rename_i hp
   simp only[Option.some.injEq,Prod.mk.injEq] at h
   obtain ⟨rfl,rfl⟩:=h
   exact ⟨0,w,rfl,rfl,(List.prefix_iff_eq_append.1 (List.isPrefixOf_iff_prefix.1 hp)).symm⟩
  ·obtain ⟨j,w',h1,h2,h3⟩:=pJ h
   exact ⟨j+1,w',by omega,by simpa using h2,h3⟩
theorem nN {p:Tx→Option (KT × Tx)} {Q:KT→Prop} (hp:∀ s t r,p s=some (t,r)→s=kpr t++r∧Q t):∀ {n:Nat} {s r:Tx} {l:List KT},dD p n s=some (l,r)→
  s=eG (l.map kpr)++93::r∧(∀ t ∈ l,Q t)∧l.length≤n∧l≠[]
 | 0,_,_,_,h=>by cases h
 | n+1,s,r,l,h=>by
  unfold dD at h
  split at h
  ·cases h
  ·rename_i x r1 hx
   obtain ⟨h1,h2⟩:=hp _ _ _ hx
   split at h
   ·cases h
   ·rename_i c r2
    split at h
    ·rename_i hc
     subst hc
     simp only[Option.some.injEq,Prod.mk.injEq] at h
     obtain ⟨rfl,rfl⟩:=h
     exact ⟨by simpa[eG] using h1,by simpa using h2,by simp,by simp⟩
    ·split at h
     ·rename_i hc
      subst hc
      split at h
      ·cases h
      ·rename_i l2 r3 h3
       simp only[Option.some.injEq,Prod.mk.injEq] at h
       obtain ⟨rfl,rfl⟩:=h
       obtain ⟨k1,k2,k3,k4⟩:=nN hp h3
       refine ⟨?_,fun t ht=>?_,by simp;omega,by simp⟩
       ·cases l2 with
        | nil=>exact absurd rfl k4
        | cons y l2=>
         simp only[List.map_cons,eG] at k1 ⊢
         rw[h1,k1];simp
       ·rcases List.mem_cons.1 ht with rfl|ht
        ·exact h2
        ·exact k2 t ht
     ·cases h
theorem tK (r:Tx):r=(if (cp r).1 then [63] else [])++(cp r).2:=by
 cases r with
 | nil=>rfl
 | cons c r=>
  rw[fx]
  by_cases h:c=63
  ·rw[if_pos h,h];rfl
  ·rw[if_neg h];rfl
abbrev fpr (e:Tx × Bool × KT):Tx:=eB e.1 e.2.1 (kpr e.2.2)
theorem lQ {p:Tx→Option (KT × Tx)} {Q:KT→Prop} (hp:∀ s t r,p s=some (t,r)→s=kpr t++r∧Q t):∀ {n:Nat} {last:Option Tx} {s r:Tx} {l:List (Tx × Bool × KT)},cF p n last s=some (l,r)→
  s=eG (l.map fpr)++125::r∧(∀ e ∈ l,Q e.2.2∧named e.1=true)∧l.length≤n∧l≠[]∧(l.map (·.1)).Pairwise ltB∧∀ a,last=some a→∀ e ∈ l,ltB a e.1
 | 0,_,_,_,_,h=>by cases h
 | n+1,last,s,r,l,h=>by
  unfold cF at h
  split at h
  ·cases h
  ·rename_i nm r0 hn
   obtain ⟨n1,n2,_⟩:=la hn
   split at h
   ·cases h
   rename_i hah
   have hah:k9 last nm=true:=by simpa using hah
   have hlast:∀ a,last=some a→ltB a nm:=by rintro a rfl;exact hah
   have hl:=tK r0
   split at h
   ·cases h
   rename_i c r2 hr2
   split at h
   ·cases h
   rename_i hc
   have hc:c=58:=by simpa using hc
   subst hc
   split at h
   ·cases h
   rename_i x r1 hx
   obtain ⟨h1,h2⟩:=hp _ _ _ hx
   have e0:s=eB nm (cp r0).1 (kpr x)++r1:=by
    rw[n1]
    generalize hg:cp r0=q at hl hr2 ⊢
    rw[hl,hr2,h1]
    obtain ⟨q1,q2⟩:=q
    unfold eB
    cases q1<;>simp
   split at h
   ·cases h
   ·rename_i c r3
    split at h
    ·rename_i hc
     subst hc
     simp only[Option.some.injEq,Prod.mk.injEq] at h
     obtain ⟨rfl,rfl⟩:=h
     exact ⟨by simpa[eG] using e0,by simpa using ⟨h2,n2⟩,by simp,by simp,by simp,by simpa using hlast⟩
    ·split at h
     ·rename_i hc
      subst hc
      split at h
      ·cases h
      ·rename_i l2 r4 h3
       simp only[Option.some.injEq,Prod.mk.injEq] at h
       obtain ⟨rfl,rfl⟩:=h
       obtain ⟨k1,k2,k3,k4,k5,k6⟩:=lQ hp h3
       have k6:=k6 nm rfl
       refine ⟨?_,fun t ht=>?_,by simp;omega,by simp,?_,fun a ha e he=>?_⟩
       ·cases l2 with
        | nil=>exact absurd rfl k4
        | cons y l2=>
         simp only[List.map_cons,eG] at k1 ⊢
         rw[e0,k1];simp
       ·rcases List.mem_cons.1 ht with rfl|ht
        ·exact ⟨h2,n2⟩
        ·exact k2 t ht
       ·simp only[List.map_cons,List.pairwise_cons]
        exact ⟨fun y hy=>by obtain ⟨e,he,rfl⟩:=List.mem_map.1 hy;exact k6 e he,k5⟩
       ·rcases List.mem_cons.1 he with rfl|he
        ·exact hlast a ha
        ·exact lM (hlast a ha) (k6 e he)
     ·cases h
theorem pK:∀ (l:List (Tx × Bool × KT)),bL (l.map (·.1)) (l.map (·.2.1)) ((l.map (·.2.2)).map kpr)=l.map fpr
 | []=>rfl
 | e::l=>by simp only[List.map_cons,bL,pK l]
theorem iR {j:Nat} {w:Tx} (h:aU[j]?=some w):j<7∧w=aU.getD j []:=by
 have:=(List.getElem?_eq_some_iff.1 h).1
 exact ⟨this,by rw[List.getD_eq_getElem?_getD,h];rfl⟩
theorem lR:∀ {d:Nat} {s r:Tx} {t:KT},pT d s=some (t,r)→s=kpr t++r∧t.wf d
 | 0,_,_,_,h=>by cases h
 | d+1,s,r,t,h=>by
  unfold pT at h
  split at h
  ·cases h
  rename_i c r0
  split at h
  ·rename_i hc;subst hc
   split at h
   ·rename_i hh
    simp only[Option.some.injEq,Prod.mk.injEq] at h
    obtain ⟨rfl,rfl⟩:=h
    cases r0 with
    | nil=>simp at hh
    | cons c r0=>
     simp only[List.head?_cons,Option.some.injEq] at hh
     subst hh
     exact ⟨rfl,by simp[KT.wf,KT.wfs]⟩
   ·split at h
    ·cases h
    ·rename_i l r1 hl
     simp only[Option.some.injEq,Prod.mk.injEq] at h
     obtain ⟨rfl,rfl⟩:=h
     obtain ⟨h1,h2,h3,_⟩:=nN (Q:=KT.wf d) (fun s t r h=>lR h) hl
     refine ⟨?_,?_⟩
     ·simp[kpr,nM,lO,h1]
     ·simp only[KT.wf]
      exact ⟨by omega,fun h=>by omega,fun h=>by omega,fun _=>by simp,fun h=>by omega,h3,.nil,by simp,KT.lP.2 h2⟩
  split at h
  ·rename_i hc;subst hc
   split at h
   ·rename_i hh
    simp only[Option.some.injEq,Prod.mk.injEq] at h
    obtain ⟨rfl,rfl⟩:=h
    cases r0 with
    | nil=>simp at hh
    | cons c r0=>
     simp only[List.head?_cons,Option.some.injEq] at hh
     subst hh
     exact ⟨rfl,by simp[KT.wf,KT.wfs]⟩
   ·split at h
    ·cases h
    ·rename_i l r1 hl
     simp only[Option.some.injEq,Prod.mk.injEq] at h
     obtain ⟨rfl,rfl⟩:=h
     obtain ⟨h1,h2,h3,h4,h5,_⟩:=lQ (Q:=KT.wf d) (fun s t r h=>lR h) hl
     refine ⟨?_,?_⟩
     ·simp only[kpr,nM,lO,pK]
      simp[h1]
     ·simp only[KT.wf]
      refine ⟨by omega,fun h=>by omega,fun h=>by omega,fun h=>by omega,fun _=>by simp,by simpa using h3,h5,?_,KT.lP.2 ?_⟩
      ·intro n hn;obtain ⟨e,he,rfl⟩:=List.mem_map.1 hn;exact (h2 e he).2
      ·intro n hn;obtain ⟨e,he,rfl⟩:=List.mem_map.1 hn;exact (h2 e he).1
  split at h
  ·cases h
  rename_i i r1 hw
  obtain ⟨j,w,e1,e2,e3⟩:=pJ hw
  obtain ⟨e4,e5⟩:=iR e2
  have e1:i=j:=by omega
  subst e1
  split at h
  ·rename_i hi
   simp only[Option.some.injEq,Prod.mk.injEq] at h
   obtain ⟨rfl,rfl⟩:=h
   refine ⟨?_,?_⟩
   ·simp only[kpr,nM]
    rw[if_neg (by omega),if_neg (by omega),if_neg (by omega),if_neg (by omega),← e5,← e3]
   ·simp only[KT.wf]
    exact ⟨by omega,fun _=>by simp,fun h=>by omega,fun _=>by simp,fun h=>by omega,by simp,.nil,by simp,by simp[KT.wfs]⟩
  ·rename_i hi
   split at h
   ·cases h
   rename_i c1 r2
   split at h
   ·cases h
   rename_i hc
   have hc:c1=40:=by simpa using hc
   subst hc
   split at h
   ·cases h
   rename_i x r3 hx
   obtain ⟨h1,h2⟩:=lR hx
   split at h
   ·cases h
   rename_i c2 r4
   split at h
   ·rename_i hc;subst hc
    simp only[Option.some.injEq,Prod.mk.injEq] at h
    obtain ⟨rfl,rfl⟩:=h
    refine ⟨?_,?_⟩
    ·rw[e3,h1,e5]
     have:i=5∨i=6:=by omega
     rcases this with rfl|rfl<;>simp[kpr,nM,xL,aU]
    ·simp only[KT.wf,KT.wfs]
     exact ⟨by omega,fun h=>by omega,fun _=>by simp,fun _=>by simp,fun h=>by omega,by simp,.nil,by simp,h2,by simp[]⟩
   ·cases h
end Go.CP
namespace Go.Proofs.YtknegckgmklnhaaGreatDoor
open Go Go.CP
set_option maxRecDepth 100000
mutual
def lvT:T→LV
 | .null=>.nili
 | .unknown=>.iface 169 (.agg [])
 | .bool b=>.iface 4 (.bool b)
 | .int n=>.iface 3 (.int .i64 n)
 | .point a b=>.iface 170 (.cplx .f64 (fb a) (fb b))
 | .text s=>.iface 9 (.str s)
 | .list l=>.iface 171 (.isl (C1 l) l.length none)
 | .map es=>.iface 173 (.imap (es.map fun e=>.str e.1) (C2 es))
def C1:List T→List LV
 | []=>[]
 | t::ts=>lvT t::C1 ts
def C2:List (List UInt8 × T)→List LV
 | []=>[]
 | e::es=>.agg [lvT e.2]::C2 es
end
theorem ik {n b:Nat} (hn:n≤2 ^ 31) (hb:b≤256):fE n b=true:=by
 have:n*b≤2 ^ 31*256:=Nat.mul_le_mul hn hb
 simp only[fE,Bool.and_eq_true,decide_eq_true_eq]
 omega
theorem jJ:∀ {ss seen:List (List UInt8)},ss.Nodup→(∀ s ∈ ss,s ∉ seen)→cM (ss.map .str) seen=some ss
 | [],_,_,_=>rfl
 | s::ss,seen,hn,hd=>by
  simp only[List.nodup_cons] at hn
  simp only[List.map_cons,cM]
  rw[if_neg (hd s (by simp)),jJ hn.2 fun x hx=>by
   simp only[List.mem_cons,not_or]
   exact ⟨fun e=>hn.1 (e ▸ hx),hd x (by simp[hx])⟩]
  rfl
abbrev sL (l:List (List UInt8)):LV:=.isl (l.map .str) l.length none
theorem aJ {i:Nat} (h:i<2 ^ 40):IntKind.i64.wrap ((i:Int)+1)=((i+1:Nat):Int):=by
 rw[wrap_i64 (by omega) (by omega)];simp
end Go.Proofs.YtknegckgmklnhaaGreatDoor
namespace Go.Proofs.YtknegckgmklnhaaGreatDoor
open Go Go.CP Classical
set_option maxRecDepth 100000
def AL {α β:Type} (p:α→β→Prop):List α→List β→Prop
 | [],[]=>True
 | a::l,b::m=>p a b∧AL p l m
 | _,_=>False
theorem AL.len {α β:Type} {p:α→β→Prop}:∀ {a:List α} {b:List β},AL p a b→a.length=b.length
 | [],[],_=>rfl
 | _::_,_::_,h=>by simp[AL.len h.2]
 | [],_::_,h=>h.elim
 | _::_,[],h=>h.elim
end Go.Proofs.YtknegckgmklnhaaGreatDoor
namespace Go.Proofs
open Go.Shelf
def Tryz.jK:Go.Shelf.Ren:=⟨fun|7=>116|10=>166|n=>n,fun|23=>173|26=>9|3=>57|28=>180|0=>0|27=>179|33=>38|4=>4|n=>n,fun|n=>n⟩
theorem Tryz.r8:Go.Proofs.SlLaysZ.n7 Tryz.prog Tryz.jK:={
 mixed:=by kernel_rfl
 f7:=⟨Tryz.f116.name,by decide,Tryz.func116.trans (congrArg some (by kernel_rfl))⟩
 f10:=⟨Tryz.f166.name,by decide,Tryz.func166.trans (congrArg some (by kernel_rfl))⟩
 t0:=Tryz.underlying0
 a0:=Tryz.isAgg0
 z0:=Tryz.sizeOf0
 v0:=Tryz.zeroValue0
 t4:=Tryz.underlying4
 a4:=Tryz.isAgg4
 z4:=Tryz.sizeOf4
 v4:=Tryz.zeroValue4
 t23:=Tryz.underlying173
 a23:=Tryz.isAgg173
 z23:=Tryz.sizeOf173
 v23:=Tryz.zeroValue173
 t26:=Tryz.underlying9
 a26:=Tryz.isAgg9
 z26:=Tryz.sizeOf9
 v26:=Tryz.zeroValue9
 t27:=Tryz.underlying179
 a27:=Tryz.isAgg179
 z27:=Tryz.sizeOf179
 v27:=Tryz.zeroValue179
 t28:=Tryz.underlying180
 a28:=Tryz.isAgg180
 z28:=Tryz.sizeOf180
 v28:=Tryz.zeroValue180
 t33:=Tryz.underlying38
 a33:=Tryz.isAgg38
 z33:=Tryz.sizeOf38
 v33:=Tryz.zeroValue38 }
def Tryz.kG:Go.Shelf.Ren:=⟨fun|6=>115|8=>164|9=>165|11=>198|13=>200|12=>199|23=>255|24=>256|14=>246|15=>247|16=>248|17=>249|18=>250|19=>251|20=>252|21=>253|22=>254|25=>275|26=>276|27=>277|28=>278|29=>279|30=>280|31=>294|n=>n,fun|26=>9|28=>180|24=>26|0=>0|3=>3|37=>262|48=>312|50=>295|4=>4|40=>306|39=>305|45=>132|5=>5|9=>9|51=>330|55=>334|57=>349|58=>350|33=>38|n=>n,fun|n=>n⟩
theorem Tryz.xN:Go.Proofs.SlLaysZ.n6 Tryz.prog Tryz.kG:={
 mixed:=by kernel_rfl
 f6:=⟨Tryz.f115.name,by decide,Tryz.func115.trans (congrArg some (by kernel_rfl))⟩
 f8:=⟨Tryz.f164.name,by decide,Tryz.func164.trans (congrArg some (by kernel_rfl))⟩
 f11:=⟨Tryz.f198.name,by decide,Tryz.func198.trans (congrArg some (by kernel_rfl))⟩
 t0:=Tryz.underlying0
 a0:=Tryz.isAgg0
 z0:=Tryz.sizeOf0
 v0:=Tryz.zeroValue0
 t24:=Tryz.underlying26
 a24:=Tryz.isAgg26
 z24:=Tryz.sizeOf26
 v24:=Tryz.zeroValue26
 t26:=Tryz.underlying9
 a26:=Tryz.isAgg9
 z26:=Tryz.sizeOf9
 v26:=Tryz.zeroValue9
 t28:=Tryz.underlying180
 a28:=Tryz.isAgg180
 z28:=Tryz.sizeOf180
 v28:=Tryz.zeroValue180
 i26:=by kernel_rfl }
def Tryz.tL:Go.Shelf.Ren:=⟨fun|6=>165|8=>200|9=>199|19=>255|20=>256|21=>246|22=>247|23=>248|24=>249|25=>250|26=>251|27=>252|28=>253|29=>254|36=>275|31=>276|32=>277|37=>278|38=>279|39=>280|41=>294|n=>n,fun|27=>26|29=>9|3=>3|32=>262|26=>26|0=>0|44=>312|46=>295|4=>4|36=>306|35=>305|41=>132|5=>5|9=>9|53=>330|57=>334|63=>349|64=>350|n=>n,fun|n=>n⟩
theorem Tryz.wL:Go.Proofs.SlLaysM.n6 Tryz.prog Tryz.tL:={
 mixed:=by kernel_rfl
 f6:=⟨Tryz.f165.name,by decide,Tryz.func165.trans (congrArg some (by kernel_rfl))⟩
 f8:=Tryz.func200.trans (congrArg some (by kernel_rfl))
 f9:=⟨Tryz.f199.name,by decide,Tryz.func199.trans (congrArg some (by kernel_rfl))⟩
 f19:=Tryz.func255.trans (congrArg some (by kernel_rfl))
 f20:=Tryz.func256.trans (congrArg some (by kernel_rfl))
 f21:=⟨Tryz.f246.name,by decide,Tryz.func246.trans (congrArg some (by kernel_rfl))⟩
 f22:=⟨Tryz.f247.name,by decide,Tryz.func247.trans (congrArg some (by kernel_rfl))⟩
 f23:=⟨Tryz.f248.name,by decide,Tryz.func248.trans (congrArg some (by kernel_rfl))⟩
 f24:=⟨Tryz.f249.name,by decide,Tryz.func249.trans (congrArg some (by kernel_rfl))⟩
 f25:=⟨Tryz.f250.name,by decide,Tryz.func250.trans (congrArg some (by kernel_rfl))⟩
 f26:=⟨Tryz.f251.name,by decide,Tryz.func251.trans (congrArg some (by kernel_rfl))⟩
 f27:=⟨Tryz.f252.name,by decide,Tryz.func252.trans (congrArg some (by kernel_rfl))⟩
 f28:=⟨Tryz.f253.name,by decide,Tryz.func253.trans (congrArg some (by kernel_rfl))⟩
 f29:=⟨Tryz.f254.name,by decide,Tryz.func254.trans (congrArg some (by kernel_rfl))⟩
 f31:=Tryz.func276.trans (congrArg some (by kernel_rfl))
 f32:=Tryz.func277.trans (congrArg some (by kernel_rfl))
 f36:=⟨Tryz.f275.name,by decide,Tryz.func275.trans (congrArg some (by kernel_rfl))⟩
 f37:=⟨Tryz.f278.name,by decide,Tryz.func278.trans (congrArg some (by kernel_rfl))⟩
 f38:=⟨Tryz.f279.name,by decide,Tryz.func279.trans (congrArg some (by kernel_rfl))⟩
 f39:=⟨Tryz.f280.name,by decide,Tryz.func280.trans (congrArg some (by kernel_rfl))⟩
 f41:=⟨Tryz.f294.name,by decide,Tryz.func294.trans (congrArg some (by kernel_rfl))⟩
 t0:=Tryz.underlying0
 a0:=Tryz.isAgg0
 z0:=Tryz.sizeOf0
 v0:=Tryz.zeroValue0
 t3:=Tryz.underlying3
 a3:=Tryz.isAgg3
 z3:=Tryz.sizeOf3
 v3:=Tryz.zeroValue3
 t4:=Tryz.underlying4
 a4:=Tryz.isAgg4
 z4:=Tryz.sizeOf4
 v4:=Tryz.zeroValue4
 t5:=Tryz.underlying5
 a5:=Tryz.isAgg5
 z5:=Tryz.sizeOf5
 v5:=Tryz.zeroValue5
 t9:=Tryz.underlying9
 a9:=Tryz.isAgg9
 z9:=Tryz.sizeOf9
 v9:=Tryz.zeroValue9
 t26:=Tryz.underlying26
 a26:=Tryz.isAgg26
 z26:=Tryz.sizeOf26
 v26:=Tryz.zeroValue26
 t27:=Tryz.underlying26
 a27:=Tryz.isAgg26
 z27:=Tryz.sizeOf26
 v27:=Tryz.zeroValue26
 t29:=Tryz.underlying9
 a29:=Tryz.isAgg9
 z29:=Tryz.sizeOf9
 v29:=Tryz.zeroValue9
 t32:=Tryz.underlying262
 a32:=Tryz.isAgg262
 z32:=Tryz.sizeOf262
 v32:=Tryz.zeroValue262
 t35:=Tryz.underlying305
 a35:=Tryz.isAgg305
 z35:=Tryz.sizeOf305
 v35:=Tryz.zeroValue305
 t36:=Tryz.underlying306
 a36:=Tryz.isAgg306
 z36:=Tryz.sizeOf306
 v36:=Tryz.zeroValue306
 t41:=Tryz.underlying132
 a41:=Tryz.isAgg132
 z41:=Tryz.sizeOf132
 v41:=Tryz.zeroValue132
 t44:=Tryz.underlying312
 a44:=Tryz.isAgg312
 z44:=Tryz.sizeOf312
 v44:=Tryz.zeroValue312
 t46:=Tryz.underlying295
 a46:=Tryz.isAgg295
 z46:=Tryz.sizeOf295
 v46:=Tryz.zeroValue295
 t53:=Tryz.underlying330
 a53:=Tryz.isAgg330
 z53:=Tryz.sizeOf330
 v53:=Tryz.zeroValue330
 t57:=Tryz.underlying334
 a57:=Tryz.isAgg334
 z57:=Tryz.sizeOf334
 v57:=Tryz.zeroValue334
 t63:=Tryz.underlying349
 a63:=Tryz.isAgg349
 z63:=Tryz.sizeOf349
 v63:=Tryz.zeroValue349
 t64:=Tryz.underlying350
 a64:=Tryz.isAgg350
 z64:=Tryz.sizeOf350
 v64:=Tryz.zeroValue350 }
end Go.Proofs
namespace Go.Proofs.YtknegckgmklnhaaGreatDoor
open Go Go.CP Go.RowKit Go.Maps Go.Sort Go.Shelf
set_option maxRecDepth 100000
theorem y5 (m:Nat):AnyZ.SortsIn Tryz.prog Tryz.kG Fence.wide m:=
 ⟨fun blk off cap ss W hH hblk hsz=>callsIn_wide.2 (AnyM.slices_Sort_string Tryz.wL blk off cap ss W hH hblk hsz),
  fun p cap W=>callsIn_wide.2 (AnyM.slices_Sort_string_none Tryz.wL p cap W)⟩
theorem kH (mb:Option Nat) (W:World):Calls Tryz.prog 116 #[.map mb] W fun e w'=>e=.returned (.func (.func 166) #[] #[.pointer (some ⟨W.heap.size,0,none⟩)])∧w'=W.alloc (.cells #[.map mb] 173):=
 callsIn_wide.1 (AnyZ.keys_in Tryz.r8 Fence.wide 5 trivial rfl mb W)
theorem y7 (Bm b nn:Nat) (D0:DataW Unit) (w:World) (h1:Bm<w.heap.size) (h2:w.cell? ⟨Bm,0,none⟩=some (.map (some b))) (h3:w.ownsMap Tryz.prog 9 yM b nn D0) :
  SeqGives Fence.wide 2 Tryz.prog 166 #[.pointer (some ⟨Bm,0,none⟩)] encStr (fun ss=>ss.Perm (strKeys D0)) (Maps.size D0) w:=
 AnyZ.keys_gives (ρ:=Tryz.jK) { Tryz.r8 with } Fence.wide _ trivial rfl (by omega) Bm b nn D0 w h1 h2 h3
theorem ja (lb:Array Value) (S:List (List UInt8)→Prop) (N:Nat) (w:World) (hN:N≤maxLen) (hNb:N*16≤140737488355328) (hseq:SeqGives Fence.wide 2 Tryz.prog 166 lb encStr S N w) :
  Calls Tryz.prog 115 #[.func (.func 166) #[] lb] w fun e w'=>∃ (v:Value) (ss:List (List UInt8)),e=.returned v∧S ss∧
   w'.ownsRow w.heap.size 9 1 v ss.length ((ss.mergeSort (fun x y=>decide (x≤y))).map encStr)∧(v=.slice none 0 0↔ss=[])∧Below w.heap.size w w':=
 callsIn_wide.1 (AnyZ.sorted_in Tryz.xN Fence.wide 5 trivial trivial trivial trivial rfl (by omega) (y5 _) (enters_of Tryz.func165 (by kernel_rfl) rfl) 166 lb trivial (enters_of Tryz.func166 (by kernel_rfl) rfl) S N hN hNb w hseq)
theorem xO {l:List (List UInt8)} (h:l.Pairwise ltB):l.mergeSort leB=l:=by
 refine List.mergeSort_of_pairwise (h.imp fun {a b} hab=>?_)
 unfold ltB at hab
 rw[bytesLess_eq] at hab
 simp only[leB,decide_eq_true_eq] at hab ⊢
 exact List.le_of_lt hab
theorem call116:cN Tryz.prog 116:=⟨Tryz.f116,dz Tryz.f116,Tryz.func116,by kernel_rfl,by kernel_rfl⟩
theorem call115:cN Tryz.prog 115:=⟨Tryz.f115,dz Tryz.f115,Tryz.func115,by kernel_rfl,by kernel_rfl⟩
theorem xP (Bm:Nat) (w:World) (h1:Bm<w.heap.size) (h2:w.cell? ⟨Bm,0,none⟩=some (.map none)) :
  SeqGives Fence.wide 2 Tryz.prog 166 #[.pointer (some ⟨Bm,0,none⟩)] encStr (fun ss=>ss=[]) 0 w:=
 AnyZ.keys_gives_nil (ρ:=Tryz.jK) { Tryz.r8 with } Fence.wide _ trivial rfl Bm w h1 h2
end Go.Proofs.YtknegckgmklnhaaGreatDoor
