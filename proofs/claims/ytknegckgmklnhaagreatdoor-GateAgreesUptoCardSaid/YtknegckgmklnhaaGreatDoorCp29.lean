/- Parts of the proof. -/
import Derived.Test.YtknegckgmklnhaaGreatDoorCp24
namespace Go.CP
mutual
def LV.same:LV→LV→Bool
 | .bool a,.bool b=>a==b
 | .int k n,.int j m=>decide (k=j)&&n==m
 | .flt k n,.flt j m=>decide (k=j)&&n==m
 | .str a,.str b=>a==b
 | .nilp,.nilp=>true
 | .ptr o k,.ptr p j=>o==p&&k==j
 | .nils,.nils=>true
 | .sl o k l (.ex c),.sl p j m (.ex d)=>o==p&&k==j&&l==m&&c==d
 | .sl o k l (.rest c),.sl p j m (.rest d)=>o==p&&k==j&&l==m&&c==d
 | .nilm,.nilm=>true
 | .map o,.map p=>o==p
 | .nilf,.nilf=>true
 | .nili,.nili=>true
 | .iface t x,.iface u y=>t==u&&LV.same x y
 | .agg a,.agg b=>LV.fA a b
 | .tup a,.tup b=>LV.fA a b
 | .fn (.func f) a c,.fn (.func g) b d=>f==g&&LV.fA a b&&LV.fA c d
 | .dY a k,.dY b l=>a==b&&k==l
 | .emp,.emp=>true
 | .txt,.txt=>true
 | .aJ,.aJ=>true
 | .isl a n none,.isl b m none=>n==m&&LV.fA a b
 | .isl a n (some c),.isl b m (some d)=>n==m&&c==d&&LV.fA a b
 | .iptr a n,.iptr b m=>n==m&&LV.fA a b
 | .imap a c,.imap b d=>LV.fA a b&&LV.fA c d
 | _,_=>false
def LV.fA:List LV→List LV→Bool
 | [],[]=>true
 | a::as_,b::bs=>LV.same a b&&LV.fA as_ bs
 | _,_=>false
end
mutual
theorem LV.eJ:∀ {a b:LV},LV.same a b=true→a=b
 | .bool a,b,h=>by cases b<;>simp_all [LV.same]
 | .int k n,b,h=>by cases b<;>simp_all [LV.same]
 | .flt k n,b,h=>by cases b<;>simp_all [LV.same]
 | .cplx k n m,b,h=>by cases b<;>simp_all [LV.same]
 | .str a,b,h=>by cases b<;>simp_all [LV.same]
 | .nilp,b,h=>by cases b<;>simp_all [LV.same]
 | .ptr o k,b,h=>by cases b<;>simp_all [LV.same]
 | .nils,b,h=>by cases b<;>simp_all [LV.same]
 | .sl o k l (.ex c),b,h=>by
  cases b<;>simp_all [LV.same]
  rename_i ci;cases ci<;>simp_all [LV.same]
 | .sl o k l (.rest c),b,h=>by
  cases b<;>simp_all [LV.same]
  rename_i ci;cases ci<;>simp_all [LV.same]
 | .nilm,b,h=>by cases b<;>simp_all [LV.same]
 | .map o,b,h=>by cases b<;>simp_all [LV.same]
 | .nilf,b,h=>by cases b<;>simp_all [LV.same]
 | .fn f a c,b,h=>by
  cases b<;>cases f<;>simp_all [LV.same]
  rename_i g _ _ _;cases g<;>simp_all [LV.same]
  exact ⟨LV.cQ h.1.2,LV.cQ h.2⟩
 | .nili,b,h=>by cases b<;>simp_all [LV.same]
 | .iface t x,b,h=>by
  cases b<;>simp_all [LV.same]
  exact LV.eJ h.2
 | .agg a,b,h=>by
  cases b<;>simp_all [LV.same]
  exact LV.cQ h
 | .tup a,b,h=>by
  cases b<;>simp_all [LV.same]
  exact LV.cQ h
 | .dY g k,b,h=>by cases b<;>simp_all [LV.same]
 | .emp,b,h=>by cases b<;>simp_all [LV.same]
 | .txt,b,h=>by cases b<;>simp_all [LV.same]
 | .aJ,b,h=>by cases b<;>simp_all [LV.same]
 | .isl a n none,b,h=>by
  cases b<;>simp_all [LV.same]
  rename_i c;cases c<;>simp_all [LV.same]
  exact LV.cQ h.2
 | .isl a n (some k),b,h=>by
  cases b<;>simp_all [LV.same]
  rename_i c;cases c<;>simp_all [LV.same]
  exact LV.cQ h.2
 | .iptr a n,b,h=>by
  cases b<;>simp_all [LV.same]
  exact LV.cQ h.2
 | .imap a c,b,h=>by
  cases b<;>simp_all [LV.same]
  exact ⟨LV.cQ h.1,LV.cQ h.2⟩
theorem LV.cQ:∀ {a b:List LV},LV.fA a b=true→a=b
 | [],b,h=>by cases b<;>simp_all [LV.fA]
 | a::as_,b,h=>by
  cases b<;>simp_all [LV.fA]
  exact ⟨LV.eJ h.1,LV.cQ h.2⟩
end
def look (n:Nat) (m:List (Nat × Nat)) (o:Nat):Option Nat:=match Nat.blt o n with
 | true=>some o
 | false=>match m.find? (fun p=>p.1==o) with
  | some p=>some p.2
  | none=>none
def gw (n:Nat) (m:List (Nat × Nat)) (o:Nat):Option Nat:=match Nat.blt o n with
 | true=>some o
 | false=>match m.find? (fun p=>p.2==o) with
  | some p=>some p.1
  | none=>none
mutual
def LV.ren (f:Nat→Option Nat):LV→LV
 | .ptr o k=>(match f o with|some p=>.ptr p k|none=>.aJ)
 | .sl o k l c=>(match f o with|some p=>.sl p k l c|none=>.aJ)
 | .map o=>(match f o with|some p=>.map p|none=>.aJ)
 | .iface t v=>.iface t (LV.ren f v)
 | .agg cs=>.agg (LV.hJ f cs)
 | .tup cs=>.tup (LV.hJ f cs)
 | .fn g a b=>.fn g (LV.hJ f a) (LV.hJ f b)
 | .isl a n c=>.isl (LV.hJ f a) n c
 | .iptr a n=>.iptr (LV.hJ f a) n
 | .imap a b=>.imap (LV.hJ f a) (LV.hJ f b)
 | v=>v
def LV.hJ (f:Nat→Option Nat):List LV→List LV
 | []=>[]
 | a::as_=>LV.ren f a::LV.hJ f as_
end
def wQ (f:Nat→Option Nat):List (LV × LV)→List (LV × LV)
 | []=>[]
 | e::es=>(e.1.ren f,e.2.ren f)::wQ f es
def al.ren (f:Nat→Option Nat):al→al
 | .cells m l=>.cells m (LV.hJ f l)
 | .map m es bs k=>.map m (wQ f es) bs k
 | .iter none s e l=>.iter none s e l
 | .fiter none rest=>.fiter none (wQ f rest)
 | .fiter (some c) rest=>.fiter (some (c.1.ren f,c.2.ren f)) (wQ f rest)
 | .iter (some p) s e l=>match f p with
  | some q=>.iter (some q) s e l
  | none=>.dead
 | .dead=>.dead
structure rv (β β':Lay) (f:Nat→Option Nat):Prop where
 o:∀ o p,f o=some p→β' p=β o
 f:∀ b x,β.f b=some x→β'.f b=some x
mutual
theorem Rp.ren {β β':Lay} {f:Nat→Option Nat} (h:rv β β' f):∀ {v:LV} {u:Value},Rp β v u→Rp β' (v.ren f) u
 | .bool _,_,e=>e
 | .int ..,_,e=>e
 | .flt ..,_,e=>e
 | .cplx ..,_,e=>e
 | .str _,_,e=>e
 | .nilp,_,e=>e
 | .ptr o k,_,⟨b,e,r⟩=>by
  simp only[LV.ren]
  cases hf:f o with
  | none=>trivial
  | some p=>exact ⟨b,by rw[h.o _ _ hf];exact e,r⟩
 | .nils,_,e=>e
 | .sl o k l c,_,⟨b,e,r⟩=>by
  simp only[LV.ren]
  cases hf:f o with
  | none=>trivial
  | some p=>exact ⟨b,by rw[h.o _ _ hf];exact e,r⟩
 | .nilm,_,e=>e
 | .map o,_,⟨b,e,r⟩=>by
  simp only[LV.ren]
  cases hf:f o with
  | none=>trivial
  | some p=>exact ⟨b,by rw[h.o _ _ hf];exact e,r⟩
 | .nilf,_,e=>e
 | .fn ..,_,⟨vs,us,e,r,s⟩=>⟨vs,us,e,Rps.ren h r,Rps.ren h s⟩
 | .nili,_,e=>e
 | .iface _ _,_,⟨u,e,r⟩=>⟨u,e,Rp.ren h r⟩
 | .agg _,_,⟨vs,e,r⟩=>⟨vs,e,Rps.ren h r⟩
 | .tup _,_,⟨vs,e,r⟩=>⟨vs,e,Rps.ren h r⟩
 | .dY _ _,_,e=>e
 | .emp,_,e=>e
 | .txt,_,e=>e
 | .aJ,_,_=>trivial
 | .isl ..,_,⟨us,r,a,c,e,l,k,fz⟩=>⟨us,Rps.ren h r,a,c,e,l,k,fz.imp id fun ⟨b,base,q1,q2⟩=>⟨b,base,q1,q2.hM h.f⟩⟩
 | .iptr ..,_,⟨us,b,base,r,e,fz⟩=>⟨us,b,base,Rps.ren h r,e,fz.hM h.f⟩
 | .imap ..,_,⟨b,us,ws,e,r,s,fz⟩=>⟨b,us,ws,e,Rps.ren h r,Rps.ren h s,fz.hM h.f⟩
theorem Rps.ren {β β':Lay} {f:Nat→Option Nat} (h:rv β β' f):∀ {v:List LV} {u:List Value},Rps β v u→Rps β' (LV.hJ f v) u
 | [],_,e=>e
 | _::_,_,⟨v,us,e,r,s⟩=>⟨v,us,e,Rp.ren h r,Rps.ren h s⟩
end
theorem ry {f:Nat→Option Nat}:∀ {l:List LV} {i:Nat},(LV.hJ f l)[i]?=(l[i]?).map (LV.ren f)
 | [],i=>by simp[LV.hJ]
 | a::l,0=>by simp[LV.hJ]
 | a::l,i+1=>by simp[LV.hJ,ry (l:=l)]
theorem rA {f:Nat→Option Nat}:∀ {l:List LV},(LV.hJ f l).length=l.length
 | []=>rfl
 | a::l=>by simp[LV.hJ,rA (l:=l)]
theorem Entries.ren {β β':Lay} {f:Nat→Option Nat} (h:rv β β' f):∀ {es:List (LV × LV)} {l:List MapEntry},Entries β es l→Entries β' (wQ f es) l
 | [],_,e=>e
 | _::_,_,⟨c,us,e,r,s⟩=>⟨c,us,e,⟨r.1.ren h,r.2.ren h⟩,Entries.ren h s⟩
theorem OR.ren {N:Nat} {β β':Lay} {w:World} {f:Nat→Option Nat} {o p:Nat} (h:rv β β' f) (hp:f o=some p):∀ {x:al},OR N β w o x→OR N β' w p (x.ren f)
 | .dead,_=>trivial
 | .cells m l,⟨b,hb,c,e,fz,h1,h2,h3,h4,h5⟩=>⟨b,by rw[h.o _ _ hp];exact hb,c,e,fz,h1,h2,by rw[rA];exact h3,fun i x hx=>by
   rw[ry] at hx
   cases hy:l[i]? with
   | none=>simp[hy] at hx
   | some y=>
    simp[hy] at hx;subst hx
    obtain ⟨u,hu,r⟩:=h4 i y hy
    exact ⟨u,hu,r.ren h⟩,h5⟩
 | .map m es _ _,⟨b,hb,c,h1,h2,h3⟩=>⟨b,by rw[h.o _ _ hp];exact hb,c,h1,h2.ren h,h3⟩
 | .iter none _ _ _,⟨b,hb,c,h1,h2,h3⟩=>⟨b,by rw[h.o _ _ hp];exact hb,c,h1,h2,h3⟩
 | .fiter none _,⟨b,hb,mb,s,k,h1,⟨es,h2,h3,⟨lm,h4,h5⟩,_⟩,h6⟩=>⟨b,by rw[h.o _ _ hp];exact hb,mb,s,k,h1,⟨es,h.f _ _ h2,h3,⟨lm,h4.ren h,h5⟩,trivial⟩,h6⟩
 | .fiter (some _) _,⟨b,hb,mb,s,k,h1,⟨es,h2,h3,⟨lm,h4,h5⟩,e,he,hs,hc⟩,h6⟩=>⟨b,by rw[h.o _ _ hp];exact hb,mb,s,k,h1,⟨es,h.f _ _ h2,h3,⟨lm,h4.ren h,h5⟩,e,he,hs,hc.1.ren h,hc.2.ren h⟩,h6⟩
 | .iter (some p) _ _ _,⟨b,hb,c,h1,⟨b2,h2,e2⟩,h3⟩=>by
  simp only[al.ren]
  cases hf:f p with
  | none=>trivial
  | some q=>exact ⟨b,by rw[h.o _ _ hp];exact hb,c,h1,⟨b2,by rw[h.o _ _ hf];exact h2,e2⟩,h3⟩
theorem al.wR {f:Nat→Option Nat} {x:al} (h:(x.ren f).rw=true):x.rw=true:=by
 cases x with
 | cells m l=>cases m<;>exact h
 | map m l=>cases m<;>exact h
 | iter=>rfl
 | fiter=>rfl
 | dead=>exact h
theorem al.wS {f:Nat→Option Nat} {x:al} (h:(x.ren f).live=true):x.live=true:=by cases x<;>first|rfl|exact h
def oY:List (LV × LV)→List (LV × LV)→Bool
 | [],[]=>true
 | a::as_,b::bs=>LV.same a.1 b.1&&LV.same a.2 b.2&&oY as_ bs
 | _,_=>false
theorem rB:∀ {a b:List (LV × LV)},oY a b=true→a=b
 | [],b,h=>by cases b<;>simp_all [oY]
 | a::as_,b,h=>by
  cases b with
  | nil=>simp[oY] at h
  | cons b bs=>
   simp only[oY,aF] at h
   rw[rB h.2]
   congr 1
   exact Prod.ext (LV.eJ h.1.1) (LV.eJ h.1.2)
def Md.same:Md→Md→Bool
 | .rw,.rw=>true
 | .ro,.ro=>true
 | .bt a,.bt b=>a==b
 | .gl a n,.gl b n'=>a==b&&n==n'
 | _,_=>false
theorem Md.eJ {a b:Md} (h:Md.same a b=true):a=b:=by
 cases a<;>cases b<;>simp_all [Md.same]
def al.same:al→al→Bool
 | .cells m a,.cells n b=>Md.same m n&&LV.fA a b
 | .map m a x k,.map n b y l=>Md.same m n&&oY a b&&(x==y&&k==l)
 | .iter p a b c,.iter q x y z=>p==q&&a==x&&(b==y&&c==z)
 | .dead,.dead=>true
 | _,_=>false
theorem al.eJ {a b:al} (h:al.same a b=true):a=b:=by
 unfold al.same at h
 split at h
 ·simp only[aF] at h;rw[Md.eJ h.1,LV.cQ h.2]
 ·simp only[aF,beq_iff_eq] at h;rw[Md.eJ h.1.1,rB h.1.2,h.2.1,h.2.2]
 ·simp only[aF,beq_iff_eq] at h;rw[h.1.1,h.1.2,h.2.1,h.2.2]
 ·rfl
 ·simp at h
def mz (n:Nat) (m:List (Nat × Nat)) (s:aa):Nat→aa→Bool
 | _,[]=>true
 | o,x::c=>(match x with
   | .dead=>true
   | x=>match gw n m o with
    | some i=>(match s[i]? with
     | some y=>al.same (y.ren (look n m)) x
     | none=>false)
    | none=>false)&&mz n m s (o+1) c
def kg (n len:Nat) (m:List (Nat × Nat)):List (Nat × Nat)→Bool
 | []=>true
 | p::r=>Nat.ble n p.1&&Nat.ble n p.2&&Nat.blt p.2 len&&(match look n m p.1 with
   | some q=>q==p.2
   | none=>false)&&(match gw n m p.2 with
   | some q=>q==p.1
   | none=>false)&&kg n len m r
def rC (n:Nat) (m:List (Nat × Nat)) (t:List LV) (s:aa) (tc:List LV) (c:aa):Bool:=
 Nat.ble n c.length&&kg n c.length m m&&LV.fA (LV.hJ (look n m) t) tc&&mz n m s 0 c
theorem jm {n len:Nat} {m:List (Nat × Nat)}:∀ {r:List (Nat × Nat)},kg n len m r=true→∀ p ∈ r,n≤p.1∧n≤p.2∧p.2<len∧look n m p.1=some p.2∧gw n m p.2=some p.1
 | [],_,p,hp=>by simp at hp
 | q::r,h,p,hp=>by
  simp only[kg,aF] at h
  obtain ⟨⟨⟨⟨⟨h1,h2⟩,h3⟩,h4⟩,h5⟩,h6⟩:=h
  rcases List.mem_cons.1 hp with e|hp
  ·subst e
   refine ⟨Nat.le_of_ble_eq_true h1,Nat.le_of_ble_eq_true h2,by simpa[Nat.blt_eq] using h3,?_,?_⟩
   ·split at h4
    ·rename_i e;rw[e];simpa using h4
    ·simp at h4
   ·split at h5
    ·rename_i e;rw[e];simpa using h5
    ·simp at h5
  ·exact jm h6 p hp
theorem ee {n:Nat} {m:List (Nat × Nat)} {s:aa}:∀ {c:aa} {o:Nat},mz n m s o c=true→∀ i x,c[i]?=some x→x.live=true→
  ∃ j y,gw n m (o+i)=some j∧s[j]?=some y∧y.ren (look n m)=x
 | [],_,_,i,x,hx,_=>by simp at hx
 | a::c,o,h,i,x,hx,hl=>by
  simp only[mz,aF] at h
  cases i with
  | zero=>
   simp at hx;subst hx
   have h1:=h.1
   split at h1
   ·simp[al.live] at hl
   ·split at h1
    ·rename_i j hj
     split at h1
     ·rename_i y hy
      exact ⟨j,y,hj,hy,al.eJ h1⟩
     ·simp at h1
    ·simp at h1
  | succ i=>
   obtain ⟨j,y,h1,h2⟩:=ee h.2 i x (by simpa using hx) hl
   exact ⟨j,y,by rw[← h1];congr 1;omega,h2⟩
theorem uv {n:Nat} {m:List (Nat × Nat)} {o:Nat} (h:o<n):look n m o=some o:=by
 unfold look
 rw[show Nat.blt o n=true by simpa[Nat.blt_eq] using h]
theorem nF {n:Nat} {m:List (Nat × Nat)} {o:Nat} (h:o<n):gw n m o=some o:=by
 unfold gw
 rw[show Nat.blt o n=true by simpa[Nat.blt_eq] using h]
theorem yC {n:Nat} {m:List (Nat × Nat)} {o p:Nat} (h:n≤o) (e:look n m o=some p):(o,p) ∈ m:=by
 unfold look at e
 have hb:Nat.blt o n=false:=by
  cases hb:Nat.blt o n
  ·rfl
  ·rw[Nat.blt_eq] at hb;omega
 rw[hb] at e
 simp only at e
 split at e
 ·rename_i q hq
  have h1:=List.mem_of_find?_eq_some hq
  have h2:=List.find?_some hq
  simp at e h2
  rw[← e,← h2];exact h1
 ·simp at e
theorem rD {n:Nat} {m:List (Nat × Nat)} {o p:Nat} (h:n≤o) (e:gw n m o=some p):(p,o) ∈ m:=by
 unfold gw at e
 have hb:Nat.blt o n=false:=by
  cases hb:Nat.blt o n
  ·rfl
  ·rw[Nat.blt_eq] at hb;omega
 rw[hb] at e
 simp only at e
 split at e
 ·rename_i q hq
  have h1:=List.mem_of_find?_eq_some hq
  have h2:=List.find?_some hq
  simp at e h2
  rw[← e,← h2];exact h1
 ·simp at e
def Lay.re (n:Nat) (m:List (Nat × Nat)) (β:Lay):Lay:={ β with o:=fun o=>match gw n m o with
 | some i=>β i
 | none=>none }
theorem Rel.iso {w0 w:World} {β0 β:Lay} {n:Nat} {m:List (Nat × Nat)} {t tc:List LV} {s c:aa} {us:List Value} (h:Rel w0 β s w) (ht:Rps β t us) (hle:β0.le β) (hdom:∀ o,n≤o→β0 o=none)
  (hok:rC n m t s tc c=true):Rel w0 (β.re n m) c w∧Rps (β.re n m) tc us∧β0.le (β.re n m):=by
 unfold rC at hok
 simp only[aF] at hok
 obtain ⟨⟨⟨h1,h2⟩,h3⟩,h4⟩:=hok
 have h1:=Nat.le_of_ble_eq_true h1
 have hp:=jm h2
 have hf0:∀ o p,look n m o=some p→(β.re n m) p=β o:=by
  intro o p e
  show (match gw n m p with|some i=>β i|none=>none)=_
  rcases Nat.lt_or_ge o n with k|k
  ·rw[uv k] at e;cases e
   rw[nF k]
  ·have:=(hp _ (yC k e)).2.2.2.2
   rw[this]
 have hinv:∀ o i,gw n m o=some i→look n m i=some o:=by
  intro o i e
  rcases Nat.lt_or_ge o n with k|k
  ·rw[nF k] at e;cases e
   exact uv k
  ·exact (hp _ (rD k e)).2.2.2.1
 have hf:rv β (β.re n m) (look n m):=⟨hf0,fun _ _ e=>e⟩
 refine ⟨⟨h.below,?_,?_,?_,h.base,h.froz,?_⟩,?_,?_⟩
 rotate_left 3
 ·intro o x b hx hrw hb
  obtain ⟨i,y,e1,e2,e3⟩:=ee h4 o x hx (al.ey hrw)
  rw[av] at e1
  have g1:β i=some b:=by rw[← hf0 _ _ (hinv _ _ e1)];exact hb
  exact h.sepf i y b e2 (al.wR (f:=look n m) (by rw[e3];exact hrw)) g1
 rotate_left 2
 ·intro o ho
  show (match gw n m o with|some i=>β i|none=>none)=none
  split
  ·rename_i i hi
   have:=(hp _ (rD (Nat.le_trans h1 ho) hi)).2.2.1
   omega
  ·rfl
 ·intro o x hx
  by_cases hl:x.live=true
  ·obtain ⟨i,y,e1,e2,e3⟩:=ee h4 o x hx hl
   rw[av] at e1
   rw[← e3]
   exact (h.obj i y e2).ren hf (hinv _ _ e1)
  ·cases x<;>simp[al.live] at hl
   trivial
 ·intro o o' x x' b b' hx hrw hx' hl hne hb hb'
  obtain ⟨i,y,e1,e2,e3⟩:=ee h4 o x hx (al.ey hrw)
  obtain ⟨i',y',f1,f2,f3⟩:=ee h4 o' x' hx' hl
  rw[av] at e1 f1
  have hi:i≠i':=by
   intro e;subst e
   have a1:=hinv _ _ e1
   have a2:=hinv _ _ f1
   rw[a1] at a2;cases a2;exact hne rfl
  have g1:β i=some b:=by rw[← hf0 _ _ (hinv _ _ e1)];exact hb
  have g2:β i'=some b':=by rw[← hf0 _ _ (hinv _ _ f1)];exact hb'
  exact h.sep i i' y y' b b' e2 (al.wR (f:=look n m) (by rw[e3];exact hrw)) f2 (al.wS (f:=look n m) (by rw[f3];exact hl)) hi g1 g2
 ·rw[← LV.cQ h3]
  exact ht.ren hf
 ·refine ⟨?_,hle.f,hle.n,hle.old⟩
  intro o b e
  have hlt:o<n:=by
   rcases Nat.lt_or_ge o n with k|k
   ·exact k
   ·rw[hdom o k] at e;cases e
  show (match gw n m o with|some i=>β i|none=>none)=some b
  rw[nF hlt]
  exact hle.o _ _ e
end Go.CP
