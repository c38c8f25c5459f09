/- Parts of the proof. -/
import Derived.Test.YtknegckgmklnhaaGreatDoorVaV6
namespace Go.Proofs.YtknegckgmklnhaaGreatDoor
open Go Go.CP
set_option maxRecDepth 100000
inductive RV where
 | mk (k:Int) (b:Bool) (n m:Int) (s:List UInt8) (l:List RV) (ks:List (List UInt8))
namespace RV
def k:RV→Int|mk k _ _ _ _ _ _=>k
def b:RV→Bool|mk _ b _ _ _ _ _=>b
def n:RV→Int|mk _ _ n _ _ _ _=>n
def m:RV→Int|mk _ _ _ m _ _ _=>m
def s:RV→List UInt8|mk _ _ _ _ s _ _=>s
def l:RV→List RV|mk _ _ _ _ _ l _=>l
def ks:RV→List (List UInt8) | mk _ _ _ _ _ _ ks=>ks
theorem H6 {r x:RV} (h:x ∈ r.l):SizeOf.sizeOf x<SizeOf.sizeOf r:=by
 cases r
 have:=List.sizeOf_lt_of_mem h
 simp only[l] at this
 simp;omega
theorem ind {p:RV→Prop} (h:∀ r,(∀ x ∈ r.l,p x)→p r):∀ (n:Nat) (r:RV),SizeOf.sizeOf r<n→p r
 | 0,_,hn=>by omega
 | n+1,r,hn=>h r fun x hx=>ind h n x (by have:=H6 hx;omega)
end RV
abbrev sI (l:List (List UInt8)):LV:=.isl (l.map .str) l.length none
mutual
def rc:RV→List LV
 | .mk k b n m s l ks=>[i64 k,.bool b,i64 n,i64 m,.str s,.isl (rcs l) l.length none,sI ks]
def rcs:List RV→List LV
 | []=>[]
 | r::rs=>rc r++rcs rs
end
abbrev vR (r:RV):LV:=.agg (rc r)
abbrev rL (l:List RV):LV:=.isl (rcs l) l.length none
theorem nq {r:RV}:rc r=[i64 r.k,.bool r.b,i64 r.n,i64 r.m,.str r.s,rL r.l,sI r.ks]:=by cases r;rfl
theorem fC {r:RV}:(rc r).length=7:=by rw[nq];rfl
theorem xE:∀ {l:List RV},rcs l=(l.map rc).flatten
 | []=>rfl
 | r::rs=>by simp[rcs,xE (l:=rs)]
theorem Ed {l:List RV}:(rcs l).length=l.length*7:=by
 rw[xE,oH (c:=7) (by intro x h;obtain ⟨r,_,rfl⟩:=List.mem_map.1 h;exact fC)];simp
mutual
theorem tV:∀ {r:RV},LV.aG (rc r)=true
 | .mk k b n m s l ks=>by
  simp only[rc,LV.aG,LV.plain,Bool.true_and,Bool.and_true,bp]
  exact ⟨mM,bV fun _ _=>rfl⟩
theorem mM:∀ {l:List RV},LV.aG (rcs l)=true
 | []=>rfl
 | r::rs=>by rw[rcs,dP,tV,mM];rfl
end
theorem fX {r:RV}:(vR r).plain=true:=by simp only[LV.plain,tV]
theorem jW {r:RV}:LV.aG [vR r]=true:=by simp only[LV.aG,fX,Bool.and_true]
mutual
def RV.ok:RV→Prop
 | .mk k _ n m s l ks=>((-9223372036854775808≤k∧k<9223372036854775808)∧(-9223372036854775808≤n∧n<9223372036854775808)∧(-9223372036854775808≤m∧m<9223372036854775808))∧
  s.length≤big∧l.length≤big∧(ks.length≤big∧∀ x ∈ ks,x.length≤big)∧RV.oks l
def RV.oks:List RV→Prop
 | []=>True
 | r::rs=>RV.ok r∧RV.oks rs
end
theorem RV.kL:∀ {l:List RV},RV.oks l↔∀ t ∈ l,t.ok
 | []=>by simp[RV.oks]
 | t::ts=>by simp[RV.oks,RV.kL (l:=ts)]
theorem RV.xF {r:RV} (h:r.ok):r.l.length≤big∧∀ x ∈ r.l,x.ok:=by
 cases r;simp only[RV.ok] at h;exact ⟨h.2.2.1,RV.kL.1 h.2.2.2.2⟩
theorem RV.Qg {r:RV} (h:r.ok):r.ks.length≤big∧∀ x ∈ r.ks,x.length≤big:=by
 cases r;simp only[RV.ok] at h;exact h.2.2.2.1
theorem KD {l:List RV} {i:Nat} {r:RV} (h:l[i]?=some r):((rcs l).drop (i*7)).take 7=rc r∧i*7+7≤(rcs l).length:=by
 have h1:(l.map rc)[i]?=some (rc r):=by simp[h]
 obtain ⟨e1,e2⟩:=jq (c:=7) (rows:=l.map rc) (by intro x h;obtain ⟨r,_,rfl⟩:=List.mem_map.1 h;exact fC) h1
 rw[xE]
 exact ⟨e1,by omega⟩
theorem eF {st:aa} {l:List RV} {i:Nat} {r:RV} (h:l[i]?=some r):ldA st (.iptr (rcs l) (i*7)) 7=some (vR r):=by
 obtain ⟨e1,e2⟩:=KD h
 rw[fk e2,e1]
def cH (st:aa) (o:Nat) (r:RV):Prop:=st[o]?=some (.cells .rw (rc r))
theorem cH.ldA {st:aa} {o:Nat} {r:RV} (h:cH st o r):ldA st (.ptr o 0) 7=some (vR r):=by
 rw[du h (by rw[fC];omega)]
 congr 2
 rw[List.drop_zero,List.take_of_length_le (by rw[fC];omega)]
theorem ao {d o k:Nat}:ag d (.ptr o k)=some (.ptr o (k+d)):=rfl
theorem cH.ld {st:aa} {o i:Nat} {r:RV} {v:LV} (h:cH st o r) (hv:(rc r)[i]?=some v):ld1 st (.ptr o i)=some v:=by
 simp only[ld1,show st[o]?=_ from h,hv]
theorem cH.k {st:aa} {o:Nat} {r:RV} (h:cH st o r):ld1 st (.ptr o 0)=some (i64 r.k):=h.ld (by rw[nq];rfl)
theorem cH.b {st:aa} {o:Nat} {r:RV} (h:cH st o r):ld1 st (.ptr o 1)=some (.bool r.b):=h.ld (by rw[nq];rfl)
theorem cH.n {st:aa} {o:Nat} {r:RV} (h:cH st o r):ld1 st (.ptr o 2)=some (i64 r.n):=h.ld (by rw[nq];rfl)
theorem cH.m {st:aa} {o:Nat} {r:RV} (h:cH st o r):ld1 st (.ptr o 3)=some (i64 r.m):=h.ld (by rw[nq];rfl)
theorem cH.s {st:aa} {o:Nat} {r:RV} (h:cH st o r):ld1 st (.ptr o 4)=some (.str r.s):=h.ld (by rw[nq];rfl)
theorem cH.l {st:aa} {o:Nat} {r:RV} (h:cH st o r):ld1 st (.ptr o 5)=some (rL r.l):=h.ld (by rw[nq];rfl)
theorem cH.ks {st:aa} {o:Nat} {r:RV} (h:cH st o r):ld1 st (.ptr o 6)=some (sI r.ks):=h.ld (by rw[nq];rfl)
theorem ec {st:aa} {r:RV}:cu st (vR r)=some (.ptr st.length 0,st++[.cells .rw (rc r)]):=by cases r;rfl
theorem kP {a b:Int}:iw [i64 a,i64 b]=some (i64 (max a b)):=by
 simp only[iw,oh,Dd]
 congr 2
 rw[Int.max_def]
 split<;>split<;>omega
theorem N5 {a b:Int}:kZ [i64 a,i64 b]=some (i64 (min a b)):=by
 simp only[kZ,oh,yD]
 congr 2
 rw[Int.min_def]
 split<;>split<;>omega
theorem N6 {r:RV} (hl:r.l.length≤big) (hrec:∀ x ∈ r.l,∃ n,Pu Tryz.prog 85 [vR x] (i64 n)) :
  ∀ (d i:Nat) (acc:Int),i+d=r.l.length→∃ n,∀ {st:aa} {R:LV→aa→Prop} {o:Nat},cH st o r→R (i64 n) st→Dy (.ptr o 0) (i64 acc) (i64 i) R st:=by
 intro d
 induction d with
 | zero=>
  intro i acc hi
  refine ⟨acc,fun {st R o} hb hR=>?_⟩
  apply LS
  have:¬ ((i:Int)<r.l.length):=by omega
  simp only[DA,ao,aj,ab,hb.l,aU,ad,au,aL]
  exact ⟨fun h=>absurd h this,fun _=>hR⟩
 | succ d ih=>
  intro i acc hi
  have hlt:i<r.l.length:=by omega
  have hx:r.l[i]?=some r.l[i]:=bg hlt
  obtain ⟨n1,h1⟩:=hrec _ (List.getElem_mem hlt)
  obtain ⟨n,hn⟩:=ih (i+1) (IntKind.i64.wrap (acc+n1)) (by omega)
  refine ⟨n,fun {st R o} hb hR=>?_⟩
  apply LS
  have e1:bn 7 (rL r.l) (i64 i)=some (.iptr (rcs r.l) (i*7)):=cj hlt
  simp only[DA,ao,aj,ab,hb.l,aU,ad,au,aL,e1,eF hx]
  refine ⟨fun _=>h1.call ?_,fun h=>absurd (by omega:(i:Int)<r.l.length) h⟩
  simp only[aH,ab,aK (show i<2 ^ 40 by unfold big at hl;omega)]
  exact hn hb hR
theorem KE:∀ {r:RV},r.ok→∃ n,Pu Tryz.prog 85 [vR r] (i64 n):=fun {r}=>by
 refine RV.ind (p:=fun r=>r.ok→∃ n,Pu Tryz.prog 85 [vR r] (i64 n)) ?_ _ r (Nat.lt_succ_self _)
 intro r ih hr
 obtain ⟨hl,ho⟩:=RV.xF hr
 obtain ⟨n,hn⟩:=N6 hl (fun x hx=>ih x hx (ho x hx)) r.l.length 0 1 (by omega)
 refine ⟨n,Pu.of (c85 _ ?_) jW rfl⟩
 simp only[w85,ec,af]
 exact hn (R:=fun x s=>dp s (i64 n) x) rfl rfl
theorem N7 {r:RV} (hl:r.l.length≤big) (hrec:∀ x ∈ r.l,∃ n,Pu Tryz.prog 86 [vR x] (i64 n)) :
  ∀ (d i:Nat) (acc:Int),i+d=r.l.length→∃ n,∀ {st:aa} {R:LV→aa→Prop} {o:Nat},cH st o r→R (i64 n) st→Dz (.ptr o 0) (i64 acc) (i64 i) R st:=by
 intro d
 induction d with
 | zero=>
  intro i acc hi
  refine ⟨IntKind.i64.wrap (acc+1),fun {st R o} hb hR=>?_⟩
  apply LU
  have:¬ ((i:Int)<r.l.length):=by omega
  simp only[DB,ao,aj,ab,hb.l,aU,ad,au,aL,aH]
  exact ⟨fun h=>absurd h this,fun _=>hR⟩
 | succ d ih=>
  intro i acc hi
  have hlt:i<r.l.length:=by omega
  have hx:r.l[i]?=some r.l[i]:=bg hlt
  obtain ⟨n1,h1⟩:=hrec _ (List.getElem_mem hlt)
  obtain ⟨n,hn⟩:=ih (i+1) (max acc n1) (by omega)
  refine ⟨n,fun {st R o} hb hR=>?_⟩
  apply LU
  have e1:bn 7 (rL r.l) (i64 i)=some (.iptr (rcs r.l) (i*7)):=cj hlt
  simp only[DB,ao,aj,ab,hb.l,aU,ad,au,aL,e1,eF hx]
  refine ⟨fun _=>h1.call ?_,fun h=>absurd (by omega:(i:Int)<r.l.length) h⟩
  simp only[kP,aH,ab,aK (show i<2 ^ 40 by unfold big at hl;omega)]
  exact hn hb hR
theorem KF:∀ {r:RV},r.ok→∃ n,Pu Tryz.prog 86 [vR r] (i64 n):=fun {r}=>by
 refine RV.ind (p:=fun r=>r.ok→∃ n,Pu Tryz.prog 86 [vR r] (i64 n)) ?_ _ r (Nat.lt_succ_self _)
 intro r ih hr
 obtain ⟨hl,ho⟩:=RV.xF hr
 obtain ⟨n,hn⟩:=N7 hl (fun x hx=>ih x hx (ho x hx)) r.l.length 0 0 (by omega)
 refine ⟨n,Pu.of (c86 _ ?_) jW rfl⟩
 simp only[w86,ec,af]
 exact hn (R:=fun x s=>dp s (i64 n) x) rfl rfl
theorem Ee {r:RV} (hl:r.l.length≤big) (hrec:∀ x ∈ r.l,∃ n,Pu Tryz.prog 24 [vR x] (i64 n)) :
  ∀ (d i:Nat) (acc:Int),i+d=r.l.length→∃ n,∀ {st:aa} {R:LV→aa→Prop} {o:Nat} {x4:LV},cH st o r→R (i64 n) st→zy (.ptr o 0) (i64 acc) x4 (i64 i) R st:=by
 intro d
 induction d with
 | zero=>
  intro i acc hi
  refine ⟨acc,fun {st R o x4} hb hR=>?_⟩
  apply GW
  have:¬ ((i:Int)<r.l.length):=by omega
  simp only[zC,ao,aj,ab,hb.l,aU,ad,au,aL]
  exact ⟨fun h=>absurd h this,fun _=>hR⟩
 | succ d ih=>
  intro i acc hi
  have hlt:i<r.l.length:=by omega
  have hx:r.l[i]?=some r.l[i]:=bg hlt
  obtain ⟨n1,h1⟩:=hrec _ (List.getElem_mem hlt)
  obtain ⟨n,hn⟩:=ih (i+1) (IntKind.i64.wrap (acc+n1)) (by omega)
  by_cases h0:acc=0
  ·refine ⟨n,fun {st R o x4} hb hR=>?_⟩
   apply GW
   have e1:bn 7 (rL r.l) (i64 i)=some (.iptr (rcs r.l) (i*7)):=cj hlt
   have e2:(acc==0)=true:=by simp[h0]
   simp only[zC,ao,aj,ab,hb.l,aU,ad,au,aL,bj,e2,ah,e1,eF hx]
   refine ⟨fun _=>h1.call ?_,fun h=>absurd (by omega:(i:Int)<r.l.length) h⟩
   simp only[aH,ab,aK (show i<2 ^ 40 by unfold big at hl;omega)]
   exact hn hb hR
  ·refine ⟨acc,fun {st R o x4} hb hR=>?_⟩
   apply GW
   have e2:(acc==0)=false:=by simp[h0]
   simp only[zC,ao,aj,ab,hb.l,aU,ad,au,aL,bj,e2,ae]
   exact ⟨fun _=>hR,fun _=>hR⟩
theorem N8 {r:RV} (hr:r.ok) (hrec:∀ x ∈ r.l,∃ n,Pu Tryz.prog 24 [vR x] (i64 n)) :
  ∀ (d i:Nat) (acc:Int),i+d=r.ks.length→∃ n,∀ {st:aa} {R:LV→aa→Prop} {o:Nat} {x5:LV},cH st o r→R (i64 n) st→Dw (.ptr o 0) (i64 acc) (i64 i) x5 R st:=by
 intro d
 induction d with
 | zero=>
  intro i acc hi
  obtain ⟨n,hn⟩:=Ee (RV.xF hr).1 hrec r.l.length 0 acc (by omega)
  refine ⟨n,fun {st R o x5} hb hR=>?_⟩
  apply GU
  have:¬ ((i:Int)<r.ks.length):=by omega
  simp only[zB,ao,aj,ab,hb.ks,aU,ad,au,aL]
  exact ⟨fun h=>absurd h this,fun _=>hn hb hR⟩
 | succ d ih=>
  intro i acc hi
  have hlt:i<r.ks.length:=by omega
  have hx:(r.ks.map LV.str)[i*1]?=some (.str r.ks[i]):=by simp[hlt]
  by_cases h80:(i:Int)<80
  ·obtain ⟨n,hn⟩:=ih (i+1) (IntKind.i64.wrap (acc+max (IntKind.i64.wrap ((r.ks[i].length:Int)-300)) 0)) (by omega)
   refine ⟨n,fun {st R o x5} hb hR=>?_⟩
   apply GU
   have e1:bn 1 (sI r.ks) (i64 i)=some (.iptr (r.ks.map .str) (i*1)):=cj hlt
   simp only[zB,ao,aj,ab,hb.ks,aU,ad,au,aL,e1,bA,hx,bF,dM,kP,aH,aK (show i<2 ^ 40 by omega)]
   exact ⟨fun _=>⟨fun _=>hn hb hR,fun h=>absurd h80 h⟩,fun h=>absurd (by omega:(i:Int)<r.ks.length) h⟩
  ·obtain ⟨n,hn⟩:=Ee (RV.xF hr).1 hrec r.l.length 0 acc (by omega)
   refine ⟨n,fun {st R o x5} hb hR=>?_⟩
   apply GU
   simp only[zB,ao,aj,ab,hb.ks,aU,ad,au,aL]
   exact ⟨fun _=>⟨fun h=>absurd h h80,fun _=>hn hb hR⟩,fun _=>hn hb hR⟩
theorem zT:∀ {r:RV},r.ok→∃ n,Pu Tryz.prog 24 [vR r] (i64 n):=fun {r}=>by
 refine RV.ind (p:=fun r=>r.ok→∃ n,Pu Tryz.prog 24 [vR r] (i64 n)) ?_ _ r (Nat.lt_succ_self _)
 intro r ih hr
 obtain ⟨hl,ho⟩:=RV.xF hr
 obtain ⟨n1,h1⟩:=KE hr
 obtain ⟨n2,h2⟩:=KF hr
 obtain ⟨n,hn⟩:=N8 hr (fun x hx=>ih x hx (ho x hx)) r.ks.length 0 (IntKind.i64.wrap (IntKind.i64.wrap (IntKind.i64.wrap (IntKind.i64.wrap (max (IntKind.i64.wrap ((r.l.length:Int)-70)) 0+max (IntKind.i64.wrap ((r.ks.length:Int)-70)) 0)+max (IntKind.i64.wrap ((r.s.length:Int)-300)) 0)+max (IntKind.i64.wrap (n1-200)) 0)+max (IntKind.i64.wrap (n2-12)) 0)) (by omega)
 refine ⟨n,Pu.of (c24 _ ?_) jW rfl⟩
 have hb:cH ([]++[.cells .rw (rc r)]) ([]:aa).length r:=rfl
 simp only[w24,ec,af,ao,aj,ab,hb.l,hb.ks,hb.s,hb.ldA,aU,ad,dM,aH,kP,bF]
 refine h1.call ⟨hb.ldA,hb.s,hb.ks,hb.l,?_⟩
 simp only[ad,dM,aH,kP,ab]
 refine h2.call ⟨hb.s,hb.ks,hb.l,?_⟩
 simp only[ad,dM,aH,kP,ab]
 exact hn (R:=fun x s=>dp s (i64 n) x) hb rfl
end Go.Proofs.YtknegckgmklnhaaGreatDoor
namespace Go.Proofs.YtknegckgmklnhaaGreatDoor
open Go Go.CP
set_option maxRecDepth 100000
abbrev u8 (c:UInt8):LV:=.int .u8 c.toNat
abbrev rdC (s:Tx) (a:Nat) (e:Int) (d:Nat):List LV:=[.str s,i64 a,i64 e,i64 d]
abbrev rdO (s:Tx) (a:Nat) (e:Int) (d:Nat):ar:=.cells .rw (rdC s a e d)
def Rd (st:aa) (o:Nat) (s:Tx) (a:Nat) (e:Int) (d:Nat):Prop:=st[o]?=some (rdO s a e d)
section
variable {st st':aa} {o:Nat} {s:Tx} {a d n:Nat} {e:Int} {R:LV→aa→Prop}
theorem Rd.lt (h:Rd st o s a e d):o<st.length:=cA h
theorem Rd.l0 (h:Rd st o s a e d):ld1 st (.ptr o 0)=some (.str s):=by rw[bx h];rfl
theorem Rd.l1 (h:Rd st o s a e d):ld1 st (.ptr o 1)=some (i64 a):=by rw[bx h];rfl
theorem Rd.l2 (h:Rd st o s a e d):ld1 st (.ptr o 2)=some (i64 e):=by rw[bx h];rfl
theorem Rd.l3 (h:Rd st o s a e d):ld1 st (.ptr o 3)=some (i64 d):=by rw[bx h];rfl
theorem Rd.s1 (h:Rd st o s a e d) (n:Nat):stV st 1 (.ptr o 1) (i64 n)=some (st.set o (rdO s n e d)):=by rw[dZ h (by simp) rfl];rfl
theorem Rd.s2 (h:Rd st o s a e d) (n:Int):stV st 1 (.ptr o 2) (i64 n)=some (st.set o (rdO s a n d)):=by rw[dZ h (by simp) rfl];rfl
theorem Rd.s3 (h:Rd st o s a e d) (n:Nat):stV st 1 (.ptr o 3) (i64 n)=some (st.set o (rdO s a e n)):=by rw[dZ h (by simp) rfl];rfl
theorem Rd.set (h:Rd st o s a e d) {s':Tx} {a' d':Nat} {e':Int}:Rd (st.set o (rdO s' a' e' d')) o s' a' e' d':=bO h
theorem Rd.app {y:ar} (h:Rd st o s a e d):Rd (st++[y]) o s a e d:=cb h
theorem Rd.id (h:Rd st o s a e d):st.set o (rdO s a e d)=st:=by
 apply List.ext_getElem?
 intro j
 by_cases hj:j=o
 ·subst hj;rw[List.getElem?_set_self h.lt,h]
 ·rw[List.getElem?_set_ne (Ne.symm hj)]
theorem dB {i:Nat} {c:UInt8} {k:IntKind} (h:s[i]?=some c):dJ (.str s) (.int k (i:Nat))=some (u8 c):=by
 simp only[dJ]
 rw[if_pos (by omega)]
 simp[h]
theorem fg (h:Rd st o s a e d) (hR:R (.bool (e != 0)) st):aw Tryz.prog 75 [.ptr o 0] st R:=by
 refine c75 _ ?_
 simp only[w75,aI,ab,ao,aj,h.l2,ad,bJ]
 exact hR
theorem gM (h:Rd st o s a 0 d) (hR:R (.tup []) (st.set o (rdO s n e d))):aw Tryz.prog 76 [.ptr o 0,i64 n,i64 e] st R:=by
 refine c76 _ _ _ ?_
 simp only[w76,aI,ab,ao,aj,h.l2,ad,bj,beq_self_eq_true,ah,h.s1 n,aA,af]
 rw[(h.set).s2]
 simp only[aA,af,List.set_set]
 exact hR
theorem zU {e':Int} (h:Rd st o s a e d) (he:e≠0) (hR:R (.tup []) st):aw Tryz.prog 76 [.ptr o 0,i64 n,i64 e'] st R:=by
 refine c76 _ _ _ ?_
 have:(e==0)=false:=by simpa using he
 simp only[w76,aI,ab,ao,aj,h.l2,ad,bj,this,ae]
 exact hR
theorem lY {c:UInt8} (h:Rd st o s a 0 d) (hc:s[a]?=some c) (hs:a<2 ^ 40) (hR:R (.bool true) (st.set o (rdO s (a+1) 0 d))):aw Tryz.prog 137 [.ptr o 0,u8 c] st R:=by
 refine Pg _ _ ?_
 refine fg h ?_
 have h1:=(List.getElem?_eq_some_iff.1 hc).1
 have c1:¬ ((a:Int)≥s.length):=by omega
 simp only[bne_self_eq_false,ae,aI,ab,ao,aj,h.l1,h.l0,bF,ad,dN,c1,a8,dB hc,bJ]
 refine Hd _ _ ?_
 simp only[BF,ae,aI,ab,ao,aj,h.l1,ad,aH,aK hs,h.s1,aA,af]
 exact hR
theorem ja {c:UInt8} (h:Rd st o s a e d) (hc:e≠0∨s[a]?≠some c) (hR:R (.bool false) st):aw Tryz.prog 137 [.ptr o 0,u8 c] st R:=by
 have fin:tp (.ptr o 0) (.bool true) R st:=by
  refine Hd _ _ ?_
  simp only[BF,ah]
  exact hR
 refine Pg _ _ ?_
 refine fg h ?_
 by_cases he:e=0
 ·subst he
  have hc:s[a]?≠some c:=by simpa using hc
  simp only[bne_self_eq_false,ae,aI,ab,ao,aj,h.l1,h.l0,bF,ad,dN]
  rcases Nat.lt_or_ge a s.length with h1|h1
  ·have c1:¬ ((a:Int)≥s.length):=by omega
   have hx:s[a]?=some s[a]:=bg h1
   have c2:(((s[a].toNat:Nat):Int) != (c.toNat:Nat))=true:=by
    have:s[a]≠c:=fun k=>hc (hx.trans (congrArg some k))
    have:s[a].toNat≠c.toNat:=fun k=>this (UInt8.toNat_inj.1 k)
    simp;omega
   simp only[c1,a8,ae,dB hx,ab,ad,bJ,c2]
   exact fin
  ·have c1:((a:Int)≥s.length):=by omega
   simp only[c1,aZ,ah]
   exact fin
 ·have:(e != 0)=true:=by simpa using he
  simp only[this,ah]
  exact fin
theorem lZ {c:UInt8} (h:Rd st o s a 0 d) (hc:s[a]?=some c) (hs:a<2 ^ 40) (hR:R (.tup []) (st.set o (rdO s (a+1) 0 d))):aw Tryz.prog 184 [.ptr o 0,u8 c] st R:=by
 refine NG _ _ ?_
 refine fg h ?_
 simp only[bne_self_eq_false,bw,ab,bL,ah]
 refine lY h hc hs ?_
 simp only[bw,ab,bM,ae]
 exact hR
theorem oW {c:UInt8} (h:Rd st o s a 0 d) (hc:s[a]?≠some c) (hR:R (.tup []) (st.set o (rdO s a 4 d))):aw Tryz.prog 184 [.ptr o 0,u8 c] st R:=by
 refine NG _ _ ?_
 refine fg h ?_
 simp only[bne_self_eq_false,bw,ab,bL,ah]
 refine ja h (.inr hc) ?_
 simp only[bw,ab,bL,ah,aI,ao,aj,h.l1]
 exact gM h hR
theorem jb {c:UInt8} (h:Rd st o s a e d) (he:e≠0) (hR:R (.tup []) st):aw Tryz.prog 184 [.ptr o 0,u8 c] st R:=by
 refine NG _ _ ?_
 refine fg h ?_
 have:(e != 0)=true:=by simpa using he
 simp only[this,bw,ab,bM,ae]
 exact hR
theorem rn (c:UInt8):Pu Tryz.prog 262 [u8 c] (.bool (jT c)):=by
 refine Pu.of (QS _ ?_) rfl rfl
 have e:jT c=(decide (97≤c.toNat)&&decide (c.toNat≤122)||decide (48≤c.toNat)&&decide (c.toNat≤57)):=by simp[jT,isLet]
 rw[e]
 have g1:(decide (((c.toNat:Nat):Int)≥97))=decide (97≤c.toNat):=decide_eq_decide.2 (by omega)
 have g2:(decide (((c.toNat:Nat):Int)≤122))=decide (c.toNat≤122):=decide_eq_decide.2 (by omega)
 have g3:(decide (((c.toNat:Nat):Int)≥48))=decide (48≤c.toNat):=decide_eq_decide.2 (by omega)
 have g4:(decide (((c.toNat:Nat):Int)≤57))=decide (c.toNat≤57):=decide_eq_decide.2 (by omega)
 simp only[Ph,ad,dN,eo,ab,g1,g2,g3,g4]
 generalize decide (97≤c.toNat)=b1
 generalize decide (c.toNat≤122)=b2
 generalize decide (48≤c.toNat)=b3
 generalize decide (c.toNat≤57)=b4
 cases b1<;>cases b2<;>cases b3<;>cases b4<;>exact (rfl:_=_)
theorem vc (s p:Tx):Pu Tryz.prog 226 [.str s,.str p] (.bool (p.isPrefixOf s)):=by
 refine Pu.of (c226 _ _ ?_) rfl rfl
 simp only[Po,bF,ab,ad,dN]
 rw[aL]
 refine ⟨fun h=>?_,fun h=>?_⟩
 ·have hl:p.length≤s.length:=by omega
  have e1:(ob3 none (some (i64 p.length)) none fun l h m=>dm (.str s) l h m)=some (.str (s.take p.length)):=by
   simp[ob3,fP,dm,hl]
  simp only[e1,ab,ct,da]
  show LV.bool _=LV.bool _
  congr 1
  rw[Bool.eq_iff_iff]
  simp only[beq_iff_eq,List.isPrefixOf_iff_prefix,List.prefix_iff_eq_take]
  exact eq_comm
 ·have hl:¬ p.length≤s.length:=by omega
  have:p.isPrefixOf s=false:=by
   rw[Bool.eq_false_iff]
   intro hc
   exact hl (List.isPrefixOf_iff_prefix.1 hc).length_le
  rw[this];exact (rfl:_=_)
theorem FR (s p:Tx):Pu Tryz.prog 186 [.str s,.str p] (.bool (p.isPrefixOf s)):=by
 refine Pu.of (QY _ _ ?_) rfl rfl
 refine (vc s p).call ?_
 exact (rfl:_=_)
end
end Go.Proofs.YtknegckgmklnhaaGreatDoor
