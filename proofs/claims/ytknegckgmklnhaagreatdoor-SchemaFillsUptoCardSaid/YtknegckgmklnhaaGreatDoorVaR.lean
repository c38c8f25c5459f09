/- The document's values, as they lie; how much of one is more than is asked. -/
import Derived.Test.YtknegckgmklnhaaGreatDoorVaV6
import Derived.Test.YtknegckgmklnhaaGreatDoorVbW
import Derived.Test.YtknegckgmklnhaaGreatDoorVbS
namespace Go.Proofs.YtknegckgmklnhaaGreatDoor
open Go Go.CP
set_option maxRecDepth 100000
inductive RV where
 | mk (k:Int) (b:Bool) (n m:Int) (s:List UInt8) (l:List RV) (ks:List (List UInt8))
namespace RV
def k:RV→Int|mk k _ _ _ _ _ _=>k
def b:RV→Bool|mk _ b _ _ _ _ _=>b
def n:RV→Int|mk _ _ n _ _ _ _=>n
def m:RV→Int|mk _ _ _ m _ _ _=>m
def s:RV→List UInt8|mk _ _ _ _ s _ _=>s
def l:RV→List RV|mk _ _ _ _ _ l _=>l
def ks:RV→List (List UInt8) | mk _ _ _ _ _ _ ks=>ks
theorem BB {r x:RV} (h:x ∈ r.l):SizeOf.sizeOf x<SizeOf.sizeOf r:=by
 cases r
 have:=List.sizeOf_lt_of_mem h
 simp only[l] at this
 simp;omega
theorem ind {p:RV→Prop} (h:∀ r,(∀ x ∈ r.l,p x)→p r):∀ (n:Nat) (r:RV),SizeOf.sizeOf r<n→p r
 | 0,_,hn=>by omega
 | n+1,r,hn=>h r fun x hx=>ind h n x (by have:=BB hx;omega)
end RV
abbrev sI (l:List (List UInt8)):LV:=.isl (l.map .str) l.length none
mutual
def rc:RV→List LV
 | .mk k b n m s l ks=>[i64 k,.bool b,i64 n,i64 m,.str s,.isl (rcs l) l.length none,sI ks]
def rcs:List RV→List LV
 | []=>[]
 | r::rs=>rc r++rcs rs
end
abbrev vR (r:RV):LV:=.agg (rc r)
abbrev rL (l:List RV):LV:=.isl (rcs l) l.length none
theorem mT {r:RV}:rc r=[i64 r.k,.bool r.b,i64 r.n,i64 r.m,.str r.s,rL r.l,sI r.ks]:=by cases r;rfl
theorem iC {r:RV}:(rc r).length=7:=by rw[mT];rfl
theorem tG:∀ {l:List RV},rcs l=(l.map rc).flatten
 | []=>rfl
 | r::rs=>by simp[rcs,tG (l:=rs)]
theorem y7 {l:List RV}:(rcs l).length=l.length*7:=by
 rw[tG,mL (c:=7) (by intro x h;obtain ⟨r,_,rfl⟩:=List.mem_map.1 h;exact iC)];simp
mutual
theorem vE:∀ {r:RV},LV.aB (rc r)=true
 | .mk k b n m s l ks=>by
  simp only[rc,LV.aB,LV.plain,Bool.true_and,Bool.and_true,Bool.and_eq_true]
  exact ⟨kW,bA fun _ _=>rfl⟩
theorem kW:∀ {l:List RV},LV.aB (rcs l)=true
 | []=>rfl
 | r::rs=>by rw[rcs,cP,vE,kW];rfl
end
theorem vF {r:RV}:(vR r).plain=true:=by simp only[LV.plain,vE]
theorem iX {r:RV}:LV.aB [vR r]=true:=by simp only[LV.aB,vF,Bool.and_true]
mutual
def RV.ok:RV→Prop
 | .mk k _ n m s l ks=>((-9223372036854775808≤k∧k<9223372036854775808)∧(-9223372036854775808≤n∧n<9223372036854775808)∧(-9223372036854775808≤m∧m<9223372036854775808))∧
  s.length≤big∧l.length≤big∧(ks.length≤big∧∀ x ∈ ks,x.length≤big)∧RV.oks l
def RV.oks:List RV→Prop
 | []=>True
 | r::rs=>RV.ok r∧RV.oks rs
end
theorem RV.jt:∀ {l:List RV},RV.oks l↔∀ t ∈ l,t.ok
 | []=>by simp[RV.oks]
 | t::ts=>by simp[RV.oks,RV.jt (l:=ts)]
theorem RV.tH {r:RV} (h:r.ok):r.l.length≤big∧∀ x ∈ r.l,x.ok:=by
 cases r;simp only[RV.ok] at h;exact ⟨h.2.2.1,RV.jt.1 h.2.2.2.2⟩
theorem RV.GQ {r:RV} (h:r.ok):r.ks.length≤big∧∀ x ∈ r.ks,x.length≤big:=by
 cases r;simp only[RV.ok] at h;exact h.2.2.2.1
theorem DC {l:List RV} {i:Nat} {r:RV} (h:l[i]?=some r):((rcs l).drop (i*7)).take 7=rc r∧i*7+7≤(rcs l).length:=by
 have h1:(l.map rc)[i]?=some (rc r):=by simp[h]
 obtain ⟨e1,e2⟩:=ke (c:=7) (rows:=l.map rc) (by intro x h;obtain ⟨r,_,rfl⟩:=List.mem_map.1 h;exact iC) h1
 rw[tG]
 exact ⟨e1,by omega⟩
theorem kX {st:aa} {l:List RV} {i:Nat} {r:RV} (h:l[i]?=some r):ldA st (.iptr (rcs l) (i*7)) 7=some (vR r):=by
 obtain ⟨e1,e2⟩:=DC h
 rw[fS e2,e1]
def eh (st:aa) (o:Nat) (r:RV):Prop:=st[o]?=some (.cells .rw (rc r))
theorem eh.ldA {st:aa} {o:Nat} {r:RV} (h:eh st o r):ldA st (.ptr o 0) 7=some (vR r):=by
 rw[cA h (by rw[iC];omega)]
 congr 2
 rw[List.drop_zero,List.take_of_length_le (by rw[iC];omega)]
theorem ar {d o k:Nat}:ad d (.ptr o k)=some (.ptr o (k+d)):=rfl
theorem eh.ld {st:aa} {o i:Nat} {r:RV} {v:LV} (h:eh st o r) (hv:(rc r)[i]?=some v):ld1 st (.ptr o i)=some v:=by
 simp only[ld1,show st[o]?=_ from h,hv]
theorem eh.k {st:aa} {o:Nat} {r:RV} (h:eh st o r):ld1 st (.ptr o 0)=some (i64 r.k):=h.ld (by rw[mT];rfl)
theorem eh.b {st:aa} {o:Nat} {r:RV} (h:eh st o r):ld1 st (.ptr o 1)=some (.bool r.b):=h.ld (by rw[mT];rfl)
theorem eh.n {st:aa} {o:Nat} {r:RV} (h:eh st o r):ld1 st (.ptr o 2)=some (i64 r.n):=h.ld (by rw[mT];rfl)
theorem eh.m {st:aa} {o:Nat} {r:RV} (h:eh st o r):ld1 st (.ptr o 3)=some (i64 r.m):=h.ld (by rw[mT];rfl)
theorem eh.s {st:aa} {o:Nat} {r:RV} (h:eh st o r):ld1 st (.ptr o 4)=some (.str r.s):=h.ld (by rw[mT];rfl)
theorem eh.l {st:aa} {o:Nat} {r:RV} (h:eh st o r):ld1 st (.ptr o 5)=some (rL r.l):=h.ld (by rw[mT];rfl)
theorem eh.ks {st:aa} {o:Nat} {r:RV} (h:eh st o r):ld1 st (.ptr o 6)=some (sI r.ks):=h.ld (by rw[mT];rfl)
theorem kY {st:aa} {r:RV}:cL st (vR r)=some (.ptr st.length 0,st++[.cells .rw (rc r)]):=by cases r;rfl
theorem jx {a b:Int}:gg [i64 a,i64 b]=some (i64 (max a b)):=by
 simp only[gg,mn,yA]
 congr 2
 rw[Int.max_def]
 split<;>split<;>omega
theorem FI {a b:Int}:jC [i64 a,i64 b]=some (i64 (min a b)):=by
 simp only[jC,mn,uu]
 congr 2
 rw[Int.min_def]
 split<;>split<;>omega
theorem FJ {r:RV} (hl:r.l.length≤big) (hrec:∀ x ∈ r.l,∃ n,Pu Tryz.prog 85 [vR x] (i64 n)) :
  ∀ (d i:Nat) (acc:Int),i+d=r.l.length→∃ n,∀ {st:aa} {R:LV→aa→Prop} {o:Nat},eh st o r→R (i64 n) st→P85_1 (.ptr o 0) (i64 acc) (i64 i) R st:=by
 intro d
 induction d with
 | zero=>
  intro i acc hi
  refine ⟨acc,fun {st R o} hb hR=>?_⟩
  apply p85_1
  have:¬ ((i:Int)<r.l.length):=by omega
  simp only[w85_1,ar,Nat.zero_add,ab,hb.l,bh,ae,aA,aL]
  exact ⟨fun h=>absurd h this,fun _=>hR⟩
 | succ d ih=>
  intro i acc hi
  have hlt:i<r.l.length:=by omega
  have hx:r.l[i]?=some r.l[i]:=List.getElem?_eq_getElem hlt
  obtain ⟨n1,h1⟩:=hrec _ (List.getElem_mem hlt)
  obtain ⟨n,hn⟩:=ih (i+1) (IntKind.i64.wrap (acc+n1)) (by omega)
  refine ⟨n,fun {st R o} hb hR=>?_⟩
  apply p85_1
  have e1:aW 7 (rL r.l) (i64 i)=some (.iptr (rcs r.l) (i*7)):=ca hlt
  simp only[w85_1,ar,Nat.zero_add,ab,hb.l,bh,ae,aA,aL,e1,kX hx]
  refine ⟨fun _=>h1.call ?_,fun h=>absurd (by omega:(i:Int)<r.l.length) h⟩
  simp only[aH,ab,aI (show i<2 ^ 40 by unfold big at hl;omega)]
  exact hn hb hR
theorem DD:∀ {r:RV},r.ok→∃ n,Pu Tryz.prog 85 [vR r] (i64 n):=fun {r}=>by
 refine RV.ind (p:=fun r=>r.ok→∃ n,Pu Tryz.prog 85 [vR r] (i64 n)) ?_ _ r (Nat.lt_succ_self _)
 intro r ih hr
 obtain ⟨hl,ho⟩:=RV.tH hr
 obtain ⟨n,hn⟩:=FJ hl (fun x hx=>ih x hx (ho x hx)) r.l.length 0 1 (by omega)
 refine ⟨n,Pu.of (c85 _ ?_) iX rfl⟩
 simp only[w85,kY,ag]
 exact hn (R:=fun x s=>dp s (i64 n) x) rfl rfl
theorem FK {r:RV} (hl:r.l.length≤big) (hrec:∀ x ∈ r.l,∃ n,Pu Tryz.prog 86 [vR x] (i64 n)) :
  ∀ (d i:Nat) (acc:Int),i+d=r.l.length→∃ n,∀ {st:aa} {R:LV→aa→Prop} {o:Nat},eh st o r→R (i64 n) st→P86_1 (.ptr o 0) (i64 acc) (i64 i) R st:=by
 intro d
 induction d with
 | zero=>
  intro i acc hi
  refine ⟨IntKind.i64.wrap (acc+1),fun {st R o} hb hR=>?_⟩
  apply p86_1
  have:¬ ((i:Int)<r.l.length):=by omega
  simp only[w86_1,ar,Nat.zero_add,ab,hb.l,bh,ae,aA,aL,aH]
  exact ⟨fun h=>absurd h this,fun _=>hR⟩
 | succ d ih=>
  intro i acc hi
  have hlt:i<r.l.length:=by omega
  have hx:r.l[i]?=some r.l[i]:=List.getElem?_eq_getElem hlt
  obtain ⟨n1,h1⟩:=hrec _ (List.getElem_mem hlt)
  obtain ⟨n,hn⟩:=ih (i+1) (max acc n1) (by omega)
  refine ⟨n,fun {st R o} hb hR=>?_⟩
  apply p86_1
  have e1:aW 7 (rL r.l) (i64 i)=some (.iptr (rcs r.l) (i*7)):=ca hlt
  simp only[w86_1,ar,Nat.zero_add,ab,hb.l,bh,ae,aA,aL,e1,kX hx]
  refine ⟨fun _=>h1.call ?_,fun h=>absurd (by omega:(i:Int)<r.l.length) h⟩
  simp only[jx,aH,ab,aI (show i<2 ^ 40 by unfold big at hl;omega)]
  exact hn hb hR
theorem DE:∀ {r:RV},r.ok→∃ n,Pu Tryz.prog 86 [vR r] (i64 n):=fun {r}=>by
 refine RV.ind (p:=fun r=>r.ok→∃ n,Pu Tryz.prog 86 [vR r] (i64 n)) ?_ _ r (Nat.lt_succ_self _)
 intro r ih hr
 obtain ⟨hl,ho⟩:=RV.tH hr
 obtain ⟨n,hn⟩:=FK hl (fun x hx=>ih x hx (ho x hx)) r.l.length 0 0 (by omega)
 refine ⟨n,Pu.of (c86 _ ?_) iX rfl⟩
 simp only[w86,kY,ag]
 exact hn (R:=fun x s=>dp s (i64 n) x) rfl rfl
theorem y8 {r:RV} (hl:r.l.length≤big) (hrec:∀ x ∈ r.l,∃ n,Pu Tryz.prog 24 [vR x] (i64 n)) :
  ∀ (d i:Nat) (acc:Int),i+d=r.l.length→∃ n,∀ {st:aa} {R:LV→aa→Prop} {o:Nat} {x4:LV},eh st o r→R (i64 n) st→P24_4 (.ptr o 0) (i64 acc) x4 (i64 i) R st:=by
 intro d
 induction d with
 | zero=>
  intro i acc hi
  refine ⟨acc,fun {st R o x4} hb hR=>?_⟩
  apply p24_4
  have:¬ ((i:Int)<r.l.length):=by omega
  simp only[w24_4,ar,Nat.zero_add,ab,hb.l,bh,ae,aA,aL]
  exact ⟨fun h=>absurd h this,fun _=>hR⟩
 | succ d ih=>
  intro i acc hi
  have hlt:i<r.l.length:=by omega
  have hx:r.l[i]?=some r.l[i]:=List.getElem?_eq_getElem hlt
  obtain ⟨n1,h1⟩:=hrec _ (List.getElem_mem hlt)
  obtain ⟨n,hn⟩:=ih (i+1) (IntKind.i64.wrap (acc+n1)) (by omega)
  by_cases h0:acc=0
  ·refine ⟨n,fun {st R o x4} hb hR=>?_⟩
   apply p24_4
   have e1:aW 7 (rL r.l) (i64 i)=some (.iptr (rcs r.l) (i*7)):=ca hlt
   have e2:(acc==0)=true:=by simp[h0]
   simp only[w24_4,ar,Nat.zero_add,ab,hb.l,bh,ae,aA,aL,aR,e2,ai,e1,kX hx]
   refine ⟨fun _=>h1.call ?_,fun h=>absurd (by omega:(i:Int)<r.l.length) h⟩
   simp only[aH,ab,aI (show i<2 ^ 40 by unfold big at hl;omega)]
   exact hn hb hR
  ·refine ⟨acc,fun {st R o x4} hb hR=>?_⟩
   apply p24_4
   have e2:(acc==0)=false:=by simp[h0]
   simp only[w24_4,ar,Nat.zero_add,ab,hb.l,bh,ae,aA,aL,aR,e2,af]
   exact ⟨fun _=>hR,fun _=>hR⟩
theorem FL {r:RV} (hr:r.ok) (hrec:∀ x ∈ r.l,∃ n,Pu Tryz.prog 24 [vR x] (i64 n)) :
  ∀ (d i:Nat) (acc:Int),i+d=r.ks.length→∃ n,∀ {st:aa} {R:LV→aa→Prop} {o:Nat} {x5:LV},eh st o r→R (i64 n) st→P24_1 (.ptr o 0) (i64 acc) (i64 i) x5 R st:=by
 intro d
 induction d with
 | zero=>
  intro i acc hi
  obtain ⟨n,hn⟩:=y8 (RV.tH hr).1 hrec r.l.length 0 acc (by omega)
  refine ⟨n,fun {st R o x5} hb hR=>?_⟩
  apply p24_1
  have:¬ ((i:Int)<r.ks.length):=by omega
  simp only[w24_1,ar,Nat.zero_add,ab,hb.ks,bh,ae,aA,aL]
  exact ⟨fun h=>absurd h this,fun _=>hn hb hR⟩
 | succ d ih=>
  intro i acc hi
  have hlt:i<r.ks.length:=by omega
  have hx:(r.ks.map LV.str)[i*1]?=some (.str r.ks[i]):=by simp[hlt]
  by_cases h80:(i:Int)<80
  ·obtain ⟨n,hn⟩:=ih (i+1) (IntKind.i64.wrap (acc+max (IntKind.i64.wrap ((r.ks[i].length:Int)-300)) 0)) (by omega)
   refine ⟨n,fun {st R o x5} hb hR=>?_⟩
   apply p24_1
   have e1:aW 1 (sI r.ks) (i64 i)=some (.iptr (r.ks.map .str) (i*1)):=ca hlt
   simp only[w24_1,ar,Nat.zero_add,ab,hb.ks,bh,ae,aA,aL,e1,bB,hx,aU,cO,jx,aH,aI (show i<2 ^ 40 by omega)]
   exact ⟨fun _=>⟨fun _=>hn hb hR,fun h=>absurd h80 h⟩,fun h=>absurd (by omega:(i:Int)<r.ks.length) h⟩
  ·obtain ⟨n,hn⟩:=y8 (RV.tH hr).1 hrec r.l.length 0 acc (by omega)
   refine ⟨n,fun {st R o x5} hb hR=>?_⟩
   apply p24_1
   simp only[w24_1,ar,Nat.zero_add,ab,hb.ks,bh,ae,aA,aL]
   exact ⟨fun _=>⟨fun h=>absurd h h80,fun _=>hn hb hR⟩,fun _=>hn hb hR⟩
theorem BJ:∀ {r:RV},r.ok→∃ n,Pu Tryz.prog 24 [vR r] (i64 n):=fun {r}=>by
 refine RV.ind (p:=fun r=>r.ok→∃ n,Pu Tryz.prog 24 [vR r] (i64 n)) ?_ _ r (Nat.lt_succ_self _)
 intro r ih hr
 obtain ⟨hl,ho⟩:=RV.tH hr
 obtain ⟨n1,h1⟩:=DD hr
 obtain ⟨n2,h2⟩:=DE hr
 obtain ⟨n,hn⟩:=FL hr (fun x hx=>ih x hx (ho x hx)) r.ks.length 0 (IntKind.i64.wrap (IntKind.i64.wrap (IntKind.i64.wrap (IntKind.i64.wrap (max (IntKind.i64.wrap ((r.l.length:Int)-70)) 0+max (IntKind.i64.wrap ((r.ks.length:Int)-70)) 0)+max (IntKind.i64.wrap ((r.s.length:Int)-300)) 0)+max (IntKind.i64.wrap (n1-200)) 0)+max (IntKind.i64.wrap (n2-12)) 0)) (by omega)
 refine ⟨n,Pu.of (c24 _ ?_) iX rfl⟩
 have hb:eh ([]++[.cells .rw (rc r)]) ([]:aa).length r:=rfl
 simp only[w24,kY,ag,ar,Nat.zero_add,ab,hb.l,hb.ks,hb.s,hb.ldA,bh,ae,cO,aH,jx,aU]
 refine h1.call ⟨hb.ldA,hb.s,hb.ks,hb.l,?_⟩
 simp only[ae,cO,aH,jx,ab]
 refine h2.call ⟨hb.s,hb.ks,hb.l,?_⟩
 simp only[ae,cO,aH,jx,ab]
 exact hn (R:=fun x s=>dp s (i64 n) x) hb rfl
end Go.Proofs.YtknegckgmklnhaaGreatDoor
namespace Go.Proofs.YtknegckgmklnhaaGreatDoor
open Go Go.CP
set_option maxRecDepth 100000
abbrev u8 (c:UInt8):LV:=.int .u8 c.toNat
abbrev rdC (s:Tx) (a:Nat) (e:Int) (d:Nat):List LV:=[.str s,i64 a,i64 e,i64 d]
abbrev rdO (s:Tx) (a:Nat) (e:Int) (d:Nat):av:=.cells .rw (rdC s a e d)
def Rd (st:aa) (o:Nat) (s:Tx) (a:Nat) (e:Int) (d:Nat):Prop:=st[o]?=some (rdO s a e d)
section
variable {st st':aa} {o:Nat} {s:Tx} {a d n:Nat} {e:Int} {R:LV→aa→Prop}
theorem Rd.lt (h:Rd st o s a e d):o<st.length:=bK h
theorem Rd.l0 (h:Rd st o s a e d):ld1 st (.ptr o 0)=some (.str s):=by rw[aZ h];rfl
theorem Rd.l1 (h:Rd st o s a e d):ld1 st (.ptr o 1)=some (i64 a):=by rw[aZ h];rfl
theorem Rd.l2 (h:Rd st o s a e d):ld1 st (.ptr o 2)=some (i64 e):=by rw[aZ h];rfl
theorem Rd.l3 (h:Rd st o s a e d):ld1 st (.ptr o 3)=some (i64 d):=by rw[aZ h];rfl
theorem Rd.s1 (h:Rd st o s a e d) (n:Nat):stV st 1 (.ptr o 1) (i64 n)=some (st.set o (rdO s n e d)):=by rw[dd h (by simp) rfl];rfl
theorem Rd.s2 (h:Rd st o s a e d) (n:Int):stV st 1 (.ptr o 2) (i64 n)=some (st.set o (rdO s a n d)):=by rw[dd h (by simp) rfl];rfl
theorem Rd.s3 (h:Rd st o s a e d) (n:Nat):stV st 1 (.ptr o 3) (i64 n)=some (st.set o (rdO s a e n)):=by rw[dd h (by simp) rfl];rfl
theorem Rd.set (h:Rd st o s a e d) {s':Tx} {a' d':Nat} {e':Int}:Rd (st.set o (rdO s' a' e' d')) o s' a' e' d':=bu h
theorem Rd.app {y:av} (h:Rd st o s a e d):Rd (st++[y]) o s a e d:=bM h
theorem Rd.id (h:Rd st o s a e d):st.set o (rdO s a e d)=st:=by
 apply List.ext_getElem?
 intro j
 by_cases hj:j=o
 ·subst hj;rw[List.getElem?_set_self h.lt,h]
 ·rw[List.getElem?_set_ne (Ne.symm hj)]
theorem cF {i:Nat} {c:UInt8} {k:IntKind} (h:s[i]?=some c):cn (.str s) (.int k (i:Nat))=some (u8 c):=by
 simp only[cn]
 rw[if_pos (by omega)]
 simp[h]
theorem ed (h:Rd st o s a e d) (hR:R (.bool (e != 0)) st):aw Tryz.prog 75 [.ptr o 0] st R:=by
 refine c75 _ ?_
 simp only[w75,aF,ab,ar,Nat.zero_add,h.l2,ae,bE]
 exact hR
theorem fG (h:Rd st o s a 0 d) (hR:R (.tup []) (st.set o (rdO s n e d))):aw Tryz.prog 76 [.ptr o 0,i64 n,i64 e] st R:=by
 refine c76 _ _ _ ?_
 simp only[w76,aF,ab,ar,Nat.zero_add,h.l2,ae,aR,beq_self_eq_true,ai,h.s1 n,ay,ag]
 rw[(h.set).s2]
 simp only[ay,ag,List.set_set]
 exact hR
theorem vG {e':Int} (h:Rd st o s a e d) (he:e≠0) (hR:R (.tup []) st):aw Tryz.prog 76 [.ptr o 0,i64 n,i64 e'] st R:=by
 refine c76 _ _ _ ?_
 have:(e==0)=false:=by simpa using he
 simp only[w76,aF,ab,ar,Nat.zero_add,h.l2,ae,aR,this,af]
 exact hR
theorem ku {c:UInt8} (h:Rd st o s a 0 d) (hc:s[a]?=some c) (hs:a<2 ^ 40) (hR:R (.bool true) (st.set o (rdO s (a+1) 0 d))):aw Tryz.prog 137 [.ptr o 0,u8 c] st R:=by
 refine c137 _ _ ?_
 refine ed h ?_
 have h1:=(List.getElem?_eq_some_iff.1 hc).1
 have c1:¬ ((a:Int)≥s.length):=by omega
 simp only[bne_self_eq_false,af,aF,ab,ar,Nat.zero_add,h.l1,h.l0,aU,ae,dx,c1,decide_false,cF hc,bE]
 refine p137_1 _ _ ?_
 simp only[w137_1,af,aF,ab,ar,Nat.zero_add,h.l1,ae,aH,aI hs,h.s1,ay,ag]
 exact hR
theorem gQ {c:UInt8} (h:Rd st o s a e d) (hc:e≠0∨s[a]?≠some c) (hR:R (.bool false) st):aw Tryz.prog 137 [.ptr o 0,u8 c] st R:=by
 have fin:P137_1 (.ptr o 0) (.bool true) R st:=by
  refine p137_1 _ _ ?_
  simp only[w137_1,ai]
  exact hR
 refine c137 _ _ ?_
 refine ed h ?_
 by_cases he:e=0
 ·subst he
  have hc:s[a]?≠some c:=by simpa using hc
  simp only[bne_self_eq_false,af,aF,ab,ar,Nat.zero_add,h.l1,h.l0,aU,ae,dx]
  rcases Nat.lt_or_ge a s.length with h1|h1
  ·have c1:¬ ((a:Int)≥s.length):=by omega
   have hx:s[a]?=some s[a]:=List.getElem?_eq_getElem h1
   have c2:(((s[a].toNat:Nat):Int) != (c.toNat:Nat))=true:=by
    have:s[a]≠c:=fun k=>hc (hx.trans (congrArg some k))
    have:s[a].toNat≠c.toNat:=fun k=>this (UInt8.toNat_inj.1 k)
    simp;omega
   simp only[c1,decide_false,af,cF hx,ab,ae,bE,c2]
   exact fin
  ·have c1:((a:Int)≥s.length):=by omega
   simp only[c1,decide_true,ai]
   exact fin
 ·have:(e != 0)=true:=by simpa using he
  simp only[this,ai]
  exact fin
theorem kv {c:UInt8} (h:Rd st o s a 0 d) (hc:s[a]?=some c) (hs:a<2 ^ 40) (hR:R (.tup []) (st.set o (rdO s (a+1) 0 d))):aw Tryz.prog 184 [.ptr o 0,u8 c] st R:=by
 refine c184 _ _ ?_
 refine ed h ?_
 simp only[bne_self_eq_false,bx,ab,Bool.not_false,ai]
 refine ku h hc hs ?_
 simp only[bx,ab,Bool.not_true,af]
 exact hR
theorem mU {c:UInt8} (h:Rd st o s a 0 d) (hc:s[a]?≠some c) (hR:R (.tup []) (st.set o (rdO s a 4 d))):aw Tryz.prog 184 [.ptr o 0,u8 c] st R:=by
 refine c184 _ _ ?_
 refine ed h ?_
 simp only[bne_self_eq_false,bx,ab,Bool.not_false,ai]
 refine gQ h (.inr hc) ?_
 simp only[bx,ab,Bool.not_false,ai,aF,ar,Nat.zero_add,h.l1]
 exact fG h hR
theorem gR {c:UInt8} (h:Rd st o s a e d) (he:e≠0) (hR:R (.tup []) st):aw Tryz.prog 184 [.ptr o 0,u8 c] st R:=by
 refine c184 _ _ ?_
 refine ed h ?_
 have:(e != 0)=true:=by simpa using he
 simp only[this,bx,ab,Bool.not_true,af]
 exact hR
theorem pk (c:UInt8):Pu Tryz.prog 262 [u8 c] (.bool (iV c)):=by
 refine Pu.of (c262 _ ?_) rfl rfl
 have e:iV c=(decide (97≤c.toNat)&&decide (c.toNat≤122)||decide (48≤c.toNat)&&decide (c.toNat≤57)):=by simp[iV,isLet]
 rw[e]
 have g1:(decide (((c.toNat:Nat):Int)≥97))=decide (97≤c.toNat):=decide_eq_decide.2 (by omega)
 have g2:(decide (((c.toNat:Nat):Int)≤122))=decide (c.toNat≤122):=decide_eq_decide.2 (by omega)
 have g3:(decide (((c.toNat:Nat):Int)≥48))=decide (48≤c.toNat):=decide_eq_decide.2 (by omega)
 have g4:(decide (((c.toNat:Nat):Int)≤57))=decide (c.toNat≤57):=decide_eq_decide.2 (by omega)
 simp only[w262,ae,dx,dw,ab,g1,g2,g3,g4]
 generalize decide (97≤c.toNat)=b1
 generalize decide (c.toNat≤122)=b2
 generalize decide (48≤c.toNat)=b3
 generalize decide (c.toNat≤57)=b4
 cases b1<;>cases b2<;>cases b3<;>cases b4<;>exact (rfl:_=_)
theorem sd (s p:Tx):Pu Tryz.prog 226 [.str s,.str p] (.bool (p.isPrefixOf s)):=by
 refine Pu.of (c226 _ _ ?_) rfl rfl
 simp only[w226,aU,ab,ae,dx]
 rw[aL]
 refine ⟨fun h=>?_,fun h=>?_⟩
 ·have hl:p.length≤s.length:=by omega
  have e1:(ob3 none (some (i64 p.length)) none fun l h m=>cv (.str s) l h m)=some (.str (s.take p.length)):=by
   simp[ob3,eO,cv,hl]
  simp only[e1,ab,bW,cZ]
  show LV.bool _=LV.bool _
  congr 1
  rw[Bool.eq_iff_iff]
  simp only[beq_iff_eq,List.isPrefixOf_iff_prefix,List.prefix_iff_eq_take]
  exact eq_comm
 ·have hl:¬ p.length≤s.length:=by omega
  have:p.isPrefixOf s=false:=by
   rw[Bool.eq_false_iff]
   intro hc
   exact hl (List.isPrefixOf_iff_prefix.1 hc).length_le
  rw[this];exact (rfl:_=_)
theorem Ak (s p:Tx):Pu Tryz.prog 186 [.str s,.str p] (.bool (p.isPrefixOf s)):=by
 refine Pu.of (c186 _ _ ?_) rfl rfl
 refine (sd s p).call ?_
 exact (rfl:_=_)
end
end Go.Proofs.YtknegckgmklnhaaGreatDoor
