/- Parts of the proof. -/
import Derived.Test.YtknegckgmklnhaaGreatDoorVaShelf
namespace Go.Proofs.YtknegckgmklnhaaGreatDoor
open Go Go.CP
set_option maxRecDepth 100000
abbrev u8 (c:UInt8):LV:=.int .u8 c.toNat
abbrev rdC (s:Tx) (a:Nat) (e:Int) (d:Nat):List LV:=[.str s,i64 a,i64 e,i64 d]
abbrev rdO (s:Tx) (a:Nat) (e:Int) (d:Nat):av:=.cells .rw (rdC s a e d)
def Rd (st:aa) (o:Nat) (s:Tx) (a:Nat) (e:Int) (d:Nat):Prop:=st[o]?=some (rdO s a e d)
section
variable {st st':aa} {o:Nat} {s:Tx} {a d n:Nat} {e:Int} {R:LV→aa→Prop}
theorem Rd.lt (h:Rd st o s a e d):o<st.length:=bL h
theorem Rd.l0 (h:Rd st o s a e d):ld1 st (.ptr o 0)=some (.str s):=by rw[a7 h];rfl
theorem Rd.l1 (h:Rd st o s a e d):ld1 st (.ptr o 1)=some (i64 a):=by rw[a7 h];rfl
theorem Rd.l2 (h:Rd st o s a e d):ld1 st (.ptr o 2)=some (i64 e):=by rw[a7 h];rfl
theorem Rd.l3 (h:Rd st o s a e d):ld1 st (.ptr o 3)=some (i64 d):=by rw[a7 h];rfl
theorem Rd.s1 (h:Rd st o s a e d) (n:Nat):stV st 1 (.ptr o 1) (i64 n)=some (st.set o (rdO s n e d)):=by rw[cY h (by simp) rfl];rfl
theorem Rd.s2 (h:Rd st o s a e d) (n:Int):stV st 1 (.ptr o 2) (i64 n)=some (st.set o (rdO s a n d)):=by rw[cY h (by simp) rfl];rfl
theorem Rd.s3 (h:Rd st o s a e d) (n:Nat):stV st 1 (.ptr o 3) (i64 n)=some (st.set o (rdO s a e n)):=by rw[cY h (by simp) rfl];rfl
theorem Rd.set (h:Rd st o s a e d) {s':Tx} {a' d':Nat} {e':Int}:Rd (st.set o (rdO s' a' e' d')) o s' a' e' d':=bq h
theorem Rd.app {y:av} (h:Rd st o s a e d):Rd (st++[y]) o s a e d:=bT h
theorem Rd.id (h:Rd st o s a e d):st.set o (rdO s a e d)=st:=by
 apply List.ext_getElem?
 intro j
 by_cases hj:j=o
 ·subst hj;rw[List.getElem?_set_self h.lt,h]
 ·rw[List.getElem?_set_ne (Ne.symm hj)]
theorem cO {i:Nat} {c:UInt8} {k:IntKind} (h:s[i]?=some c):cA (.str s) (.int k (i:Nat))=some (u8 c):=by
 simp only[cA]
 rw[if_pos (by omega)]
 simp[h]
theorem et (h:Rd st o s a e d) (hR:R (.bool (e != 0)) st):az Tryz.prog 75 [.ptr o 0] st R:=by
 refine c75 _ ?_
 simp only[w75,aF,ab,aq,Nat.zero_add,h.l2,ae,bx]
 exact hR
theorem fU (h:Rd st o s a 0 d) (hR:R (.tup []) (st.set o (rdO s n e d))):az Tryz.prog 76 [.ptr o 0,i64 n,i64 e] st R:=by
 refine c76 _ _ _ ?_
 simp only[w76,aF,ab,aq,Nat.zero_add,h.l2,ae,aQ,beq_self_eq_true,ai,h.s1 n,ay,ag]
 rw[(h.set).s2]
 simp only[ay,ag,List.set_set]
 exact hR
theorem yb {e':Int} (h:Rd st o s a e d) (he:e≠0) (hR:R (.tup []) st):az Tryz.prog 76 [.ptr o 0,i64 n,i64 e'] st R:=by
 refine c76 _ _ _ ?_
 have:(e==0)=false:=by simpa using he
 simp only[w76,aF,ab,aq,Nat.zero_add,h.l2,ae,aQ,this,af]
 exact hR
theorem kZ {c:UInt8} (h:Rd st o s a 0 d) (hc:s[a]?=some c) (hs:a<2 ^ 40) (hR:R (.bool true) (st.set o (rdO s (a+1) 0 d))):az Tryz.prog 137 [.ptr o 0,u8 c] st R:=by
 refine MN _ _ ?_
 refine et h ?_
 have h1:=(List.getElem?_eq_some_iff.1 hc).1
 have c1:¬ ((a:Int)≥s.length):=by omega
 simp only[bne_self_eq_false,af,aF,ab,aq,Nat.zero_add,h.l1,h.l0,bh,ae,dt,c1,decide_false,cO hc,bx]
 refine Fb _ _ ?_
 simp only[zO,af,aF,ab,aq,Nat.zero_add,h.l1,ae,aG,aH hs,h.s1,ay,ag]
 exact hR
theorem iq {c:UInt8} (h:Rd st o s a e d) (hc:e≠0∨s[a]?≠some c) (hR:R (.bool false) st):az Tryz.prog 137 [.ptr o 0,u8 c] st R:=by
 have fin:rM (.ptr o 0) (.bool true) R st:=by
  refine Fb _ _ ?_
  simp only[zO,ai]
  exact hR
 refine MN _ _ ?_
 refine et h ?_
 by_cases he:e=0
 ·subst he
  have hc:s[a]?≠some c:=by simpa using hc
  simp only[bne_self_eq_false,af,aF,ab,aq,Nat.zero_add,h.l1,h.l0,bh,ae,dt]
  rcases Nat.lt_or_ge a s.length with h1|h1
  ·have c1:¬ ((a:Int)≥s.length):=by omega
   have hx:s[a]?=some s[a]:=List.getElem?_eq_getElem h1
   have c2:(((s[a].toNat:Nat):Int) != (c.toNat:Nat))=true:=by
    have:s[a]≠c:=fun k=>hc (hx.trans (congrArg some k))
    have:s[a].toNat≠c.toNat:=fun k=>this (UInt8.toNat_inj.1 k)
    simp;omega
   simp only[c1,decide_false,af,cO hx,ab,ae,bx,c2]
   exact fin
  ·have c1:((a:Int)≥s.length):=by omega
   simp only[c1,decide_true,ai]
   exact fin
 ·have:(e != 0)=true:=by simpa using he
  simp only[this,ai]
  exact fin
theorem k9 {c:UInt8} (h:Rd st o s a 0 d) (hc:s[a]?=some c) (hs:a<2 ^ 40) (hR:R (.tup []) (st.set o (rdO s (a+1) 0 d))):az Tryz.prog 184 [.ptr o 0,u8 c] st R:=by
 refine Lc _ _ ?_
 refine et h ?_
 simp only[bne_self_eq_false,bF,ab,Bool.not_false,ai]
 refine kZ h hc hs ?_
 simp only[bF,ab,Bool.not_true,af]
 exact hR
theorem nO {c:UInt8} (h:Rd st o s a 0 d) (hc:s[a]?≠some c) (hR:R (.tup []) (st.set o (rdO s a 4 d))):az Tryz.prog 184 [.ptr o 0,u8 c] st R:=by
 refine Lc _ _ ?_
 refine et h ?_
 simp only[bne_self_eq_false,bF,ab,Bool.not_false,ai]
 refine iq h (.inr hc) ?_
 simp only[bF,ab,Bool.not_false,ai,aF,aq,Nat.zero_add,h.l1]
 exact fU h hR
theorem ir {c:UInt8} (h:Rd st o s a e d) (he:e≠0) (hR:R (.tup []) st):az Tryz.prog 184 [.ptr o 0,u8 c] st R:=by
 refine Lc _ _ ?_
 refine et h ?_
 have:(e != 0)=true:=by simpa using he
 simp only[this,bF,ab,Bool.not_true,af]
 exact hR
theorem qh (c:UInt8):Pu Tryz.prog 262 [u8 c] (.bool (jn c)):=by
 refine Pu.of (N4 _ ?_) rfl rfl
 have e:jn c=(decide (97≤c.toNat)&&decide (c.toNat≤122)||decide (48≤c.toNat)&&decide (c.toNat≤57)):=by simp[jn,isLet]
 rw[e]
 have g1:(decide (((c.toNat:Nat):Int)≥97))=decide (97≤c.toNat):=decide_eq_decide.2 (by omega)
 have g2:(decide (((c.toNat:Nat):Int)≤122))=decide (c.toNat≤122):=decide_eq_decide.2 (by omega)
 have g3:(decide (((c.toNat:Nat):Int)≥48))=decide (48≤c.toNat):=decide_eq_decide.2 (by omega)
 have g4:(decide (((c.toNat:Nat):Int)≤57))=decide (c.toNat≤57):=decide_eq_decide.2 (by omega)
 simp only[MO,ae,dt,dr,ab,g1,g2,g3,g4]
 generalize decide (97≤c.toNat)=b1
 generalize decide (c.toNat≤122)=b2
 generalize decide (48≤c.toNat)=b3
 generalize decide (c.toNat≤57)=b4
 cases b1<;>cases b2<;>cases b3<;>cases b4<;>exact (rfl:_=_)
theorem tG (s p:Tx):Pu Tryz.prog 226 [.str s,.str p] (.bool (p.isPrefixOf s)):=by
 refine Pu.of (c226 _ _ ?_) rfl rfl
 simp only[MT,bh,ab,ae,dt]
 rw[aI]
 refine ⟨fun h=>?_,fun h=>?_⟩
 ·have hl:p.length≤s.length:=by omega
  have e1:(ob3 none (some (i64 p.length)) none fun l h m=>cI (.str s) l h m)=some (.str (s.take p.length)):=by
   simp[ob3,eY,cI,hl]
  simp only[e1,ab,bN,cL]
  show LV.bool _=LV.bool _
  congr 1
  rw[Bool.eq_iff_iff]
  simp only[beq_iff_eq,List.isPrefixOf_iff_prefix,List.prefix_iff_eq_take]
  exact eq_comm
 ·have hl:¬ p.length≤s.length:=by omega
  have:p.isPrefixOf s=false:=by
   rw[Bool.eq_false_iff]
   intro hc
   exact hl (List.isPrefixOf_iff_prefix.1 hc).length_le
  rw[this];exact (rfl:_=_)
theorem DR (s p:Tx):Pu Tryz.prog 186 [.str s,.str p] (.bool (p.isPrefixOf s)):=by
 refine Pu.of (Oa _ _ ?_) rfl rfl
 refine (tG s p).call ?_
 exact (rfl:_=_)
end
def okB (i:Nat) (c:UInt8):Bool:=isLet c||decide (0<i)&&jn c
theorem lf {p:UInt8→Bool}:∀ {t:Tx},t.takeWhile p=t↔∀ (i:Nat) (c:UInt8),t[i]?=some c→p c=true
 | []=>by simp
 | x::t=>by
  rw[List.takeWhile_cons]
  by_cases h:p x=true
  ·rw[if_pos h]
   simp only[List.cons.injEq,true_and]
   rw[lf]
   constructor
   ·intro k i c hc
    cases i with
    | zero=>simp at hc;subst hc;exact h
    | succ i=>exact k i c (by simpa using hc)
   ·intro k i c hc
    exact k (i+1) c (by simpa using hc)
  ·rw[if_neg h]
   constructor
   ·intro k;cases k
   ·intro k;exact absurd (k 0 x rfl) h
theorem tH {s:Tx}:named s=true↔(∀ (i:Nat) (c:UInt8),s[i]?=some c→okB i c=true)∧s≠[]∧s.length≤20:=by
 unfold named
 simp only[Bool.and_eq_true,decide_eq_true_eq]
 rw[and_assoc]
 refine and_congr_left fun _=>?_
 cases s with
 | nil=>simp[da]
 | cons c t=>
  rw[gU]
  by_cases h:isLet c=true
  ·rw[if_pos h]
   simp only[List.cons.injEq,true_and]
   rw[lf]
   constructor
   ·intro k i x hx
    cases i with
    | zero=>simp at hx;subst hx;simp[okB,h]
    | succ i=>have:=k i x (by simpa using hx);simp[okB,this]
   ·intro k i x hx
    have:=k (i+1) x (by simpa using hx)
    unfold okB at this
    unfold jn at this ⊢
    simp only[Bool.or_eq_true,Bool.and_eq_true] at this ⊢
    rcases this with h|h
    ·exact .inl h
    ·exact h.2
  ·rw[if_neg h]
   constructor
   ·intro k;cases k
   ·intro k;have:=k 0 c rfl;unfold okB at this;simp at this;exact absurd this h
theorem nP {p:UInt8→Bool}:∀ {t:Tx} {k:Nat},k≤(t.takeWhile p).length→(k<(t.takeWhile p).length↔∃ x,t[k]?=some x∧p x=true)
 | [],k,h=>by simp
 | x::t,k,h=>by
  rw[List.takeWhile_cons] at h ⊢
  by_cases hx:p x=true
  ·rw[if_pos hx] at h ⊢
   cases k with
   | zero=>simp[hx]
   | succ k=>
    simp only[List.length_cons,Nat.add_le_add_iff_right] at h
    have:=nP h
    simpa using this
  ·rw[if_neg hx] at h ⊢
   have:k=0:=by simpa using h
   subst this
   simp only[List.length_nil,Nat.lt_irrefl,List.getElem?_cons_zero,Option.some.injEq,false_iff,not_exists,not_and]
   rintro y rfl;exact hx
theorem yc {t:Tx} {k:Nat} (h:k≤(da t).length):k<(da t).length↔∃ c x,t[0]?=some c∧isLet c=true∧t[k]?=some x∧jn x=true:=by
 cases t with
 | nil=>simp[da]
 | cons c t=>
  rw[gU] at h ⊢
  by_cases hc:isLet c=true
  ·rw[if_pos hc] at h ⊢
   cases k with
   | zero=>simp[hc,jn]
   | succ k=>
    simp only[List.length_cons,Nat.add_le_add_iff_right] at h
    have:=nP h
    simpa[hc] using this
  ·rw[if_neg hc] at h ⊢
   simp[hc]
theorem Ax {t:Tx}:(da t).length≤t.length:=by
 have:=congrArg List.length (iL t)
 simp only[List.length_append] at this
 omega
theorem se {s:Tx} {i:Nat} {c:UInt8} (h:s[i]?=some c):List.take 1 (s.drop i)=[c]:=by
 obtain ⟨h1,h2⟩:=List.getElem?_eq_some_iff.1 h
 rw[List.drop_eq_getElem_cons h1,h2];rfl
theorem dT {s:Tx} {x y:Nat} (h:x≤y) (hy:y≤s.length):(ob3 (some (i64 x)) (some (i64 y)) none fun l h m=>cI (.str s) l h m)=some (.str ((s.drop x).take (y-x))):=by
 simp only[ob3,eY,cI]
 simp[h,hy]
section
variable {st st':aa} {o:Nat} {s:Tx} {a d n:Nat} {e:Int} {R:LV→aa→Prop}
theorem Ay {i:Nat} {c:UInt8} (hc:s[i]?=some c) (hi:i<2 ^ 40) (hy:okB i c=true→gw (.str s) (i64 s.length) (i64 (i+1:Nat)) R st) (hn:okB i c=false→R (.bool false) st) :
  gw (.str s) (i64 s.length) (i64 i) R st:=by
 refine Fc _ _ _ ?_
 have hlt:=(List.getElem?_eq_some_iff.1 hc).1
 have c1:(i:Int)<s.length:=by omega
 have g1:(decide (((c.toNat:Nat):Int)≥97))=decide (97≤c.toNat):=decide_eq_decide.2 (by omega)
 have g2:(decide (((c.toNat:Nat):Int)≤122))=decide (c.toNat≤122):=decide_eq_decide.2 (by omega)
 have g3:(decide (((c.toNat:Nat):Int)≥48))=decide (48≤c.toNat):=decide_eq_decide.2 (by omega)
 have g4:(decide (((c.toNat:Nat):Int)≤57))=decide (c.toNat≤57):=decide_eq_decide.2 (by omega)
 have g5:decide ((i:Int) > 0)=decide (0<i):=decide_eq_decide.2 (by omega)
 have e:okB i c=(decide (97≤c.toNat)&&decide (c.toNat≤122)||decide (0<i)&&(decide (48≤c.toNat)&&decide (c.toNat≤57))):=by
  simp only[okB,jn,isLet]
  by_cases h1:97≤c.toNat<;>by_cases h2:c.toNat≤122<;>simp[h1,h2]
 rw[e] at hy hn
 simp only[zP,ae,ax,ab,c1,decide_true,ai,cO hc,dt,dr,cq,bF,g1,g2,g3,g4,g5,aG,aH hi,Bool.not_true,Bool.not_false,af]
 revert hy hn
 generalize decide (97≤c.toNat)=b1
 generalize decide (c.toNat≤122)=b2
 generalize decide (0<i)=b3
 generalize decide (48≤c.toNat)=b4
 generalize decide (c.toNat≤57)=b5
 intro hy hn
 cases b1<;>cases b2<;>cases b3<;>cases b4<;>cases b5<;>first|exact hy rfl|exact hn rfl
theorem sf (hs:s.length<2 ^ 40) (hR:R (.bool (named s)) st):∀ (d i:Nat),i+d=s.length→(∀ (j:Nat) (c:UInt8),j<i→s[j]?=some c→okB j c=true)→gw (.str s) (i64 s.length) (i64 i) R st
 | 0,i,hi,hp=>by
  refine Fc _ _ _ ?_
  have c1:¬ (i:Int)<s.length:=by omega
  have hall:∀ (j:Nat) (c:UInt8),s[j]?=some c→okB j c=true:=fun j c hc=>hp j c (by have:=(List.getElem?_eq_some_iff.1 hc).1;omega) hc
  have e1:bE .neq (.str s) (.str [])=some (.bool (decide (s≠[]))):=by
   simp only[bN,ia]
   congr 2
   by_cases h:s=[]<;>simp[h]
  have e2:named s=(decide (s≠[])&&decide (s.length≤20)):=by
   rw[Bool.eq_iff_iff,tH]
   simp only[Bool.and_eq_true,decide_eq_true_eq]
   exact ⟨fun h=>h.2,fun h=>⟨hall,h⟩⟩
  have e3:decide ((s.length:Int)≤20)=decide (s.length≤20):=decide_eq_decide.2 (by omega)
  rw[e2] at hR
  simp only[zP,ae,ax,ab,c1,decide_false,af,e1,bh,dr,e3]
  revert hR
  generalize decide (s≠[])=b1
  cases b1
  ·exact fun h=>h
  ·exact fun h=>h
 | d+1,i,hi,hp=>by
  have hlt:i<s.length:=by omega
  have hc:s[i]?=some s[i]:=List.getElem?_eq_getElem hlt
  refine Ay hc (by omega) (fun h=>sf hs hR d (i+1) (by omega) fun j c hj hjc=>?_) fun h=>?_
  ·rcases Nat.lt_or_ge j i with k|k
   ·exact hp j c k hjc
   ·have:j=i:=by omega
    subst this;rw[hc] at hjc;cases hjc;exact h
  ·have:named s=false:=by
    rw[Bool.eq_false_iff]
    intro hn
    have:=(tH.1 hn).1 i _ hc
    rw[h] at this;cases this
   rw[this] at hR;exact hR
theorem sg (hs:s.length<2 ^ 40):Pu Tryz.prog 142 [.str s] (.bool (named s)):=by
 refine Pu.of (N5 _ ?_) rfl rfl
 simp only[MP,bh,ab]
 exact sf hs (R:=fun v s'=>dp s' (.bool (named s)) v) rfl s.length 0 (by omega) fun j c hj=>by omega
theorem tI {c:UInt8}:named [c]=isLet c:=by
 unfold named
 rw[gU]
 by_cases h:isLet c=true
 ·simp[h]
 ·simp[h]
theorem tJ (hs:s.length<2 ^ 40) {fr:Nat}:∀ (k i:Nat) {st:aa},i+k=(da (s.drop fr)).length→Rd st o s (fr+i) e d→(rO (.ptr o 0) (i64 fr) (.bool false) R (st.set o (rdO s (fr+(da (s.drop fr)).length) e d)))→
  uW (.ptr o 0) (i64 fr) R st:=by
 intro k i
 induction k generalizing i with
 | zero=>
  intro st hi h hR
  have hi:(da (s.drop fr)).length=i:=by omega
  rw[hi,h.id] at hR
  have hno:∀ c x,(s.drop fr)[0]?=some c→isLet c=true→(s.drop fr)[i]?=some x→¬ jn x=true:=fun c x h1 h2 h3 h4=>by
   have:=(yc (t:=s.drop fr) (k:=i) (by omega)).2 ⟨c,x,h1,h2,h3,h4⟩
   omega
  refine Fh _ _ ?_
  simp only[zR,aF,ab,aq,Nat.zero_add,h.l1,h.l0,bh,ae,ax]
  rw[aI]
  refine ⟨fun hl=>?_,fun _=>uY _ _ _ hR⟩
  have hl:fr+i<s.length:=by omega
  have hfr:fr<s.length:=by omega
  have hc:s[fr]?=some s[fr]:=List.getElem?_eq_getElem hfr
  have hx:s[fr+i]?=some s[fr+i]:=List.getElem?_eq_getElem hl
  have e1:(ob3 (some (i64 fr)) (some (i64 (fr+1:Nat))) none fun l h m=>cI (.str s) l h m)=some (.str [s[fr]]):=by
   rw[dT (by omega) (by omega),Nat.add_sub_cancel_left,se hc]
  simp only[aG,aH (show fr<2 ^ 40 by omega),ab,e1]
  refine (sg (s:=[s[fr]]) (by simp)).call ?_
  rw[tI,dq]
  refine ⟨fun hlet=>?_,fun _=>uY _ _ _ hR⟩
  simp only[ab,h.l1,h.l0,cO hx]
  refine (qh _).call ?_
  have hn:jn s[fr+i]=false:=by
   rw[Bool.eq_false_iff]
   exact hno s[fr] s[fr+i] (by rw[List.getElem?_drop];exact hc) hlet (by rw[List.getElem?_drop];exact hx)
  rw[hn]
  exact uY _ _ _ hR
 | succ k ih=>
  intro st hi h hR
  obtain ⟨c,x,hc,hlet,hx,hnm⟩:=(yc (t:=s.drop fr) (k:=i) (by omega)).1 (by omega)
  rw[List.getElem?_drop] at hc hx
  rw[Nat.add_zero] at hc
  have hfr:=(List.getElem?_eq_some_iff.1 hc).1
  have hl:=(List.getElem?_eq_some_iff.1 hx).1
  refine Fh _ _ ?_
  have c1:((fr+i:Nat):Int)<s.length:=by omega
  have e1:(ob3 (some (i64 fr)) (some (i64 (fr+1:Nat))) none fun l h m=>cI (.str s) l h m)=some (.str [c]):=by
   rw[dT (by omega) (by omega),Nat.add_sub_cancel_left,se hc]
  simp only[zR,aF,ab,aq,Nat.zero_add,h.l1,h.l0,bh,ae,ax,c1,decide_true,ai,aG,aH (show fr<2 ^ 40 by omega),e1]
  refine (sg (s:=[c]) (by simp)).call ?_
  rw[tI,hlet]
  simp only[ai,ab,h.l1,h.l0,cO hx]
  refine (qh _).call ?_
  rw[hnm]
  refine uY _ _ _ ?_
  simp only[rO,ai,aF,ab,aq,Nat.zero_add,h.l1,ae,aG,aH (show fr+i<2 ^ 40 by omega),h.s1,ay,ag]
  have h':Rd (st.set o (rdO s (fr+i+1) e d)) o s (fr+(i+1)) e d:=h.set
  refine ih (i+1) (by omega) h' ?_
  rw[List.set_set];exact hR
theorem DS (hs:s.length<2 ^ 40) (ha:a≤s.length) (h:Rd st o s a 0 d)
  (h1:∀ n r,gG (s.drop a)=some (n,r)→R (.str n) (st.set o (rdO s (a+n.length) 0 d)))
  (h2:gG (s.drop a)=none→∀ w a' e',e'≠0→a'≤s.length→R (.str w) (st.set o (rdO s a' e' d))):az Tryz.prog 225 [.ptr o 0] st R:=by
 refine MR _ ?_
 simp only[Ld,aF,ab,aq,Nat.zero_add,h.l1]
 have hlen:=Ax (t:=s.drop a)
 rw[List.length_drop] at hlen
 refine tJ (fr:=a) hs (da (s.drop a)).length 0 (by omega) h ?_
 have hq:=iL (s.drop a)
 have htake:(s.drop a).take (da (s.drop a)).length=da (s.drop a):=by
  have:=List.take_left (l₁:=da (s.drop a)) (l₂:=(s.drop a).drop (da (s.drop a)).length)
  rwa [← hq] at this
 generalize hm:(da (s.drop a)).length=m at hlen htake
 have h':Rd (st.set o (rdO s (a+m) 0 d)) o s (a+m) 0 d:=h.set
 simp only[rO,af,aF,ab,aq,Nat.zero_add,h'.l1,ae,aQ]
 by_cases h0:m=0
 ·subst h0
  have c1:(((a+0:Nat):Int)==(a:Int))=true:=by simp
  simp only[c1,ai]
  refine fU h' ?_
  rw[List.set_set]
  have h2':Rd (st.set o (rdO s (a+0) 4 d)) o s (a+0) 4 d:=h.set
  simp only[ab,h2'.l1,h2'.l0,dT (show a≤a+0 by omega) (show a+0≤s.length by omega)]
  refine h2 ?_ _ _ _ (by decide) (by omega)
  unfold gG
  rw[if_pos (.inl (List.eq_nil_of_length_eq_zero hm))]
 ·have c1:(((a+m:Nat):Int)==(a:Int))=false:=by
   have:((a+m:Nat):Int)≠(a:Int):=by omega
   simpa using this
  have c2:IntKind.i64.wrap (((a+m:Nat):Int)-(a:Int))=(m:Int):=by rw[wrap_i64 (by omega) (by omega)];omega
  simp only[c1,af,ab,h'.l0,ae,cX,c2,cq]
  rw[aI]
  refine ⟨fun hg=>?_,fun hg=>?_⟩
  ·refine fU h' ?_
   rw[List.set_set]
   have h2':Rd (st.set o (rdO s a 7 d)) o s a 7 d:=h.set
   simp only[ab,h2'.l1,h2'.l0,dT (show a≤a by omega) ha]
   refine h2 ?_ _ _ _ (by decide) ha
   unfold gG
   rw[if_pos (.inr (by rw[hm];omega))]
  ·rw[dT (show a≤a+m by omega) (by omega)]
   have e1:a+m-a=m:=by omega
   rw[e1,htake]
   simp only[ab]
   have:=h1 (da (s.drop a)) ((s.drop a).drop m) (by
    unfold gG
    rw[if_neg (by rw[hm];intro hc;rcases hc with hc|hc;(rw[hc] at hm;exact h0 hm.symm);omega),hm])
   rw[hm] at this
   exact this
theorem Gv (hs:s.length<2 ^ 40) (ha:a≤s.length) (he:e≠0) (h:Rd st o s a e d)
  (h2:∀ w a',a'≤s.length→R (.str w) (st.set o (rdO s a' e d))):az Tryz.prog 225 [.ptr o 0] st R:=by
 refine MR _ ?_
 simp only[Ld,aF,ab,aq,Nat.zero_add,h.l1]
 have hlen:=Ax (t:=s.drop a)
 rw[List.length_drop] at hlen
 refine tJ (fr:=a) hs (da (s.drop a)).length 0 (by omega) h ?_
 generalize hm:(da (s.drop a)).length=m at hlen
 have h':Rd (st.set o (rdO s (a+m) e d)) o s (a+m) e d:=h.set
 have fin:(bd (ob3 (some (i64 a)) (some (i64 (a+m:Nat))) none fun l h m=>cI (.str s) l h m) fun v59=>R v59 (st.set o (rdO s (a+m) e d))):=by
  rw[dT (show a≤a+m by omega) (by omega)]
  exact h2 _ _ (by omega)
 simp only[rO,af,aF,ab,aq,Nat.zero_add,h'.l1,ae,aQ]
 rw[dq]
 refine ⟨fun _=>?_,fun _=>?_⟩
 ·refine yb h' he ?_
  simp only[ab,h'.l1,h'.l0]
  exact fin
 ·simp only[cX,ae,ab,cq]
  rw[dq]
  refine ⟨fun _=>?_,fun _=>?_⟩
  ·refine yb h' he ?_
   simp only[ab,h'.l1,h'.l0]
   exact fin
  ·simp only[ab,h'.l0]
   exact fin
theorem fH {x:Nat} (h:x≤s.length):(ob3 (some (i64 x)) none none fun l h m=>cI (.str s) l h m)=some (.str (s.drop x)):=by
 simp only[ob3,eY,cI]
 simp[h]
 rw[List.take_of_length_le (by simp)]
theorem yd (hs:s.length<2 ^ 40) (h:Rd st o s a e d) {x5 x9 x10 x11:LV} {w:Tx} (hw:w.length<2 ^ 40)
  (hR:∀ n,a+n≤s.length→bd (gF [x5,i64 n]) fun v1=>bd (ah BinOp.add x11 (i64 1)) fun v2=>rN (.ptr o 0) v1 (.str w) (i64 n) x9 x10 v2 R st) :
  ∀ (k n:Nat),n+k=w.length→a+n≤s.length→qA (.ptr o 0) x5 (.str w) (i64 n) x9 x10 x11 R st
 | 0,n,hn,ha=>by
  refine B8 _ _ _ _ _ _ _ ?_
  have c1:¬ (n:Int)<w.length:=by omega
  simp only[uU,bh,ab,ae,ax,c1,decide_false,af]
  refine uV _ _ _ _ _ _ _ _ ?_
  simp only[qC,af]
  exact hR n ha
 | k+1,n,hn,ha=>by
  refine B8 _ _ _ _ _ _ _ ?_
  have c1:(n:Int)<w.length:=by omega
  have hwn:w[n]?=some (w[n]'(by omega)):=List.getElem?_eq_getElem (by omega)
  have e1:IntKind.i64.wrap ((a:Int)+(n:Int))=((a+n:Nat):Int):=by rw[wrap_i64 (by omega) (by omega)];omega
  simp only[uU,bh,ab,ae,ax,c1,decide_true,ai,aF,aq,Nat.zero_add,h.l1,h.l0,aG,e1]
  rw[aI]
  refine ⟨fun hl=>?_,fun _=>?_⟩
  ·have hl:a+n<s.length:=by omega
   have hx:s[a+n]?=some s[a+n]:=List.getElem?_eq_getElem hl
   simp only[cO hx,cO hwn,ab,ae,aQ]
   refine uV _ _ _ _ _ _ _ _ ?_
   simp only[qC,ae,aG,aH (show n<2 ^ 40 by omega),ab]
   rw[dq]
   exact ⟨fun _=>yd hs h hw hR k (n+1) (by omega) (by omega),fun _=>hR n ha⟩
  ·refine uV _ _ _ _ _ _ _ _ ?_
   simp only[qC,af]
   exact hR n ha
structure SlT (st:aa) (A:LV) (ws:List Tx):Prop where
 len:bg A=some (i64 ws.length)
 ix:∀ i:Nat,i<ws.length→∃ p,aK 1 A (i64 i)=some p∧ld1 st p=(ws[i]?).map .str
theorem tK (hs:s.length<2 ^ 40) (ha:a≤s.length) {A:LV} {ws:List Tx} (hA:SlT st A ws) (hws:ws.length<2 ^ 40) (hw:∀ w ∈ ws,w.length<2 ^ 40) (h:Rd st o s a 0 d)
  (h1:∀ j w,ws[j]?=some w→fu (s.drop a) ws 0=some (j,s.drop (a+w.length))→a+w.length≤s.length→R (i64 j) (st.set o (rdO s (a+w.length) 0 d)))
  (h2:fu (s.drop a) ws 0=none→∀ a',a'≤s.length→R (i64 0) (st.set o (rdO s a' 4 d))) :
  ∀ (k i far:Nat) (x7 x8:LV),i+k=ws.length→a+far≤s.length→fu (s.drop a) ws 0=fu (s.drop a) (ws.drop i) i→rN (.ptr o 0) (i64 far) x7 x8 A (i64 ws.length) (i64 i) R st
 | 0,i,far,x7,x8,hi,hf,hp=>by
  refine Fe _ _ _ _ _ _ _ ?_
  have c1:¬ (i:Int)<ws.length:=by omega
  have e1:IntKind.i64.wrap ((a:Int)+(far:Int))=((a+far:Nat):Int):=by rw[wrap_i64 (by omega) (by omega)];omega
  simp only[zQ,ae,ax,ab,c1,decide_false,af,aF,aq,Nat.zero_add,h.l1,aG,e1]
  refine fU h ?_
  refine h2 ?_ _ hf
  have e2:ws.drop i=[]:=List.drop_eq_nil_of_le (by omega)
  rw[hp,e2];rfl
 | k+1,i,far,x7,x8,hi,hf,hp=>by
  refine Fe _ _ _ _ _ _ _ ?_
  have hlt:i<ws.length:=by omega
  have c1:(i:Int)<ws.length:=by omega
  obtain ⟨p,e1,e2⟩:=hA.ix i hlt
  have hx:ws[i]?=some ws[i]:=List.getElem?_eq_getElem hlt
  have hwl:=hw _ (List.getElem_mem hlt)
  have hd:ws.drop i=ws[i]::ws.drop (i+1):=List.drop_eq_getElem_cons hlt
  generalize ws[i]=w at hx hwl hd
  rw[hx] at e2
  simp only[Option.map_some] at e2
  simp only[zQ,ae,ax,ab,c1,decide_true,ai,e1,e2,aF,aq,Nat.zero_add,h.l0,h.l1,fH ha]
  refine (DR _ _).call ?_
  rw[dq]
  refine ⟨fun hpre=>?_,fun hpre=>?_⟩
  ·have hle:a+w.length≤s.length:=by
    have:=(List.isPrefixOf_iff_prefix.1 hpre).length_le
    rw[List.length_drop] at this;omega
   have e3:IntKind.i64.wrap ((a:Int)+(w.length:Int))=((a+w.length:Nat):Int):=by rw[wrap_i64 (by omega) (by omega)];omega
   simp only[ab,h.l1,bh,ae,aG,e3,h.s1,ay,ag]
   refine h1 i w hx ?_ hle
   rw[hp,hd,fu,if_pos hpre,List.drop_drop]
  ·refine yd hs h hwl (fun n hn=>?_) w.length 0 (by omega) (by omega)
   simp only[jQ,ab,aG,ae,aH (show i<2 ^ 40 by omega)]
   have e4:max (far:Int) (n:Int)=((max far n:Nat):Int):=by omega
   rw[e4]
   refine tK hs ha hA hws hw h h1 h2 k (i+1) (max far n) _ _ (by omega) (by omega) ?_
   rw[hp,hd,fu,if_neg (by rw[hpre];simp)]
theorem DT (hs:s.length<2 ^ 40) (ha:a≤s.length) {A:LV} {ws:List Tx} (hA:SlT st A ws) (hws:ws.length<2 ^ 40) (hw:∀ w ∈ ws,w.length<2 ^ 40) (h:Rd st o s a 0 d)
  (h1:∀ j w,ws[j]?=some w→fu (s.drop a) ws 0=some (j,s.drop (a+w.length))→a+w.length≤s.length→R (i64 j) (st.set o (rdO s (a+w.length) 0 d)))
  (h2:fu (s.drop a) ws 0=none→∀ a',a'≤s.length→R (i64 0) (st.set o (rdO s a' 4 d))):az Tryz.prog 140 [.ptr o 0,A] st R:=by
 refine N6 _ _ ?_
 simp only[MQ,hA.len,ab]
 exact tK hs ha hA hws hw h h1 h2 ws.length 0 0 _ _ (by omega) (by omega) rfl
theorem ye:Pu Tryz.prog 109 [] (.agg ((bw.take 5).map .str)):=Pu.of (c109 (bn (v:=.agg ((bw.take 5).map .str)) _ rfl)) rfl rfl
end
end Go.Proofs.YtknegckgmklnhaaGreatDoor
