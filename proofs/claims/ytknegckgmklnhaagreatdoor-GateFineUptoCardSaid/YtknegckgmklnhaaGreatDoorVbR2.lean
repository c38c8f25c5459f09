/- Parts of the proof. -/
import Derived.Test.YtknegckgmklnhaaGreatDoorVaR
namespace Go.Proofs.YtknegckgmklnhaaGreatDoor
open Go Go.CP
set_option maxRecDepth 100000
def okB (i:Nat) (c:UInt8):Bool:=isLet c||decide (0<i)&&ju c
theorem ll {p:UInt8→Bool}:∀ {t:Tx},t.takeWhile p=t↔∀ (i:Nat) (c:UInt8),t[i]?=some c→p c=true
 | []=>by simp
 | x::t=>by
  rw[List.takeWhile_cons]
  by_cases h:p x=true
  ·rw[if_pos h]
   simp only[List.cons.injEq,true_and]
   rw[ll]
   constructor
   ·intro k i c hc
    cases i with
    | zero=>simp at hc;subst hc;exact h
    | succ i=>exact k i c (by simpa using hc)
   ·intro k i c hc
    exact k (i+1) c (by simpa using hc)
  ·rw[if_neg h]
   constructor
   ·intro k;cases k
   ·intro k;exact absurd (k 0 x rfl) h
theorem ub {s:Tx}:named s=true↔(∀ (i:Nat) (c:UInt8),s[i]?=some c→okB i c=true)∧s≠[]∧s.length≤20:=by
 unfold named
 simp only[Bool.and_eq_true,decide_eq_true_eq]
 rw[and_assoc]
 refine and_congr_left fun _=>?_
 cases s with
 | nil=>simp[da]
 | cons c t=>
  rw[hJ]
  by_cases h:isLet c=true
  ·rw[if_pos h]
   simp only[List.cons.injEq,true_and]
   rw[ll]
   constructor
   ·intro k i x hx
    cases i with
    | zero=>simp at hx;subst hx;simp[okB,h]
    | succ i=>have:=k i x (by simpa using hx);simp[okB,this]
   ·intro k i x hx
    have:=k (i+1) x (by simpa using hx)
    unfold okB at this
    unfold ju at this ⊢
    simp only[Bool.or_eq_true,Bool.and_eq_true] at this ⊢
    rcases this with h|h
    ·exact .inl h
    ·exact h.2
  ·rw[if_neg h]
   constructor
   ·intro k;cases k
   ·intro k;have:=k 0 c rfl;unfold okB at this;simp at this;exact absurd this h
theorem nR {p:UInt8→Bool}:∀ {t:Tx} {k:Nat},k≤(t.takeWhile p).length→(k<(t.takeWhile p).length↔∃ x,t[k]?=some x∧p x=true)
 | [],k,h=>by simp
 | x::t,k,h=>by
  rw[List.takeWhile_cons] at h ⊢
  by_cases hx:p x=true
  ·rw[if_pos hx] at h ⊢
   cases k with
   | zero=>simp[hx]
   | succ k=>
    simp only[List.length_cons,Nat.add_le_add_iff_right] at h
    have:=nR h
    simpa using this
  ·rw[if_neg hx] at h ⊢
   have:k=0:=by simpa using h
   subst this
   simp only[List.length_nil,Nat.lt_irrefl,List.getElem?_cons_zero,Option.some.injEq,false_iff,not_exists,not_and]
   rintro y rfl;exact hx
theorem yz {t:Tx} {k:Nat} (h:k≤(da t).length):k<(da t).length↔∃ c x,t[0]?=some c∧isLet c=true∧t[k]?=some x∧ju x=true:=by
 cases t with
 | nil=>simp[da]
 | cons c t=>
  rw[hJ] at h ⊢
  by_cases hc:isLet c=true
  ·rw[if_pos hc] at h ⊢
   cases k with
   | zero=>simp[hc,ju]
   | succ k=>
    simp only[List.length_cons,Nat.add_le_add_iff_right] at h
    have:=nR h
    simpa[hc] using this
  ·rw[if_neg hc] at h ⊢
   simp[hc]
theorem AQ {t:Tx}:(da t).length≤t.length:=by
 have:=congrArg List.length (iR t)
 simp only[List.length_append] at this
 omega
theorem sD {s:Tx} {i:Nat} {c:UInt8} (h:s[i]?=some c):List.take 1 (s.drop i)=[c]:=by
 obtain ⟨h1,h2⟩:=List.getElem?_eq_some_iff.1 h
 rw[List.drop_eq_getElem_cons h1,h2];rfl
theorem ej {s:Tx} {x y:Nat} (h:x≤y) (hy:y≤s.length):(ob3 (some (i64 x)) (some (i64 y)) none fun l h m=>cF (.str s) l h m)=some (.str ((s.drop x).take (y-x))):=by
 simp only[ob3,fg,cF]
 simp[h,hy]
section
variable {st st':aa} {o:Nat} {s:Tx} {a d n:Nat} {e:Int} {R:LV→aa→Prop}
theorem AR {i:Nat} {c:UInt8} (hc:s[i]?=some c) (hi:i<2 ^ 40) (hy:okB i c=true→gD (.str s) (i64 s.length) (i64 (i+1:Nat)) R st) (hn:okB i c=false→R (.bool false) st) :
  gD (.str s) (i64 s.length) (i64 i) R st:=by
 refine FD _ _ _ ?_
 have hlt:=(List.getElem?_eq_some_iff.1 hc).1
 have c1:(i:Int)<s.length:=by omega
 have g1:(decide (((c.toNat:Nat):Int)≥97))=decide (97≤c.toNat):=decide_eq_decide.2 (by omega)
 have g2:(decide (((c.toNat:Nat):Int)≤122))=decide (c.toNat≤122):=decide_eq_decide.2 (by omega)
 have g3:(decide (((c.toNat:Nat):Int)≥48))=decide (48≤c.toNat):=decide_eq_decide.2 (by omega)
 have g4:(decide (((c.toNat:Nat):Int)≤57))=decide (c.toNat≤57):=decide_eq_decide.2 (by omega)
 have g5:decide ((i:Int) > 0)=decide (0<i):=decide_eq_decide.2 (by omega)
 have e:okB i c=(decide (97≤c.toNat)&&decide (c.toNat≤122)||decide (0<i)&&(decide (48≤c.toNat)&&decide (c.toNat≤57))):=by
  simp only[okB,ju,isLet]
  by_cases h1:97≤c.toNat<;>by_cases h2:c.toNat≤122<;>simp[h1,h2]
 rw[e] at hy hn
 simp only[Ag,ae,aA,ab,c1,decide_true,ah,cM hc,cY,dF,cx,aZ,g1,g2,g3,g4,g5,aH,aI hi,Bool.not_true,Bool.not_false,af]
 revert hy hn
 generalize decide (97≤c.toNat)=b1
 generalize decide (c.toNat≤122)=b2
 generalize decide (0<i)=b3
 generalize decide (48≤c.toNat)=b4
 generalize decide (c.toNat≤57)=b5
 intro hy hn
 cases b1<;>cases b2<;>cases b3<;>cases b4<;>cases b5<;>first|exact hy rfl|exact hn rfl
theorem sE (hs:s.length<2 ^ 40) (hR:R (.bool (named s)) st):∀ (d i:Nat),i+d=s.length→(∀ (j:Nat) (c:UInt8),j<i→s[j]?=some c→okB j c=true)→gD (.str s) (i64 s.length) (i64 i) R st
 | 0,i,hi,hp=>by
  refine FD _ _ _ ?_
  have c1:¬ (i:Int)<s.length:=by omega
  have hall:∀ (j:Nat) (c:UInt8),s[j]?=some c→okB j c=true:=fun j c hc=>hp j c (by have:=(List.getElem?_eq_some_iff.1 hc).1;omega) hc
  have e1:bG .neq (.str s) (.str [])=some (.bool (decide (s≠[]))):=by
   simp only[ca,kQ]
   congr 2
   by_cases h:s=[]<;>simp[h]
  have e2:named s=(decide (s≠[])&&decide (s.length≤20)):=by
   rw[Bool.eq_iff_iff,ub]
   simp only[Bool.and_eq_true,decide_eq_true_eq]
   exact ⟨fun h=>h.2,fun h=>⟨hall,h⟩⟩
  have e3:decide ((s.length:Int)≤20)=decide (s.length≤20):=decide_eq_decide.2 (by omega)
  rw[e2] at hR
  simp only[Ag,ae,aA,ab,c1,decide_false,af,e1,a7,dF,e3]
  revert hR
  generalize decide (s≠[])=b1
  cases b1
  ·exact fun h=>h
  ·exact fun h=>h
 | d+1,i,hi,hp=>by
  have hlt:i<s.length:=by omega
  have hc:s[i]?=some s[i]:=List.getElem?_eq_getElem hlt
  refine AR hc (by omega) (fun h=>sE hs hR d (i+1) (by omega) fun j c hj hjc=>?_) fun h=>?_
  ·rcases Nat.lt_or_ge j i with k|k
   ·exact hp j c k hjc
   ·have:j=i:=by omega
    subst this;rw[hc] at hjc;cases hjc;exact h
  ·have:named s=false:=by
    rw[Bool.eq_false_iff]
    intro hn
    have:=(ub.1 hn).1 i _ hc
    rw[h] at this;cases this
   rw[this] at hR;exact hR
theorem sF (hs:s.length<2 ^ 40):Pu Tryz.prog 142 [.str s] (.bool (named s)):=by
 refine Pu.of (OM _ ?_) rfl rfl
 simp only[No,a7,ab]
 exact sE hs (R:=fun v s'=>dp s' (.bool (named s)) v) rfl s.length 0 (by omega) fun j c hj=>by omega
theorem uc {c:UInt8}:named [c]=isLet c:=by
 unfold named
 rw[hJ]
 by_cases h:isLet c=true
 ·simp[h]
 ·simp[h]
theorem ud (hs:s.length<2 ^ 40) {fr:Nat}:∀ (k i:Nat) {st:aa},i+k=(da (s.drop fr)).length→Rd st o s (fr+i) e d→(r6 (.ptr o 0) (i64 fr) (.bool false) R (st.set o (rdO s (fr+(da (s.drop fr)).length) e d)))→
  vw (.ptr o 0) (i64 fr) R st:=by
 intro k i
 induction k generalizing i with
 | zero=>
  intro st hi h hR
  have hi:(da (s.drop fr)).length=i:=by omega
  rw[hi,h.id] at hR
  have hno:∀ c x,(s.drop fr)[0]?=some c→isLet c=true→(s.drop fr)[i]?=some x→¬ ju x=true:=fun c x h1 h2 h3 h4=>by
   have:=(yz (t:=s.drop fr) (k:=i) (by omega)).2 ⟨c,x,h1,h2,h3,h4⟩
   omega
  refine FH _ _ ?_
  simp only[Ai,aF,ab,av,Nat.zero_add,h.l1,h.l0,a7,ae,aA]
  rw[aM]
  refine ⟨fun hl=>?_,fun _=>vA _ _ _ hR⟩
  have hl:fr+i<s.length:=by omega
  have hfr:fr<s.length:=by omega
  have hc:s[fr]?=some s[fr]:=List.getElem?_eq_getElem hfr
  have hx:s[fr+i]?=some s[fr+i]:=List.getElem?_eq_getElem hl
  have e1:(ob3 (some (i64 fr)) (some (i64 (fr+1:Nat))) none fun l h m=>cF (.str s) l h m)=some (.str [s[fr]]):=by
   rw[ej (by omega) (by omega),Nat.add_sub_cancel_left,sD hc]
  simp only[aH,aI (show fr<2 ^ 40 by omega),ab,e1]
  refine (sF (s:=[s[fr]]) (by simp)).call ?_
  rw[uc,bN]
  refine ⟨fun hlet=>?_,fun _=>vA _ _ _ hR⟩
  simp only[ab,h.l1,h.l0,cM hx]
  refine (ql _).call ?_
  have hn:ju s[fr+i]=false:=by
   rw[Bool.eq_false_iff]
   exact hno s[fr] s[fr+i] (by rw[List.getElem?_drop];exact hc) hlet (by rw[List.getElem?_drop];exact hx)
  rw[hn]
  exact vA _ _ _ hR
 | succ k ih=>
  intro st hi h hR
  obtain ⟨c,x,hc,hlet,hx,hnm⟩:=(yz (t:=s.drop fr) (k:=i) (by omega)).1 (by omega)
  rw[List.getElem?_drop] at hc hx
  rw[Nat.add_zero] at hc
  have hfr:=(List.getElem?_eq_some_iff.1 hc).1
  have hl:=(List.getElem?_eq_some_iff.1 hx).1
  refine FH _ _ ?_
  have c1:((fr+i:Nat):Int)<s.length:=by omega
  have e1:(ob3 (some (i64 fr)) (some (i64 (fr+1:Nat))) none fun l h m=>cF (.str s) l h m)=some (.str [c]):=by
   rw[ej (by omega) (by omega),Nat.add_sub_cancel_left,sD hc]
  simp only[Ai,aF,ab,av,Nat.zero_add,h.l1,h.l0,a7,ae,aA,c1,decide_true,ah,aH,aI (show fr<2 ^ 40 by omega),e1]
  refine (sF (s:=[c]) (by simp)).call ?_
  rw[uc,hlet]
  simp only[ah,ab,h.l1,h.l0,cM hx]
  refine (ql _).call ?_
  rw[hnm]
  refine vA _ _ _ ?_
  simp only[r6,ah,aF,ab,av,Nat.zero_add,h.l1,ae,aH,aI (show fr+i<2 ^ 40 by omega),h.s1,az,ag]
  have h':Rd (st.set o (rdO s (fr+i+1) e d)) o s (fr+(i+1)) e d:=h.set
  refine ih (i+1) (by omega) h' ?_
  rw[List.set_set];exact hR
theorem Em (hs:s.length<2 ^ 40) (ha:a≤s.length) (h:Rd st o s a 0 d)
  (h1:∀ n r,gJ (s.drop a)=some (n,r)→R (.str n) (st.set o (rdO s (a+n.length) 0 d)))
  (h2:gJ (s.drop a)=none→∀ w a' e',e'≠0→a'≤s.length→R (.str w) (st.set o (rdO s a' e' d))):ax Tryz.prog 225 [.ptr o 0] st R:=by
 refine Nq _ ?_
 simp only[LJ,aF,ab,av,Nat.zero_add,h.l1]
 have hlen:=AQ (t:=s.drop a)
 rw[List.length_drop] at hlen
 refine ud (fr:=a) hs (da (s.drop a)).length 0 (by omega) h ?_
 have hq:=iR (s.drop a)
 have htake:(s.drop a).take (da (s.drop a)).length=da (s.drop a):=by
  have:=List.take_left (l₁:=da (s.drop a)) (l₂:=(s.drop a).drop (da (s.drop a)).length)
  rwa [← hq] at this
 generalize hm:(da (s.drop a)).length=m at hlen htake
 have h':Rd (st.set o (rdO s (a+m) 0 d)) o s (a+m) 0 d:=h.set
 simp only[r6,af,aF,ab,av,Nat.zero_add,h'.l1,ae,aW]
 by_cases h0:m=0
 ·subst h0
  have c1:(((a+0:Nat):Int)==(a:Int))=true:=by simp
  simp only[c1,ah]
  refine fY h' ?_
  rw[List.set_set]
  have h2':Rd (st.set o (rdO s (a+0) 4 d)) o s (a+0) 4 d:=h.set
  simp only[ab,h2'.l1,h2'.l0,ej (show a≤a+0 by omega) (show a+0≤s.length by omega)]
  refine h2 ?_ _ _ _ (by decide) (by omega)
  unfold gJ
  rw[if_pos (.inl (List.eq_nil_of_length_eq_zero hm))]
 ·have c1:(((a+m:Nat):Int)==(a:Int))=false:=by
   have:((a+m:Nat):Int)≠(a:Int):=by omega
   simpa using this
  have c2:IntKind.i64.wrap (((a+m:Nat):Int)-(a:Int))=(m:Int):=by rw[wrap_i64 (by omega) (by omega)];omega
  simp only[c1,af,ab,h'.l0,ae,cX,c2,cx]
  rw[aM]
  refine ⟨fun hg=>?_,fun hg=>?_⟩
  ·refine fY h' ?_
   rw[List.set_set]
   have h2':Rd (st.set o (rdO s a 7 d)) o s a 7 d:=h.set
   simp only[ab,h2'.l1,h2'.l0,ej (show a≤a by omega) ha]
   refine h2 ?_ _ _ _ (by decide) ha
   unfold gJ
   rw[if_pos (.inr (by rw[hm];omega))]
  ·rw[ej (show a≤a+m by omega) (by omega)]
   have e1:a+m-a=m:=by omega
   rw[e1,htake]
   simp only[ab]
   have:=h1 (da (s.drop a)) ((s.drop a).drop m) (by
    unfold gJ
    rw[if_neg (by rw[hm];intro hc;rcases hc with hc|hc;(rw[hc] at hm;exact h0 hm.symm);omega),hm])
   rw[hm] at this
   exact this
theorem GL (hs:s.length<2 ^ 40) (ha:a≤s.length) (he:e≠0) (h:Rd st o s a e d)
  (h2:∀ w a',a'≤s.length→R (.str w) (st.set o (rdO s a' e d))):ax Tryz.prog 225 [.ptr o 0] st R:=by
 refine Nq _ ?_
 simp only[LJ,aF,ab,av,Nat.zero_add,h.l1]
 have hlen:=AQ (t:=s.drop a)
 rw[List.length_drop] at hlen
 refine ud (fr:=a) hs (da (s.drop a)).length 0 (by omega) h ?_
 generalize hm:(da (s.drop a)).length=m at hlen
 have h':Rd (st.set o (rdO s (a+m) e d)) o s (a+m) e d:=h.set
 have fin:(bd (ob3 (some (i64 a)) (some (i64 (a+m:Nat))) none fun l h m=>cF (.str s) l h m) fun v59=>R v59 (st.set o (rdO s (a+m) e d))):=by
  rw[ej (show a≤a+m by omega) (by omega)]
  exact h2 _ _ (by omega)
 simp only[r6,af,aF,ab,av,Nat.zero_add,h'.l1,ae,aW]
 rw[bN]
 refine ⟨fun _=>?_,fun _=>?_⟩
 ·refine yy h' he ?_
  simp only[ab,h'.l1,h'.l0]
  exact fin
 ·simp only[cX,ae,ab,cx]
  rw[bN]
  refine ⟨fun _=>?_,fun _=>?_⟩
  ·refine yy h' he ?_
   simp only[ab,h'.l1,h'.l0]
   exact fin
  ·simp only[ab,h'.l0]
   exact fin
theorem fO {x:Nat} (h:x≤s.length):(ob3 (some (i64 x)) none none fun l h m=>cF (.str s) l h m)=some (.str (s.drop x)):=by
 simp only[ob3,fg,cF]
 simp[h]
 rw[List.take_of_length_le (by simp)]
theorem yA (hs:s.length<2 ^ 40) (h:Rd st o s a e d) {x5 x9 x10 x11:LV} {w:Tx} (hw:w.length<2 ^ 40)
  (hR:∀ n,a+n≤s.length→bd (gI [x5,i64 n]) fun v1=>bd (ak BinOp.add x11 (i64 1)) fun v2=>r5 (.ptr o 0) v1 (.str w) (i64 n) x9 x10 v2 R st) :
  ∀ (k n:Nat),n+k=w.length→a+n≤s.length→qF (.ptr o 0) x5 (.str w) (i64 n) x9 x10 x11 R st
 | 0,n,hn,ha=>by
  refine Cs _ _ _ _ _ _ _ ?_
  have c1:¬ (n:Int)<w.length:=by omega
  simp only[vu,a7,ab,ae,aA,c1,decide_false,af]
  refine vv _ _ _ _ _ _ _ _ ?_
  simp only[qH,af]
  exact hR n ha
 | k+1,n,hn,ha=>by
  refine Cs _ _ _ _ _ _ _ ?_
  have c1:(n:Int)<w.length:=by omega
  have hwn:w[n]?=some (w[n]'(by omega)):=List.getElem?_eq_getElem (by omega)
  have e1:IntKind.i64.wrap ((a:Int)+(n:Int))=((a+n:Nat):Int):=by rw[wrap_i64 (by omega) (by omega)];omega
  simp only[vu,a7,ab,ae,aA,c1,decide_true,ah,aF,av,Nat.zero_add,h.l1,h.l0,aH,e1]
  rw[aM]
  refine ⟨fun hl=>?_,fun _=>?_⟩
  ·have hl:a+n<s.length:=by omega
   have hx:s[a+n]?=some s[a+n]:=List.getElem?_eq_getElem hl
   simp only[cM hx,cM hwn,ab,ae,aW]
   refine vv _ _ _ _ _ _ _ _ ?_
   simp only[qH,ae,aH,aI (show n<2 ^ 40 by omega),ab]
   rw[bN]
   exact ⟨fun _=>yA hs h hw hR k (n+1) (by omega) (by omega),fun _=>hR n ha⟩
  ·refine vv _ _ _ _ _ _ _ _ ?_
   simp only[qH,af]
   exact hR n ha
structure SlT (st:aa) (A:LV) (ws:List Tx):Prop where
 len:bo A=some (i64 ws.length)
 ix:∀ i:Nat,i<ws.length→∃ p,aR 1 A (i64 i)=some p∧ld1 st p=(ws[i]?).map .str
theorem ue (hs:s.length<2 ^ 40) (ha:a≤s.length) {A:LV} {ws:List Tx} (hA:SlT st A ws) (hws:ws.length<2 ^ 40) (hw:∀ w ∈ ws,w.length<2 ^ 40) (h:Rd st o s a 0 d)
  (h1:∀ j w,ws[j]?=some w→fB (s.drop a) ws 0=some (j,s.drop (a+w.length))→a+w.length≤s.length→R (i64 j) (st.set o (rdO s (a+w.length) 0 d)))
  (h2:fB (s.drop a) ws 0=none→∀ a',a'≤s.length→R (i64 0) (st.set o (rdO s a' 4 d))) :
  ∀ (k i far:Nat) (x7 x8:LV),i+k=ws.length→a+far≤s.length→fB (s.drop a) ws 0=fB (s.drop a) (ws.drop i) i→r5 (.ptr o 0) (i64 far) x7 x8 A (i64 ws.length) (i64 i) R st
 | 0,i,far,x7,x8,hi,hf,hp=>by
  refine FE _ _ _ _ _ _ _ ?_
  have c1:¬ (i:Int)<ws.length:=by omega
  have e1:IntKind.i64.wrap ((a:Int)+(far:Int))=((a+far:Nat):Int):=by rw[wrap_i64 (by omega) (by omega)];omega
  simp only[Ah,ae,aA,ab,c1,decide_false,af,aF,av,Nat.zero_add,h.l1,aH,e1]
  refine fY h ?_
  refine h2 ?_ _ hf
  have e2:ws.drop i=[]:=List.drop_eq_nil_of_le (by omega)
  rw[hp,e2];rfl
 | k+1,i,far,x7,x8,hi,hf,hp=>by
  refine FE _ _ _ _ _ _ _ ?_
  have hlt:i<ws.length:=by omega
  have c1:(i:Int)<ws.length:=by omega
  obtain ⟨p,e1,e2⟩:=hA.ix i hlt
  have hx:ws[i]?=some ws[i]:=List.getElem?_eq_getElem hlt
  have hwl:=hw _ (List.getElem_mem hlt)
  have hd:ws.drop i=ws[i]::ws.drop (i+1):=List.drop_eq_getElem_cons hlt
  generalize ws[i]=w at hx hwl hd
  rw[hx] at e2
  simp only[Option.map_some] at e2
  simp only[Ah,ae,aA,ab,c1,decide_true,ah,e1,e2,aF,av,Nat.zero_add,h.l0,h.l1,fO ha]
  refine (El _ _).call ?_
  rw[bN]
  refine ⟨fun hpre=>?_,fun hpre=>?_⟩
  ·have hle:a+w.length≤s.length:=by
    have:=(List.isPrefixOf_iff_prefix.1 hpre).length_le
    rw[List.length_drop] at this;omega
   have e3:IntKind.i64.wrap ((a:Int)+(w.length:Int))=((a+w.length:Nat):Int):=by rw[wrap_i64 (by omega) (by omega)];omega
   simp only[ab,h.l1,a7,ae,aH,e3,h.s1,az,ag]
   refine h1 i w hx ?_ hle
   rw[hp,hd,fB,if_pos hpre,List.drop_drop]
  ·refine yA hs h hwl (fun n hn=>?_) w.length 0 (by omega) (by omega)
   simp only[jW,ab,aH,ae,aI (show i<2 ^ 40 by omega)]
   have e4:max (far:Int) (n:Int)=((max far n:Nat):Int):=by omega
   rw[e4]
   refine ue hs ha hA hws hw h h1 h2 k (i+1) (max far n) _ _ (by omega) (by omega) ?_
   rw[hp,hd,fB,if_neg (by rw[hpre];simp)]
theorem En (hs:s.length<2 ^ 40) (ha:a≤s.length) {A:LV} {ws:List Tx} (hA:SlT st A ws) (hws:ws.length<2 ^ 40) (hw:∀ w ∈ ws,w.length<2 ^ 40) (h:Rd st o s a 0 d)
  (h1:∀ j w,ws[j]?=some w→fB (s.drop a) ws 0=some (j,s.drop (a+w.length))→a+w.length≤s.length→R (i64 j) (st.set o (rdO s (a+w.length) 0 d)))
  (h2:fB (s.drop a) ws 0=none→∀ a',a'≤s.length→R (i64 0) (st.set o (rdO s a' 4 d))):ax Tryz.prog 140 [.ptr o 0,A] st R:=by
 refine ON _ _ ?_
 simp only[Np,hA.len,ab]
 exact ue hs ha hA hws hw h h1 h2 ws.length 0 0 _ _ (by omega) (by omega) rfl
theorem yB:Pu Tryz.prog 109 [] (.agg ((bu.take 5).map .str)):=Pu.of (c109 (bj (v:=.agg ((bu.take 5).map .str)) _ rfl)) rfl rfl
end
mutual
def kC:KT→List LV
 | .mk f l ns ls=>[i64 f,.isl (kVs l) l.length none,.isl (ns.map .str) ns.length none,.isl (ls.map .bool) ls.length none]
def kVs:List KT→List LV
 | []=>[]
 | t::ts=>.iptr (kC t) 0::kVs ts
end
abbrev kV (t:KT):LV:=.iptr (kC t) 0
theorem wg:∀ {l:List KT},kVs l=l.map kV
 | []=>rfl
 | t::ts=>by simp[kVs,wg (l:=ts)]
theorem iU {l:List KT}:(kVs l).length=l.length:=by rw[wg];simp
theorem CV {a b:List KT}:kVs (a++b)=kVs a++kVs b:=by simp[wg]
theorem sG {t:KT}:kC t=[i64 t.f,.isl (kVs t.l) t.l.length none,.isl (t.ns.map .str) t.ns.length none,.isl (t.ls.map .bool) t.ls.length none]:=by cases t;rfl
mutual
theorem eI:∀ {t:KT},LV.aB (kC t)=true
 | .mk f l ns ls=>by
  simp only[kC,LV.aB,LV.plain,Bool.true_and,Bool.and_true,Bool.and_eq_true]
  exact ⟨po,bB fun _ _=>rfl,bB fun _ _=>rfl⟩
theorem po:∀ {l:List KT},LV.aB (kVs l)=true
 | []=>rfl
 | t::ts=>by simp only[kVs,LV.aB,LV.plain,Bool.and_eq_true];exact ⟨eI,po⟩
end
theorem dH {t:KT}:(kV t).plain=true:=by simp only[LV.plain];exact eI
def fP (d D:Nat):Prop:=∀ {s:Tx},s.length≤4096→∀ {st:aa} {o a:Nat} {R:LV→aa→Prop},a≤s.length→Rd st o s a 0 D→
 (∀ t a',a'≤s.length→pT d (s.drop a)=some (t,s.drop a')→R (kV t) (st.set o (rdO s a' 0 D)))→
 (pT d (s.drop a)=none→∀ v a' e',v.plain=true→v.one=true→e'≠0→a'≤s.length→R v (st.set o (rdO s a' e' D)))→ax Tryz.prog 74 [.ptr o 0] st R
section
variable {st st' st0:aa} {o b:Nat} {s:Tx} {a d D n:Nat} {e:Int} {R:LV→aa→Prop}
theorem sH (h:Rd st o s a e D) (he:e≠0) (hR:R .nilp st):ax Tryz.prog 74 [.ptr o 0] st R:=by
 refine ax.FB ?_
 refine c74 _ ?_
 have e1:b8 st (.ptr o 0)=some (.ptr st.length 0,st++[.cells .rw [.ptr o 0]]):=rfl
 have e2:ld1 (st++[.cells .rw [.ptr o 0]]) (.ptr st.length 0)=some (.ptr o 0):=by rw[aU au];rfl
 have e3:(e != 0)=true:=by simpa using he
 simp only[w74,e1,ag,e2,ab,aF,av,Nat.zero_add]
 refine eE h.app ?_
 simp only[e3,ah]
 exact ⟨.nilp,Fr.app,rfl,rfl,hR⟩
structure TIn (st0:aa) (o b:Nat) (st:aa) (f:Option Nat) (acc:List LV):Prop where
 fr:Fr st0 st (fun j=>j=o)
 nb:st0.length≤b
 hb:st[b]?=some (.cells .rw [i64 7,osl f 1 acc.length,.nils,.nils])
 own:bD .rw st f 1 acc.length acc
 nf:∀ j,f=some j→st0.length≤j∧j≠b
 pl:LV.aB acc=true
theorem TIn.rd {f:Option Nat} {acc:List LV} (h:TIn st0 o b st f acc) (ho:o<st0.length) {y:aq}:TIn st0 o b (st.set o y) f acc:=by
 have F:Fr st (st.set o y) (fun j=>j=o):=Fr.set rfl
 exact ⟨h.fr.trans F fun _ _ h=>h,h.nb,F.get h.hb (by have:=h.nb;omega),h.own.fr F fun j e=>by have:=(h.nf j e).1;omega,h.nf,h.pl⟩
theorem TIn.more {f:Option Nat} {acc:List LV} (h:TIn st0 o b st f acc) (ho:o<st0.length) (hl:acc.length<2 ^ 20) {v:LV} (hv:v.plain=true) (h1:v.one=true) {K:aa→Prop}
  (hK:∀ st2 f2,TIn st0 o b st2 f2 (acc++[v])→st2[o]?=st[o]?→K st2) :
  ld1 st (.ptr b 1)=some (osl f 1 acc.length)∧bd2 (aP st 1 (ao (fun i=>some (i*1,1)) (List.replicate 1 [LV.nilp]).flatten [(0,v)])) fun v23 st24=>
   ld1 st24 (.ptr b 1)=some (osl f 1 acc.length)∧bd2 (ar st24 1 8 Md.rw (osl f 1 acc.length) v23) fun v25 st26=>bd2 (lmk (stV st26 1 (.ptr b 1) v25)) fun _v29 st30=>K st30:=by
 have hl1:ld1 st (.ptr b 1)=some (osl f 1 acc.length):=by rw[aU h.hb];rfl
 have ef:ao (fun i=>some (i*1,1)) (List.replicate 1 [LV.nilp]).flatten [(0,v)]=some [v]:=by
  cases v<;>first|rfl|cases h1
 rw[ef]
 simp only[bw,ag]
 have hb1:(st++[aq.cells .rw [v]])[b]?=some (.cells .rw [i64 7,osl f 1 acc.length,.nils,.nils]):=bH h.hb
 have hl2:ld1 (st++[aq.cells .rw [v]]) (.ptr b 1)=some (osl f 1 acc.length):=by rw[aU hb1];rfl
 refine ⟨hl1,hl2,?_⟩
 have ho1:=h.own.fr (st':=st++[.cells .rw [v]]) (S:=fun _=>False) Fr.app (fun _ _ h=>h)
 obtain ⟨st2,f2,q1,q2,q3,q4,_⟩:=ho1.append (x:=.sl st.length 0 1 (.ex 1)) (k:=1) (new:=[v]) (bytes:=8) (by simp[dJ]) (by omega) rfl (by simp[h1]) (cL (by omega) (by omega))
 rw[q1]
 simp only[ag]
 have hbl:b<st.length:=bM h.hb
 have hb2:=q3.get hb1 (fun e=>(h.nf _ e).2 rfl)
 have e1:stV st2 1 (.ptr b 1) (osl f2 1 (acc.length+1))=some (st2.set b (.cells .rw [i64 7,osl f2 1 (acc.length+1),.nils,.nils])):=by
  rw[dz hb2 (by simp) (by cases f2<;>rfl)];rfl
 rw[e1]
 simp only[az,ag]
 have F:Fr st2 (st2.set b (.cells .rw [i64 7,osl f2 1 (acc.length+1),.nils,.nils])) (fun j=>j=b):=Fr.set rfl
 have fr1:Fr st0 (st++[aq.cells .rw [v]]) (fun j=>j=o):=h.fr.trans (Fr.app (S:=fun j=>j=o)) fun _ _ h=>h
 have fr2:Fr st0 st2 (fun j=>j=o):=fr1.trans q3 fun j hj e=>by have:=(h.nf j e).1;omega
 have nf2:∀ j,f2=some j→st0.length≤j∧j≠b:=fun j e=>by
  rcases q4 j e with e|e
  ·exact h.nf j e
  ·have:=h.fr.len
   simp only[List.length_append,List.length_cons,List.length_nil] at e
   exact ⟨by omega,by omega⟩
 refine hK _ f2 ⟨fr2.trans F fun j hj e=>by have:=h.nb;omega,h.nb,?_,?_,nf2,?_⟩ ?_
 ·rw[List.length_append];exact bx hb2
 ·rw[List.length_append]
  exact q2.fr F fun j e=>(nf2 j e).2
 ·rw[cZ,h.pl];simp[LV.aB,hv]
 ·have hol:o<st.length:=Nat.lt_of_lt_of_le ho h.fr.len
  rw[bq (by have:=h.nb;omega),q3.same o (by simp;omega) fun e=>by have:=(h.nf o e).1;omega,List.getElem?_append_left hol]
def TQ (st0:aa) (o:Nat) (R:LV→aa→Prop) (r:LV) (st':aa):Prop:=
 ∃ v y,Fr st0 st' (fun j=>j=o)∧st'[o]?=some y∧y.lt st0.length=true∧dp (fa st0.length st') v r∧v.plain=true∧R v (st0.set o y)
theorem pq:(rdO s a e D).lt n=true:=rfl
theorem TIn.fin {f:Option Nat} {acc:List LV} (h:TIn st0 o b st f acc) (hr:Rd st o s a e D) (hR:R (.iptr [i64 7,.isl acc acc.length none,.isl [] 0 none,.isl [] 0 none] 0) (st0.set o (rdO s a e D))):TQ st0 o R (.ptr b 0) st:=by
 refine ⟨_,_,h.fr,hr,pq,?_,by simp[LV.plain,LV.aB,h.pl],hR⟩
 refine .inl ⟨b,.rw,_,rfl,(fW h.nb).trans h.hb,rfl,by simp,?_⟩
 simp only[List.length_cons,List.length_nil,List.take_succ_cons,List.take_zero]
 exact ⟨_,_,rfl,rfl,_,_,rfl,dZ (h.own.fa fun j e=>(h.nf j e).1) rfl (bA _ h.pl),_,_,rfl,.inr (.inr ⟨.inr rfl,rfl,rfl⟩),_,_,rfl,.inr (.inr ⟨.inr rfl,rfl,rfl⟩),rfl⟩
def nS (d:Nat) (r:Tx):Option (List KT × Tx):=if r.head?=some 93 then some ([],r.tail) else eh (pT d) 16 r
theorem drop_cons {c:UInt8} (h:s[a]?=some c):s.drop a=c::s.drop (a+1):=by
 obtain ⟨h1,h2⟩:=List.getElem?_eq_some_iff.1 h
 rw[List.drop_eq_getElem_cons h1,h2]
theorem bT:(s.drop a).head?=s[a]?:=by rw[List.head?_drop]
theorem lp {f:Option Nat} {acc:List LV} (h:TIn st0 o b st f acc) (hr:Rd st o s a e D) (he:e≠0) (hR:∀ v a' e',v.plain=true→v.one=true→e'≠0→a'≤s.length→R v (st0.set o (rdO s a' e' D))) (ha:a≤s.length) :
  r7 (.ptr o 0) (.ptr b 0) (TQ st0 o R) st:=by
 refine Al _ _ ?_
 simp only[vC,aF,ab,av,Nat.zero_add]
 refine eE hr ?_
 have e3:(e != 0)=true:=by simpa using he
 simp only[e3,aZ,ab,Bool.not_true,af]
 exact h.fin hr (hR _ _ _ (by simp[LV.plain,LV.aB,h.pl]) rfl he ha)
theorem AU (ih:fP d D) (hs:s.length≤4096) (ho:o<st0.length) {res:Option (List KT × Tx)}
  (h1:∀ l a',a'≤s.length→res=some (l,s.drop a')→R (kV (.mk 7 l [] [])) (st0.set o (rdO s a' 0 D)))
  (h2:res=none→∀ v a' e',v.plain=true→v.one=true→e'≠0→a'≤s.length→R v (st0.set o (rdO s a' e' D))) :
  ∀ (k:Nat) (acc:List KT) (f:Option Nat) (st:aa) (a:Nat),acc.length+k=16→a≤s.length→TIn st0 o b st f (kVs acc)→Rd st o s a 0 D→
   (res=match eh (pT d) k (s.drop a) with
    | none=>none
    | some (l,r)=>some (acc++l,r))→r7 (.ptr o 0) (.ptr b 0) (TQ st0 o R) st:=by
 intro k
 induction k with
 | zero=>
  intro acc f st a hk ha h hr hres
  have hres:res=none:=hres
  refine Al _ _ ?_
  simp only[vC,aF,ab,av,Nat.zero_add]
  refine eE hr ?_
  have hl:ld1 st (.ptr b 1)=some (osl f 1 (kVs acc).length):=by rw[aU h.hb];rfl
  have c1:(((kVs acc).length:Int)==16)=true:=by
   have:(kVs acc).length=16:=by rw[iU];omega
   rw[this];rfl
  simp only[bne_self_eq_false,aZ,ab,Bool.not_false,ah,hl,h.own.bo,ae,aW,c1,hr.l1]
  refine fY hr ?_
  have h':=h.rd ho (y:=rdO s a 3 D)
  have hr':Rd (st.set o (rdO s a 3 D)) o s a 3 D:=hr.set
  have hl':ld1 (st.set o (rdO s a 3 D)) (.ptr b 1)=some (osl f 1 (kVs acc).length):=by rw[aU h'.hb];rfl
  simp only[hl',ab]
  refine sH hr' (by decide) ?_
  refine h'.more ho (by rw[iU];omega) rfl rfl fun st2 f2 h2' ho2=>?_
  have hr2:Rd st2 o s a 3 D:=ho2.trans hr'
  refine vD _ _ ?_
  simp only[qI,aF,ab,av,Nat.zero_add]
  refine iu (c:=93) hr2 (.inl (by decide)) ?_
  simp only[af]
  refine iv (c:=44) hr2 (by decide) ?_
  exact lp h2' hr2 (by decide) (h2 hres) ha
 | succ k ihk=>
  intro acc f st a hk ha h hr hres
  refine Al _ _ ?_
  simp only[vC,aF,ab,av,Nat.zero_add]
  refine eE hr ?_
  have hl:ld1 st (.ptr b 1)=some (osl f 1 (kVs acc).length):=by rw[aU h.hb];rfl
  have c1:(((kVs acc).length:Int)==16)=false:=by
   have:(kVs acc).length≠16:=by rw[iU];omega
   have:((kVs acc).length:Int)≠16:=by omega
   simpa using this
  simp only[bne_self_eq_false,aZ,ab,Bool.not_false,ah,hl,h.own.bo,ae,aW,c1,af]
  refine ih hs ha hr (fun t a1 ha1 hp=>?_) fun hp v a1 e1 hv hv1 he1 ha1=>?_
  ·have h':=h.rd ho (y:=rdO s a1 0 D)
   have hr':Rd (st.set o (rdO s a1 0 D)) o s a1 0 D:=hr.set
   refine h'.more ho (by rw[iU];omega) dH rfl fun st2 f2 h2' ho2=>?_
   have hr2:Rd st2 o s a1 0 D:=ho2.trans hr'
   have h3:TIn st0 o b st2 f2 (kVs (acc++[t])):=by rw[CV];exact h2'
   rw[eh,hp] at hres
   refine vD _ _ ?_
   simp only[qI,aF,ab,av,Nat.zero_add]
   by_cases hc:s[a1]?=some 93
   ·refine lj hr2 hc (by omega) ?_
    simp only[ah]
    have hlt:=(List.getElem?_eq_some_iff.1 hc).1
    rw[drop_cons hc] at hres
    have h4:=h3.rd ho (y:=rdO s (a1+1) 0 D)
    refine h4.fin hr2.set ?_
    have:=h1 (acc++[t]) (a1+1) (by omega) (by simpa using hres)
    simp only[kV,kC,List.map_nil,List.length_nil] at this
    rw[iU];exact this
   ·refine iu hr2 (.inr hc) ?_
    simp only[af]
    by_cases hc2:s[a1]?=some 44
    ·refine lk hr2 hc2 (by omega) ?_
     have hlt:=(List.getElem?_eq_some_iff.1 hc2).1
     have h4:=h3.rd ho (y:=rdO s (a1+1) 0 D)
     refine ihk (acc++[t]) f2 _ (a1+1) (by simp;omega) (by omega) h4 hr2.set ?_
     rw[hres,drop_cons hc2]
     have n1:¬ (44:UInt8)=93:=by decide
     simp only[n1,if_false,if_true]
     cases eh (pT d) k (s.drop (a1+1)) with
     | none=>rfl
     | some p=>simp
    ·refine nQ hr2 hc2 ?_
     have h4:=h3.rd ho (y:=rdO s a1 4 D)
     refine lp h4 hr2.set (by decide) (h2 ?_) ha1
     rw[hres]
     cases hd:s.drop a1 with
     | nil=>rfl
     | cons c r=>
      have hx:s[a1]?=some c:=by rw[← bT,hd];rfl
      have n1:¬ c=93:=fun e=>hc (by rw[hx,e])
      have n2:¬ c=44:=fun e=>hc2 (by rw[hx,e])
      simp only[n1,n2,if_false]
  ·have h':=h.rd ho (y:=rdO s a1 e1 D)
   have hr':Rd (st.set o (rdO s a1 e1 D)) o s a1 e1 D:=hr.set
   refine h'.more ho (by rw[iU];omega) hv hv1 fun st2 f2 h2' ho2=>?_
   have hr2:Rd st2 o s a1 e1 D:=ho2.trans hr'
   refine vD _ _ ?_
   simp only[qI,aF,ab,av,Nat.zero_add]
   refine iu (c:=93) hr2 (.inl he1) ?_
   simp only[af]
   refine iv (c:=44) hr2 he1 ?_
   refine lp h2' hr2 he1 (h2 ?_) ha1
   rw[hres,eh,hp]
theorem AV (ih:fP d D) (hs:s.length≤4096) (ha:a≤s.length) (hr:Rd st o s a 0 D)
  (h1:∀ l a',a'≤s.length→nS d (s.drop a)=some (l,s.drop a')→R (kV (.mk 7 l [] [])) (st.set o (rdO s a' 0 D)))
  (h2:nS d (s.drop a)=none→∀ v a' e',v.plain=true→v.one=true→e'≠0→a'≤s.length→R v (st.set o (rdO s a' e' D))):ax Tryz.prog 138 [.ptr o 0] st R:=by
 refine ax.yi hr.lt ?_
 refine c138 _ ?_
 have e1:aL (ao (ay [(0,1),(1,1),(2,1),(3,1)]) [i64 0,LV.nils,LV.nils,LV.nils] [(0,i64 7)])=some (.agg [i64 7,.nils,.nils,.nils]):=rfl
 have e2:b8 st (.agg [i64 7,.nils,.nils,.nils])=some (.ptr st.length 0,st++[.cells .rw [i64 7,.nils,.nils,.nils]]):=rfl
 simp only[Nw,e1,ab,e2,ag,aF,av,Nat.zero_add]
 have hr':Rd (st++[aq.cells .rw [i64 7,.nils,.nils,.nils]]) o s a 0 D:=hr.app
 have hT:TIn st o st.length (st++[aq.cells .rw [i64 7,.nils,.nils,.nils]]) none (kVs []):=⟨Fr.app,Nat.le_refl _,au,bD.nil,(fun _ h=>by cases h),rfl⟩
 by_cases hc:s[a]?=some 93
 ·refine lj hr' hc (by omega) ?_
  simp only[ah]
  have hlt:=(List.getElem?_eq_some_iff.1 hc).1
  refine (hT.rd hr.lt (y:=rdO s (a+1) 0 D)).fin hr'.set ?_
  exact h1 [] (a+1) (by omega) (by unfold nS;rw[bT,if_pos hc,drop_cons hc];rfl)
 ·refine iu hr' (.inr hc) ?_
  simp only[af]
  have hp:nS d (s.drop a)=eh (pT d) 16 (s.drop a):=by unfold nS;rw[bT,if_neg hc]
  refine AU ih hs hr.lt h1 h2 16 [] none _ a rfl ha hT hr' ?_
  rw[hp]
  cases eh (pT d) 16 (s.drop a)<;>rfl
end
section
variable {st st' st0:aa} {o b:Nat} {s:Tx} {a d D n:Nat} {e:Int} {R:LV→aa→Prop}
theorem nT {f:Option Nat} {acc:List LV} {X x:LV} {bytes:Nat} (h:bD .rw st f 1 acc.length acc) (hX:dJ st 1 X=some (1,[x])) (h1:x.one=true) (hl:acc.length<2 ^ 20) (hb:bytes≤256) :
  ∃ st2 f2,ar st 1 bytes .rw (osl f 1 acc.length) X=some (osl f2 1 (acc++[x]).length,st2)∧bD .rw st2 f2 1 (acc++[x]).length (acc++[x])∧Fr st st2 (fun j=>f=some j)∧(∀ j,f2=some j→f=some j∨st.length≤j):=by
 obtain ⟨st2,f2,q1,q2,q3,q4,_⟩:=h.append (bytes:=bytes) hX (by omega) rfl (by simp[h1]) (cL (by omega) hb)
 rw[List.length_append]
 exact ⟨st2,f2,q1,q2,q3,q4⟩
structure Two (st st3:aa) (fn fb fn2 fb2:Option Nat) (A B:List LV):Prop where
 fr:Fr st st3 (fun j=>fn=some j∨fb=some j)
 oA:bD .rw st3 fn2 1 A.length A
 oB:bD .rw st3 fb2 1 B.length B
 gA:∀ j,fn2=some j→fn=some j∨st.length≤j
 gB:∀ j,fb2=some j→fb=some j∨st.length≤j
 ne:∀ j,fn2=some j→fb2≠some j
theorem gF {f:Option Nat} {k:Nat} {acc:List LV} {j:Nat} (h:bD .rw st f 1 k acc) (e:f=some j):j<st.length:=by subst e;exact h.lt
theorem wh {st1:aa} {fn fb:Option Nat} {A B:List LV} {X x:LV} (hA:bD .rw st fn 1 A.length A) (hB:bD .rw st fb 1 B.length B) (hd:∀ j,fn=some j→fb≠some j) (hlA:A.length<2 ^ 20) (hlB:B.length<2 ^ 20)
  (F1:Fr st st1 (fun _=>False)) (hX:dJ st1 1 X=some (1,[x])) (x1:x.one=true) :
  ∃ st2 fn2,ar st1 1 16 .rw (osl fn 1 A.length) X=some (osl fn2 1 (A++[x]).length,st2)∧Fr st1 st2 (fun j=>fn=some j)∧
   ∀ st3 Y y,Fr st2 st3 (fun _=>False)→dJ st3 1 Y=some (1,[y])→y.one=true→∃ st4 fb2,ar st3 1 1 .rw (osl fb 1 B.length) Y=some (osl fb2 1 (B++[y]).length,st4)∧Two st st4 fn fb fn2 fb2 (A++[x]) (B++[y]):=by
 obtain ⟨st2,fn2,q1,q2,q3,q4⟩:=nT (bytes:=16) (hA.fr F1 fun _ _ h=>h) hX x1 hlA (by omega)
 refine ⟨st2,fn2,q1,q3,fun st3 Y y F3 hY y1=>?_⟩
 have hB1:=(hB.fr F1 fun _ _ h=>h).fr q3 fun j e e2=>hd j e2 e
 obtain ⟨st4,fb2,p1,p2,p3,p4⟩:=nT (bytes:=1) (hB1.fr F3 fun _ _ h=>h) hY y1 hlB (by omega)
 have l1:=F1.len
 have l2:=q3.len
 have l3:=F3.len
 have nn:∀ j,fn2=some j→fb≠some j:=fun j e e2=>by
  rcases q4 j e with h|h
  ·exact hd j h e2
  ·have:=gF hB e2;omega
 refine ⟨st4,fb2,p1,?_,(q2.fr F3 fun _ _ h=>h).fr p3 fun j e e2=>nn j e e2,p2,fun j e=>?_,fun j e=>?_,fun j e e2=>?_⟩
 ·have f12:Fr st st2 (fun j=>fn=some j∨fb=some j):=(F1.mono (S':=fun j=>fn=some j∨fb=some j) fun _ _ h=>h.elim).trans q3 fun j _ h=>.inl h
  exact f12.trans ((F3.mono (S':=fun j=>fb=some j) fun _ _ h=>h.elim).trans p3 fun j _ h=>h) fun j _ h=>.inr h
 ·rcases q4 j e with h|h
  ·exact .inl h
  ·exact .inr (by omega)
 ·rcases p4 j e with h|h
  ·exact .inl h
  ·exact .inr (by omega)
 ·rcases p4 j e2 with h|h
  ·exact nn j e h
  ·have:=gF q2 e;omega
end
end Go.Proofs.YtknegckgmklnhaaGreatDoor
