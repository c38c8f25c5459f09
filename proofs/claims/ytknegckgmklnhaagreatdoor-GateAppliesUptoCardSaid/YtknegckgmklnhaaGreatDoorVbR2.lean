/- Parts of the proof. -/
import Derived.Test.YtknegckgmklnhaaGreatDoorVaR
namespace Go.Proofs.YtknegckgmklnhaaGreatDoor
open Go Go.CP
set_option maxRecDepth 100000
def okB (i:Nat) (c:UInt8):Bool:=isLet c||decide (0<i)&&jT c
theorem l8 {p:UInt8→Bool}:∀ {t:Tx},t.takeWhile p=t↔∀ (i:Nat) (c:UInt8),t[i]?=some c→p c=true
 | []=>by simp
 | x::t=>by
  rw[List.takeWhile_cons]
  by_cases h:p x=true
  ·rw[if_pos h]
   simp only[List.cons.injEq,true_and]
   rw[l8]
   constructor
   ·intro k i c hc
    cases i with
    | zero=>simp at hc;subst hc;exact h
    | succ i=>exact k i c (by simpa using hc)
   ·intro k i c hc
    exact k (i+1) c (by simpa using hc)
  ·rw[if_neg h]
   constructor
   ·intro k;cases k
   ·intro k;exact absurd (k 0 x rfl) h
theorem ve {s:Tx}:named s=true↔(∀ (i:Nat) (c:UInt8),s[i]?=some c→okB i c=true)∧s≠[]∧s.length≤20:=by
 unfold named
 simp only[bp,decide_eq_true_eq]
 rw[and_assoc]
 refine and_congr_left fun _=>?_
 cases s with
 | nil=>simp[dQ]
 | cons c t=>
  rw[iM]
  by_cases h:isLet c=true
  ·rw[if_pos h]
   simp only[List.cons.injEq,true_and]
   rw[l8]
   constructor
   ·intro k i x hx
    cases i with
    | zero=>simp at hx;subst hx;simp[okB,h]
    | succ i=>have:=k i x (by simpa using hx);simp[okB,this]
   ·intro k i x hx
    have:=k (i+1) x (by simpa using hx)
    unfold okB at this
    unfold jT at this ⊢
    simp only[Bool.or_eq_true,bp] at this ⊢
    rcases this with h|h
    ·exact .inl h
    ·exact h.2
  ·rw[if_neg h]
   constructor
   ·intro k;cases k
   ·intro k;have:=k 0 c rfl;unfold okB at this;simp at this;exact absurd this h
theorem oX {p:UInt8→Bool}:∀ {t:Tx} {k:Nat},k≤(t.takeWhile p).length→(k<(t.takeWhile p).length↔∃ x,t[k]?=some x∧p x=true)
 | [],k,h=>by simp
 | x::t,k,h=>by
  rw[List.takeWhile_cons] at h ⊢
  by_cases hx:p x=true
  ·rw[if_pos hx] at h ⊢
   cases k with
   | zero=>simp[hx]
   | succ k=>
    simp only[aW,Nat.add_le_add_iff_right] at h
    have:=oX h
    simpa using this
  ·rw[if_neg hx] at h ⊢
   have:k=0:=by simpa using h
   subst this
   simp only[aR,Nat.lt_irrefl,aN,aM,false_iff,not_exists,not_and]
   rintro y rfl;exact hx
theorem zV {t:Tx} {k:Nat} (h:k≤(dQ t).length):k<(dQ t).length↔∃ c x,t[0]?=some c∧isLet c=true∧t[k]?=some x∧jT x=true:=by
 cases t with
 | nil=>simp[dQ]
 | cons c t=>
  rw[iM] at h ⊢
  by_cases hc:isLet c=true
  ·rw[if_pos hc] at h ⊢
   cases k with
   | zero=>simp[hc,jT]
   | succ k=>
    simp only[aW,Nat.add_le_add_iff_right] at h
    have:=oX h
    simpa[hc] using this
  ·rw[if_neg hc] at h ⊢
   simp[hc]
theorem Ch {t:Tx}:(dQ t).length≤t.length:=by
 have:=congrArg List.length (ju t)
 simp only[b8] at this
 omega
theorem tW {s:Tx} {i:Nat} {c:UInt8} (h:s[i]?=some c):List.take 1 (s.drop i)=[c]:=by
 obtain ⟨h1,h2⟩:=List.getElem?_eq_some_iff.1 h
 rw[b6 h1,h2];rfl
theorem eO {s:Tx} {x y:Nat} (h:x≤y) (hy:y≤s.length):(ob3 (some (i64 x)) (some (i64 y)) none fun l h m=>dm (.str s) l h m)=some (.str ((s.drop x).take (y-x))):=by
 simp only[ob3,fP,dm]
 simp[h,hy]
section
variable {st st':aa} {o:Nat} {s:Tx} {a d n:Nat} {e:Int} {R:LV→aa→Prop}
theorem Ci {i:Nat} {c:UInt8} (hc:s[i]?=some c) (hi:i<2 ^ 40) (hy:okB i c=true→iq (.str s) (i64 s.length) (i64 (i+1:Nat)) R st) (hn:okB i c=false→R (.bool false) st) :
  iq (.str s) (i64 s.length) (i64 i) R st:=by
 refine He _ _ _ ?_
 have hlt:=(List.getElem?_eq_some_iff.1 hc).1
 have c1:(i:Int)<s.length:=by omega
 have g1:(decide (((c.toNat:Nat):Int)≥97))=decide (97≤c.toNat):=decide_eq_decide.2 (by omega)
 have g2:(decide (((c.toNat:Nat):Int)≤122))=decide (c.toNat≤122):=decide_eq_decide.2 (by omega)
 have g3:(decide (((c.toNat:Nat):Int)≥48))=decide (48≤c.toNat):=decide_eq_decide.2 (by omega)
 have g4:(decide (((c.toNat:Nat):Int)≤57))=decide (c.toNat≤57):=decide_eq_decide.2 (by omega)
 have g5:decide ((i:Int) > 0)=decide (0<i):=decide_eq_decide.2 (by omega)
 have e:okB i c=(decide (97≤c.toNat)&&decide (c.toNat≤122)||decide (0<i)&&(decide (48≤c.toNat)&&decide (c.toNat≤57))):=by
  simp only[okB,jT,isLet]
  by_cases h1:97≤c.toNat<;>by_cases h2:c.toNat≤122<;>simp[h1,h2]
 rw[e] at hy hn
 simp only[BG,ad,au,ab,c1,aZ,ah,dB hc,dN,eo,cT,bw,g1,g2,g3,g4,g5,aH,aK hi,bM,bL,ae]
 revert hy hn
 generalize decide (97≤c.toNat)=b1
 generalize decide (c.toNat≤122)=b2
 generalize decide (0<i)=b3
 generalize decide (48≤c.toNat)=b4
 generalize decide (c.toNat≤57)=b5
 intro hy hn
 cases b1<;>cases b2<;>cases b3<;>cases b4<;>cases b5<;>first|exact hy rfl|exact hn rfl
theorem tX (hs:s.length<2 ^ 40) (hR:R (.bool (named s)) st):∀ (d i:Nat),i+d=s.length→(∀ (j:Nat) (c:UInt8),j<i→s[j]?=some c→okB j c=true)→iq (.str s) (i64 s.length) (i64 i) R st
 | 0,i,hi,hp=>by
  refine He _ _ _ ?_
  have c1:¬ (i:Int)<s.length:=by omega
  have hall:∀ (j:Nat) (c:UInt8),s[j]?=some c→okB j c=true:=fun j c hc=>hp j c (by have:=(List.getElem?_eq_some_iff.1 hc).1;omega) hc
  have e1:ck .neq (.str s) (.str [])=some (.bool (decide (s≠[]))):=by
   simp only[ct,iV]
   congr 2
   by_cases h:s=[]<;>simp[h]
  have e2:named s=(decide (s≠[])&&decide (s.length≤20)):=by
   rw[Bool.eq_iff_iff,ve]
   simp only[bp,decide_eq_true_eq]
   exact ⟨fun h=>h.2,fun h=>⟨hall,h⟩⟩
  have e3:decide ((s.length:Int)≤20)=decide (s.length≤20):=decide_eq_decide.2 (by omega)
  rw[e2] at hR
  simp only[BG,ad,au,ab,c1,a8,ae,e1,bF,eo,e3]
  revert hR
  generalize decide (s≠[])=b1
  cases b1
  ·exact fun h=>h
  ·exact fun h=>h
 | d+1,i,hi,hp=>by
  have hlt:i<s.length:=by omega
  have hc:s[i]?=some s[i]:=bg hlt
  refine Ci hc (by omega) (fun h=>tX hs hR d (i+1) (by omega) fun j c hj hjc=>?_) fun h=>?_
  ·rcases Nat.lt_or_ge j i with k|k
   ·exact hp j c k hjc
   ·have:j=i:=by omega
    subst this;rw[hc] at hjc;cases hjc;exact h
  ·have:named s=false:=by
    rw[Bool.eq_false_iff]
    intro hn
    have:=(ve.1 hn).1 i _ hc
    rw[h] at this;cases this
   rw[this] at hR;exact hR
theorem tY (hs:s.length<2 ^ 40):Pu Tryz.prog 142 [.str s] (.bool (named s)):=by
 refine Pu.of (QT _ ?_) rfl rfl
 simp only[Pj,bF,ab]
 exact tX hs (R:=fun v s'=>dp s' (.bool (named s)) v) rfl s.length 0 (by omega) fun j c hj=>by omega
theorem vf {c:UInt8}:named [c]=isLet c:=by
 unfold named
 rw[iM]
 by_cases h:isLet c=true
 ·simp[h]
 ·simp[h]
theorem vg (hs:s.length<2 ^ 40) {fr:Nat}:∀ (k i:Nat) {st:aa},i+k=(dQ (s.drop fr)).length→Rd st o s (fr+i) e d→(tr (.ptr o 0) (i64 fr) (.bool false) R (st.set o (rdO s (fr+(dQ (s.drop fr)).length) e d)))→
  wS (.ptr o 0) (i64 fr) R st:=by
 intro k i
 induction k generalizing i with
 | zero=>
  intro st hi h hR
  have hi:(dQ (s.drop fr)).length=i:=by omega
  rw[hi,h.id] at hR
  have hno:∀ c x,(s.drop fr)[0]?=some c→isLet c=true→(s.drop fr)[i]?=some x→¬ jT x=true:=fun c x h1 h2 h3 h4=>by
   have:=(zV (t:=s.drop fr) (k:=i) (by omega)).2 ⟨c,x,h1,h2,h3,h4⟩
   omega
  refine Hi _ _ ?_
  simp only[BI,aI,ab,ao,aj,h.l1,h.l0,bF,ad,au]
  rw[aL]
  refine ⟨fun hl=>?_,fun _=>wU _ _ _ hR⟩
  have hl:fr+i<s.length:=by omega
  have hfr:fr<s.length:=by omega
  have hc:s[fr]?=some s[fr]:=bg hfr
  have hx:s[fr+i]?=some s[fr+i]:=bg hl
  have e1:(ob3 (some (i64 fr)) (some (i64 (fr+1:Nat))) none fun l h m=>dm (.str s) l h m)=some (.str [s[fr]]):=by
   rw[eO (by omega) (by omega),Nat.add_sub_cancel_left,tW hc]
  simp only[aH,aK (show fr<2 ^ 40 by omega),ab,e1]
  refine (tY (s:=[s[fr]]) (by simp)).call ?_
  rw[vf,cd]
  refine ⟨fun hlet=>?_,fun _=>wU _ _ _ hR⟩
  simp only[ab,h.l1,h.l0,dB hx]
  refine (rn _).call ?_
  have hn:jT s[fr+i]=false:=by
   rw[Bool.eq_false_iff]
   exact hno s[fr] s[fr+i] (by rw[List.getElem?_drop];exact hc) hlet (by rw[List.getElem?_drop];exact hx)
  rw[hn]
  exact wU _ _ _ hR
 | succ k ih=>
  intro st hi h hR
  obtain ⟨c,x,hc,hlet,hx,hnm⟩:=(zV (t:=s.drop fr) (k:=i) (by omega)).1 (by omega)
  rw[List.getElem?_drop] at hc hx
  rw[Nat.add_zero] at hc
  have hfr:=(List.getElem?_eq_some_iff.1 hc).1
  have hl:=(List.getElem?_eq_some_iff.1 hx).1
  refine Hi _ _ ?_
  have c1:((fr+i:Nat):Int)<s.length:=by omega
  have e1:(ob3 (some (i64 fr)) (some (i64 (fr+1:Nat))) none fun l h m=>dm (.str s) l h m)=some (.str [c]):=by
   rw[eO (by omega) (by omega),Nat.add_sub_cancel_left,tW hc]
  simp only[BI,aI,ab,ao,aj,h.l1,h.l0,bF,ad,au,c1,aZ,ah,aH,aK (show fr<2 ^ 40 by omega),e1]
  refine (tY (s:=[c]) (by simp)).call ?_
  rw[vf,hlet]
  simp only[ah,ab,h.l1,h.l0,dB hx]
  refine (rn _).call ?_
  rw[hnm]
  refine wU _ _ _ ?_
  simp only[tr,ah,aI,ab,ao,aj,h.l1,ad,aH,aK (show fr+i<2 ^ 40 by omega),h.s1,aA,af]
  have h':Rd (st.set o (rdO s (fr+i+1) e d)) o s (fr+(i+1)) e d:=h.set
  refine ih (i+1) (by omega) h' ?_
  rw[List.set_set];exact hR
theorem FT (hs:s.length<2 ^ 40) (ha:a≤s.length) (h:Rd st o s a 0 d)
  (h1:∀ n r,iz (s.drop a)=some (n,r)→R (.str n) (st.set o (rdO s (a+n.length) 0 d)))
  (h2:iz (s.drop a)=none→∀ w a' e',e'≠0→a'≤s.length→R (.str w) (st.set o (rdO s a' e' d))):aw Tryz.prog 225 [.ptr o 0] st R:=by
 refine Pm _ ?_
 simp only[NH,aI,ab,ao,aj,h.l1]
 have hlen:=Ch (t:=s.drop a)
 rw[List.length_drop] at hlen
 refine vg (fr:=a) hs (dQ (s.drop a)).length 0 (by omega) h ?_
 have hq:=ju (s.drop a)
 have htake:(s.drop a).take (dQ (s.drop a)).length=dQ (s.drop a):=by
  have:=List.take_left (l₁:=dQ (s.drop a)) (l₂:=(s.drop a).drop (dQ (s.drop a)).length)
  rwa [← hq] at this
 generalize hm:(dQ (s.drop a)).length=m at hlen htake
 have h':Rd (st.set o (rdO s (a+m) 0 d)) o s (a+m) 0 d:=h.set
 simp only[tr,ae,aI,ab,ao,aj,h'.l1,ad,bj]
 by_cases h0:m=0
 ·subst h0
  have c1:(((a+0:Nat):Int)==(a:Int))=true:=by simp
  simp only[c1,ah]
  refine gM h' ?_
  rw[List.set_set]
  have h2':Rd (st.set o (rdO s (a+0) 4 d)) o s (a+0) 4 d:=h.set
  simp only[ab,h2'.l1,h2'.l0,eO (show a≤a+0 by omega) (show a+0≤s.length by omega)]
  refine h2 ?_ _ _ _ (by decide) (by omega)
  unfold iz
  rw[if_pos (.inl (List.eq_nil_of_length_eq_zero hm))]
 ·have c1:(((a+m:Nat):Int)==(a:Int))=false:=by
   have:((a+m:Nat):Int)≠(a:Int):=by omega
   simpa using this
  have c2:IntKind.i64.wrap (((a+m:Nat):Int)-(a:Int))=(m:Int):=by rw[wrap_i64 (by omega) (by omega)];omega
  simp only[c1,ae,ab,h'.l0,ad,dM,c2,cT]
  rw[aL]
  refine ⟨fun hg=>?_,fun hg=>?_⟩
  ·refine gM h' ?_
   rw[List.set_set]
   have h2':Rd (st.set o (rdO s a 7 d)) o s a 7 d:=h.set
   simp only[ab,h2'.l1,h2'.l0,eO (show a≤a by omega) ha]
   refine h2 ?_ _ _ _ (by decide) ha
   unfold iz
   rw[if_pos (.inr (by rw[hm];omega))]
  ·rw[eO (show a≤a+m by omega) (by omega)]
   have e1:a+m-a=m:=by omega
   rw[e1,htake]
   simp only[ab]
   have:=h1 (dQ (s.drop a)) ((s.drop a).drop m) (by
    unfold iz
    rw[if_neg (by rw[hm];intro hc;rcases hc with hc|hc;(rw[hc] at hm;exact h0 hm.symm);omega),hm])
   rw[hm] at this
   exact this
theorem Ie (hs:s.length<2 ^ 40) (ha:a≤s.length) (he:e≠0) (h:Rd st o s a e d)
  (h2:∀ w a',a'≤s.length→R (.str w) (st.set o (rdO s a' e d))):aw Tryz.prog 225 [.ptr o 0] st R:=by
 refine Pm _ ?_
 simp only[NH,aI,ab,ao,aj,h.l1]
 have hlen:=Ch (t:=s.drop a)
 rw[List.length_drop] at hlen
 refine vg (fr:=a) hs (dQ (s.drop a)).length 0 (by omega) h ?_
 generalize hm:(dQ (s.drop a)).length=m at hlen
 have h':Rd (st.set o (rdO s (a+m) e d)) o s (a+m) e d:=h.set
 have fin:(bd (ob3 (some (i64 a)) (some (i64 (a+m:Nat))) none fun l h m=>dm (.str s) l h m) fun v59=>R v59 (st.set o (rdO s (a+m) e d))):=by
  rw[eO (show a≤a+m by omega) (by omega)]
  exact h2 _ _ (by omega)
 simp only[tr,ae,aI,ab,ao,aj,h'.l1,ad,bj]
 rw[cd]
 refine ⟨fun _=>?_,fun _=>?_⟩
 ·refine zU h' he ?_
  simp only[ab,h'.l1,h'.l0]
  exact fin
 ·simp only[dM,ad,ab,cT]
  rw[cd]
  refine ⟨fun _=>?_,fun _=>?_⟩
  ·refine zU h' he ?_
   simp only[ab,h'.l1,h'.l0]
   exact fin
  ·simp only[ab,h'.l0]
   exact fin
theorem gw {x:Nat} (h:x≤s.length):(ob3 (some (i64 x)) none none fun l h m=>dm (.str s) l h m)=some (.str (s.drop x)):=by
 simp only[ob3,fP,dm]
 simp[h]
 rw[List.take_of_length_le (by simp)]
theorem zW (hs:s.length<2 ^ 40) (h:Rd st o s a e d) {x5 x9 x10 x11:LV} {w:Tx} (hw:w.length<2 ^ 40)
  (hR:∀ n,a+n≤s.length→bd (iw [x5,i64 n]) fun v1=>bd (al BinOp.add x11 (i64 1)) fun v2=>tq (.ptr o 0) v1 (.str w) (i64 n) x9 x10 v2 R st) :
  ∀ (k n:Nat),n+k=w.length→a+n≤s.length→rO (.ptr o 0) x5 (.str w) (i64 n) x9 x10 x11 R st
 | 0,n,hn,ha=>by
  refine DK _ _ _ _ _ _ _ ?_
  have c1:¬ (n:Int)<w.length:=by omega
  simp only[wQ,bF,ab,ad,au,c1,a8,ae]
  refine wR _ _ _ _ _ _ _ _ ?_
  simp only[rQ,ae]
  exact hR n ha
 | k+1,n,hn,ha=>by
  refine DK _ _ _ _ _ _ _ ?_
  have c1:(n:Int)<w.length:=by omega
  have hwn:w[n]?=some (w[n]'(by omega)):=bg (by omega)
  have e1:IntKind.i64.wrap ((a:Int)+(n:Int))=((a+n:Nat):Int):=by rw[wrap_i64 (by omega) (by omega)];omega
  simp only[wQ,bF,ab,ad,au,c1,aZ,ah,aI,ao,aj,h.l1,h.l0,aH,e1]
  rw[aL]
  refine ⟨fun hl=>?_,fun _=>?_⟩
  ·have hl:a+n<s.length:=by omega
   have hx:s[a+n]?=some s[a+n]:=bg hl
   simp only[dB hx,dB hwn,ab,ad,bj]
   refine wR _ _ _ _ _ _ _ _ ?_
   simp only[rQ,ad,aH,aK (show n<2 ^ 40 by omega),ab]
   rw[cd]
   exact ⟨fun _=>zW hs h hw hR k (n+1) (by omega) (by omega),fun _=>hR n ha⟩
  ·refine wR _ _ _ _ _ _ _ _ ?_
   simp only[rQ,ae]
   exact hR n ha
structure SlT (st:aa) (A:LV) (ws:List Tx):Prop where
 len:bB A=some (i64 ws.length)
 ix:∀ i:Nat,i<ws.length→∃ p,bn 1 A (i64 i)=some p∧ld1 st p=(ws[i]?).map .str
theorem vh (hs:s.length<2 ^ 40) (ha:a≤s.length) {A:LV} {ws:List Tx} (hA:SlT st A ws) (hws:ws.length<2 ^ 40) (hw:∀ w ∈ ws,w.length<2 ^ 40) (h:Rd st o s a 0 d)
  (h1:∀ j w,ws[j]?=some w→gh (s.drop a) ws 0=some (j,s.drop (a+w.length))→a+w.length≤s.length→R (i64 j) (st.set o (rdO s (a+w.length) 0 d)))
  (h2:gh (s.drop a) ws 0=none→∀ a',a'≤s.length→R (i64 0) (st.set o (rdO s a' 4 d))) :
  ∀ (k i far:Nat) (x7 x8:LV),i+k=ws.length→a+far≤s.length→gh (s.drop a) ws 0=gh (s.drop a) (ws.drop i) i→tq (.ptr o 0) (i64 far) x7 x8 A (i64 ws.length) (i64 i) R st
 | 0,i,far,x7,x8,hi,hf,hp=>by
  refine Hf _ _ _ _ _ _ _ ?_
  have c1:¬ (i:Int)<ws.length:=by omega
  have e1:IntKind.i64.wrap ((a:Int)+(far:Int))=((a+far:Nat):Int):=by rw[wrap_i64 (by omega) (by omega)];omega
  simp only[BH,ad,au,ab,c1,a8,ae,aI,ao,aj,h.l1,aH,e1]
  refine gM h ?_
  refine h2 ?_ _ hf
  have e2:ws.drop i=[]:=bR (by omega)
  rw[hp,e2];rfl
 | k+1,i,far,x7,x8,hi,hf,hp=>by
  refine Hf _ _ _ _ _ _ _ ?_
  have hlt:i<ws.length:=by omega
  have c1:(i:Int)<ws.length:=by omega
  obtain ⟨p,e1,e2⟩:=hA.ix i hlt
  have hx:ws[i]?=some ws[i]:=bg hlt
  have hwl:=hw _ (List.getElem_mem hlt)
  have hd:ws.drop i=ws[i]::ws.drop (i+1):=b6 hlt
  generalize ws[i]=w at hx hwl hd
  rw[hx] at e2
  simp only[Option.map_some] at e2
  simp only[BH,ad,au,ab,c1,aZ,ah,e1,e2,aI,ao,aj,h.l0,h.l1,gw ha]
  refine (FR _ _).call ?_
  rw[cd]
  refine ⟨fun hpre=>?_,fun hpre=>?_⟩
  ·have hle:a+w.length≤s.length:=by
    have:=(List.isPrefixOf_iff_prefix.1 hpre).length_le
    rw[List.length_drop] at this;omega
   have e3:IntKind.i64.wrap ((a:Int)+(w.length:Int))=((a+w.length:Nat):Int):=by rw[wrap_i64 (by omega) (by omega)];omega
   simp only[ab,h.l1,bF,ad,aH,e3,h.s1,aA,af]
   refine h1 i w hx ?_ hle
   rw[hp,hd,gh,if_pos hpre,List.drop_drop]
  ·refine zW hs h hwl (fun n hn=>?_) w.length 0 (by omega) (by omega)
   simp only[kP,ab,aH,ad,aK (show i<2 ^ 40 by omega)]
   have e4:max (far:Int) (n:Int)=((max far n:Nat):Int):=by omega
   rw[e4]
   refine vh hs ha hA hws hw h h1 h2 k (i+1) (max far n) _ _ (by omega) (by omega) ?_
   rw[hp,hd,gh,if_neg (by rw[hpre];simp)]
theorem FU (hs:s.length<2 ^ 40) (ha:a≤s.length) {A:LV} {ws:List Tx} (hA:SlT st A ws) (hws:ws.length<2 ^ 40) (hw:∀ w ∈ ws,w.length<2 ^ 40) (h:Rd st o s a 0 d)
  (h1:∀ j w,ws[j]?=some w→gh (s.drop a) ws 0=some (j,s.drop (a+w.length))→a+w.length≤s.length→R (i64 j) (st.set o (rdO s (a+w.length) 0 d)))
  (h2:gh (s.drop a) ws 0=none→∀ a',a'≤s.length→R (i64 0) (st.set o (rdO s a' 4 d))):aw Tryz.prog 140 [.ptr o 0,A] st R:=by
 refine QU _ _ ?_
 simp only[Pl,hA.len,ab]
 exact vh hs ha hA hws hw h h1 h2 ws.length 0 0 _ _ (by omega) (by omega) rfl
theorem zX:Pu Tryz.prog 109 [] (.agg ((bQ.take 5).map .str)):=Pu.of (c109 (bu (v:=.agg ((bQ.take 5).map .str)) _ rfl)) rfl rfl
end
mutual
def kC:KT→List LV
 | .mk f l ns ls=>[i64 f,.isl (kVs l) l.length none,.isl (ns.map .str) ns.length none,.isl (ls.map .bool) ls.length none]
def kVs:List KT→List LV
 | []=>[]
 | t::ts=>.iptr (kC t) 0::kVs ts
end
abbrev kV (t:KT):LV:=.iptr (kC t) 0
theorem xG:∀ {l:List KT},kVs l=l.map kV
 | []=>rfl
 | t::ts=>by simp[kVs,xG (l:=ts)]
theorem jv {l:List KT}:(kVs l).length=l.length:=by rw[xG];simp
theorem Ef {a b:List KT}:kVs (a++b)=kVs a++kVs b:=by simp[xG]
theorem tZ {t:KT}:kC t=[i64 t.f,.isl (kVs t.l) t.l.length none,.isl (t.ns.map .str) t.ns.length none,.isl (t.ls.map .bool) t.ls.length none]:=by cases t;rfl
mutual
theorem fm:∀ {t:KT},LV.aG (kC t)=true
 | .mk f l ns ls=>by
  simp only[kC,LV.aG,LV.plain,Bool.true_and,Bool.and_true,bp]
  exact ⟨qw,bV fun _ _=>rfl,bV fun _ _=>rfl⟩
theorem qw:∀ {l:List KT},LV.aG (kVs l)=true
 | []=>rfl
 | t::ts=>by simp only[kVs,LV.aG,LV.plain,bp];exact ⟨fm,qw⟩
end
theorem eu {t:KT}:(kV t).plain=true:=by simp only[LV.plain];exact fm
def gy (d D:Nat):Prop:=∀ {s:Tx},s.length≤4096→∀ {st:aa} {o a:Nat} {R:LV→aa→Prop},a≤s.length→Rd st o s a 0 D→
 (∀ t a',a'≤s.length→pT d (s.drop a)=some (t,s.drop a')→R (kV t) (st.set o (rdO s a' 0 D)))→
 (pT d (s.drop a)=none→∀ v a' e',v.plain=true→v.one=true→e'≠0→a'≤s.length→R v (st.set o (rdO s a' e' D)))→aw Tryz.prog 74 [.ptr o 0] st R
section
variable {st st' st0:aa} {o b:Nat} {s:Tx} {a d D n:Nat} {e:Int} {R:LV→aa→Prop}
theorem ua (h:Rd st o s a e D) (he:e≠0) (hR:R .nilp st):aw Tryz.prog 74 [.ptr o 0] st R:=by
 refine aw.Hc ?_
 refine c74 _ ?_
 have e1:cu st (.ptr o 0)=some (.ptr st.length 0,st++[.cells .rw [.ptr o 0]]):=rfl
 have e2:ld1 (st++[.cells .rw [.ptr o 0]]) (.ptr st.length 0)=some (.ptr o 0):=by rw[bx ay];rfl
 have e3:(e != 0)=true:=by simpa using he
 simp only[w74,e1,af,e2,ab,aI,ao,aj]
 refine fg h.app ?_
 simp only[e3,ah]
 exact ⟨.nilp,Fr.app,rfl,rfl,hR⟩
structure TIn (st0:aa) (o b:Nat) (st:aa) (f:Option Nat) (acc:List LV):Prop where
 fr:Fr st0 st (fun j=>j=o)
 nb:st0.length≤b
 hb:st[b]?=some (.cells .rw [i64 7,osl f 1 acc.length,.nils,.nils])
 own:ca .rw st f 1 acc.length acc
 nf:∀ j,f=some j→st0.length≤j∧j≠b
 pl:LV.aG acc=true
theorem TIn.rd {f:Option Nat} {acc:List LV} (h:TIn st0 o b st f acc) (ho:o<st0.length) {y:ar}:TIn st0 o b (st.set o y) f acc:=by
 have F:Fr st (st.set o y) (fun j=>j=o):=Fr.set rfl
 exact ⟨h.fr.trans F fun _ _ h=>h,h.nb,F.get h.hb (by have:=h.nb;omega),h.own.fr F fun j e=>by have:=(h.nf j e).1;omega,h.nf,h.pl⟩
theorem TIn.more {f:Option Nat} {acc:List LV} (h:TIn st0 o b st f acc) (ho:o<st0.length) (hl:acc.length<2 ^ 20) {v:LV} (hv:v.plain=true) (h1:v.one=true) {K:aa→Prop}
  (hK:∀ st2 f2,TIn st0 o b st2 f2 (acc++[v])→st2[o]?=st[o]?→K st2) :
  ld1 st (.ptr b 1)=some (osl f 1 acc.length)∧bd2 (cq st 1 (aB (fun i=>some (i*1,1)) (List.replicate 1 [LV.nilp]).flatten [(0,v)])) fun v23 st24=>
   ld1 st24 (.ptr b 1)=some (osl f 1 acc.length)∧bd2 (bo st24 1 8 Md.rw (osl f 1 acc.length) v23) fun v25 st26=>bd2 (lmk (stV st26 1 (.ptr b 1) v25)) fun _v29 st30=>K st30:=by
 have hl1:ld1 st (.ptr b 1)=some (osl f 1 acc.length):=by rw[bx h.hb];rfl
 have ef:aB (fun i=>some (i*1,1)) (List.replicate 1 [LV.nilp]).flatten [(0,v)]=some [v]:=by
  cases v<;>first|rfl|cases h1
 rw[ef]
 simp only[bE,af]
 have hb1:(st++[ar.cells .rw [v]])[b]?=some (.cells .rw [i64 7,osl f 1 acc.length,.nils,.nils]):=cb h.hb
 have hl2:ld1 (st++[ar.cells .rw [v]]) (.ptr b 1)=some (osl f 1 acc.length):=by rw[bx hb1];rfl
 refine ⟨hl1,hl2,?_⟩
 have ho1:=h.own.fr (st':=st++[.cells .rw [v]]) (S:=fun _=>False) Fr.app (fun _ _ h=>h)
 obtain ⟨st2,f2,q1,q2,q3,q4,_⟩:=ho1.append (x:=.sl st.length 0 1 (.ex 1)) (k:=1) (new:=[v]) (bytes:=8) (by simp[eA]) (by omega) rfl (by simp[h1]) (dR (by omega) (by omega))
 rw[q1]
 simp only[af]
 have hbl:b<st.length:=cA h.hb
 have hb2:=q3.get hb1 (fun e=>(h.nf _ e).2 rfl)
 have e1:stV st2 1 (.ptr b 1) (osl f2 1 (acc.length+1))=some (st2.set b (.cells .rw [i64 7,osl f2 1 (acc.length+1),.nils,.nils])):=by
  rw[dZ hb2 (by simp) (by cases f2<;>rfl)];rfl
 rw[e1]
 simp only[aA,af]
 have F:Fr st2 (st2.set b (.cells .rw [i64 7,osl f2 1 (acc.length+1),.nils,.nils])) (fun j=>j=b):=Fr.set rfl
 have fr1:Fr st0 (st++[ar.cells .rw [v]]) (fun j=>j=o):=h.fr.trans (Fr.app (S:=fun j=>j=o)) fun _ _ h=>h
 have fr2:Fr st0 st2 (fun j=>j=o):=fr1.trans q3 fun j hj e=>by have:=(h.nf j e).1;omega
 have nf2:∀ j,f2=some j→st0.length≤j∧j≠b:=fun j e=>by
  rcases q4 j e with e|e
  ·exact h.nf j e
  ·have:=h.fr.len
   simp only[b8,aW,aR] at e
   exact ⟨by omega,by omega⟩
 refine hK _ f2 ⟨fr2.trans F fun j hj e=>by have:=h.nb;omega,h.nb,?_,?_,nf2,?_⟩ ?_
 ·rw[b8];exact bO hb2
 ·rw[b8]
  exact q2.fr F fun j e=>(nf2 j e).2
 ·rw[dP,h.pl];simp[LV.aG,hv]
 ·have hol:o<st.length:=Nat.lt_of_lt_of_le ho h.fr.len
  rw[bK (by have:=h.nb;omega),q3.same o (by simp;omega) fun e=>by have:=(h.nf o e).1;omega,bW hol]
def TQ (st0:aa) (o:Nat) (R:LV→aa→Prop) (r:LV) (st':aa):Prop:=
 ∃ v y,Fr st0 st' (fun j=>j=o)∧st'[o]?=some y∧y.lt st0.length=true∧dp (fN st0.length st') v r∧v.plain=true∧R v (st0.set o y)
theorem qx:(rdO s a e D).lt n=true:=rfl
theorem TIn.fin {f:Option Nat} {acc:List LV} (h:TIn st0 o b st f acc) (hr:Rd st o s a e D) (hR:R (.iptr [i64 7,.isl acc acc.length none,.isl [] 0 none,.isl [] 0 none] 0) (st0.set o (rdO s a e D))):TQ st0 o R (.ptr b 0) st:=by
 refine ⟨_,_,h.fr,hr,qx,?_,by simp[LV.plain,LV.aG,h.pl],hR⟩
 refine .inl ⟨b,.rw,_,rfl,(gJ h.nb).trans h.hb,rfl,by simp,?_⟩
 simp only[aW,aR,List.take_succ_cons,List.take_zero]
 exact ⟨_,_,rfl,rfl,_,_,rfl,eL (h.own.fN fun j e=>(h.nf j e).1) rfl (bU _ h.pl),_,_,rfl,.inr (.inr ⟨.inr rfl,rfl,rfl⟩),_,_,rfl,.inr (.inr ⟨.inr rfl,rfl,rfl⟩),rfl⟩
def oY (d:Nat) (r:Tx):Option (List KT × Tx):=if r.head?=some 93 then some ([],r.tail) else eN (pT d) 16 r
theorem drop_cons {c:UInt8} (h:s[a]?=some c):s.drop a=c::s.drop (a+1):=by
 obtain ⟨h1,h2⟩:=List.getElem?_eq_some_iff.1 h
 rw[b6 h1,h2]
theorem cx:(s.drop a).head?=s[a]?:=by rw[List.head?_drop]
theorem l9 {f:Option Nat} {acc:List LV} (h:TIn st0 o b st f acc) (hr:Rd st o s a e D) (he:e≠0) (hR:∀ v a' e',v.plain=true→v.one=true→e'≠0→a'≤s.length→R v (st0.set o (rdO s a' e' D))) (ha:a≤s.length) :
  tu (.ptr o 0) (.ptr b 0) (TQ st0 o R) st:=by
 refine BL _ _ ?_
 simp only[wW,aI,ab,ao,aj]
 refine fg hr ?_
 have e3:(e != 0)=true:=by simpa using he
 simp only[e3,bw,ab,bM,ae]
 exact h.fin hr (hR _ _ _ (by simp[LV.plain,LV.aG,h.pl]) rfl he ha)
theorem Cj (ih:gy d D) (hs:s.length≤4096) (ho:o<st0.length) {res:Option (List KT × Tx)}
  (h1:∀ l a',a'≤s.length→res=some (l,s.drop a')→R (kV (.mk 7 l [] [])) (st0.set o (rdO s a' 0 D)))
  (h2:res=none→∀ v a' e',v.plain=true→v.one=true→e'≠0→a'≤s.length→R v (st0.set o (rdO s a' e' D))) :
  ∀ (k:Nat) (acc:List KT) (f:Option Nat) (st:aa) (a:Nat),acc.length+k=16→a≤s.length→TIn st0 o b st f (kVs acc)→Rd st o s a 0 D→
   (res=match eN (pT d) k (s.drop a) with
    | none=>none
    | some (l,r)=>some (acc++l,r))→tu (.ptr o 0) (.ptr b 0) (TQ st0 o R) st:=by
 intro k
 induction k with
 | zero=>
  intro acc f st a hk ha h hr hres
  have hres:res=none:=hres
  refine BL _ _ ?_
  simp only[wW,aI,ab,ao,aj]
  refine fg hr ?_
  have hl:ld1 st (.ptr b 1)=some (osl f 1 (kVs acc).length):=by rw[bx h.hb];rfl
  have c1:(((kVs acc).length:Int)==16)=true:=by
   have:(kVs acc).length=16:=by rw[jv];omega
   rw[this];rfl
  simp only[bne_self_eq_false,bw,ab,bL,ah,hl,h.own.bB,ad,bj,c1,hr.l1]
  refine gM hr ?_
  have h':=h.rd ho (y:=rdO s a 3 D)
  have hr':Rd (st.set o (rdO s a 3 D)) o s a 3 D:=hr.set
  have hl':ld1 (st.set o (rdO s a 3 D)) (.ptr b 1)=some (osl f 1 (kVs acc).length):=by rw[bx h'.hb];rfl
  simp only[hl',ab]
  refine ua hr' (by decide) ?_
  refine h'.more ho (by rw[jv];omega) rfl rfl fun st2 f2 h2' ho2=>?_
  have hr2:Rd st2 o s a 3 D:=ho2.trans hr'
  refine wX _ _ ?_
  simp only[rR,aI,ab,ao,aj]
  refine ja (c:=93) hr2 (.inl (by decide)) ?_
  simp only[ae]
  refine jb (c:=44) hr2 (by decide) ?_
  exact l9 h2' hr2 (by decide) (h2 hres) ha
 | succ k ihk=>
  intro acc f st a hk ha h hr hres
  refine BL _ _ ?_
  simp only[wW,aI,ab,ao,aj]
  refine fg hr ?_
  have hl:ld1 st (.ptr b 1)=some (osl f 1 (kVs acc).length):=by rw[bx h.hb];rfl
  have c1:(((kVs acc).length:Int)==16)=false:=by
   have:(kVs acc).length≠16:=by rw[jv];omega
   have:((kVs acc).length:Int)≠16:=by omega
   simpa using this
  simp only[bne_self_eq_false,bw,ab,bL,ah,hl,h.own.bB,ad,bj,c1,ae]
  refine ih hs ha hr (fun t a1 ha1 hp=>?_) fun hp v a1 e1 hv hv1 he1 ha1=>?_
  ·have h':=h.rd ho (y:=rdO s a1 0 D)
   have hr':Rd (st.set o (rdO s a1 0 D)) o s a1 0 D:=hr.set
   refine h'.more ho (by rw[jv];omega) eu rfl fun st2 f2 h2' ho2=>?_
   have hr2:Rd st2 o s a1 0 D:=ho2.trans hr'
   have h3:TIn st0 o b st2 f2 (kVs (acc++[t])):=by rw[Ef];exact h2'
   rw[eN,hp] at hres
   refine wX _ _ ?_
   simp only[rR,aI,ab,ao,aj]
   by_cases hc:s[a1]?=some 93
   ·refine lY hr2 hc (by omega) ?_
    simp only[ah]
    have hlt:=(List.getElem?_eq_some_iff.1 hc).1
    rw[drop_cons hc] at hres
    have h4:=h3.rd ho (y:=rdO s (a1+1) 0 D)
    refine h4.fin hr2.set ?_
    have:=h1 (acc++[t]) (a1+1) (by omega) (by simpa using hres)
    simp only[kV,kC,List.map_nil,aR] at this
    rw[jv];exact this
   ·refine ja hr2 (.inr hc) ?_
    simp only[ae]
    by_cases hc2:s[a1]?=some 44
    ·refine lZ hr2 hc2 (by omega) ?_
     have hlt:=(List.getElem?_eq_some_iff.1 hc2).1
     have h4:=h3.rd ho (y:=rdO s (a1+1) 0 D)
     refine ihk (acc++[t]) f2 _ (a1+1) (by simp;omega) (by omega) h4 hr2.set ?_
     rw[hres,drop_cons hc2]
     have n1:¬ (44:UInt8)=93:=by decide
     simp only[n1,if_false,if_true]
     cases eN (pT d) k (s.drop (a1+1)) with
     | none=>rfl
     | some p=>simp
    ·refine oW hr2 hc2 ?_
     have h4:=h3.rd ho (y:=rdO s a1 4 D)
     refine l9 h4 hr2.set (by decide) (h2 ?_) ha1
     rw[hres]
     cases hd:s.drop a1 with
     | nil=>rfl
     | cons c r=>
      have hx:s[a1]?=some c:=by rw[← cx,hd];rfl
      have n1:¬ c=93:=fun e=>hc (by rw[hx,e])
      have n2:¬ c=44:=fun e=>hc2 (by rw[hx,e])
      simp only[n1,n2,if_false]
  ·have h':=h.rd ho (y:=rdO s a1 e1 D)
   have hr':Rd (st.set o (rdO s a1 e1 D)) o s a1 e1 D:=hr.set
   refine h'.more ho (by rw[jv];omega) hv hv1 fun st2 f2 h2' ho2=>?_
   have hr2:Rd st2 o s a1 e1 D:=ho2.trans hr'
   refine wX _ _ ?_
   simp only[rR,aI,ab,ao,aj]
   refine ja (c:=93) hr2 (.inl he1) ?_
   simp only[ae]
   refine jb (c:=44) hr2 he1 ?_
   refine l9 h2' hr2 he1 (h2 ?_) ha1
   rw[hres,eN,hp]
theorem Ck (ih:gy d D) (hs:s.length≤4096) (ha:a≤s.length) (hr:Rd st o s a 0 D)
  (h1:∀ l a',a'≤s.length→oY d (s.drop a)=some (l,s.drop a')→R (kV (.mk 7 l [] [])) (st.set o (rdO s a' 0 D)))
  (h2:oY d (s.drop a)=none→∀ v a' e',v.plain=true→v.one=true→e'≠0→a'≤s.length→R v (st.set o (rdO s a' e' D))):aw Tryz.prog 138 [.ptr o 0] st R:=by
 refine aw.zF hr.lt ?_
 refine c138 _ ?_
 have e1:bh (aB (aF [(0,1),(1,1),(2,1),(3,1)]) [i64 0,LV.nils,LV.nils,LV.nils] [(0,i64 7)])=some (.agg [i64 7,.nils,.nils,.nils]):=rfl
 have e2:cu st (.agg [i64 7,.nils,.nils,.nils])=some (.ptr st.length 0,st++[.cells .rw [i64 7,.nils,.nils,.nils]]):=rfl
 simp only[Ps,e1,ab,e2,af,aI,ao,aj]
 have hr':Rd (st++[ar.cells .rw [i64 7,.nils,.nils,.nils]]) o s a 0 D:=hr.app
 have hT:TIn st o st.length (st++[ar.cells .rw [i64 7,.nils,.nils,.nils]]) none (kVs []):=⟨Fr.app,Nat.le_refl _,ay,ca.nil,(fun _ h=>by cases h),rfl⟩
 by_cases hc:s[a]?=some 93
 ·refine lY hr' hc (by omega) ?_
  simp only[ah]
  have hlt:=(List.getElem?_eq_some_iff.1 hc).1
  refine (hT.rd hr.lt (y:=rdO s (a+1) 0 D)).fin hr'.set ?_
  exact h1 [] (a+1) (by omega) (by unfold oY;rw[cx,if_pos hc,drop_cons hc];rfl)
 ·refine ja hr' (.inr hc) ?_
  simp only[ae]
  have hp:oY d (s.drop a)=eN (pT d) 16 (s.drop a):=by unfold oY;rw[cx,if_neg hc]
  refine Cj ih hs hr.lt h1 h2 16 [] none _ a rfl ha hT hr' ?_
  rw[hp]
  cases eN (pT d) 16 (s.drop a)<;>rfl
end
section
variable {st st' st0:aa} {o b:Nat} {s:Tx} {a d D n:Nat} {e:Int} {R:LV→aa→Prop}
theorem oZ {f:Option Nat} {acc:List LV} {X x:LV} {bytes:Nat} (h:ca .rw st f 1 acc.length acc) (hX:eA st 1 X=some (1,[x])) (h1:x.one=true) (hl:acc.length<2 ^ 20) (hb:bytes≤256) :
  ∃ st2 f2,bo st 1 bytes .rw (osl f 1 acc.length) X=some (osl f2 1 (acc++[x]).length,st2)∧ca .rw st2 f2 1 (acc++[x]).length (acc++[x])∧Fr st st2 (fun j=>f=some j)∧(∀ j,f2=some j→f=some j∨st.length≤j):=by
 obtain ⟨st2,f2,q1,q2,q3,q4,_⟩:=h.append (bytes:=bytes) hX (by omega) rfl (by simp[h1]) (dR (by omega) hb)
 rw[b8]
 exact ⟨st2,f2,q1,q2,q3,q4⟩
structure Two (st st3:aa) (fn fb fn2 fb2:Option Nat) (A B:List LV):Prop where
 fr:Fr st st3 (fun j=>fn=some j∨fb=some j)
 oA:ca .rw st3 fn2 1 A.length A
 oB:ca .rw st3 fb2 1 B.length B
 gA:∀ j,fn2=some j→fn=some j∨st.length≤j
 gB:∀ j,fb2=some j→fb=some j∨st.length≤j
 ne:∀ j,fn2=some j→fb2≠some j
theorem ir {f:Option Nat} {k:Nat} {acc:List LV} {j:Nat} (h:ca .rw st f 1 k acc) (e:f=some j):j<st.length:=by subst e;exact h.lt
theorem xH {st1:aa} {fn fb:Option Nat} {A B:List LV} {X x:LV} (hA:ca .rw st fn 1 A.length A) (hB:ca .rw st fb 1 B.length B) (hd:∀ j,fn=some j→fb≠some j) (hlA:A.length<2 ^ 20) (hlB:B.length<2 ^ 20)
  (F1:Fr st st1 (fun _=>False)) (hX:eA st1 1 X=some (1,[x])) (x1:x.one=true) :
  ∃ st2 fn2,bo st1 1 16 .rw (osl fn 1 A.length) X=some (osl fn2 1 (A++[x]).length,st2)∧Fr st1 st2 (fun j=>fn=some j)∧
   ∀ st3 Y y,Fr st2 st3 (fun _=>False)→eA st3 1 Y=some (1,[y])→y.one=true→∃ st4 fb2,bo st3 1 1 .rw (osl fb 1 B.length) Y=some (osl fb2 1 (B++[y]).length,st4)∧Two st st4 fn fb fn2 fb2 (A++[x]) (B++[y]):=by
 obtain ⟨st2,fn2,q1,q2,q3,q4⟩:=oZ (bytes:=16) (hA.fr F1 fun _ _ h=>h) hX x1 hlA (by omega)
 refine ⟨st2,fn2,q1,q3,fun st3 Y y F3 hY y1=>?_⟩
 have hB1:=(hB.fr F1 fun _ _ h=>h).fr q3 fun j e e2=>hd j e2 e
 obtain ⟨st4,fb2,p1,p2,p3,p4⟩:=oZ (bytes:=1) (hB1.fr F3 fun _ _ h=>h) hY y1 hlB (by omega)
 have l1:=F1.len
 have l2:=q3.len
 have l3:=F3.len
 have nn:∀ j,fn2=some j→fb≠some j:=fun j e e2=>by
  rcases q4 j e with h|h
  ·exact hd j h e2
  ·have:=ir hB e2;omega
 refine ⟨st4,fb2,p1,?_,(q2.fr F3 fun _ _ h=>h).fr p3 fun j e e2=>nn j e e2,p2,fun j e=>?_,fun j e=>?_,fun j e e2=>?_⟩
 ·have f12:Fr st st2 (fun j=>fn=some j∨fb=some j):=(F1.mono (S':=fun j=>fn=some j∨fb=some j) fun _ _ h=>h.elim).trans q3 fun j _ h=>.inl h
  exact f12.trans ((F3.mono (S':=fun j=>fb=some j) fun _ _ h=>h.elim).trans p3 fun j _ h=>h) fun j _ h=>.inr h
 ·rcases q4 j e with h|h
  ·exact .inl h
  ·exact .inr (by omega)
 ·rcases p4 j e with h|h
  ·exact .inl h
  ·exact .inr (by omega)
 ·rcases p4 j e2 with h|h
  ·exact nn j e h
  ·have:=ir q2 e;omega
end
end Go.Proofs.YtknegckgmklnhaaGreatDoor
