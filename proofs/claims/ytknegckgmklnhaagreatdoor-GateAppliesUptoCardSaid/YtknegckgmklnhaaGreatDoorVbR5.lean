/- Parts of the proof. -/
import Derived.Test.YtknegckgmklnhaaGreatDoorVbR2
namespace Go.Proofs.YtknegckgmklnhaaGreatDoor
open Go Go.CP
set_option maxRecDepth 100000
structure OIn (st0:aa) (o b:Nat) (st:aa) (fl fn fb:Option Nat) (L:List LV) (ns:List Tx) (ls:List Bool):Prop where
 fr:Fr st0 st (fun j=>j=o)
 nb:st0.length≤b
 hb:st[b]?=some (.cells .rw [i64 8,osl fl 1 L.length,osl fn 1 (ns.map LV.str).length,osl fb 1 (ls.map LV.bool).length])
 ol:ca .rw st fl 1 L.length L
 on:ca .rw st fn 1 (ns.map LV.str).length (ns.map .str)
 ob:ca .rw st fb 1 (ls.map LV.bool).length (ls.map .bool)
 gl:∀ j,fl=some j→st0.length≤j∧j≠b
 gn:∀ j,fn=some j→st0.length≤j∧j≠b
 gb:∀ j,fb=some j→st0.length≤j∧j≠b
 d1:∀ j,fl=some j→fn≠some j∧fb≠some j
 d2:∀ j,fn=some j→fb≠some j
 pl:LV.aG L=true
section
variable {st st' st0:aa} {o b:Nat} {s:Tx} {a d D n:Nat} {e:Int} {R:LV→aa→Prop} {fl fn fb:Option Nat} {L:List LV} {ns:List Tx} {ls:List Bool}
theorem OIn.rd (h:OIn st0 o b st fl fn fb L ns ls) (ho:o<st0.length) {y:ar}:OIn st0 o b (st.set o y) fl fn fb L ns ls:=by
 have F:Fr st (st.set o y) (fun j=>j=o):=Fr.set rfl
 have q:∀ {f:Option Nat},(∀ j,f=some j→st0.length≤j∧j≠b)→∀ j,f=some j→¬ (j=o):=fun g j e=>by have:=(g j e).1;omega
 exact ⟨h.fr.trans F fun _ _ h=>h,h.nb,F.get h.hb (by have:=h.nb;omega),h.ol.fr F (q h.gl),h.on.fr F (q h.gn),h.ob.fr F (q h.gb),h.gl,h.gn,h.gb,h.d1,h.d2,h.pl⟩
theorem OIn.two {fn2 fb2:Option Nat} {w:Tx} {g:Bool} {st4:aa} (h:OIn st0 o b st fl fn fb L ns ls) (ho:o<st0.length) (t:Two st st4 fn fb fn2 fb2 (ns.map LV.str++[LV.str w]) (ls.map LV.bool++[LV.bool g])) :
  ∃ st5 st6,stV st4 1 (.ptr b 2) (osl fn2 1 (ns.map LV.str++[LV.str w]).length)=some st5∧stV st5 1 (.ptr b 3) (osl fb2 1 (ls.map LV.bool++[LV.bool g]).length)=some st6∧
   OIn st0 o b st6 fl fn2 fb2 L (ns++[w]) (ls++[g])∧st6[o]?=st[o]?:=by
 have hbl:=cA h.hb
 have l0:=h.fr.len
 have hb4:=t.fr.get h.hb (by rintro (e|e);exact (h.gn _ e).2 rfl;exact (h.gb _ e).2 rfl)
 have e5:stV st4 1 (.ptr b 2) (osl fn2 1 (ns.map LV.str++[LV.str w]).length)=some (st4.set b (.cells .rw [i64 8,osl fl 1 L.length,osl fn2 1 (ns.map LV.str++[LV.str w]).length,osl fb 1 (ls.map LV.bool).length])):=by
  rw[dZ hb4 (by simp) (by cases fn2<;>rfl)];rfl
 have hb5:=bO (y:=.cells .rw [i64 8,osl fl 1 L.length,osl fn2 1 (ns.map LV.str++[LV.str w]).length,osl fb 1 (ls.map LV.bool).length]) hb4
 have e6:stV (st4.set b (.cells .rw [i64 8,osl fl 1 L.length,osl fn2 1 (ns.map LV.str++[LV.str w]).length,osl fb 1 (ls.map LV.bool).length])) 1 (.ptr b 3) (osl fb2 1 (ls.map LV.bool++[LV.bool g]).length) =
   some (st4.set b (.cells .rw [i64 8,osl fl 1 L.length,osl fn2 1 (ns.map LV.str++[LV.str w]).length,osl fb2 1 (ls.map LV.bool++[LV.bool g]).length])):=by
  rw[dZ hb5 (by simp) (by cases fb2<;>rfl),List.set_set];rfl
 have F:Fr st4 (st4.set b (.cells .rw [i64 8,osl fl 1 L.length,osl fn2 1 (ns.map LV.str++[LV.str w]).length,osl fb2 1 (ls.map LV.bool++[LV.bool g]).length])) (fun j=>j=b):=Fr.set rfl
 have gn2:∀ j,fn2=some j→st0.length≤j∧j≠b:=fun j e=>by
  rcases t.gA j e with h1|h1
  ·exact h.gn j h1
  ·exact ⟨by omega,by omega⟩
 have gb2:∀ j,fb2=some j→st0.length≤j∧j≠b:=fun j e=>by
  rcases t.gB j e with h1|h1
  ·exact h.gb j h1
  ·exact ⟨by omega,by omega⟩
 refine ⟨_,_,e5,e6,⟨?_,h.nb,?_,?_,?_,?_,h.gl,gn2,gb2,fun j e=>⟨fun e2=>?_,fun e2=>?_⟩,t.ne,h.pl⟩,?_⟩
 ·exact (h.fr.trans t.fr fun j hj e=>by rcases e with e|e;(have:=(h.gn j e).1;omega);(have:=(h.gb j e).1;omega)).trans F fun j hj e=>by have:=h.nb;omega
 ·rw[List.map_append,List.map_append];exact bO hb4
 ·refine (h.ol.fr t.fr fun j e=>?_).fr F fun j e=>(h.gl j e).2
  rintro (e2|e2)
  ·exact (h.d1 j e).1 e2
  ·exact (h.d1 j e).2 e2
 ·rw[List.map_append];exact t.oA.fr F fun j e=>(gn2 j e).2
 ·rw[List.map_append];exact t.oB.fr F fun j e=>(gb2 j e).2
 ·rcases t.gA j e2 with h1|h1
  ·exact (h.d1 j e).1 h1
  ·have:=ir h.ol e;omega
 ·rcases t.gB j e2 with h1|h1
  ·exact (h.d1 j e).2 h1
  ·have:=ir h.ol e;omega
 ·have hol:o<st.length:=Nat.lt_of_lt_of_le ho l0
  rw[bK (by have:=h.nb;omega),t.fr.same o hol]
  rintro (e|e)
  ·have:=(h.gn o e).1;omega
  ·have:=(h.gb o e).1;omega
theorem jX {x:LV} {k:Nat}:eA (st++[ar.cells .rw [x]]) 1 (.sl st.length 0 1 (.ex k))=some (1,[x]):=by simp[eA]
theorem OIn.pair {w:Tx} {g:Bool} (h:OIn st0 o b st fl fn fb L ns ls) (ho:o<st0.length) (hln:ns.length<2 ^ 20) (hlb:ls.length<2 ^ 20)
  (hK:∀ st2 fn2 fb2,OIn st0 o b st2 fl fn2 fb2 L (ns++[w]) (ls++[g])→st2[o]?=st[o]?→js (.ptr o 0) (.ptr b 0) R st2):rS (.ptr o 0) (.ptr b 0) (.str w) (.bool g) R st:=by
 refine Kl _ _ _ _ ?_
 have hlA:(ns.map LV.str).length<2 ^ 20:=by simpa using hln
 have hlB:(ls.map LV.bool).length<2 ^ 20:=by simpa using hlb
 have l2:∀ {s2:aa} {c:LV} {k:Nat},s2[b]?=st[b]?→([i64 8,osl fl 1 L.length,osl fn 1 (ns.map LV.str).length,osl fb 1 (ls.map LV.bool).length]:List LV)[k]?=some c→ld1 s2 (.ptr b k)=some c:=fun h1 h2=>by
  rw[bx (h1.trans h.hb)];exact h2
 have efb:aB (fun i=>some (i*1,1)) (List.replicate 1 [LV.bool false]).flatten [(0,.bool g)]=some [.bool g]:=rfl
 have efs:aB (fun i=>some (i*1,1)) (List.replicate 1 [LV.str []]).flatten [(0,.str w)]=some [.str w]:=rfl
 have hbl:=cA h.hb
 have nbn:¬ fn=some b:=fun e=>(h.gn _ e).2 rfl
 have nbb:¬ fb=some b:=fun e=>(h.gb _ e).2 rfl
 have same:∀ {s2:aa} {S:Nat→Prop},Fr st s2 S→¬ S b→s2[b]?=st[b]?:=fun F hn=>F.same b hbl hn
 have fin:∀ {st4:aa} {fn2 fb2:Option Nat},Two st st4 fn fb fn2 fb2 (ns.map LV.str++[LV.str w]) (ls.map LV.bool++[LV.bool g])→
   bd2 (lmk (stV st4 1 (.ptr b 2) (osl fn2 1 (ns.map LV.str++[LV.str w]).length))) fun _v16 st17=>bd2 (lmk (stV st17 1 (.ptr b 3) (osl fb2 1 (ls.map LV.bool++[LV.bool g]).length))) fun _v20 st21=>js (.ptr o 0) (.ptr b 0) R st21:=by
  intro st4 fn2 fb2 t
  obtain ⟨st5,st6,e5,e6,h6,h7⟩:=h.two ho t
  rw[e5]
  simp only[aA,af]
  rw[e6]
  simp only[aA,af]
  exact hK _ _ _ h6 h7
 have F1:∀ {x:ar},Fr st (st++[x]) (fun _=>False):=Fr.app
 have F2:∀ {x y:ar},Fr st (st++[x]++[y]) (fun _=>False):=F1.trans Fr.app fun _ _ h=>h
 have a2:=l2 (s2:=st) (k:=2) rfl rfl
 have a3:=l2 (s2:=st) (k:=3) rfl rfl
 simp only[DM,aI,ab,ao,aj,a2,a3,efb,efs,bE,af]
 refine ⟨⟨l2 (same F1 id) rfl,l2 (same F1 id) rfl,l2 (same F2 id) rfl,l2 (same F2 id) rfl,?_⟩,l2 (same F1 id) rfl,l2 (same F1 id) rfl,⟨l2 (same F2 id) rfl,l2 (same F2 id) rfl,?_⟩,?_⟩
 ·obtain ⟨s2,fn2,e1,Fq,hq⟩:=xH (x:=.str w) h.on h.ob h.d2 hlA hlB F2 jX rfl
  rw[e1]
  simp only[af]
  obtain ⟨s4,fb2,e2,t⟩:=hq s2 (.sl st.length 0 1 (.ex 1)) (.bool g) Fr.refl (by
   have hg:s2[st.length]?=some (.cells .rw [.bool g]):=by
    rw[Fq.same _ (by simp) (fun e=>by have:=ir h.on e;omega)]
    exact cb ay
   simp[eA,hg]) rfl
  refine ⟨l2 (((F2.mono (S':=fun j=>fn=some j) fun _ _ h=>h.elim).trans Fq fun _ _ h=>h).same b hbl nbn) rfl,?_⟩
  rw[e2]
  exact fin t
 ·obtain ⟨s2,fn2,e1,Fq,hq⟩:=xH (x:=.str w) (X:=.sl st.length 0 1 (.ex 1)) h.on h.ob h.d2 hlA hlB (F2 (x:=.cells .rw [.str w]) (y:=.cells .rw [.bool g])) (by
   have hg:(st++[ar.cells .rw [.str w]]++[.cells .rw [.bool g]])[st.length]?=some (.cells .rw [.str w]):=cb ay
   simp only[eA,hg];simp) rfl
  rw[e1]
  simp only[af]
  obtain ⟨s4,fb2,e2,t⟩:=hq s2 (.sl (st++[ar.cells .rw [.str w]]).length 0 1 (.ex 1)) (.bool g) Fr.refl (by
   have hg:s2[(st++[ar.cells .rw [.str w]]).length]?=some (.cells .rw [.bool g]):=by
    rw[Fq.same _ (by simp) (fun e=>by have:=ir h.on e;simp at this;omega)]
    exact ay
   simp only[eA,hg];simp) rfl
  refine ⟨l2 (((F2.mono (S':=fun j=>fn=some j) fun _ _ h=>h.elim).trans Fq fun _ _ h=>h).same b hbl nbn) rfl,?_⟩
  rw[e2]
  exact fin t
 ·obtain ⟨s2,fn2,e1,Fq,hq⟩:=xH (x:=.str w) h.on h.ob h.d2 hlA hlB F1 jX rfl
  rw[e1]
  simp only[af]
  have F3:Fr st s2 (fun j=>fn=some j):=(F1.mono (S':=fun j=>fn=some j) fun _ _ h=>h.elim).trans Fq fun _ _ h=>h
  have F4:Fr st (s2++[.cells .rw [.bool g]]) (fun j=>fn=some j):=F3.trans Fr.app fun _ _ h=>h
  obtain ⟨s4,fb2,e2,t⟩:=hq (s2++[.cells .rw [.bool g]]) (.sl s2.length 0 1 (.ex 1)) (.bool g) Fr.app jX rfl
  refine ⟨l2 (F3.same b hbl nbn) rfl,l2 (F4.same b hbl nbn) rfl,?_⟩
  have:ld1 (s2++[ar.cells .rw [.bool g]]) (.ptr b 2)=some (osl fn 1 (ns.map LV.str).length):=l2 (F4.same b hbl nbn) rfl
  refine ⟨this,?_⟩
  rw[e2]
  exact fin t
end
abbrev Fld:=Tx × Bool × KT
def fi (p:Tx→Option (KT × Tx)) (last:Option Tx) (s:Tx):Option (Fld × Tx):=match iz s with
 | none=>none
 | some (nm,r0)=>if nR last nm=false then none else match (dc r0).2 with
  | []=>none
  | c::r2=>if c≠58 then none else match p r2 with
   | none=>none
   | some (x,r1)=>some ((nm,(dc r0).1,x),r1)
theorem o0 {p:Tx→Option (KT × Tx)} {n:Nat} {last:Option Tx} {s:Tx}:dE p (n+1) last s=match fi p last s with
  | none=>none
  | some (e,r1)=>match r1 with
   | []=>none
   | c::r3=>if c=125 then some ([e],r3) else if c=44 then (match dE p n (some e.1) r3 with
    | none=>none
    | some (l,r4)=>some (e::l,r4)) else none:=by
 rw[dE]
 unfold fi
 cases iz s with
 | none=>rfl
 | some q=>
  obtain ⟨nm,r0⟩:=q
  simp only
  split
  ·rfl
  ·cases (dc r0).2 with
   | nil=>rfl
   | cons c r2=>
    simp only
    split
    ·rfl
    ·cases p r2 with
     | none=>rfl
     | some q=>rfl
section
variable {st st' st0:aa} {o b:Nat} {s:Tx} {a d D n:Nat} {e:Int} {R:LV→aa→Prop} {fl fn fb:Option Nat} {L:List LV} {ns:List Tx} {ls:List Bool}
theorem OIn.Ig (h:OIn st0 o b st fl fn fb L ns ls) (ho:o<st0.length) (hl:L.length<2 ^ 20) {v:LV} (hv:v.plain=true) (h1:v.one=true) {K:aa→Prop}
  (hK:∀ st2 fl2,OIn st0 o b st2 fl2 fn fb (L++[v]) ns ls→st2[o]?=st[o]?→K st2) :
  ld1 st (.ptr b 1)=some (osl fl 1 L.length)∧bd2 (cq st 1 (aB (fun i=>some (i*1,1)) (List.replicate 1 [LV.nilp]).flatten [(0,v)])) fun v23 st24=>
   ld1 st24 (.ptr b 1)=some (osl fl 1 L.length)∧bd2 (bo st24 1 8 Md.rw (osl fl 1 L.length) v23) fun v25 st26=>bd2 (lmk (stV st26 1 (.ptr b 1) v25)) fun _v29 st30=>K st30:=by
 have hl1:ld1 st (.ptr b 1)=some (osl fl 1 L.length):=by rw[bx h.hb];rfl
 have ef:aB (fun i=>some (i*1,1)) (List.replicate 1 [LV.nilp]).flatten [(0,v)]=some [v]:=by
  cases v<;>first|rfl|cases h1
 rw[ef]
 simp only[bE,af]
 have hb1:=cb (y:=.cells .rw [v]) h.hb
 have hl2:ld1 (st++[ar.cells .rw [v]]) (.ptr b 1)=some (osl fl 1 L.length):=by rw[bx hb1];rfl
 refine ⟨hl1,hl2,?_⟩
 have F1:Fr st (st++[ar.cells .rw [v]]) (fun _=>False):=Fr.app
 obtain ⟨st2,f2,q1,q2,q3,q4⟩:=oZ (bytes:=8) (h.ol.fr F1 fun _ _ h=>h) jX h1 hl (by omega)
 rw[q1]
 simp only[af]
 have hbl:b<st.length:=cA h.hb
 have hb2:=q3.get hb1 (fun e=>(h.gl _ e).2 rfl)
 have e1:stV st2 1 (.ptr b 1) (osl f2 1 (L++[v]).length)=some (st2.set b (.cells .rw [i64 8,osl f2 1 (L++[v]).length,osl fn 1 (ns.map LV.str).length,osl fb 1 (ls.map LV.bool).length])):=by
  rw[dZ hb2 (by simp) (by cases f2<;>rfl)];rfl
 rw[e1]
 simp only[aA,af]
 have F:Fr st2 (st2.set b (.cells .rw [i64 8,osl f2 1 (L++[v]).length,osl fn 1 (ns.map LV.str).length,osl fb 1 (ls.map LV.bool).length])) (fun j=>j=b):=Fr.set rfl
 have F2:Fr st st2 (fun j=>fl=some j):=(F1.mono (S':=fun j=>fl=some j) fun _ _ h=>h.elim).trans q3 fun _ _ h=>h
 have l1:=F1.len
 have l0:=h.fr.len
 have fr2:Fr st0 st2 (fun j=>j=o):=h.fr.trans F2 fun j hj e=>by have:=(h.gl j e).1;omega
 have gl2:∀ j,f2=some j→st0.length≤j∧j≠b:=fun j e=>by
  rcases q4 j e with e|e
  ·exact h.gl j e
  ·exact ⟨by omega,by simp at e;omega⟩
 refine hK _ f2 ⟨fr2.trans F fun j hj e=>by have:=h.nb;omega,h.nb,bO hb2,q2.fr F fun j e=>(gl2 j e).2,(h.on.fr F2 fun j e e2=>(h.d1 j e2).1 e).fr F fun j e=>(h.gn j e).2,
  (h.ob.fr F2 fun j e e2=>(h.d1 j e2).2 e).fr F fun j e=>(h.gb j e).2,gl2,h.gn,h.gb,fun j e=>?_,h.d2,?_⟩ ?_
 ·rcases q4 j e with e1|e1
  ·exact h.d1 j e1
  ·refine ⟨fun e2=>?_,fun e2=>?_⟩
   ·have:=ir h.on e2;omega
   ·have:=ir h.ob e2;omega
 ·rw[dP,h.pl];simp[LV.aG,hv]
 ·have hol:o<st.length:=Nat.lt_of_lt_of_le ho l0
  rw[bK (by have:=h.nb;omega),F2.same o hol fun e=>by have:=(h.gl o e).1;omega]
def Ih (st0:aa) (o b:Nat) (s:Tx) (D:Nat) (R:LV→aa→Prop) (L:List LV) (ns:List Tx) (ls:List Bool):Prop:=
 ∀ st2 fl2 fn2 fb2 v w g a' e',e'≠0→a'≤s.length→OIn st0 o b st2 fl2 fn2 fb2 (L++[v]) (ns++[w]) (ls++[g])→Rd st2 o s a' e' D→R (.tup []) st2
theorem Ii (ih:gy d D) (hs:s.length≤4096) (ho:o<st0.length) (ha:a≤s.length) (hl:L.length<2 ^ 20) (h:OIn st0 o b st fl fn fb L ns ls) (hr:Rd st o s a 0 D)
  (h1:∀ t a' st2 fl2,a'≤s.length→pT d (s.drop a)=some (t,s.drop a')→OIn st0 o b st2 fl2 fn fb (L++[kV t]) ns ls→Rd st2 o s a' 0 D→R (.tup []) st2)
  (h2:pT d (s.drop a)=none→∀ st2 fl2 v a' e',e'≠0→a'≤s.length→OIn st0 o b st2 fl2 fn fb (L++[v]) ns ls→Rd st2 o s a' e' D→R (.tup []) st2):js (.ptr o 0) (.ptr b 0) R st:=by
 refine DN _ _ ?_
 have hl1:ld1 st (.ptr b 1)=some (osl fl 1 L.length):=by rw[bx h.hb];rfl
 simp only[xa,aI,ab,ao,aj,hl1]
 refine ih hs ha hr (fun t a1 ha1 hp=>?_) fun hp v a1 e1 hv hv1 he1 ha1=>?_
 ·have hr':Rd (st.set o (rdO s a1 0 D)) o s a1 0 D:=hr.set
  exact (h.rd ho).Ig ho hl eu rfl fun st2 f2 h2' ho2=>h1 t a1 st2 f2 ha1 hp h2' (ho2.trans hr')
 ·have hr':Rd (st.set o (rdO s a1 e1 D)) o s a1 e1 D:=hr.set
  exact (h.rd ho).Ig ho hl hv hv1 fun st2 f2 h2' ho2=>h2 hp st2 f2 v a1 e1 he1 ha1 h2' (ho2.trans hr')
theorem KG (ho:o<st0.length) (he:e≠0) (hl:L.length<2 ^ 20) (h:OIn st0 o b st fl fn fb L ns ls) (hr:Rd st o s a e D)
  (h2:∀ st2 fl2 v,OIn st0 o b st2 fl2 fn fb (L++[v]) ns ls→Rd st2 o s a e D→R (.tup []) st2):js (.ptr o 0) (.ptr b 0) R st:=by
 refine DN _ _ ?_
 have hl1:ld1 st (.ptr b 1)=some (osl fl 1 L.length):=by rw[bx h.hb];rfl
 simp only[xa,aI,ab,ao,aj,hl1]
 refine ua hr he ?_
 exact h.Ig ho hl rfl rfl fun st2 f2 h2' ho2=>h2 st2 f2 _ h2' (ho2.trans hr)
section
variable (ho:o<st0.length) (ha:a≤s.length) (hl:L.length<2 ^ 20) (hln:ns.length<2 ^ 20) (hlb:ls.length<2 ^ 20) (h:OIn st0 o b st fl fn fb L ns ls) (hr:Rd st o s a e D) (hB:Ih st0 o b s D R L ns ls)
include ho ha hl hln hlb h hr hB
theorem Eg {w:Tx} {g:Bool} (he:e≠0):rS (.ptr o 0) (.ptr b 0) (.str w) (.bool g) R st:=by
 refine h.pair ho hln hlb fun st2 fn2 fb2 h2 e2=>?_
 exact KG ho he hl h2 (e2.trans hr) fun st3 fl3 v h3 hr3=>hB st3 fl3 fn2 fb2 v w g a e he ha h3 hr3
theorem xI {w:Tx} {g:Bool} (he:e≠0):ft (.ptr o 0) (.ptr b 0) (.str w) (.bool g) R st:=by
 refine DL _ _ _ _ ?_
 simp only[wZ,aI,ab,ao,aj]
 exact jb (c:=58) hr he (Eg ho ha hl hln hlb h hr hB he)
theorem Ij {w:Tx} (he:e≠0):tz (.ptr o 0) (.ptr b 0) (.str w) R st:=by
 refine NL _ _ _ ?_
 simp only[Hp,aI,ab,ao,aj]
 exact ja (c:=63) hr (.inl he) (xI ho ha hl hln hlb h hr hB he)
end
theorem zY (ih:gy d D) (hs:s.length≤4096) (ho:o<st0.length) (ha:a≤s.length) (hl:L.length<2 ^ 20) (hln:ns.length<2 ^ 20) (hlb:ls.length<2 ^ 20) (h:OIn st0 o b st fl fn fb L ns ls) (hr:Rd st o s a 0 D)
  {w:Tx} {g:Bool} {res:Option (Fld × Tx)} (hres:res=match s.drop a with
   | []=>none
   | c::r2=>if c≠58 then none else match pT d r2 with
    | none=>none
    | some (x,r1)=>some ((w,g,x),r1))
  (h1:∀ x a' st2 fl2 fn2 fb2,a'≤s.length→res=some ((w,g,x),s.drop a')→OIn st0 o b st2 fl2 fn2 fb2 (L++[kV x]) (ns++[w]) (ls++[g])→Rd st2 o s a' 0 D→R (.tup []) st2)
  (hB:res=none→Ih st0 o b s D R L ns ls):ft (.ptr o 0) (.ptr b 0) (.str w) (.bool g) R st:=by
 refine DL _ _ _ _ ?_
 simp only[wZ,aI,ab,ao,aj]
 by_cases hc:s[a]?=some 58
 ·refine lZ (c:=58) hr hc (by omega) ?_
  have hlt:=(List.getElem?_eq_some_iff.1 hc).1
  rw[drop_cons hc] at hres
  simp only[ne_eq,not_true,if_false] at hres
  have h':=h.rd ho (y:=rdO s (a+1) 0 D)
  have hr':Rd (st.set o (rdO s (a+1) 0 D)) o s (a+1) 0 D:=hr.set
  refine h'.pair ho hln hlb fun st2 fn2 fb2 h2 e2=>?_
  refine Ii ih hs ho (by omega) hl h2 (e2.trans hr') (fun t a1 st3 fl3 ha1 hp h3 hr3=>?_) fun hp st3 fl3 v a1 e1 he1 ha1 h3 hr3=>?_
  ·exact h1 t a1 st3 fl3 fn2 fb2 ha1 (by rw[hres,hp]) h3 hr3
  ·exact hB (by rw[hres,hp]) st3 fl3 fn2 fb2 v w g a1 e1 he1 ha1 h3 hr3
 ·refine oW (c:=58) hr hc ?_
  have hn:res=none:=by
   rw[hres]
   cases hd:s.drop a with
   | nil=>rfl
   | cons c r=>
    have hx:s[a]?=some c:=by rw[← cx,hd];rfl
    have n1:c≠58:=fun e=>hc (by rw[hx,e])
    simp only[n1,ne_eq,not_false_eq_true,if_true]
  exact Eg ho ha hl hln hlb (h.rd ho) hr.set (hB hn) (by decide)
theorem KH (ih:gy d D) (hs:s.length≤4096) (ho:o<st0.length) (ha:a≤s.length) (hl:L.length<2 ^ 20) (hln:ns.length<2 ^ 20) (hlb:ls.length<2 ^ 20) (h:OIn st0 o b st fl fn fb L ns ls) (hr:Rd st o s a 0 D)
  {w:Tx} {res:Option (Fld × Tx)} (hres:res=match (dc (s.drop a)).2 with
   | []=>none
   | c::r2=>if c≠58 then none else match pT d r2 with
    | none=>none
    | some (x,r1)=>some ((w,(dc (s.drop a)).1,x),r1))
  (h1:∀ g x a' st2 fl2 fn2 fb2,a'≤s.length→res=some ((w,g,x),s.drop a')→OIn st0 o b st2 fl2 fn2 fb2 (L++[kV x]) (ns++[w]) (ls++[g])→Rd st2 o s a' 0 D→R (.tup []) st2)
  (hB:res=none→Ih st0 o b s D R L ns ls) {K:LV→aa→Prop} (hK:∀ g s2,ft (.ptr o 0) (.ptr b 0) (.str w) (.bool g) R s2→K (.bool g) s2):aw Tryz.prog 137 [.ptr o 0,.int .u8 63] st K:=by
 by_cases hc:s[a]?=some 63
 ·have hlt:=(List.getElem?_eq_some_iff.1 hc).1
  refine lY (c:=63) hr hc (by omega) (hK _ _ ?_)
  rw[drop_cons hc,ib,if_pos rfl] at hres
  exact zY ih hs ho (by omega) hl hln hlb (h.rd ho) hr.set hres (fun x a' st2 fl2 fn2 fb2 q1 q2 q3 q4=>h1 _ x a' st2 fl2 fn2 fb2 q1 q2 q3 q4) hB
 ·refine ja (c:=63) hr (.inr hc) (hK _ _ ?_)
  have e1:dc (s.drop a)=(false,s.drop a):=by
   cases hd:s.drop a with
   | nil=>rfl
   | cons c r=>
    have hx:s[a]?=some c:=by rw[← cx,hd];rfl
    rw[ib,if_neg (fun e=>hc (by rw[hx,e]))]
  rw[e1] at hres
  exact zY ih hs ho ha hl hln hlb h hr hres (fun x a' st2 fl2 fn2 fb2 q1 q2 q3 q4=>h1 _ x a' st2 fl2 fn2 fb2 q1 q2 q3 q4) hB
theorem Cl (hs:s.length≤4096) (ho:o<st0.length) (ha:a≤s.length) (hl:L.length=16) (hln:ns.length<2 ^ 20) (hlb:ls.length<2 ^ 20) (h:OIn st0 o b st fl fn fb L ns ls) (hr:Rd st o s a 0 D)
  (hB:Ih st0 o b s D R L ns ls):aw Tryz.prog 185 [.ptr o 0,.ptr b 0] st R:=by
 refine Pw _ _ ?_
 have hl1:ld1 st (.ptr b 1)=some (osl fl 1 L.length):=by rw[bx h.hb];rfl
 have c1:((L.length:Int)==16)=true:=by rw[hl];rfl
 simp only[NI,aI,ab,ao,aj,hr.l1,hl1,h.ol.bB,ad,bj,c1,ah]
 refine gM hr ?_
 have h':=h.rd ho (y:=rdO s a 3 D)
 have hr':Rd (st.set o (rdO s a 3 D)) o s a 3 D:=hr.set
 refine NJ _ _ _ ?_
 simp only[Hn]
 refine Ie (by omega) ha (by decide) hr' fun w a1 ha1=>?_
 rw[List.set_set]
 have h2:=h.rd ho (y:=rdO s a1 3 D)
 have hr2:Rd (st.set o (rdO s a1 3 D)) o s a1 3 D:=hr.set
 have hl2:ld1 (st.set o (rdO s a1 3 D)) (.ptr b 2)=some (osl fn 1 (ns.map LV.str).length):=by rw[bx h2.hb];rfl
 simp only[aI,ab,ao,aj,hl2,h2.on.bB,ad,dM]
 refine fg hr2 ?_
 have e3:((3:Int) != 0)=true:=rfl
 simp only[e3,bw,ab,bM,ae]
 exact ja (c:=63) hr2 (.inl (by decide)) (xI ho ha1 (by omega) hln hlb h2 hr2 hB (by decide))
theorem Cm {last w:Tx}:(Op.bytesLess w last||w==last) = !(Op.bytesLess last w):=by
 cases h1:Op.bytesLess last w
 ·cases h2:Op.bytesLess w last
  ·have:=tJ h2 h1;subst this;simp
  ·rfl
 ·have h2:=zN h1
  have h3:(w==last)=false:=by
   have:=xB h1
   simpa using Ne.symm this
  rw[h2,h3];rfl
theorem Cn (ih:gy d D) (hs:s.length≤4096) (ho:o<st0.length) (ha:a≤s.length) (hl:L.length<16) (hln:ns.length=L.length) (hlb:ls.length=L.length) (h:OIn st0 o b st fl fn fb L ns ls) (hr:Rd st o s a 0 D)
  (h1:∀ (f:Fld) a' st2 fl2 fn2 fb2,a'≤s.length→fi (pT d) ns.getLast? (s.drop a)=some (f,s.drop a')→OIn st0 o b st2 fl2 fn2 fb2 (L++[kV f.2.2]) (ns++[f.1]) (ls++[f.2.1])→Rd st2 o s a' 0 D→R (.tup []) st2)
  (hB:fi (pT d) ns.getLast? (s.drop a)=none→Ih st0 o b s D R L ns ls):aw Tryz.prog 185 [.ptr o 0,.ptr b 0] st R:=by
 refine Pw _ _ ?_
 have hl1:ld1 st (.ptr b 1)=some (osl fl 1 L.length):=by rw[bx h.hb];rfl
 have c1:((L.length:Int)==16)=false:=by
  have:(L.length:Int)≠16:=by omega
  simpa using this
 simp only[NI,aI,ab,ao,aj,hr.l1,hl1,h.ol.bB,ad,bj,c1,ae]
 refine FT (by omega) ha hr (fun w r hw=>?_) fun hw w a1 e1 he1 ha1=>?_
 ·obtain ⟨w1,_,_⟩:=nS hw
  have hwl:a+w.length≤s.length:=by
   have:=congrArg List.length w1
   simp only[List.length_drop,b8] at this
   omega
  have hr1:r=s.drop (a+w.length):=by
   rw[← List.drop_drop,w1];simp
  subst hr1
  have h':=h.rd ho (y:=rdO s (a+w.length) 0 D)
  have hr':Rd (st.set o (rdO s (a+w.length) 0 D)) o s (a+w.length) 0 D:=hr.set
  have hl2:ld1 (st.set o (rdO s (a+w.length) 0 D)) (.ptr b 2)=some (osl fn 1 (ns.map LV.str).length):=by rw[bx h'.hb];rfl
  have hlm:(ns.map LV.str).length=L.length:=by simpa using hln
  have c2:IntKind.i64.wrap (((ns.map LV.str).length:Int)-1)=(L.length:Int)-1:=by rw[hlm,wrap_i64 (by omega) (by omega)]
  have go:nR ns.getLast? w=true→∀ {K:LV→aa→Prop},(∀ g s2,ft (.ptr o 0) (.ptr b 0) (.str w) (.bool g) R s2→K (.bool g) s2)→aw Tryz.prog 137 [.ptr o 0,.int .u8 63] (st.set o (rdO s (a+w.length) 0 D)) K:=by
   intro hah K hK
   have hres:fi (pT d) ns.getLast? (s.drop a)=match (dc (s.drop (a+w.length))).2 with
     | []=>none
     | c::r2=>if c≠58 then none else match pT d r2 with
      | none=>none
      | some (x,r1)=>some ((w,(dc (s.drop (a+w.length))).1,x),r1):=by
    unfold fi
    rw[hw]
    simp only[hah]
    rfl
   exact KH ih hs ho hwl (by omega) (by omega) (by omega) h' hr' hres (fun g x a' st2 fl2 fn2 fb2 q1 q2 q3 q4=>h1 (w,g,x) a' st2 fl2 fn2 fb2 q1 q2 q3 q4) hB hK
  simp only[ab,hl2,h'.on.bB,ad,dM,c2]
  refine fg hr' ?_
  simp only[bne_self_eq_false,bw,ab,bL,ah,dN]
  by_cases h0:L.length=0
  ·have g1:¬ ((L.length:Int)-1≥0):=by omega
   have hn0:ns=[]:=List.eq_nil_of_length_eq_zero (by omega)
   simp only[g1,a8,ae]
   exact go (by rw[hn0];rfl) fun g s2 hg=>hg
  ·obtain ⟨k,hk⟩:∃ k,L.length=k+1:=⟨L.length-1,by omega⟩
   have hlast:ns.getLast?=some (ns[k]'(by omega)):=by
    rw[List.getLast?_eq_getElem?]
    have:ns.length-1=k:=by omega
    rw[this]
    exact bg (by omega)
   have hget:ns[k]?=some (ns[k]'(by omega)):=bg (by omega)
   generalize ns[k]'(by omega)=last at hlast hget
   have e9:(L.length:Int)-1=(k:Int):=by omega
   have g1:((k:Int)≥0):=by omega
   obtain ⟨j,hj,hix⟩:=h'.on.ix (i:=(k:Int)) (kk:=.i64) (by omega) (by omega)
   have hld:ld1 (st.set o (rdO s (a+w.length) 0 D)) (.ptr j ((k:Int).toNat*1))=some (.str last):=by
    have hon:=h'.on
    subst hj
    refine hon.ld ?_
    simp only[Int.toNat_natCast,Nat.mul_one,bT,hget,Option.map_some]
   simp only[g1,aZ,ah,ab,hl2,e9,hix,hld,ct,uB,Cm]
   have hpa:nR ns.getLast? w=Op.bytesLess last w:=by rw[hlast];rfl
   rw[cd]
   refine ⟨fun hb=>?_,fun hb=>go (by rw[hpa];simpa using hb) fun g s2 hg=>hg⟩
   have hnone:fi (pT d) ns.getLast? (s.drop a)=none:=by
    unfold fi
    rw[hw]
    simp only[hpa]
    have hb':Op.bytesLess last w=false:=by simpa using hb
    simp only[hb',if_true]
   have h3:∀ e':Int,OIn st0 o b (st.set o (rdO s a e' D)) fl fn fb L ns ls:=fun e'=>h.rd ho
   have hr3:∀ e':Int,Rd (st.set o (rdO s a e' D)) o s a e' D:=fun e'=>hr.set
   rw[cd]
   refine ⟨fun _=>?_,fun _=>?_⟩
   ·refine NK _ _ _ _ _ ?_
    simp only[Ho,aI,ab,ao,aj]
    refine gM hr' ?_
    rw[List.set_set]
    exact Ij ho ha (by omega) (by omega) (by omega) (h3 9) (hr3 9) (hB hnone) (by decide)
   ·refine gM hr' ?_
    rw[List.set_set]
    exact Ij ho ha (by omega) (by omega) (by omega) (h3 4) (hr3 4) (hB hnone) (by decide)
 ·have hnone:fi (pT d) ns.getLast? (s.drop a)=none:=by unfold fi;rw[hw]
  have h2:=h.rd ho (y:=rdO s a1 e1 D)
  have hr2:Rd (st.set o (rdO s a1 e1 D)) o s a1 e1 D:=hr.set
  have hl2:ld1 (st.set o (rdO s a1 e1 D)) (.ptr b 2)=some (osl fn 1 (ns.map LV.str).length):=by rw[bx h2.hb];rfl
  simp only[ab,hl2,h2.on.bB,ad,dM]
  refine fg hr2 ?_
  have e3:(e1 != 0)=true:=by simpa using he1
  simp only[e3,bw,ab,bM,ae]
  exact ja (c:=63) hr2 (.inl he1) (xI ho ha1 (by omega) (by omega) (by omega) h2 hr2 (hB hnone) he1)
end
end Go.Proofs.YtknegckgmklnhaaGreatDoor
