/- Parts of the proof. -/
import Derived.Test.YtknegckgmklnhaaGreatDoorVbK3
namespace Go.Proofs.YtknegckgmklnhaaGreatDoor
open Go Go.CP
set_option maxRecDepth 100000
section
variable {st st':aa} {R:LV→aa→Prop}
theorem ta {cs:List LV} (h1:cs.length=6) (h2:cs.all LV.one=true):stV (st++[aq.cells .rw [LV.str [],LV.nilp,LV.bool false,LV.bool false,LV.bool false,LV.bool false]]) 6 (.ptr st.length 0) (.agg cs)=some (st++[.cells .rw cs]):=by
 rw[sY au rfl h1 h2];simp
theorem gV {v:T} (h:st[0]?=some (.cells .rw [lvT v])):ldA st (.ptr 0 0) 1=some (vT v):=by rw[ck h (by simp)];rfl
theorem fy {x y:aq} (h:st[0]?=some x):(st++[y])[0]?=some x:=by rw[List.getElem?_append_left (bM h)];exact h
theorem jZ {v:T} {k:Tx}:(v.at k).getD .null=cf v k:=rfl
theorem EC {s:ST} (hs:s.ok) {v:T} (hv:v.ok) (hR:∀ st,R (.tup [.str (gM v s.l).1,i64 (gM v s.l).2]) st) :
  ∀ (d i:Nat) (st:aa),i+d=s.l.length→gM v s.l=gM v (s.l.drop i)→st[0]?=some (.cells .rw [lvT v])→yj (.ptr 0 0) (.isl (atC s.l) s.l.length none) (i64 s.l.length) (i64 i) R st:=by
 intro d
 induction d with
 | zero=>
  intro i st hi hw _
  refine Ku _ _ _ _ ?_
  have c1:¬ ((i:Int)<s.l.length):=by omega
  simp only[Ga,ae,aA,ab,c1,decide_false,af]
  rw[List.drop_eq_nil_of_le (by omega)] at hw
  rw[hw] at hR
  exact hR st
 | succ d ih=>
  intro i st hi hw h0
  refine Ku _ _ _ _ ?_
  have hlt:i<s.l.length:=by omega
  have h16:=hs.len
  have c1:((i:Int)<s.l.length):=by omega
  have e1:aR 6 (.isl (atC s.l) s.l.length none) (i64 i)=some (.iptr (atC s.l) (i*6)):=bW hlt
  have hx:s.l[i]?=some s.l[i]:=List.getElem?_eq_getElem hlt
  have hdr:s.l.drop i=s.l[i]::s.l.drop (i+1):=List.drop_eq_getElem_cons hlt
  generalize s.l[i]=a at hx hdr
  rw[hdr,gM] at hw
  have g0:ld1 (st++[aq.cells .rw (aC a)]) (.ptr st.length 0)=some (.str a.nm):=aU au
  have hw1:=aI (show i<2 ^ 40 by omega)
  simp only[Ga,ae,aA,ab,c1,decide_true,ah,e1,iX hx,bQ,ta (wG (a:=a)) sW,az,ag,gV (fy h0),av,Nat.zero_add,g0]
  refine (nO hv a.nm).call ?_
  rw[jZ]
  generalize hz:aq.cells Md.rw (aC a)=z at g0
  have hz1:(st++[z])[st.length]?=some (.cells .rw (aC a)):=by rw[au,hz]
  have g2:∀ y,ld1 (st++[z]++[y]) (.ptr st.length 2)=some (.bool a.must):=fun y=>by
   rw[aU (m:=.rw) (l:=aC a) (by rw[List.getElem?_append_left (by simp)];exact hz1)];rfl
  have gn:∀ y,ld1 (st++[z]++[y]) (.ptr st.length 0)=some (.str a.nm):=fun y=>by
   rw[aU (m:=.rw) (l:=aC a) (by rw[List.getElem?_append_left (by simp)];exact hz1)];rfl
  have gx:∀ t,ldA (st++[z]++[aq.cells .rw [lvT t]]) (.ptr (st++[z]).length 0) 1=some (vT t):=fun t=>by rw[ck au (by simp)];rfl
  simp only[aw,List.getElem?_cons_zero,List.getElem?_cons_succ,ab,cI,az,ag,g2]
  cases hm:a.must with
  | false=>
   rw[hm] at hw
   simp only[Bool.false_and,Bool.false_eq_true,if_false] at hw
   simp only[af,aH,hw1,ab]
   exact ih (i+1) _ (by omega) hw (fy (fy h0))
  | true=>
   rw[hm,Bool.true_and] at hw
   simp only[ah,gx,ab]
   refine (ft _).call ?_
   have ek:((cf v a.nm).kind==0)=decide ((cf v a.nm).kind=0):=by by_cases h:(cf v a.nm).kind=0<;>simp[h]
   simp only[ae,aW,ek,ab,aM,gn]
   refine ⟨fun h=>?_,fun h=>?_⟩
   ·rw[decide_eq_true h,if_pos rfl] at hw
    rw[hw] at hR
    exact hR _
   ·rw[decide_eq_false h,if_neg (by simp)] at hw
    simp only[aH,hw1,ab]
    exact ih (i+1) _ (by omega) hw (fy (fy h0))
theorem My {s:ST} (hs:s.ok) {v:T} (hv:v.ok):Pu Tryz.prog 41 [sV s,vT v] (.tup [.str (fu s.l v).1,i64 (fu s.l v).2]):=by
 refine Pu.of (c41 _ _ ?_) (by simp only[LV.aB,et,bO];rfl) rfl
 have g:ldA ([]++[aq.cells .rw [lvT v]]) (.ptr 0 0) 1=some (vT v):=rfl
 simp only[w41,de,ag,List.length_nil,g,ab]
 refine (y9 hs hv).call ?_
 have en:((dd s.l v).2 != 0)=decide ((dd s.l v).2≠0):=by by_cases h:(dd s.l v).2=0<;>simp[h]
 simp only[aw,List.getElem?_cons_zero,List.getElem?_cons_succ,ae,bz,en,ab,aM]
 unfold fu
 refine ⟨fun h=>?_,fun h=>?_⟩
 ·rw[if_neg h];exact bj (v:=.tup [.str _,i64 _]) _ rfl
 ·have h':(dd s.l v).2=0:=Classical.byContradiction h
  rw[if_pos h']
  simp only[sV,bE,b6,Nat.zero_add,y8,bn,ab]
  exact EC hs hv (R:=fun r s'=>dp s' (.tup [.str (gM v s.l).1,i64 (gM v s.l).2]) r) (fun st=>bj (v:=.tup [.str _,i64 _]) _ rfl) s.l.length 0 _ (by omega) rfl rfl
theorem Bt {s:ST} (hs:s.ok) {v:T} (hv:v.ok) (hR:∀ st,R (.tup [.str (qy v s.l).1,i64 (qy v s.l).2]) st) :
  ∀ (d i:Nat) (st:aa),i+d=s.l.length→qy v s.l=qy v (s.l.drop i)→st[0]?=some (.cells .rw [lvT v])→CC (.ptr 0 0) (.isl (atC s.l) s.l.length none) (i64 s.l.length) (i64 i) R st:=by
 intro d
 induction d with
 | zero=>
  intro i st hi hw _
  refine Kw _ _ _ _ ?_
  have c1:¬ ((i:Int)<s.l.length):=by omega
  simp only[Gd,ae,aA,ab,c1,decide_false,af]
  rw[List.drop_eq_nil_of_le (by omega)] at hw
  rw[hw] at hR
  exact hR st
 | succ d ih=>
  intro i st hi hw h0
  refine Kw _ _ _ _ ?_
  have hlt:i<s.l.length:=by omega
  have h16:=hs.len
  have c1:((i:Int)<s.l.length):=by omega
  have e1:aR 6 (.isl (atC s.l) s.l.length none) (i64 i)=some (.iptr (atC s.l) (i*6)):=bW hlt
  have hx:s.l[i]?=some s.l[i]:=List.getElem?_eq_getElem hlt
  have hdr:s.l.drop i=s.l[i]::s.l.drop (i+1):=List.drop_eq_getElem_cons hlt
  generalize s.l[i]=a at hx hdr
  rw[hdr,qy] at hw
  have g0:ld1 (st++[aq.cells .rw (aC a)]) (.ptr st.length 0)=some (.str a.nm):=aU au
  have hw1:=aI (show i<2 ^ 40 by omega)
  simp only[Gd,ae,aA,ab,c1,decide_true,ah,e1,iX hx,bQ,ta (wG (a:=a)) sW,az,ag,gV (fy h0),av,Nat.zero_add,g0]
  refine (nO hv a.nm).call ?_
  generalize hz:aq.cells Md.rw (aC a)=z at g0
  have hz1:(st++[z])[st.length]?=some (.cells .rw (aC a)):=by rw[au,hz]
  have gn:∀ y,ld1 (st++[z]++[y]) (.ptr st.length 0)=some (.str a.nm):=fun y=>by
   rw[aU (m:=.rw) (l:=aC a) (by rw[List.getElem?_append_left (by simp)];exact hz1)];rfl
  simp only[aw,List.getElem?_cons_zero,List.getElem?_cons_succ,ab,cI,az,ag,gn,aZ]
  cases hm:(v.at a.nm).isSome with
  | true=>
   rw[hm,if_pos rfl] at hw
   simp only[Bool.not_true,af,aH,hw1,ab]
   exact ih (i+1) _ (by omega) hw (fy (fy h0))
  | false=>
   rw[hm,if_neg (by simp)] at hw
   simp only[Bool.not_false,ah]
   rw[hw] at hR
   exact hR _
theorem Jy {s:ST} (hs:s.ok) {v:T} (hv:v.ok):Pu Tryz.prog 43 [sV s,vT v] (.tup [.str (cb s.l v).1,i64 (cb s.l v).2]):=by
 refine Pu.of (c43 _ _ ?_) (by simp only[LV.aB,et,bO];rfl) rfl
 have g:ldA ([]++[aq.cells .rw [lvT v]]) (.ptr 0 0) 1=some (vT v):=rfl
 simp only[w43,de,ag,List.length_nil,g,ab]
 refine (y9 hs hv).call ?_
 have en:((dd s.l v).2 != 0)=decide ((dd s.l v).2≠0):=by by_cases h:(dd s.l v).2=0<;>simp[h]
 simp only[aw,List.getElem?_cons_zero,List.getElem?_cons_succ,ae,bz,en,ab,aM]
 unfold cb
 refine ⟨fun h=>?_,fun h=>?_⟩
 ·rw[if_neg h];exact bj (v:=.tup [.str _,i64 _]) _ rfl
 ·have h':(dd s.l v).2=0:=Classical.byContradiction h
  rw[if_pos h']
  simp only[sV,bE,b6,Nat.zero_add,y8,bn,ab]
  exact Bt hs hv (R:=fun r s'=>dp s' (.tup [.str (qy v s.l).1,i64 (qy v s.l).2]) r) (fun st=>bj (v:=.tup [.str _,i64 _]) _ rfl) s.l.length 0 _ (by omega) rfl rfl
end
section
variable {st st':aa} {R:LV→aa→Prop}
def T42 (x3 x4 x8 x9 x27 x28 x29 v3 v14:LV) (R:LV→aa→Prop) (st:aa):Prop:=
 bd (ad 0 v3) fun v78=>
 bd (ld1 st v78) fun v79=>
 bd (ldA st v14 1) fun v80=>
 (bd2 (aP st 1 (ao (fun i=>some (i*1,1)) (List.replicate 1 [LV.nili]).flatten [(0,v80)])) fun v81 st82=>
 ld1 st82 v78=some v79∧
 bd2 (aP st82 1 (ao (fun i=>some (i*1,1)) (List.replicate 1 [LV.str []]).flatten [(0,v79)])) fun v83 st84=>
 ldA st84 v14 1=some v80∧
 bd2 (ar st84 1 16 Md.rw x8 v83) fun v85 st86=>
 ldA st86 v14 1=some v80∧bd2 (ar st86 1 16 Md.rw x9 v81) fun v87 st88=>eS x3 x4 v85 v87 x27 x28 x29 R st88)∧
 bd2 (aP st 1 (ao (fun i=>some (i*1,1)) (List.replicate 1 [LV.str []]).flatten [(0,v79)])) fun v89 st90=>
 ldA st90 v14 1=some v80∧
 (bd2 (aP st90 1 (ao (fun i=>some (i*1,1)) (List.replicate 1 [LV.nili]).flatten [(0,v80)])) fun v91 st92=>
 ld1 st92 v78=some v79∧
 bd2 (ar st92 1 16 Md.rw x8 v89) fun v93 st94=>
 ldA st94 v14 1=some v80∧bd2 (ar st94 1 16 Md.rw x9 v91) fun v95 st96=>eS x3 x4 v93 v95 x27 x28 x29 R st96)∧
 bd2 (ar st90 1 16 Md.rw x8 v89) fun v97 st98=>
 ldA st98 v14 1=some v80∧
 bd2 (aP st98 1 (ao (fun i=>some (i*1,1)) (List.replicate 1 [LV.nili]).flatten [(0,v80)])) fun v99 st100=>
 ld1 st100 v78=some v79∧bd2 (ar st100 1 16 Md.rw x9 v99) fun v101 st102=>eS x3 x4 v97 v101 x27 x28 x29 R st102
theorem Df {f:Option Nat} {n o b:Nat} {acc:List LV} {y:LV} (h:bD .rw st f 1 n acc) (ho:st[o]?=some (.cells .rw [y])) (h1:y.one=true) (hl:n<2 ^ 31) (hb:b≤256:=by decide) :
  ∃ st2 f2,ar st 1 b .rw (osl f 1 n) (.sl o 0 1 (.ex 1))=some (osl f2 1 (n+1),st2)∧bD .rw st2 f2 1 (n+1) (acc++[y])∧Fr st st2 (fun j=>f=some j)∧(∀ j,f2=some j→f=some j∨st.length≤j):=by
 obtain ⟨st2,f2,q1,q2,q3,q4,_⟩:=h.append (x:=.sl o 0 1 (.ex 1)) (k:=1) (new:=[y]) (bytes:=b) (by simp[dJ,ho]) (by omega) (by simp) (by simp[h1]) (cL (by omega) hb)
 exact ⟨st2,f2,q1,q2,q3,q4⟩
theorem Pl {nm:Tx}:aP st 1 (ao (fun i=>some (i*1,1)) (List.replicate 1 [LV.str []]).flatten [(0,.str nm)])=some (.sl st.length 0 1 (.ex 1),st++[.cells .rw [.str nm]]):=rfl
theorem Pm {t:T}:aP st 1 (ao (fun i=>some (i*1,1)) (List.replicate 1 [LV.nili]).flatten [(0,vT t)])=some (.sl st.length 0 1 (.ex 1),st++[.cells .rw [lvT t]]):=rfl
structure Fil (st:aa) (v:T) (f8 f9:Option Nat) (n:Nat) (ks vs:List LV):Prop where
 b0:st[0]?=some (.cells .rw [lvT v])
 b1:∃ y,st[1]?=some (.cells .rw [y])
 o8:bD .rw st f8 1 n ks
 o9:bD .rw st f9 1 n vs
 n8:∀ o,f8=some o→2≤o
 n9:∀ o,f9=some o→2≤o
 ne:∀ o,f8=some o→f9≠some o
theorem Fil.app {v:T} {f8 f9:Option Nat} {n:Nat} {ks vs:List LV} {y:aq} (h:Fil st v f8 f9 n ks vs):Fil (st++[y]) v f8 f9 n ks vs:=
 ⟨fy h.b0,by obtain ⟨z,e⟩:=h.b1;exact ⟨z,by rw[List.getElem?_append_left (bM e)];exact e⟩,h.o8.fr (Fr.app (S:=fun _=>False)) fun _ _ h=>h,h.o9.fr (Fr.app (S:=fun _=>False)) fun _ _ h=>h,h.n8,h.n9,h.ne⟩
structure Mid (st:aa) (v:T) (f8 f9:Option Nat) (n:Nat) (ks vs:List LV):Prop where
 b0:st[0]?=some (.cells .rw [lvT v])
 b1:∃ y,st[1]?=some (.cells .rw [y])
 o8:bD .rw st f8 1 (n+1) ks
 o9:bD .rw st f9 1 n vs
 n8:∀ o,f8=some o→2≤o
 n9:∀ o,f9=some o→2≤o
 ne:∀ o,f8=some o→f9≠some o
theorem Mid.app {v:T} {f8 f9:Option Nat} {n:Nat} {ks vs:List LV} {y:aq} (h:Mid st v f8 f9 n ks vs):Mid (st++[y]) v f8 f9 n ks vs:=
 ⟨fy h.b0,by obtain ⟨z,e⟩:=h.b1;exact ⟨z,by rw[List.getElem?_append_left (bM e)];exact e⟩,h.o8.fr (Fr.app (S:=fun _=>False)) fun _ _ h=>h,h.o9.fr (Fr.app (S:=fun _=>False)) fun _ _ h=>h,h.n8,h.n9,h.ne⟩
theorem Mz {v:T} {f8 f9:Option Nat} {n o:Nat} {ks vs:List LV} {nm:Tx} (h:Fil st v f8 f9 n ks vs) (hn:n<2 ^ 30) (ho:st[o]?=some (.cells .rw [.str nm])) :
  ∃ s2 g8,ar st 1 16 .rw (osl f8 1 n) (.sl o 0 1 (.ex 1))=some (osl g8 1 (n+1),s2)∧Mid s2 v g8 f9 n (ks++[.str nm]) vs∧Fr st s2 (fun j=>f8=some j):=by
 obtain ⟨s2,g8,q1,q2,q3,q4⟩:=Df h.o8 ho rfl (by omega) (b:=16)
 have hl:2≤st.length:=by obtain ⟨y,e⟩:=h.b1;have:=bM e;omega
 refine ⟨s2,g8,q1,⟨q3.get h.b0 fun e=>by have:=h.n8 0 e;omega,?_,q2,h.o9.fr q3 fun o e e'=>h.ne o e' e,fun o e=>?_,h.n9,fun o e e9=>?_⟩,q3⟩
 ·obtain ⟨y,e⟩:=h.b1
  exact ⟨y,q3.get e fun e=>by have:=h.n8 1 e;omega⟩
 ·rcases q4 o e with k|k
  ·exact h.n8 o k
  ·omega
 ·rcases q4 o e with k|k
  ·exact h.ne o k e9
  ·subst e9;have:=h.o9.lt;omega
theorem MA {v:T} {f8 f9:Option Nat} {n o:Nat} {ks vs:List LV} {t:T} (h:Mid st v f8 f9 n ks vs) (hn:n<2 ^ 30) (ho:st[o]?=some (.cells .rw [lvT t])) :
  ∃ s2 g9,ar st 1 16 .rw (osl f9 1 n) (.sl o 0 1 (.ex 1))=some (osl g9 1 (n+1),s2)∧Fil s2 v f8 g9 (n+1) ks (vs++[lvT t]):=by
 obtain ⟨s2,g9,q1,q2,q3,q4⟩:=Df h.o9 ho iT (by omega) (b:=16)
 have hl:2≤st.length:=by obtain ⟨y,e⟩:=h.b1;have:=bM e;omega
 refine ⟨s2,g9,q1,⟨q3.get h.b0 fun e=>by have:=h.n9 0 e;omega,?_,h.o8.fr q3 fun o e e'=>h.ne o e e',q2,h.n8,fun o e=>?_,fun o e e9=>?_⟩⟩
 ·obtain ⟨y,e⟩:=h.b1
  exact ⟨y,q3.get e fun e=>by have:=h.n9 1 e;omega⟩
 ·rcases q4 o e with k|k
  ·exact h.n9 o k
  ·omega
 ·rcases q4 o e9 with k|k
  ·exact h.ne o e k
  ·subst e;have:=h.o8.lt;omega
theorem MB {x3 x4 x27 x28 x29:LV} {v:T} {f8 f9:Option Nat} {n A L:Nat} {ks vs:List LV} {nm:Tx} {t:T} {z:List LV} (h:Fil st v f8 f9 n ks vs) (hn:n<2 ^ 30)
  (hA:st[A]?=some (.cells .rw (.str nm::z))) (hL:st[L]?=some (.cells .rw [lvT t])) (a8:∀ o,f8=some o→o≠A∧o≠L) (a9:∀ o,f9=some o→o≠A∧o≠L)
  (hK:∀ st2 g8 g9,Fil st2 v g8 g9 (n+1) (ks++[.str nm]) (vs++[lvT t])→eS x3 x4 (osl g8 1 (n+1)) (osl g9 1 (n+1)) x27 x28 x29 R st2) :
  T42 x3 x4 (osl f8 1 n) (osl f9 1 n) x27 x28 x29 (.ptr A 0) (.ptr L 0) R st:=by
 have gA:∀ {s:aa},s[A]?=some (.cells .rw (.str nm::z))→ld1 s (.ptr A 0)=some (.str nm):=fun e=>aU e
 have gL:∀ {s:aa},s[L]?=some (.cells .rw [lvT t])→ldA s (.ptr L 0) 1=some (vT t):=fun e=>by rw[ck e (by simp)];rfl
 have kp:∀ {s:aa} {i:Nat} {x y:aq},s[i]?=some x→(s++[y])[i]?=some x:=fun e=>by rw[List.getElem?_append_left (bM e)];exact e
 unfold T42
 simp only[av,Nat.zero_add,ab,gA hA,gL hL,Pl,Pm,ag,gA (kp hA),gL (kp hL),gL (kp (kp hL)),gA (kp (kp hA)),true_and]
 refine ⟨?_,?_,?_⟩
 ·obtain ⟨s2,g8,e,m,fr⟩:=Mz (o:=(st++[aq.cells .rw [lvT t]]).length) (h.app.app (y:=.cells .rw [.str nm])) hn au
  have hLs:s2[st.length]?=some (.cells .rw [lvT t]):=fr.get (by rw[List.getElem?_append_left (by simp)];exact au) fun e=>by subst e;have:=h.o8.lt;omega
  obtain ⟨s3,g9,e',m'⟩:=MA m hn hLs
  rw[e,ag]
  refine ⟨gL (fr.get (kp (kp hL)) fun e=>(a8 L e).2 rfl),?_⟩
  rw[e',ag]
  exact hK _ _ _ m'
 ·obtain ⟨s2,g8,e,m,fr⟩:=Mz (o:=st.length) (h.app (y:=.cells .rw [.str nm]) |>.app (y:=.cells .rw [lvT t])) hn (by rw[List.getElem?_append_left (by simp)];exact au)
  have hLs:s2[(st++[aq.cells .rw [.str nm]]).length]?=some (.cells .rw [lvT t]):=fr.get au fun e=>by subst e;have:=h.o8.lt;simp at this;omega
  obtain ⟨s3,g9,e',m'⟩:=MA m hn hLs
  rw[e,ag]
  refine ⟨gL (fr.get (kp (kp hL)) fun e=>(a8 L e).2 rfl),?_⟩
  rw[e',ag]
  exact hK _ _ _ m'
 ·obtain ⟨s2,g8,e,m,fr⟩:=Mz (o:=st.length) (h.app (y:=.cells .rw [.str nm])) hn au
  obtain ⟨s3,g9,e',m'⟩:=MA (m.app (y:=.cells .rw [lvT t])) hn au
  rw[e,ag]
  refine ⟨gL (fr.get (kp hL) fun e=>(a8 L e).2 rfl),gA (kp (fr.get (kp hA) fun e=>(a8 A e).1 rfl)),?_⟩
  rw[e',ag]
  exact hK _ _ _ m'
theorem ED {s:ST} (hs:s.ok) {v:T} (hv:v.ok) (hR:∀ st f8 f9,Fil st v f8 f9 s.l.length ((cN s.l v).map fun e=>.str e.1) ((cN s.l v).map fun e=>lvT e.2)→
   ax Tryz.prog 72 [osl f8 1 s.l.length,osl f9 1 s.l.length] st fun v103 st104=>bd (ai v103 0) fun v105=>bd (ai v103 1) fun v106=>bd2 (lmk (stV st104 1 (.ptr 1 0) v105)) fun _v107 st108=>bd (ldA st108 (.ptr 1 0) 1) fun v109=>R (LV.tup [v109,v106]) st108) :
  ∀ (d i:Nat) (f8 f9:Option Nat) (st:aa),i+d=s.l.length→Fil st v f8 f9 i (((cN s.l v).take i).map fun e=>.str e.1) (((cN s.l v).take i).map fun e=>lvT e.2)→
   CB (.ptr 0 0) (.ptr 1 0) (osl f8 1 i) (osl f9 1 i) (.isl (atC s.l) s.l.length none) (i64 s.l.length) (i64 i) R st:=by
 intro d
 induction d with
 | zero=>
  intro i f8 f9 st hi h
  refine Kv _ _ _ _ _ _ _ ?_
  have c1:¬ ((i:Int)<s.l.length):=by omega
  simp only[Gb,ae,aA,ab,c1,decide_false,af]
  have hi:i=s.l.length:=by omega
  subst hi
  rw[List.take_of_length_le (by simp[cN])] at h
  exact hR st f8 f9 h
 | succ d ih=>
  intro i f8 f9 st hi h
  refine Kv _ _ _ _ _ _ _ ?_
  have hlt:i<s.l.length:=by omega
  have h16:=hs.len
  have c1:((i:Int)<s.l.length):=by omega
  have e1:aR 6 (.isl (atC s.l) s.l.length none) (i64 i)=some (.iptr (atC s.l) (i*6)):=bW hlt
  have hx:s.l[i]?=some s.l[i]:=List.getElem?_eq_getElem hlt
  generalize s.l[i]=a at hx
  have hfe:(cN s.l v)[i]?=some (a.nm,iz v a):=by unfold cN;rw[List.getElem?_map,hx];rfl
  have g0:ld1 (st++[aq.cells .rw (aC a)]) (.ptr st.length 0)=some (.str a.nm):=aU au
  have hw1:=aI (show i<2 ^ 40 by omega)
  have nxt:∀ (st2:aa) (g8 g9:Option Nat),Fil st2 v g8 g9 (i+1) ((((cN s.l v).take i).map fun e=>.str e.1)++[.str a.nm]) ((((cN s.l v).take i).map fun e=>lvT e.2)++[lvT (iz v a)])→eS (.ptr 0 0) (.ptr 1 0) (osl g8 1 (i+1)) (osl g9 1 (i+1)) (.isl (atC s.l) s.l.length none) (i64 s.l.length) (i64 i) R st2:=by
   intro st2 g8 g9 k
   refine L5 _ _ _ _ _ _ _ ?_
   simp only[Gc,ae,aH,ab,hw1]
   refine ih (i+1) g8 g9 st2 (by omega) ?_
   rw[List.take_add_one,hfe]
   simpa using k
  simp only[Gb,ae,aA,ab,c1,decide_true,ah,e1,iX hx,bQ,ta (wG (a:=a)) sW,az,ag,gV (fy h.b0),av,Nat.zero_add,g0]
  refine (nO hv a.nm).call ?_
  rw[jZ]
  have hA:∀ y:aq,(st++[aq.cells .rw (aC a)]++[y])[st.length]?=some (.cells .rw (.str a.nm::[kV a.ty,.bool a.must,.bool a.own,.bool a.hide,.bool a.new])):=fun y=>by
   rw[List.getElem?_append_left (by simp)];exact au
  have hlen:(st++[aq.cells Md.rw (aC a)]).length=st.length+1:=by simp
  have g3:∀ y,ld1 (st++[aq.cells .rw (aC a)]++[y]) (.ptr st.length 3)=some (.bool a.own):=fun y=>by rw[aU (hA y)];rfl
  have gx:∀ t,ldA (st++[aq.cells .rw (aC a)]++[aq.cells .rw [lvT t]]) (.ptr (st++[aq.cells Md.rw (aC a)]).length 0) 1=some (vT t):=fun t=>by rw[ck au (by simp)];rfl
  have tl:∀ t,t=iz v a→T42 (.ptr 0 0) (.ptr 1 0) (osl f8 1 i) (osl f9 1 i) (.isl (atC s.l) s.l.length none) (i64 s.l.length) (i64 i) (.ptr st.length 0) (.ptr (st++[aq.cells Md.rw (aC a)]).length 0) R (st++[aq.cells .rw (aC a)]++[aq.cells .rw [lvT t]]):=by
   intro t ht
   subst ht
   exact MB (h.app.app) (by omega) (hA _) au (fun o e=>by subst e;have:=h.o8.lt;omega) (fun o e=>by subst e;have:=h.o9.lt;omega) nxt
  simp only[aw,List.getElem?_cons_zero,List.getElem?_cons_succ,ab,cI,az,ag,g3]
  cases hm:a.own with
  | false=>
   simp only[af]
   exact tl (cf v a.nm) (by unfold iz;rw[hm];rfl)
  | true=>
   simp only[ah,gx,ab]
   refine (ft _).call ?_
   have ek:((cf v a.nm).kind==0)=decide ((cf v a.nm).kind=0):=by by_cases h:(cf v a.nm).kind=0<;>simp[h]
   simp only[ae,aW,ek,ab,aM]
   refine ⟨fun hk=>?_,fun hk=>?_⟩
   ·refine yN.call ?_
    have pt:∀ t,stV (st++[aq.cells .rw (aC a)]++[aq.cells .rw [lvT t]]) 1 (.ptr (st++[aq.cells Md.rw (aC a)]).length 0) (vT .unknown)=some (st++[aq.cells .rw (aC a)]++[aq.cells .rw [lvT .unknown]]):=fun t=>cI
    rw[pt]
    simp only[az,ag]
    exact tl .unknown (by unfold iz;rw[hm,hk];rfl)
   ·exact tl (cf v a.nm) (by unfold iz;rw[hm,decide_eq_false hk];rfl)
theorem pG {l:List AT} {v:T}:(cN l v).map (·.1)=l.map (·.nm):=by unfold cN;rw[List.map_map];rfl
theorem MC {s:ST} (hs:s.ok) {v:T} (hv:v.ok):Pu Tryz.prog 42 [sV s,vT v] (.tup [vT (if (fu s.l v).2=0 then dS s.l v else .null),i64 (fu s.l v).2]):=by
 refine Pu.of (c42 _ _ ?_) (by simp only[LV.aB,et,bO];rfl) (by simp[LV.plain,LV.aB])
 have g:ldA ([]++[aq.cells .rw [lvT v]]++[aq.cells .rw [.nili]]) (.ptr 0 0) 1=some (vT v):=rfl
 simp only[w42,de,ag,bQ,List.length_nil,g,ab]
 refine (My hs hv).call ?_
 have en:((fu s.l v).2 != 0)=decide ((fu s.l v).2≠0):=by by_cases h:(fu s.l v).2=0<;>simp[h]
 simp only[aw,List.getElem?_cons_zero,List.getElem?_cons_succ,ae,bz,en,ab,aM]
 have hlen1:([]++[aq.cells Md.rw [lvT v]]).length=1:=rfl
 refine ⟨fun h=>?_,fun h=>?_⟩
 ·rw[if_neg h]
  refine lg.call ?_
  exact bj (v:=.tup [vT .null,i64 _]) _ rfl
 ·have h':(fu s.l v).2=0:=Classical.byContradiction h
  rw[if_pos h',h']
  simp only[sV,bE,b6,Nat.zero_add,y8,bn,ab]
  rw[hlen1]
  refine ED hs hv (fun st f8 f9 k=>?_) s.l.length 0 none none _ (by omega) ⟨rfl,⟨_,rfl⟩,bD.nil,bD.nil,(fun _ h=>by cases h),(fun _ h=>by cases h),(fun _ h=>by cases h)⟩
  have hb:(cN s.l v).length≤big:=by have:=hs.len;unfold big cN;rw[List.length_map];omega
  have hnd:((cN s.l v).map (·.1)).Nodup:=by rw[pG];exact cJ hs.rise
  have hm:=GJ hnd hb
  have hl:(cN s.l v).length=s.l.length:=by simp[cN]
  have e1:sL ((cN s.l v).map (·.1))=.isl ((cN s.l v).map fun e=>.str e.1) s.l.length none:=by
   show LV.isl _ _ _=_
   rw[List.map_map,List.length_map,hl];rfl
  have e2:vL ((cN s.l v).map (·.2))=.isl ((cN s.l v).map fun e=>lvT e.2) s.l.length none:=by
   show LV.isl _ _ _=_
   rw[eL,List.map_map,List.length_map,hl];rfl
  rw[e1,e2] at hm
  refine ax.Jh (ws:=[]) (bs:=[osl f9 1 s.l.length]) k.o8 fun st2 fr2=>?_
  have b1:∃ y,st2[1]?=some (.cells .rw [y]):=by
   obtain ⟨y,e⟩:=k.b1
   exact ⟨y,fr2.get e fun e=>by have:=k.n8 1 e;omega⟩
  refine ax.Jh (ws:=[.isl ((cN s.l v).map fun e=>.str e.1) s.l.length none]) (bs:=[]) (k.o9.fr fr2 fun o e e'=>k.ne o e' e) fun st3 fr3=>?_
  obtain ⟨y,b1⟩:=b1
  have b13:st3[1]?=some (.cells .rw [y]):=fr3.get b1 fun e=>by have:=k.n9 1 e;omega
  refine hm.call ?_
  have pt:stV st3 1 (.ptr 1 0) (vT (.map (cN s.l v)))=some (st3.set 1 (.cells .rw [lvT (.map (cN s.l v))])):=by
   have q:=eA (k:=0) (vs:=[lvT (.map (cN s.l v))]) (n:=1) b13 (by simp) (by simp[iT]) rfl
   exact q
  have gt:ldA (st3.set 1 (.cells .rw [lvT (.map (cN s.l v))])) (.ptr 1 0) 1=some (vT (.map (cN s.l v))):=by
   rw[ck (bx b13) (by simp)];rfl
  simp only[aw,List.getElem?_cons_zero,List.getElem?_cons_succ,ab,pt,az,ag,gt]
  exact bj (v:=.tup [vT (dS s.l v),i64 0]) _ (by simp[LV.plain,LV.aB])
end
end Go.Proofs.YtknegckgmklnhaaGreatDoor
namespace Go.Proofs.YtknegckgmklnhaaGreatDoor
open Go Go.CP
theorem EE {l:List AT} {b:AT} (h:(l.map (·.nm)).Pairwise ltB) (hb:l.getLast?=some b):∀ x ∈ l,x=b∨ltB x.nm b.nm:=by
 obtain ⟨ys,rfl⟩:=List.getLast?_eq_some_iff.1 hb
 intro x hx
 rw[List.map_append] at h
 have:=(List.pairwise_append.1 h).2.2
 rcases List.mem_append.1 hx with h1|h1
 ·exact .inr (this x.nm (List.mem_map.2 ⟨x,h1,rfl⟩) b.nm (by simp))
 ·simp at h1;exact .inl h1
theorem Jz {v:Int} {l:List AT} {a:AT} (h:ST.ok ⟨v,l⟩) (ht:a.ty.wf 8) (hm:fR l a=0):ST.ok ⟨v,l++[a]⟩:=by
 unfold fR at hm
 split at hm
 ·omega
 rename_i h16
 rw[← Ms] at hm
 obtain ⟨h1,h2,_,h4⟩:=yT hm
 have hl:=h.len
 refine ⟨h.ver,by simp at hl ⊢;omega,?_,?_,?_,?_⟩
 ·show ((l++[a]).map (·.nm)).Pairwise ltB
  rw[List.map_append]
  refine List.pairwise_append.2 ⟨h.rise,by simp,fun x hx y hy=>?_⟩
  simp at hy;subst hy
  obtain ⟨z,hz,rfl⟩:=List.mem_map.1 hx
  unfold fQ at h2
  cases hg:l.getLast? with
  | none=>rw[List.getLast?_eq_none_iff] at hg;subst hg;cases hz
  | some b=>
   rw[hg] at h2
   rcases EE h.rise hg z hz with rfl|h3
   ·exact h2
   ·exact Hu h3 h2
 all_goals
  intro x hx
  rcases List.mem_append.1 hx with hx|hx
  ·first|exact h.nm x hx|exact h.ty x hx|exact h.mo x hx
  ·simp at hx;subst hx;first|exact h1|exact ht|exact h4
theorem HG {s:Tx} {a:AT} (h:eJ s=some a):a.ty.wf 8:=by
 unfold eJ at h
 split at h
 ·split at h
  ·cases h
  ·split at h
   ·cases h
   ·rename_i t e
    split at h
    ·cases h;exact yR e
    ·cases h
 ·cases h
theorem uC {v:Int}:∀ {ps:List Tx} {l l':List AT} {n:Int},ST.ok ⟨v,l⟩→dc l n ps=.inl l'→ST.ok ⟨v,l'⟩
 | [],l,l',n,h,e=>by simp only[dc,Sum.inl.injEq] at e;subst e;exact h
 | [p],l,l',n,h,e=>by
  simp only[dc] at e
  split at e
  ·simp only[Sum.inl.injEq] at e;subst e;exact h
  ·cases e
 | p::q::r,l,l',n,h,e=>by
  simp only[dc] at e
  split at e
  ·cases e
  ·rename_i a ha
   split at e
   ·rename_i hm
    exact uC (Jz h (HG ha) hm) e
   ·cases e
theorem Bu {s:Tx} {S:ST} (h:eN s=.inl S):S.ok:=by
 unfold eN at h
 split at h
 ·split at h
  ·cases h
  ·rename_i v _
   split at h
   ·cases h
   ·rename_i hv
    split at h
    ·rename_i l e
     simp only[Sum.inl.injEq] at h
     subst h
     exact uC ⟨(by show 0≤v∧v≤1000;omega),by simp,by simp,by simp,by simp,by simp⟩ e
    ·cases h
 ·cases h
end Go.Proofs.YtknegckgmklnhaaGreatDoor
