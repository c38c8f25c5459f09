/- Parts of the proof. -/
import Derived.Test.YtknegckgmklnhaaGreatDoorVbN6
namespace Go.Proofs.YtknegckgmklnhaaGreatDoor
open Go Go.CP
set_option maxRecDepth 100000
def ya (k:Tx):List AT→Nat→Option Nat
 | [],_=>none
 | a::l,j=>if a.nm=k then some j else ya k l (j+1)
theorem vA {k:Tx}:∀ {l:List AT} {j:Nat},match ya k l j with
  | none=>jd k l=none
  | some i=>j≤i∧l[i-j]?=jd k l∧(jd k l).isSome=true
 | [],_=>rfl
 | a::l,j=>by
  unfold ya jd
  by_cases h:a.nm=k
  ·simp[h]
  ·simp only[h,if_false]
   have:=vA (k:=k) (l:=l) (j:=j+1)
   cases hx:ya k l (j+1) with
   | none=>rw[hx] at this;exact this
   | some i=>
    rw[hx] at this
    obtain ⟨h1,h2,h3⟩:=this
    refine ⟨by omega,?_,h3⟩
    have e:i-j=(i-(j+1))+1:=by omega
    rw[e,aO]
    exact h2
theorem EA {k:Tx}:∀ {l:List AT} {j:Nat},ed (.str k) ((l.map fun a=>LV.str a.nm).zip (rF j l))=some ((ya k l j).map fun i=>i64 (i:Nat))
 | [],_=>rfl
 | a::l,j=>by
  simp only[List.map_cons,rF,List.zip_cons_cons,ed,vu,ya]
  by_cases h:a.nm=k
  ·simp[h]
  ·have h':(k==a.nm)=false:=by simpa using Ne.symm h
   rw[h',if_neg h]
   exact EA
theorem Ax:∀ {l:List AT} {j:Nat},(rF j l).length=l.length
 | [],_=>rfl
 | _::l,j=>by simp[rF,Ax]
section
variable {st st':aa} {R:LV→aa→Prop}
theorem Om {s:ST} (hs:s.ok) {k:Tx}:so st true (some (.int .i64 0)) (.imap (s.l.map fun a=>.str a.nm) (rF 0 s.l)) (.str k) true=some (match ya k s.l 0 with
  | some i=>.tup [i64 i,.bool true]
  | none=>.tup [i64 0,.bool false]):=by
 have hk:(dA (s.l.map fun a=>LV.str a.nm) []).isSome=true:=by
  have:=ic (ss:=s.l.map (·.nm)) (seen:=[]) (ey hs.rise) (by simp)
  rw[List.map_map] at this
  simp only[Function.comp_def] at this
  rw[this];rfl
 show uN _ _ _ _ _ _=_
 unfold uN
 rw[if_pos ⟨rfl,rfl,hk,by simp[Ax]⟩,EA]
 cases ya k s.l 0<;>rfl
theorem EB {s:ST}:ld1 st (.iptr (sC s) 1)=some (.isl (atC s.l) s.l.length none):=rfl
theorem Qp {s:ST}:ld1 st (.iptr (sC s) 2)=some (.imap (s.l.map fun a=>.str a.nm) (rF 0 s.l)):=rfl
theorem py {l:List AT} {i:Nat} {a:AT} (h:l[i]?=some a):ldA st (.iptr (atC l) (i*6)) 6=some (aV a):=by
 have hlt:=(List.getElem?_eq_some_iff.1 h).1
 rw[fk (by rw[Ey];omega)]
 unfold atC
 rw[qC (r:=jy a) (by rw[bT,h];rfl)]
 rfl
theorem On {s:ST} (hs:s.ok) (k:Tx):Pu Tryz.prog 39 [sV s,.str k] (match jd k s.l with
  | some a=>.tup [aV a,.bool true]
  | none=>.tup [.agg (aX [] .nilp false false false false),.bool false]):=by
 refine Pu.of (c39 _ _ ?_) (by simp only[LV.aG,ie];rfl) (by split<;>simp[LV.plain,LV.aG,me])
 have zag:bh (aB (aF [(0,1),(1,1),(2,1),(3,1),(4,1),(5,1)]) [LV.str [],LV.nilp,LV.bool false,LV.bool false,LV.bool false,LV.bool false] [])=some (.agg (aX [] .nilp false false false false)):=rfl
 have hx:=vA (k:=k) (l:=s.l) (j:=0)
 simp only[w39,cv,bD,aR,sV,iY,dL,dz,ab,ae,cf,b9,aj,Qp,Om hs]
 cases hi:ya k s.l 0 with
 | none=>
  rw[hi] at hx
  rw[show jd k s.l=none from hx]
  simp only[av,aN,aO,ab,bw,bL,ah,zag]
  rw[uk (l:=aX [] .nilp false false false false) rfl rfl rfl rfl]
  simp only[aA,af]
  rw[ld6 (l:=aX [] .nilp false false false false) rfl rfl,ab]
  exact bu (v:=.tup [.agg _,.bool false]) _ rfl
 | some i=>
  rw[hi] at hx
  obtain ⟨_,h2,h3⟩:=hx
  rw[Nat.sub_zero] at h2
  obtain ⟨a,ha⟩:=Option.isSome_iff_exists.1 h3
  rw[ha] at h2 ⊢
  have hlt:=(List.getElem?_eq_some_iff.1 h2).1
  have e1:bn 6 (.isl (atC s.l) s.l.length none) (i64 i)=some (.iptr (atC s.l) (i*6)):=cj hlt
  simp only[av,aN,aO,ab,bw,bM,ae,EB,e1,py h2]
  rw[uk (l:=aX [] .nilp false false false false) rfl rfl rfl xX]
  simp only[aA,af]
  rw[ld6 (l:=aC a) rfl rfl,ab]
  exact bu (v:=.tup [aV a,.bool true]) _ (by simp only[LV.plain,LV.aG,me];rfl)
end
section
variable {st st':aa} {R:LV→aa→Prop}
theorem CH {s:ST} (hs:s.ok) {es:List (Tx × T)} (hv:(T.map es).ok) (hR:∀ st,R (.tup [.str (fY s.l es).1,i64 (fY s.l es).2]) st) :
  ∀ (d i:Nat) (st:aa),i+d=es.length→fY s.l es=fY s.l (es.drop i)→xj (sV s) (vL (es.map (·.2))) (sL (es.map (·.1))) (i64 es.length) (i64 i) R st:=by
 have hbe:es.length≤big:=by simp only[T.ok] at hv;exact hv.1
 intro d
 induction d with
 | zero=>
  intro i st hi hw
  refine HH _ _ _ _ _ ?_
  have c1:¬ ((i:Int)<es.length):=by omega
  simp only[BW,ad,au,ab,c1,a8,ae]
  rw[bR (by omega)] at hw
  rw[hw] at hR
  exact hR st
 | succ d ih=>
  intro i st hi hw
  refine HH _ _ _ _ _ ?_
  have hlt:i<es.length:=by omega
  have c1:((i:Int)<es.length):=by omega
  have e1:bn 1 (sL (es.map (·.1))) (i64 i)=some (.iptr ((es.map (·.1)).map .str) (i*1)):=cj (by simpa using hlt)
  have hg:((es.map (·.1)).map LV.str)[i*1]?=some (.str es[i].1):=by simp[hlt]
  have e2:bn 1 (vL (es.map (·.2))) (i64 i)=some (.iptr (fh (es.map (·.2))) (i*1)):=cj (by simpa using hlt)
  have g:∀ s:aa,ldA s (.iptr (fh (es.map (·.2))) (i*1)) 1=some (vT es[i].2):=fun s=>by
   rw[fk (by rw[fW];simp;omega),Nat.mul_one,fW,List.map_map,← List.map_drop,b6 hlt];rfl
  have hm:es[i] ∈ es:=List.getElem_mem hlt
  have hdr:es.drop i=es[i]::es.drop (i+1):=b6 hlt
  generalize es[i]=e at hg g hm hdr
  rw[hdr,fY] at hw
  have hey:e.2.ok:=T.dY hv e.2 (List.mem_map.2 ⟨e,hm,rfl⟩)
  have put:∀ cs:List LV,cs.length=6→cs.all LV.one=true→stV (st++[ar.cells .rw [LV.str [],LV.nilp,LV.bool false,LV.bool false,LV.bool false,LV.bool false]]) 6 (.ptr st.length 0) (.agg cs)=some (st++[.cells .rw cs]):=fun cs h1 h2=>by
   rw[uk ay rfl h1 h2];simp
  simp only[BW,ad,au,ab,c1,aZ,ah,e1,bA,hg]
  have hf39:=On hs e.1
  cases hf:jd e.1 s.l with
  | none=>
   rw[hf] at hf39
   rw[hf] at hw
   refine hf39.call ?_
   simp only[av,aN,aO,ab,cv,put (aX [] .nilp false false false false) rfl rfl,aA,af,bw,bL,ah]
   rw[hw] at hR
   exact hR _
  | some a=>
   rw[hf] at hf39
   rw[hf] at hw
   refine hf39.call ?_
   have ham:=vk hf
   have g1:ld1 (st++[ar.cells .rw (aC a)]) (.ptr st.length 1)=some (kV a.ty):=bx ay
   simp only[av,aN,aO,ab,cv,put (aC a) rfl rfl,aA,af,bw,bM,ae,ao,aj,g1,e2,g]
   refine (Jc (d:=8) (by omega) (hs.ty a ham.1) hey).call ?_
   simp only[bw,ab]
   simp only at hw
   cases htk:cM a.ty e.2 with
   | true=>
    rw[htk,if_pos rfl] at hw
    simp only[bM,ae,aH,ab,aK (show i<2 ^ 40 by unfold big at hbe;omega)]
    exact ih (i+1) _ (by omega) hw
   | false=>
    rw[htk,if_neg (by simp)] at hw
    simp only[bL,ah]
    rw[hw] at hR
    exact hR _
theorem Ay {s:ST} (hs:s.ok) {v:T} (hv:v.ok):Pu Tryz.prog 110 [sV s,vT v] (.tup [.str (dw s.l v).1,i64 (dw s.l v).2]):=by
 refine Pu.of (PJ _ _ ?_) (by simp only[LV.aG,ie,cB];rfl) rfl
 have g:ldA ([]++[ar.cells .rw [lvT v]]) (.ptr 0 0) 1=some (vT v):=rfl
 have ep:eI true (sV s) .nilp=some false:=rfl
 simp only[NV,dV,af,aR,ep,dL,dz,ab,ae,g]
 refine (kN v).call ?_
 have ek:(v.kind != 7)=decide (v.kind≠7):=by by_cases h:v.kind=7<;>simp[h]
 simp only[ad,bJ,ek,ab,aL]
 refine ⟨fun h=>?_,fun h=>?_⟩
 ·have:dw s.l v=([],6):=by cases v<;>first|rfl|exact absurd rfl h
  rw[this];exact bu (v:=.tup [.str [],i64 6]) _ rfl
 ·have:v.kind=7:=Classical.byContradiction h
  cases v<;>simp only[T.kind] at this<;>try omega
  rename_i es
  simp only[g,ab]
  refine (jV hv).call ?_
  simp only[g,ab]
  refine (mL hv).call ?_
  have hk:(T.map es).keys=es.map (·.1):=rfl
  have hi:(T.map es).items=es.map (·.2):=rfl
  rw[hk,hi]
  simp only[aU,ab,bH]
  have:=CH hs hv (R:=fun r s'=>dp s' (.tup [.str (dw s.l (.map es)).1,i64 (dw s.l (.map es)).2]) r) (fun st=>bu (v:=.tup [.str _,i64 _]) _ rfl) es.length 0 ([]++[ar.cells .rw [lvT (.map es)]]) (by omega) rfl
  simpa using this
end
section
variable {st st':aa} {R:LV→aa→Prop}
theorem EC {cs:List LV} (h1:cs.length=6) (h2:cs.all LV.one=true):stV (st++[ar.cells .rw [LV.str [],LV.nilp,LV.bool false,LV.bool false,LV.bool false,LV.bool false]]) 6 (.ptr st.length 0) (.agg cs)=some (st++[.cells .rw cs]):=by
 rw[uk ay rfl h1 h2];simp
theorem gV {v:T} (h:st[0]?=some (.cells .rw [lvT v])):ldA st (.ptr 0 0) 1=some (vT v):=by rw[du h (by simp)];rfl
theorem jg {x y:ar} (h:st[0]?=some x):(st++[y])[0]?=some x:=by rw[bW (cA h)];exact h
theorem r7 {v:T} {k:Tx}:(v.at k).getD .null=cG v k:=rfl
theorem Gd {s:ST} (hs:s.ok) {v:T} (hv:v.ok) (hR:∀ st,R (.tup [.str (iB v s.l).1,i64 (iB v s.l).2]) st) :
  ∀ (d i:Nat) (st:aa),i+d=s.l.length→iB v s.l=iB v (s.l.drop i)→st[0]?=some (.cells .rw [lvT v])→zH (.ptr 0 0) (.isl (atC s.l) s.l.length none) (i64 s.l.length) (i64 i) R st:=by
 intro d
 induction d with
 | zero=>
  intro i st hi hw _
  refine Mh _ _ _ _ ?_
  have c1:¬ ((i:Int)<s.l.length):=by omega
  simp only[HF,ad,au,ab,c1,a8,ae]
  rw[bR (by omega)] at hw
  rw[hw] at hR
  exact hR st
 | succ d ih=>
  intro i st hi hw h0
  refine Mh _ _ _ _ ?_
  have hlt:i<s.l.length:=by omega
  have h16:=hs.len
  have c1:((i:Int)<s.l.length):=by omega
  have e1:bn 6 (.isl (atC s.l) s.l.length none) (i64 i)=some (.iptr (atC s.l) (i*6)):=cj hlt
  have hx:s.l[i]?=some s.l[i]:=bg hlt
  have hdr:s.l.drop i=s.l[i]::s.l.drop (i+1):=b6 hlt
  generalize s.l[i]=a at hx hdr
  rw[hdr,iB] at hw
  have g0:ld1 (st++[ar.cells .rw (aC a)]) (.ptr st.length 0)=some (.str a.nm):=bx ay
  have hw1:=aK (show i<2 ^ 40 by omega)
  simp only[HF,ad,au,ab,c1,aZ,ah,e1,py hx,cv,EC (Cw (a:=a)) xX,aA,af,gV (jg h0),ao,aj,g0]
  refine (u9 hv a.nm).call ?_
  rw[r7]
  generalize hz:ar.cells Md.rw (aC a)=z at g0
  have hz1:(st++[z])[st.length]?=some (.cells .rw (aC a)):=by rw[ay,hz]
  have g2:∀ y,ld1 (st++[z]++[y]) (.ptr st.length 2)=some (.bool a.must):=fun y=>by
   rw[bx (m:=.rw) (l:=aC a) (by rw[bW (by simp)];exact hz1)];rfl
  have gn:∀ y,ld1 (st++[z]++[y]) (.ptr st.length 0)=some (.str a.nm):=fun y=>by
   rw[bx (m:=.rw) (l:=aC a) (by rw[bW (by simp)];exact hz1)];rfl
  have gx:∀ t,ldA (st++[z]++[ar.cells .rw [lvT t]]) (.ptr (st++[z]).length 0) 1=some (vT t):=fun t=>by rw[du ay (by simp)];rfl
  simp only[av,aN,aO,ab,eY,aA,af,g2]
  cases hm:a.must with
  | false=>
   rw[hm] at hw
   simp only[Bool.false_and,Bool.false_eq_true,if_false] at hw
   simp only[ae,aH,hw1,ab]
   exact ih (i+1) _ (by omega) hw (jg (jg h0))
  | true=>
   rw[hm,Bool.true_and] at hw
   simp only[ah,gx,ab]
   refine (kN _).call ?_
   have ek:((cG v a.nm).kind==0)=decide ((cG v a.nm).kind=0):=by by_cases h:(cG v a.nm).kind=0<;>simp[h]
   simp only[ad,bj,ek,ab,aL,gn]
   refine ⟨fun h=>?_,fun h=>?_⟩
   ·rw[decide_eq_true h,if_pos rfl] at hw
    rw[hw] at hR
    exact hR _
   ·rw[decide_eq_false h,if_neg (by simp)] at hw
    simp only[aH,hw1,ab]
    exact ih (i+1) _ (by omega) hw (jg (jg h0))
theorem Rt {s:ST} (hs:s.ok) {v:T} (hv:v.ok):Pu Tryz.prog 41 [sV s,vT v] (.tup [.str (vi s.l v).1,i64 (vi s.l v).2]):=by
 refine Pu.of (c41 _ _ ?_) (by simp only[LV.aG,ie,cB];rfl) rfl
 have g:ldA ([]++[ar.cells .rw [lvT v]]) (.ptr 0 0) 1=some (vT v):=rfl
 simp only[w41,dV,af,aR,g,ab]
 refine (Ay hs hv).call ?_
 have en:((dw s.l v).2 != 0)=decide ((dw s.l v).2≠0):=by by_cases h:(dw s.l v).2=0<;>simp[h]
 simp only[av,aN,aO,ad,bJ,en,ab,aL]
 unfold vi
 refine ⟨fun h=>?_,fun h=>?_⟩
 ·rw[if_neg h];exact bu (v:=.tup [.str _,i64 _]) _ rfl
 ·have h':(dw s.l v).2=0:=Classical.byContradiction h
  rw[if_pos h']
  simp only[sV,cf,b9,aj,EB,aU,ab]
  exact Gd hs hv (R:=fun r s'=>dp s' (.tup [.str (iB v s.l).1,i64 (iB v s.l).2]) r) (fun st=>bu (v:=.tup [.str _,i64 _]) _ rfl) s.l.length 0 _ (by omega) rfl rfl
theorem CI {s:ST} (hs:s.ok) {v:T} (hv:v.ok) (hR:∀ st,R (.tup [.str (mT v s.l).1,i64 (mT v s.l).2]) st) :
  ∀ (d i:Nat) (st:aa),i+d=s.l.length→mT v s.l=mT v (s.l.drop i)→st[0]?=some (.cells .rw [lvT v])→DS (.ptr 0 0) (.isl (atC s.l) s.l.length none) (i64 s.l.length) (i64 i) R st:=by
 intro d
 induction d with
 | zero=>
  intro i st hi hw _
  refine Mi _ _ _ _ ?_
  have c1:¬ ((i:Int)<s.l.length):=by omega
  simp only[HG,ad,au,ab,c1,a8,ae]
  rw[bR (by omega)] at hw
  rw[hw] at hR
  exact hR st
 | succ d ih=>
  intro i st hi hw h0
  refine Mi _ _ _ _ ?_
  have hlt:i<s.l.length:=by omega
  have h16:=hs.len
  have c1:((i:Int)<s.l.length):=by omega
  have e1:bn 6 (.isl (atC s.l) s.l.length none) (i64 i)=some (.iptr (atC s.l) (i*6)):=cj hlt
  have hx:s.l[i]?=some s.l[i]:=bg hlt
  have hdr:s.l.drop i=s.l[i]::s.l.drop (i+1):=b6 hlt
  generalize s.l[i]=a at hx hdr
  rw[hdr,mT] at hw
  have g0:ld1 (st++[ar.cells .rw (aC a)]) (.ptr st.length 0)=some (.str a.nm):=bx ay
  have hw1:=aK (show i<2 ^ 40 by omega)
  simp only[HG,ad,au,ab,c1,aZ,ah,e1,py hx,cv,EC (Cw (a:=a)) xX,aA,af,gV (jg h0),ao,aj,g0]
  refine (u9 hv a.nm).call ?_
  generalize hz:ar.cells Md.rw (aC a)=z at g0
  have hz1:(st++[z])[st.length]?=some (.cells .rw (aC a)):=by rw[ay,hz]
  have gn:∀ y,ld1 (st++[z]++[y]) (.ptr st.length 0)=some (.str a.nm):=fun y=>by
   rw[bx (m:=.rw) (l:=aC a) (by rw[bW (by simp)];exact hz1)];rfl
  simp only[av,aN,aO,ab,eY,aA,af,gn,bw]
  cases hm:(v.at a.nm).isSome with
  | true=>
   rw[hm,if_pos rfl] at hw
   simp only[bM,ae,aH,hw1,ab]
   exact ih (i+1) _ (by omega) hw (jg (jg h0))
  | false=>
   rw[hm,if_neg (by simp)] at hw
   simp only[bL,ah]
   rw[hw] at hR
   exact hR _
theorem K3 {s:ST} (hs:s.ok) {v:T} (hv:v.ok):Pu Tryz.prog 43 [sV s,vT v] (.tup [.str (cI s.l v).1,i64 (cI s.l v).2]):=by
 refine Pu.of (c43 _ _ ?_) (by simp only[LV.aG,ie,cB];rfl) rfl
 have g:ldA ([]++[ar.cells .rw [lvT v]]) (.ptr 0 0) 1=some (vT v):=rfl
 simp only[w43,dV,af,aR,g,ab]
 refine (Ay hs hv).call ?_
 have en:((dw s.l v).2 != 0)=decide ((dw s.l v).2≠0):=by by_cases h:(dw s.l v).2=0<;>simp[h]
 simp only[av,aN,aO,ad,bJ,en,ab,aL]
 unfold cI
 refine ⟨fun h=>?_,fun h=>?_⟩
 ·rw[if_neg h];exact bu (v:=.tup [.str _,i64 _]) _ rfl
 ·have h':(dw s.l v).2=0:=Classical.byContradiction h
  rw[if_pos h']
  simp only[sV,cf,b9,aj,EB,aU,ab]
  exact CI hs hv (R:=fun r s'=>dp s' (.tup [.str (mT v s.l).1,i64 (mT v s.l).2]) r) (fun st=>bu (v:=.tup [.str _,i64 _]) _ rfl) s.l.length 0 _ (by omega) rfl rfl
end
section
variable {st st':aa} {R:LV→aa→Prop}
structure Fil (st:aa) (v:T) (f8 f9:Option Nat) (n:Nat) (ks vs:List LV):Prop where
 b0:st[0]?=some (.cells .rw [lvT v])
 b1:∃ y,st[1]?=some (.cells .rw [y])
 o8:ca .rw st f8 1 n ks
 o9:ca .rw st f9 1 n vs
 n8:∀ o,f8=some o→2≤o
 n9:∀ o,f9=some o→2≤o
 ne:∀ o,f8=some o→f9≠some o
structure Mid (st:aa) (v:T) (f8 f9:Option Nat) (n:Nat) (ks vs:List LV):Prop where
 b0:st[0]?=some (.cells .rw [lvT v])
 b1:∃ y,st[1]?=some (.cells .rw [y])
 o8:ca .rw st f8 1 (n+1) ks
 o9:ca .rw st f9 1 n vs
 n8:∀ o,f8=some o→2≤o
 n9:∀ o,f9=some o→2≤o
 ne:∀ o,f8=some o→f9≠some o
end
end Go.Proofs.YtknegckgmklnhaaGreatDoor
namespace Go.Proofs.YtknegckgmklnhaaGreatDoor
open Go Go.CP
theorem Gf {l:List AT} {b:AT} (h:(l.map (·.nm)).Pairwise ltB) (hb:l.getLast?=some b):∀ x ∈ l,x=b∨ltB x.nm b.nm:=by
 obtain ⟨ys,rfl⟩:=List.getLast?_eq_some_iff.1 hb
 intro x hx
 rw[List.map_append] at h
 have:=(List.pairwise_append.1 h).2.2
 rcases List.mem_append.1 hx with h1|h1
 ·exact .inr (this x.nm (List.mem_map.2 ⟨x,h1,rfl⟩) b.nm (by simp))
 ·simp at h1;exact .inl h1
theorem K4 {v:Int} {l:List AT} {a:AT} (h:ST.ok ⟨v,l⟩) (ht:a.ty.wf 8) (hm:gD l a=0):ST.ok ⟨v,l++[a]⟩:=by
 unfold gD at hm
 split at hm
 ·omega
 rename_i h16
 rw[← Oh] at hm
 obtain ⟨h1,h2,_,h4⟩:=An hm
 have hl:=h.len
 refine ⟨h.ver,by simp at hl ⊢;omega,?_,?_,?_,?_⟩
 ·show ((l++[a]).map (·.nm)).Pairwise ltB
  rw[List.map_append]
  refine List.pairwise_append.2 ⟨h.rise,by simp,fun x hx y hy=>?_⟩
  simp at hy;subst hy
  obtain ⟨z,hz,rfl⟩:=List.mem_map.1 hx
  unfold gC at h2
  cases hg:l.getLast? with
  | none=>rw[List.getLast?_eq_none_iff] at hg;subst hg;cases hz
  | some b=>
   rw[hg] at h2
   rcases Gf h.rise hg z hz with rfl|h3
   ·exact h2
   ·exact I3 h3 h2
 all_goals
  intro x hx
  rcases List.mem_append.1 hx with hx|hx
  ·first|exact h.nm x hx|exact h.ty x hx|exact h.mo x hx
  ·simp at hx;subst hx;first|exact h1|exact ht|exact h4
theorem Jd {s:Tx} {a:AT} (h:fp s=some a):a.ty.wf 8:=by
 unfold fp at h
 split at h
 ·split at h
  ·cases h
  ·split at h
   ·cases h
   ·rename_i t e
    split at h
    ·cases h;exact Al e
    ·cases h
 ·cases h
theorem vB {v:Int}:∀ {ps:List Tx} {l l':List AT} {n:Int},ST.ok ⟨v,l⟩→dS l n ps=.inl l'→ST.ok ⟨v,l'⟩
 | [],l,l',n,h,e=>by simp only[dS,Sum.inl.injEq] at e;subst e;exact h
 | [p],l,l',n,h,e=>by
  simp only[dS] at e
  split at e
  ·simp only[Sum.inl.injEq] at e;subst e;exact h
  ·cases e
 | p::q::r,l,l',n,h,e=>by
  simp only[dS] at e
  split at e
  ·cases e
  ·rename_i a ha
   split at e
   ·rename_i hm
    exact vB (K4 h (Jd ha) hm) e
   ·cases e
theorem CJ {s:Tx} {S:ST} (h:fw s=.inl S):S.ok:=by
 unfold fw at h
 split at h
 ·split at h
  ·cases h
  ·rename_i v _
   split at h
   ·cases h
   ·rename_i hv
    split at h
    ·rename_i l e
     simp only[Sum.inl.injEq] at h
     subst h
     exact vB ⟨(by show 0≤v∧v≤1000;omega),by simp,by simp,by simp,by simp,by simp⟩ e
    ·cases h
 ·cases h
end Go.Proofs.YtknegckgmklnhaaGreatDoor
