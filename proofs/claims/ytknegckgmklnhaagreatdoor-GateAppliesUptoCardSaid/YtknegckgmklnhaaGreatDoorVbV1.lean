/- Parts of the proof. -/
import Derived.Test.YtknegckgmklnhaaGreatDoorVaG2
namespace Go.Proofs.YtknegckgmklnhaaGreatDoor
open Go Go.CP
set_option maxRecDepth 100000
abbrev vd (r:Int) (n:Tx):LV:=.agg [i64 r,.str n]
theorem eqV {a b:Int} {s t:Tx}:og (leq Tryz.prog 64 92) (vd a s) (vd b t)=some ((a==b)&&(s==t)):=by
 have e:og (leq Tryz.prog 64 92) (vd a s) (vd b t)=match (a==b) with
  | true=>(match (s==t) with
   | true=>some true
   | false=>some false)
  | false=>some false:=by kernel_rfl
 rw[e]
 cases a==b<;>cases s==t<;>rfl
section
variable {st:aa} {R:LV→aa→Prop}
theorem vP {S:ST} {v:T}:LV.aG [sV S,vT v]=true:=by simp only[LV.aG,ie,cB];rfl
theorem AK {S:ST} (hS:S.ok) {v:T} (hv:v.ok):Pu Tryz.prog 124 [sV S,vT v] (.tup [vd 1 (cI S.l v).1,.bool (decide ((cI S.l v).2=0))]):=by
 refine Pu.of (c124 _ _ ?_) vP rfl
 have g:ldA ([ar.cells .rw [lvT v]]++[ar.cells .rw [i64 0,LV.str []]]) (.ptr 0 0) 1=some (vT v):=rfl
 have zag:bh (aB (aF [(0,1),(1,1)]) [i64 0,LV.str []] [(0,i64 1),(1,.str (cI S.l v).1)])=some (vd 1 (cI S.l v).1):=rfl
 have pt:stV ([ar.cells .rw [lvT v]]++[ar.cells .rw [i64 0,LV.str []]]) 2 (.ptr 1 0) (vd 1 (cI S.l v).1)=some ([ar.cells .rw [lvT v]]++[.cells .rw [i64 1,.str (cI S.l v).1]]):=rA (st:=[ar.cells .rw [lvT v]]) rfl
 have g2:ldA ([ar.cells .rw [lvT v]]++[ar.cells .rw [i64 1,.str (cI S.l v).1]]) (.ptr 1 0) 2=some (vd 1 (cI S.l v).1):=rfl
 have ee:((cI S.l v).2==0)=decide ((cI S.l v).2=0):=by by_cases h:(cI S.l v).2=0<;>simp[h]
 simp only[OI,dV,af,aR,bD,cv,List.length_singleton,g,ab]
 refine (K3 hS hv).call ?_
 simp only[av,aN,aO,ab,zag,ad,bj,ee,pt,aA,af,g2]
 exact bu (v:=.tup [vd _ _,.bool _]) _ rfl
open Classical in
noncomputable def vQ (p m:T):List AT→Int × Tx
 | []=>(0,[])
 | a::l=>if every cK (cG m a.nm)=true then (if Agr (cG p a.nm) (cG m a.nm) then vQ p m l else (5,a.nm)) else (4,a.nm)
def vS (m:T):List AT→Int × Tx
 | []=>(0,[])
 | a::l=>if every cK (cG m a.nm)=true then vS m l else (4,a.nm)
structure V3 (st:aa) (p m:T):Prop where
 a:st[0]?=some (.cells .rw [lvT p])
 b:st[1]?=some (.cells .rw [lvT m])
 c:st[2]?=some (.cells .rw [i64 0,.str []])
theorem V3.app {p m:T} {y:ar} (h:V3 st p m):V3 (st++[y]) p m:=
 ⟨jg h.a,by rw[bW (cA h.b)];exact h.b,by rw[bW (cA h.c)];exact h.c⟩
theorem yu {r:Int} {n:Tx}:bh (aB (aF [(0,1),(1,1)]) [i64 0,LV.str []] [(0,i64 r),(1,.str n)])=some (vd r n):=rfl
theorem OJ:bh (aB (aF [(0,1),(1,1)]) [i64 0,LV.str []] [])=some (vd 0 []):=rfl
theorem kp {o:Nat} {x y:LV} (h:st[o]?=some (.cells .rw [x,y])) {r:Int} {n:Tx} {K:LV→aa→Prop} (hK:∀ s,K (vd r n) s) :
  bd2 (lmk (stV st 2 (.ptr o 0) (vd r n))) fun _v st2=>bd (ldA st2 (.ptr o 0) 2) fun v=>K v st2:=by
 rw[ko h (show [i64 r,LV.str n].all LV.one=true from rfl)]
 simp only[aA,af]
 rw[CZ (bO h),ab]
 exact hK _
open Classical in
theorem C3 {S:ST} (hS:S.ok) {p m:T} (hp:p.ok) (hm:m.ok) {w:Int × Tx}:∀ (d i:Nat) (st:aa),i+d=S.l.length→V3 st p m→vQ p m (S.l.drop i)=w→
  EU (.ptr 0 0) (.ptr 1 0) (.ptr 2 0) (.isl (atC S.l) S.l.length none) (i64 S.l.length) (i64 i) (fun r s=>dp s (vd w.1 w.2) r) st:=by
 have h16:=hS.len
 have fin:∀ {r:Int} {n:Tx} {s:aa},(r,n)=w→dp s (vd w.1 w.2) (vd r n):=fun e=>by subst e;exact bu (v:=vd _ _) _ rfl
 intro d
 induction d with
 | zero=>
  intro i st hi h hw
  refine MQ _ _ _ _ _ _ ?_
  have c1:¬ ((i:Int)<S.l.length):=by omega
  rw[bR (by omega)] at hw
  simp only[JQ,ad,au,ab,c1,a8,ae,OJ]
  exact kp h.c fun _=>fin hw
 | succ d ih=>
  intro i st hi h hw
  refine MQ _ _ _ _ _ _ ?_
  have hlt:i<S.l.length:=by omega
  have c1:((i:Int)<S.l.length):=by omega
  have hx:S.l[i]?=some S.l[i]:=bg hlt
  have hdr:S.l.drop i=S.l[i]::S.l.drop (i+1):=b6 hlt
  generalize S.l[i]=a at hx hdr
  rw[hdr,vQ] at hw
  have e1:bn 6 (.isl (atC S.l) S.l.length none) (i64 i)=some (.iptr (atC S.l) (i*6)):=cj hlt
  have hw1:=aK (show i<2 ^ 40 by omega)
  have hA:=h.app (y:=.cells .rw (aC a))
  have hB:=hA.app (y:=.cells .rw [lvT (cG p a.nm)])
  have hC:=hB.app (y:=.cells .rw [lvT (cG m a.nm)])
  have n1:(st++[ar.cells .rw (aC a)])[st.length]?=some (.cells .rw (aC a)):=ay
  have n2:=cb (y:=ar.cells .rw [lvT (cG p a.nm)]) n1
  have n3:=cb (y:=ar.cells .rw [lvT (cG m a.nm)]) n2
  have q1:(st++[ar.cells .rw (aC a)]++[ar.cells .rw [lvT (cG p a.nm)]])[(st++[ar.cells .rw (aC a)]).length]?=some (.cells .rw [lvT (cG p a.nm)]):=ay
  have q2:=cb (y:=ar.cells .rw [lvT (cG m a.nm)]) q1
  have k1:ld1 (st++[ar.cells .rw (aC a)]) (.ptr st.length 0)=some (.str a.nm):=by rw[bx n1];rfl
  have k2:ld1 (st++[ar.cells .rw (aC a)]++[ar.cells .rw [lvT (cG p a.nm)]]) (.ptr st.length 0)=some (.str a.nm):=by rw[bx n2];rfl
  have k3:ld1 (st++[ar.cells .rw (aC a)]++[ar.cells .rw [lvT (cG p a.nm)]]++[ar.cells .rw [lvT (cG m a.nm)]]) (.ptr st.length 0)=some (.str a.nm):=by rw[bx n3];rfl
  have hpo:(cG p a.nm).ok:=T.pN hp
  have hmo:(cG m a.nm).ok:=T.pN hm
  simp only[JQ,ad,au,ab,c1,aZ,ah,e1,py hx,cv,EC (show (aC a).length=6 from rfl) (show (aC a).all LV.one=true from rfl),aA,af,gX hA.a,ao,aj,k1]
  refine (u9 hp a.nm).call ?_
  rw[r7]
  simp only[av,aN,aO,ab,eY,aA,af,gX hB.b,k2]
  refine (u9 hm a.nm).call ?_
  rw[r7]
  simp only[av,aN,aO,ab,eY,aA,af,gX (v:=cG m a.nm) (ay (st:=st++[ar.cells .rw (aC a)]++[ar.cells .rw [lvT (cG p a.nm)]]))]
  refine (Ah hmo).call ?_
  by_cases hk:every cK (cG m a.nm)=true
  ·rw[if_pos hk] at hw
   rw[hk]
   simp only[bw,bM,ab,ae,gX q2,gX (v:=cG m a.nm) (ay (st:=st++[ar.cells .rw (aC a)]++[ar.cells .rw [lvT (cG p a.nm)]]))]
   refine (mR _ _ _ (Nat.lt_succ_self _) hpo hmo).call ?_
   by_cases hg:Agr (cG p a.nm) (cG m a.nm)
   ·rw[if_pos hg] at hw
    rw[decide_eq_true hg]
    simp only[bw,bM,ab,ae,aH,hw1]
    exact ih (i+1) _ (by omega) hC hw
   ·rw[if_neg hg] at hw
    rw[decide_eq_false hg]
    simp only[bw,bL,ab,ah,k3,yu]
    exact kp hC.c fun _=>fin hw
  ·rw[if_neg hk] at hw
   have hk':every cK (cG m a.nm)=false:=by simpa using hk
   rw[hk']
   simp only[bw,bL,ab,ah,k3,yu]
   exact kp hC.c fun _=>fin hw
end
section
variable {st:aa} {R:LV→aa→Prop}
open Classical in
noncomputable def EZ (S:ST) (p m:T):Int × Tx:=if (cI S.l m).2=0 then vQ p m S.l else (1,(cI S.l m).1)
def E0 (S:ST) (m:T):Int × Tx:=if (cI S.l m).2=0 then vS m S.l else (1,(cI S.l m).1)
theorem LI {S:ST} (hS:S.ok) {p m:T} (hp:p.ok) (hm:m.ok):Pu Tryz.prog 58 [sV S,vT p,vT m] (vd (EZ S p m).1 (EZ S p m).2):=by
 refine Pu.of (c58 _ _ _ ?_) (by simp only[LV.aG,ie,cB];rfl) rfl
 have h0:V3 [ar.cells .rw [lvT p],.cells .rw [lvT m],.cells .rw [i64 0,.str []]] p m:=⟨rfl,rfl,rfl⟩
 have g1:ldA [ar.cells .rw [lvT p],.cells .rw [lvT m],.cells .rw [i64 0,LV.str []]] (.ptr 1 0) 1=some (vT m):=rfl
 have pt:∀ n:Tx,stV [ar.cells .rw [lvT p],.cells .rw [lvT m],.cells .rw [i64 0,LV.str []],.cells .rw [i64 0,LV.str []]] 2 (.ptr 3 0) (vd 1 n)=some [.cells .rw [lvT p],.cells .rw [lvT m],.cells .rw [i64 0,LV.str []],.cells .rw [i64 1,.str n]]:=
  fun n=>rA (st:=[ar.cells .rw [lvT p],.cells .rw [lvT m],.cells .rw [i64 0,LV.str []]]) rfl
 simp only[w58,dV,af,aR,bD,List.cons_append,aW,aj,Nat.reduceAdd,cv,g1,ab]
 refine (AK hS hm).call ?_
 simp only[av,aN,aO,ab,bD,List.cons_append,aW,aR,aj,Nat.reduceAdd,pt,aA,af]
 unfold EZ
 by_cases hh:(cI S.l m).2=0
 ·rw[if_pos hh,decide_eq_true hh]
  simp only[bw,bM,ab,ae]
  refine (EY hS).call ?_
  simp only[aU,ab]
  exact C3 hS hp hm S.l.length 0 _ (by omega) (h0.app (y:=.cells .rw [i64 1,.str (cI S.l m).1])) rfl
 ·rw[if_neg hh,decide_eq_false hh]
  have g3:ldA [ar.cells .rw [lvT p],.cells .rw [lvT m],.cells .rw [i64 0,LV.str []],.cells .rw [i64 1,.str (cI S.l m).1]] (.ptr 3 0) 2=some (vd 1 (cI S.l m).1):=rfl
  simp only[bw,bL,ab,ah,g3]
  exact kp (x:=i64 0) (y:=.str []) rfl fun _=>bu (v:=vd _ _) _ rfl
structure V2 (st:aa) (m:T):Prop where
 a:st[0]?=some (.cells .rw [lvT m])
 c:st[1]?=some (.cells .rw [i64 0,.str []])
theorem V2.app {m:T} {y:ar} (h:V2 st m):V2 (st++[y]) m:=
 ⟨jg h.a,by rw[bW (cA h.c)];exact h.c⟩
theorem Gx {S:ST} (hS:S.ok) {m:T} (hm:m.ok) {w:Int × Tx}:∀ (d i:Nat) (st:aa),i+d=S.l.length→V2 st m→vS m (S.l.drop i)=w→
  EV (.ptr 0 0) (.ptr 1 0) (.isl (atC S.l) S.l.length none) (i64 S.l.length) (i64 i) (fun r s=>dp s (vd w.1 w.2) r) st:=by
 have h16:=hS.len
 have fin:∀ {r:Int} {n:Tx} {s:aa},(r,n)=w→dp s (vd w.1 w.2) (vd r n):=fun e=>by subst e;exact bu (v:=vd _ _) _ rfl
 intro d
 induction d with
 | zero=>
  intro i st hi h hw
  refine MR _ _ _ _ _ ?_
  have c1:¬ ((i:Int)<S.l.length):=by omega
  rw[bR (by omega)] at hw
  simp only[JR,ad,au,ab,c1,a8,ae,OJ]
  exact kp h.c fun _=>fin hw
 | succ d ih=>
  intro i st hi h hw
  refine MR _ _ _ _ _ ?_
  have hlt:i<S.l.length:=by omega
  have c1:((i:Int)<S.l.length):=by omega
  have hx:S.l[i]?=some S.l[i]:=bg hlt
  have hdr:S.l.drop i=S.l[i]::S.l.drop (i+1):=b6 hlt
  generalize S.l[i]=a at hx hdr
  rw[hdr,vS] at hw
  have e1:bn 6 (.isl (atC S.l) S.l.length none) (i64 i)=some (.iptr (atC S.l) (i*6)):=cj hlt
  have hw1:=aK (show i<2 ^ 40 by omega)
  have hA:=h.app (y:=.cells .rw (aC a))
  have hB:=hA.app (y:=.cells .rw [lvT (cG m a.nm)])
  have n1:(st++[ar.cells .rw (aC a)])[st.length]?=some (.cells .rw (aC a)):=ay
  have n2:=cb (y:=ar.cells .rw [lvT (cG m a.nm)]) n1
  have k1:ld1 (st++[ar.cells .rw (aC a)]) (.ptr st.length 0)=some (.str a.nm):=by rw[bx n1];rfl
  have k2:ld1 (st++[ar.cells .rw (aC a)]++[ar.cells .rw [lvT (cG m a.nm)]]) (.ptr st.length 0)=some (.str a.nm):=by rw[bx n2];rfl
  have hmo:(cG m a.nm).ok:=T.pN hm
  simp only[JR,ad,au,ab,c1,aZ,ah,e1,py hx,cv,EC (show (aC a).length=6 from rfl) (show (aC a).all LV.one=true from rfl),aA,af,gX hA.a,ao,aj,k1]
  refine (u9 hm a.nm).call ?_
  rw[r7]
  simp only[av,aN,aO,ab,eY,aA,af,gX (v:=cG m a.nm) (ay (st:=st++[ar.cells .rw (aC a)]))]
  refine (Ah hmo).call ?_
  by_cases hk:every cK (cG m a.nm)=true
  ·rw[if_pos hk] at hw
   rw[hk]
   simp only[bw,bM,ab,ae,aH,hw1]
   exact ih (i+1) _ (by omega) hB hw
  ·rw[if_neg hk] at hw
   have hk':every cK (cG m a.nm)=false:=by simpa using hk
   rw[hk']
   simp only[bw,bL,ab,ah,k2,yu]
   exact kp hB.c fun _=>fin hw
theorem OK {S:ST} (hS:S.ok) {m:T} (hm:m.ok):Pu Tryz.prog 59 [sV S,vT m] (vd (E0 S m).1 (E0 S m).2):=by
 refine Pu.of (c59 _ _ ?_) vP rfl
 have h0:V2 [ar.cells .rw [lvT m],.cells .rw [i64 0,.str []]] m:=⟨rfl,rfl⟩
 have g1:ldA [ar.cells .rw [lvT m],.cells .rw [i64 0,LV.str []]] (.ptr 0 0) 1=some (vT m):=rfl
 have pt:∀ n:Tx,stV [ar.cells .rw [lvT m],.cells .rw [i64 0,LV.str []],.cells .rw [i64 0,LV.str []]] 2 (.ptr 2 0) (vd 1 n)=some [.cells .rw [lvT m],.cells .rw [i64 0,LV.str []],.cells .rw [i64 1,.str n]]:=
  fun n=>rA (st:=[ar.cells .rw [lvT m],.cells .rw [i64 0,LV.str []]]) rfl
 simp only[w59,dV,af,aR,bD,List.cons_append,aW,aj,cv,g1,ab]
 refine (AK hS hm).call ?_
 simp only[av,aN,aO,ab,bD,List.cons_append,aW,aR,aj,Nat.reduceAdd,pt,aA,af]
 unfold E0
 by_cases hh:(cI S.l m).2=0
 ·rw[if_pos hh,decide_eq_true hh]
  simp only[bw,bM,ab,ae]
  refine (EY hS).call ?_
  simp only[aU,ab]
  exact Gx hS hm S.l.length 0 _ (by omega) (h0.app (y:=.cells .rw [i64 1,.str (cI S.l m).1])) rfl
 ·rw[if_neg hh,decide_eq_false hh]
  have g3:ldA [ar.cells .rw [lvT m],.cells .rw [i64 0,LV.str []],.cells .rw [i64 1,.str (cI S.l m).1]] (.ptr 2 0) 2=some (vd 1 (cI S.l m).1):=rfl
  simp only[bw,bL,ab,ah,g3]
  exact kp (x:=i64 0) (y:=.str []) rfl fun _=>bu (v:=vd _ _) _ rfl
structure VN (st:aa) (x:T):Prop where
 a:st[0]?=some (.cells .rw [lvT .null])
 b:st[1]?=some (.cells .rw [lvT x])
structure VP (st:aa) (x:T):Prop where
 a:st[0]?=some (.cells .rw [lvT x])
 b:st[1]?=some (.cells .rw [lvT .null])
 c:st[2]?=some (.cells .rw [lvT x])
 d:st[3]?=some (.cells .rw [i64 0,.str []])
end
section
variable {st:aa} {R:LV→aa→Prop}
structure VR (st:aa) (n:Int) (l:List AT) (p m:T):Prop where
 s:rG st 0 n l
 p:cH st 1 (rT p)
 m:cH st 2 (rT m)
 c:st[3]?=some (.cells .rw [i64 0,.str []])
theorem VR.app {n:Int} {l:List AT} {p m:T} {y:ar} (h:VR st n l p m):VR (st++[y]) n l p m:=
 ⟨h.s.fr (Fr.app (S:=fun _=>False)) id,h.p.fr (Fr.app (S:=fun _=>False)) id,h.m.fr (Fr.app (S:=fun _=>False)) id,by rw[bW (cA h.c)];exact h.c⟩
open Classical in
noncomputable def AL (b:Bool) (p m:T):List AT→Int × Tx
 | []=>(0,[])
 | a::l=>if every cK (cG m a.nm)=true then (if b=true∧¬ Agr (cG p a.nm) (cG m a.nm) then (5,a.nm) else AL b p m l) else (4,a.nm)
theorem vU {p m:T}:∀ {l:List AT},AL true p m l=vQ p m l
 | []=>rfl
 | a::l=>by
  unfold AL vQ
  rw[vU]
  by_cases h1:every cK (cG m a.nm)=true
  ·rw[if_pos h1,if_pos h1]
   by_cases h2:Agr (cG p a.nm) (cG m a.nm)
   ·rw[if_neg (by simp[h2]),if_pos h2]
   ·rw[if_pos ⟨rfl,h2⟩,if_neg h2]
  ·rw[if_neg h1,if_neg h1]
theorem vV {p m:T}:∀ {l:List AT},AL false p m l=vS m l
 | []=>rfl
 | a::l=>by
  unfold AL vS
  rw[vV]
  by_cases h1:every cK (cG m a.nm)=true
  ·rw[if_pos h1,if_pos h1,if_neg (by simp)]
  ·rw[if_neg h1,if_neg h1]
open Classical in
theorem JT {n:Int} {S:ST} (hS:S.ok) {p m:T} (hp:p.ok) (hm:m.ok) {b:Bool} {w:Int × Tx}:∀ (d i:Nat) (st:aa),i+d=S.l.length→VR st n S.l p m→AL b p m (S.l.drop i)=w→
  DP (.bool b) (.ptr 0 0) (.ptr 1 0) (.ptr 2 0) (.ptr 3 0) (i64 i) (fun r s=>dp s (vd w.1 w.2) r) st:=by
 have h16:=hS.len
 have fin:∀ {r:Int} {n:Tx} {s:aa},(r,n)=w→dp s (vd w.1 w.2) (vd r n):=fun e=>by subst e;exact bu (v:=vd _ _) _ rfl
 intro d
 induction d with
 | zero=>
  intro i st hi h hw
  refine Ma _ _ _ _ _ _ ?_
  have c1:¬ ((i:Int)<S.l.length):=by omega
  rw[bR (by omega)] at hw
  simp only[Hw,ao,aj,ab,h.s.l,aU,ad,au,c1,a8,ae,OJ]
  exact kp h.c fun _=>fin hw
 | succ d ih=>
  intro i st hi h hw
  refine Ma _ _ _ _ _ _ ?_
  have hlt:i<S.l.length:=by omega
  have c1:((i:Int)<S.l.length):=by omega
  have hx:S.l[i]?=some S.l[i]:=bg hlt
  have hdr:S.l.drop i=S.l[i]::S.l.drop (i+1):=b6 hlt
  generalize S.l[i]=a at hx hdr
  rw[hdr,AL] at hw
  have g0:=pM hx
  have hw1:=aK (show i<2 ^ 40 by omega)
  have hpo:(cG p a.nm).ok:=T.pN hp
  have hmo:(cG m a.nm).ok:=T.pN hm
  -- behind an attribute's value
  have nine:∀ (L:Nat) (st:aa),VR st n S.l p m→cH st L (rT (cG m a.nm))→DQ (.bool b) (.ptr 0 0) (.ptr 1 0) (.ptr 2 0) (.ptr 3 0) (i64 i) (.ptr L 0) (fun r s=>dp s (vd w.1 w.2) r) st:=by
   intro L st h hL
   refine PA _ _ _ _ _ _ _ ?_
   simp only[Mb,hL.ldA,ab]
   refine (AJ _ _ (Nat.lt_succ_self _) hmo).call ?_
   have last:∀ (q:Bool),(every cK (cG m a.nm)=true)→(q=true↔b=true∧¬ Agr (cG p a.nm) (cG m a.nm))→xd (.bool b) (.ptr 0 0) (.ptr 1 0) (.ptr 2 0) (.ptr 3 0) (i64 i) (.bool q) (fun r s=>dp s (vd w.1 w.2) r) st:=by
    intro q hk hq
    rw[if_pos hk] at hw
    refine NO _ _ _ _ _ _ _ ?_
    cases q with
    | true=>
     rw[if_pos (hq.1 rfl)] at hw
     simp only[BP,ah,ao,aj,h.s.l,ab,jI hlt,b9,Nat.add_zero,bA,g0,yu]
     exact kp h.c fun _=>fin hw
    | false=>
     rw[if_neg fun h=>by have:=hq.2 h;cases this] at hw
     simp only[BP,ae,ad,aH,ab,hw1]
     exact ih (i+1) _ (by omega) h hw
   by_cases hk:every cK (cG m a.nm)=true
   ·rw[hk]
    simp only[bw,bM,ab,ae]
    cases b with
    | true=>
     simp only[ah,h.p.ldA,hL.ldA,ao,aj,h.s.l,ab,jI hlt,b9,Nat.add_zero,bA,g0]
     refine (yq hp a.nm).call ⟨hL.ldA,?_⟩
     refine (pR _ _ _ (Nat.lt_succ_self _) hpo hmo).call ?_
     simp only[bw,ab]
     refine last _ hk ?_
     by_cases hg:Agr (cG p a.nm) (cG m a.nm)<;>simp[hg]
    | false=>
     simp only[ae]
     exact last false hk (by simp)
   ·have hk':every cK (cG m a.nm)=false:=by simpa using hk
    rw[if_neg hk] at hw
    rw[hk']
    simp only[bw,bL,ab,ah,ao,aj,h.s.l,jI hlt,b9,Nat.add_zero,bA,g0,yu]
    exact kp h.c fun _=>fin hw
  have hap:=h.app (y:=.cells .rw z7)
  have pm:stV (st++[ar.cells .rw z7]) 7 (.ptr st.length 0) (vR (rT (cG m a.nm)))=some (st++[.cells .rw (rc (rT (cG m a.nm)))]):=by
   rw[uJ ay rfl fC nU];simp
  have go:=nine st.length _ (h.app (y:=.cells .rw (rc (rT (cG m a.nm))))) ay
  simp only[Hw,ao,aj,ab,h.s.l,h.m.ldA,aU,ad,au,c1,aZ,ah,jI hlt,b9,Nat.add_zero,bA,g0,cv,hap.s.l,hap.m.ldA,true_and]
  refine ⟨?_,?_⟩
  ·refine (yq hm a.nm).call ?_
   simp only[pm,aA,af]
   exact go
  ·refine (yq hm a.nm).call ?_
   simp only[pm,aA,af,hap.s.l,hap.m.ldA,true_and]
   exact go
open Classical in
theorem MS {n:Int} {S:ST} (hS:S.ok) {p m:T} (hp:p.ok) (hm:m.ok) {b:Bool} {w:Int × Tx} (hw:w=if (cI S.l m).2=0 then AL b p m S.l else (1,(cI S.l m).1)) :
  Pu Tryz.prog 62 [bS n S.l,vR (rT p),vR (rT m),.bool b] (vd w.1 w.2):=by
 refine Pu.of (c62 _ _ _ _ ?_) (by simp only[LV.aG,pL,fX];rfl) rfl
 have h0:VR [ar.cells .rw [i64 n,.isl (bCs S.l) S.l.length none],.cells .rw (rc (rT p)),.cells .rw (rc (rT m)),.cells .rw [i64 0,.str []]] n S.l p m:=⟨rfl,rfl,rfl,rfl⟩
 have en:((cI S.l m).2 != 0)=decide ((cI S.l m).2≠0):=by by_cases h:(cI S.l m).2=0<;>simp[h]
 have g1:ldA [ar.cells .rw [i64 n,.isl (bCs S.l) S.l.length none],.cells .rw (rc (rT p)),.cells .rw (rc (rT m)),.cells .rw [i64 0,LV.str []]] (.ptr 0 0) 2=some (bS n S.l):=h0.s.ldA
 have g2:ldA [ar.cells .rw [i64 n,.isl (bCs S.l) S.l.length none],.cells .rw (rc (rT p)),.cells .rw (rc (rT m)),.cells .rw [i64 0,LV.str []]] (.ptr 2 0) 7=some (vR (rT m)):=h0.m.ldA
 simp only[w62,pO,ec,af,aR,bD,List.cons_append,aW,aj,Nat.reduceAdd,cv,g1,g2,ab]
 refine (LA hS hm).call ?_
 simp only[av,aN,aO,ab,ad,bJ,en,aL,yu]
 refine ⟨fun hn=>?_,fun hn=>?_⟩
 ·rw[if_neg hn] at hw
  subst hw
  exact kp (x:=i64 0) (y:=.str []) rfl fun _=>bu (v:=vd _ _) _ rfl
 ·rw[if_pos (Classical.byContradiction hn)] at hw
  exact JT hS hp hm S.l.length 0 _ (by omega) h0 hw.symm
theorem JU {a b:Int} {s t:Tx}:Pu Tryz.prog 61 [vd a s,vd b t] (.bool ((a==b)&&(s==t))):=by
 refine Pu.of (c61 _ _ ?_) rfl rfl
 have l0:∀ {a:Int} {s:Tx} {st:aa},cu st (vd a s)=some (.ptr st.length 0,st++[.cells .rw [i64 a,.str s]]):=rfl
 have g0:ld1 [ar.cells .rw [i64 a,.str s],.cells .rw [i64 b,.str t]] (.ptr 0 0)=some (i64 a):=rfl
 have g1:ld1 [ar.cells .rw [i64 a,.str s],.cells .rw [i64 b,.str t]] (.ptr 1 0)=some (i64 b):=rfl
 have g2:ld1 [ar.cells .rw [i64 a,.str s],.cells .rw [i64 b,.str t]] (.ptr 0 1)=some (.str s):=rfl
 have g3:ld1 [ar.cells .rw [i64 a,.str s],.cells .rw [i64 b,.str t]] (.ptr 1 1)=some (.str t):=rfl
 simp only[w61,l0,af,aR,bD,List.cons_append,aW,aj,ao,g0,g1,ab,ad,bj]
 rw[cd]
 refine ⟨fun h=>?_,fun h=>?_⟩
 ·simp only[g2,g3,ab,ct,da]
  rw[h,Bool.true_and];exact rfl
 ·rw[h,Bool.false_and];exact rfl
end
theorem AM:(nk Tryz.prog [116,115] JI 100000 60 false 54 [] []).map (·.1)=some (.bool true):=by kernel_rfl
theorem yv {st:aa} {R:LV→aa→Prop} (h:R (.bool true) st):aw Tryz.prog 54 [] st R:=wP aJ JJ AM rfl rfl h
theorem C4 (t:T):Pu Tryz.prog 110 [.nilp,vT t] (.tup [.str [],i64 11]):=by
 refine Pu.of (PJ _ _ ?_) (by simp only[LV.aG,LV.plain,eX,Bool.and_true]) rfl
 have e:eqB .eql (eI true .nilp .nilp)=some (.bool true):=rfl
 simp only[NV,dV,af,e,ab,ah]
 exact bu (v:=.tup [.str [],i64 11]) _ rfl
section
variable {st:aa}
end
theorem vW (t:T):Pu Tryz.prog 124 [.nilp,vT t] (.tup [vd 1 [],.bool false]):=by
 refine Pu.of (c124 _ _ ?_) (by simp only[LV.aG,LV.plain,eX,Bool.and_true]) rfl
 have g:ldA ([ar.cells .rw [lvT t]]++[ar.cells .rw [i64 0,LV.str []]]) (.ptr 0 0) 1=some (vT t):=rfl
 have pt:stV ([ar.cells .rw [lvT t]]++[ar.cells .rw [i64 0,LV.str []]]) 2 (.ptr 1 0) (vd 1 [])=some ([ar.cells .rw [lvT t]]++[.cells .rw [i64 1,.str []]]):=rA (st:=[ar.cells .rw [lvT t]]) rfl
 have g2:ldA ([ar.cells .rw [lvT t]]++[ar.cells .rw [i64 1,.str []]]) (.ptr 1 0) 2=some (vd 1 []):=rfl
 have holds_nil2:Pu Tryz.prog 43 [.nilp,vT t] (.tup [.str [],i64 11]):=by
  refine Pu.of (c43 _ _ ?_) (by simp only[LV.aG,LV.plain,eX,Bool.and_true]) rfl
  simp only[w43,dV,af,iH,ab]
  refine (C4 t).call ?_
  have e:((11:Int) != 0)=true:=by decide
  simp only[av,aN,aO,ab,ad,bJ,e,ah]
  exact bu (v:=.tup [.str [],i64 11]) _ rfl
 have e11:((11:Int)==0)=false:=by decide
 simp only[OI,dV,af,aR,bD,cv,List.length_singleton,g,ab]
 refine holds_nil2.call ?_
 simp only[av,aN,aO,ab,yu,ad,bj,e11,pt,aA,af,g2]
 exact bu (v:=.tup [vd _ _,.bool _]) _ rfl
theorem Gy (p m:T):Pu Tryz.prog 58 [.nilp,vT p,vT m] (vd 1 []):=by
 refine Pu.of (c58 _ _ _ ?_) (by simp only[LV.aG,cB];rfl) rfl
 have g1:ldA [ar.cells .rw [lvT p],.cells .rw [lvT m],.cells .rw [i64 0,LV.str []]] (.ptr 1 0) 1=some (vT m):=rfl
 have pt:stV [ar.cells .rw [lvT p],.cells .rw [lvT m],.cells .rw [i64 0,LV.str []],.cells .rw [i64 0,LV.str []]] 2 (.ptr 3 0) (vd 1 [])=some [.cells .rw [lvT p],.cells .rw [lvT m],.cells .rw [i64 0,LV.str []],.cells .rw [i64 1,.str []]]:=
  rA (st:=[ar.cells .rw [lvT p],.cells .rw [lvT m],.cells .rw [i64 0,LV.str []]]) rfl
 have g3:ldA [ar.cells .rw [lvT p],.cells .rw [lvT m],.cells .rw [i64 0,LV.str []],.cells .rw [i64 1,.str []]] (.ptr 3 0) 2=some (vd 1 []):=rfl
 simp only[w58,dV,af,aR,bD,List.cons_append,aW,aj,Nat.reduceAdd,cv,g1,ab]
 refine (vW m).call ?_
 simp only[av,aN,aO,ab,bD,List.cons_append,aW,aR,aj,Nat.reduceAdd,pt,aA,af,bw,bL,ah,g3]
 exact kp (x:=i64 0) (y:=.str []) rfl fun _=>bu (v:=vd _ _) _ rfl
theorem JV (m:T):Pu Tryz.prog 59 [.nilp,vT m] (vd 1 []):=by
 refine Pu.of (c59 _ _ ?_) (by simp only[LV.aG,cB];rfl) rfl
 have g1:ldA [ar.cells .rw [lvT m],.cells .rw [i64 0,LV.str []]] (.ptr 0 0) 1=some (vT m):=rfl
 have pt:stV [ar.cells .rw [lvT m],.cells .rw [i64 0,LV.str []],.cells .rw [i64 0,LV.str []]] 2 (.ptr 2 0) (vd 1 [])=some [.cells .rw [lvT m],.cells .rw [i64 0,LV.str []],.cells .rw [i64 1,.str []]]:=
  rA (st:=[ar.cells .rw [lvT m],.cells .rw [i64 0,LV.str []]]) rfl
 have g3:ldA [ar.cells .rw [lvT m],.cells .rw [i64 0,LV.str []],.cells .rw [i64 1,.str []]] (.ptr 2 0) 2=some (vd 1 []):=rfl
 simp only[w59,dV,af,aR,bD,List.cons_append,aW,aj,cv,g1,ab]
 refine (vW m).call ?_
 simp only[av,aN,aO,ab,bD,List.cons_append,aW,aR,aj,Nat.reduceAdd,pt,aA,af,bw,bL,ah,g3]
 exact kp (x:=i64 0) (y:=.str []) rfl fun _=>bu (v:=vd _ _) _ rfl
section
variable {st:aa} {R:LV→aa→Prop}
theorem sg {s s':aa} {o:Nat} {y:ar} (h:Fr s s' (fun _=>False)) (ho:s.length≤o):Fr s (s'.set o y) (fun _=>False):=
 ⟨by have:=h.len;simp;omega,fun j hj hn=>by rw[bK (by omega)];exact h.same j hj hn⟩
theorem JW {sv x8 x9:LV} {p m:T} {o1 o2:Nat} (hp:p.ok) (hm:m.ok) (b1:cH st o1 (rT p)) (b2:cH st o2 (rT m)) {a1 c1:Int} {a2 c2:Tx}
  (hA:Pu Tryz.prog 58 [sv,vT p,vT m] (vd a1 a2)) (hB:Pu Tryz.prog 59 [sv,vT m] (vd c1 c2))
  (next:∀ st' oa ob,Fr st st' (fun _=>False)→st'[oa]?=some (.cells .rw [i64 a1,.str a2])→st'[ob]?=some (.cells .rw [i64 c1,.str c2])→zG x8 x9 (.ptr o1 0) (.ptr o2 0) (.ptr oa 0) (.ptr ob 0) R st') :
  ia sv x8 x9 (.ptr o1 0) (.ptr o2 0) R st:=by
 refine Py _ _ _ _ _ ?_
 have toP:=uf _ p (Nat.lt_succ_self _) hp
 have toM:=uf _ m (Nat.lt_succ_self _) hm
 have fa:∀ (s:aa) (y:ar),Fr s (s++[y]) (fun _=>False):=fun _ _=>Fr.app
 have F1:=fa st (.cells .rw [i64 0,LV.str []])
 have F2:=F1.trans (fa _ (.cells .rw [i64 0,LV.str []])) fun _ _ h=>h
 have p0:=b1.ldA
 have m0:=b2.ldA
 have p1:=(b1.fr F1 id).ldA
 have m1:=(b2.fr F1 id).ldA
 have p2:=(b1.fr F2 id).ldA
 have m2:=(b2.fr F2 id).ldA
 have l1:(st++[ar.cells .rw [i64 0,LV.str []]]).length=st.length+1:=by simp
 have k1:(st++[ar.cells .rw [i64 0,LV.str []]]++[ar.cells .rw [i64 0,LV.str []]])[st.length]?=some (.cells .rw [i64 0,LV.str []]):=cb ay
 have k2:(st++[ar.cells .rw [i64 0,LV.str []]]++[ar.cells .rw [i64 0,LV.str []]])[(st++[ar.cells .rw [i64 0,LV.str []]]).length]?=some (.cells .rw [i64 0,LV.str []]):=ay
 have fin:∀ {S:aa} {oa ob:Nat},Fr st S (fun _=>False)→st.length≤oa→st.length≤ob→oa≠ob→S[oa]?=some (.cells .rw [i64 0,LV.str []])→S[ob]?=some (.cells .rw [i64 0,LV.str []])→
   bd2 (lmk (stV S 2 (.ptr oa 0) (vd a1 a2))) fun _v s=>bd2 (lmk (stV s 2 (.ptr ob 0) (vd c1 c2))) fun _w s'=>zG x8 x9 (.ptr o1 0) (.ptr o2 0) (.ptr oa 0) (.ptr ob 0) R s':=by
  intro S oa ob hF h1 h2 hne q1 q2
  have q3:(S.set oa (.cells .rw [i64 a1,.str a2]))[ob]?=some (.cells .rw [i64 0,LV.str []]):=by rw[bK hne];exact q2
  rw[ko q1 (show [i64 a1,LV.str a2].all LV.one=true from rfl)]
  simp only[aA,af]
  rw[ko q3 (show [i64 c1,LV.str c2].all LV.one=true from rfl)]
  simp only[aA,af]
  exact next _ oa ob (sg (sg hF h1) h2) (by rw[bK (Ne.symm hne)];exact bO q1) (bO q3)
 have f1:=fin F2 (Nat.le_refl _) (by omega) (by omega) k1 k2
 have f2:=fin F2 (by omega) (Nat.le_refl _) (by omega) k2 k1
 simp only[L6,gK,kI,kJ,xb,rU,xc,rV,ab,p0,m0,cv,p1,m1,p2,m2,true_and]
 repeat' (first|exact f1|exact f2|refine And.intro ?_ ?_|refine toP.call ?_|refine toM.call ?_|refine hA.call ?_|refine hB.call ?_|simp only[m0,p1,m1,p2,m2])
end
end Go.Proofs.YtknegckgmklnhaaGreatDoor
