/- Parts of the proof. -/
import Derived.Test.YtknegckgmklnhaaGreatDoorVaX
namespace Go.Proofs.YtknegckgmklnhaaGreatDoor
open Go Go.CP
set_option maxRecDepth 100000
section
variable {st:aa} {R:LV→aa→Prop}
theorem rA {a b x y:LV} (h1:[x,y].all LV.one=true):stV (st++[ar.cells .rw [a,b]]) 2 (.ptr st.length 0) (.agg [x,y])=some (st++[.cells .rw [x,y]]):=by
 rw[ko ay h1];simp
theorem CZ {x y:LV} {o:Nat} (h:st[o]?=some (.cells .rw [x,y])):ldA st (.ptr o 0) 2=some (.agg [x,y]):=by rw[du h (by simp)];rfl
theorem JO {d:Nat} (hd:d≤1000) {t:KT} {v:T} (hw:t.wf (d+1)) (h5:¬ t.f<5) (hk:v.kind=if t.f=6∨t.f=8 then 7 else 6) (h7:t.f=7→v.items.length=t.l.length) (hv:v.ok)
  (ih:∀ x ∈ t.l,∀ y ∈ v.items,Pb Tryz.prog 134 [.agg (rkC x),vR (rT y)] (WrQ d (!cM x y))) {b:Bool} (hbb:b=true↔¬ ((∀ i,Gp t v i)∧missing t.ns t.ls (qL v)=[])) :
  ∀ (k i:Nat) (st:aa) (x11:LV),i+k=v.items.length→W2 st t v→(∀ j,j<i→Gp t v j)→kU (.ptr 0 0) (.ptr 1 0) (i64 i) x11 (Dp (WrQ (d+1) b)) st:=by
 have hw':t.f≤8∧(t.f<5→t.l=[])∧(t.f=5∨t.f=6→t.l.length=1)∧(t.f<8→t.ns=[]∧t.ls=[])∧(t.f=8→t.ns.length=t.l.length∧t.ls.length=t.l.length)∧t.l.length≤16∧t.ns.Pairwise ltB∧(∀ n ∈ t.ns,named n=true)∧KT.wfs d t.l:=by
  cases t;exact hw
 obtain ⟨w1,w2,w3,w4,w5,w6,_,_,w7⟩:=hw'
 have hll:t.ls.length=t.ns.length:=by
  rcases Nat.lt_or_ge t.f 8 with h|h
  ·rw[(w4 h).1,(w4 h).2];rfl
  ·have:=w5 (by omega);omega
 have hnb:t.ns.length≤big:=by
  unfold big
  rcases Nat.lt_or_ge t.f 8 with h|h
  ·rw[(w4 h).1];simp
  ·have:=w5 (by omega);omega
 have hbi:v.items.length≤big:=by
  cases v<;>simp only[T.items,aR,bH]<;>first|exact Nat.zero_le _ | (simp only[T.ok] at hv;exact hv.1)
 intro k
 induction k with
 | zero=>
  intro i st x11 hi h hh
  refine EN _ _ _ _ ?_
  have c1:¬ ((i:Int)<v.items.length):=by omega
  simp only[yi,kg,kj,mQ,ao,aj,ab,h.b.li,aU,ad,au,c1,a8,ae]
  refine JN hv hll hnb t.ns.length 0 st (by omega) h ?_
  have hall:∀ i,Gp t v i:=fun j=>by
   by_cases hj:j<i
   ·exact hh j hj
   ·intro y hy
    have:=(List.getElem?_eq_some_iff.1 hy).1
    omega
  rw[hbb,List.drop_zero,List.drop_zero]
  exact ⟨fun h1 h2=>h1 ⟨hall,h2⟩,fun h1 h2=>h1 h2.2⟩
 | succ k ihk=>
  intro i st x11 hi h hh
  refine EN _ _ _ _ ?_
  have hlt:i<v.items.length:=by omega
  have c1:((i:Int)<v.items.length):=by omega
  have c0:¬ ((i:Int)<0):=by omega
  have c00:decide ((0:Int)<0)=false:=rfl
  have hy:v.items[i]?=some v.items[i]:=bg hlt
  have hym:=List.getElem_mem hlt
  have e5:bn 7 (.isl (rcs (v.items.map rT)) v.items.length none) (i64 i)=some (.iptr (rcs (v.items.map rT)) (i*7)):=cj hlt
  have hx5:(v.items.map rT)[i]?=some (rT v.items[i]):=by simp[hlt]
  generalize v.items[i]=y at hy hym hx5
  have g5:∀ s:aa,ldA s (.iptr (rcs (v.items.map rT)) (i*7)) 7=some (vR (rT y)):=fun s=>eF hx5
  have hw1:=aK (show i<2 ^ 40 by unfold big at hbi;omega)
  have z1:bh (aB (aF [(0,1),(1,1)]) [LV.str [],i64 0] [(1,i64 i)])=some (.agg [.str [],i64 i]):=rfl
  have ef:∀ a b:LV,aB (fun i=>some (i*2,2)) (List.replicate 1 [LV.str [],i64 0]).flatten [(0,.agg [a,b])]=some [a,b]:=fun _ _=>rfl
  have h1:=h.app (y:=.cells .rw [.str [],i64 i])
  have b1:(st++[ar.cells .rw [.str [],i64 i]])[st.length]?=some (.cells .rw [.str [],i64 i]):=ay
  -- what comes of one part
  have nxt:∀ {x:KT},kX t v i=some x→cM x y=true→∀ j,j<i+1→Gp t v j:=fun {x} hs ht j hj=>by
   rcases Nat.lt_or_ge j i with h|h
   ·exact hh j h
   ·have:j=i:=by omega
    subst this
    intro y' hy'
    rw[hy] at hy';cases hy'
    exact ⟨x,hs,ht⟩
  have bad:(∀ x,kX t v i=some x→cM x y=false)→b=true:=fun hs=>hbb.2 fun ⟨h1,_⟩=>by
   obtain ⟨x,h2,h3⟩:=h1 i y hy
   rw[hs x h2] at h3;cases h3
  simp only[yi,kg,kj,mQ,ao,aj,ab,h.b.li,aU,ad,au,c1,aZ,ah,z1,cv,rA (x:=.str []) (y:=i64 i) rfl,aA,af,h1.b.kk,bj]
  have h58:t.f=5∨t.f=6∨t.f=7∨t.f=8:=by omega
  by_cases hm:v.kind=7
  ·have h68:t.f=6∨t.f=8:=by
    by_cases h:t.f=6∨t.f=8
    ·exact h
    ·rw[if_neg h] at hk;omega
   have e7:(v.kind==7)=true:=by rw[hm];rfl
   have hkl:i<v.keys.length:=by
    cases v<;>simp only[T.kind] at hm<;>try omega
    simpa[T.keys,T.items] using hlt
   have e6:bn 1 (.isl (v.keys.map .str) v.keys.length none) (i64 i)=some (.iptr (v.keys.map .str) (i*1)):=cj hkl
   have hg:(v.keys.map LV.str)[i*1]?=some (.str v.keys[i]):=by simp[hkl]
   have hkk:v.keys[i]?=some v.keys[i]:=bg hkl
   generalize v.keys[i]=n at hg hkk
   have z2:bh (aB (aF [(0,1),(1,1)]) [LV.str [],i64 0] [(0,.str n),(1,i64 (-1))])=some (.agg [.str n,i64 (-1)]):=rfl
   have pt:stV (st++[ar.cells .rw [.str [],i64 i]]) 2 (.ptr st.length 0) (.agg [.str n,i64 (-1)])=some (st++[.cells .rw [.str n,i64 (-1)]]):=rA rfl
   have h2:=h.app (y:=.cells .rw [.str n,i64 (-1)])
   have b2:(st++[ar.cells .rw [.str n,i64 (-1)]])[st.length]?=some (.cells .rw [.str n,i64 (-1)]):=ay
   simp only[e7,ah,h1.b.ki,ab,e6,bA,hg,z2,pt,aA,af,h2.f]
   generalize st++[ar.cells .rw [.str n,i64 (-1)]]=S at h2 b2
   have one:∀ {kn:Nat} {x:KT},t.l[kn]?=some x→kX t v i=some x→x ∈ t.l:=fun h _=>cr h
   rcases h68 with h6|h8
   ·have f7:((t.f:Int)==7)=false:=by rw[h6];rfl
    have f8:((t.f:Int)==8)=false:=by rw[h6];rfl
    have hl1:=w3 (.inr h6)
    have hx:t.l[0]?=some (t.l[0]'(by omega)):=bg _
    have hs:kX t v i=t.l[0]?:=by unfold kX;rw[if_neg (by omega),if_neg (by omega)]
    have e4:bn 4 (.isl (dj t.l) t.l.length none) (LV.int .i64 0)=some (.iptr (dj t.l) (0*4)):=cj (i:=0) (by omega)
    generalize t.l[0]'(by omega)=x at hx
    simp only[ad,bj,f7,f8,ae,c00,ab,h2.l,e4,pP hx,h2.b.li,e5,g5]
    refine (ih x (cr hx) y hym).call fun r hr=>?_
    obtain ⟨w,m,ds,rfl,rfl,hn,hpd,h1d,hnd⟩:=hr
    cases htk:cM x y with
    | true=>
     simp only[av,aN,aO,ab,bM,ae,aH,hw1]
     exact ihk (i+1) _ _ (by omega) h2 (nxt (hs.trans hx) htk)
    | false=>
     have e:b=true:=bad fun x' hx'=>by rw[hs,hx] at hx';cases hx';exact htk
     subst e
     simp only[av,aN,aO,ab,bL,ah,CZ b2,ef,bE,af]
     exact qD rfl rfl hn hpd h1d hnd hd
   ·have f7:((t.f:Int)==7)=false:=by rw[h8];rfl
    have f8:((t.f:Int)==8)=true:=by rw[h8];rfl
    have ⟨l1,l2⟩:=w5 h8
    have hs:kX t v i=(eP n t.ns 0).bind (t.l[·]?):=by unfold kX;rw[if_neg (by omega),if_pos h8,hkk];rfl
    simp only[ad,bj,f7,f8,ae,ah,h2.all,ab,h2.b.ki,e6,bA,hg]
    refine (Ly hnb n).call ?_
    cases hx:eP n t.ns 0 with
    | none=>
     rw[mj hx]
     have c9:((-1:Int)<0):=by omega
     rw[hx] at hs
     have e:b=true:=bad fun x' hx'=>by rw[hs] at hx';cases hx'
     subst e
     simp only[ad,au,c9,aZ,ab,ah,CZ b2,ef,bE,af]
     exact uq rfl rfl
    | some j=>
     rw[(nZ hx).1]
     obtain ⟨_,hj,_⟩:=r6 hx
     have c9:¬ ((j:Int)<0):=by omega
     have hjl:j<t.l.length:=by omega
     have hxx:t.l[j]?=some t.l[j]:=bg hjl
     rw[hx] at hs
     have hs':kX t v i=t.l[j]?:=hs
     have e4:bn 4 (.isl (dj t.l) t.l.length none) (i64 j)=some (.iptr (dj t.l) (j*4)):=cj hjl
     generalize t.l[j]=x at hxx
     simp only[ad,au,c9,a8,ab,ae,h2.l,e4,pP hxx,h2.b.li,e5,g5]
     refine (ih x (cr hxx) y hym).call fun r hr=>?_
     obtain ⟨w,m,ds,rfl,rfl,hn,hpd,h1d,hnd⟩:=hr
     cases htk:cM x y with
     | true=>
      simp only[av,aN,aO,ab,bM,ae,aH,hw1]
      exact ihk (i+1) _ _ (by omega) h2 (nxt (hs'.trans hxx) htk)
     | false=>
      have e:b=true:=bad fun x' hx'=>by rw[hs',hxx] at hx';cases hx';exact htk
      subst e
      simp only[av,aN,aO,ab,bL,ah,CZ b2,ef,bE,af]
      exact qD rfl rfl hn hpd h1d hnd hd
  ·have h57:t.f=5∨t.f=7:=by
    by_cases h:t.f=6∨t.f=8
    ·rw[if_pos h] at hk;exact absurd hk hm
    ·omega
   have e7:(v.kind==7)=false:=by simpa using hm
   simp only[e7,ae,h1.f,ab]
   generalize st++[ar.cells .rw [.str [],i64 i]]=S at h1 b1
   rcases h57 with h6|h8
   ·have f7:((t.f:Int)==7)=false:=by rw[h6];rfl
    have f8:((t.f:Int)==8)=false:=by rw[h6];rfl
    have hl1:=w3 (.inl h6)
    have hx:t.l[0]?=some (t.l[0]'(by omega)):=bg _
    have hs:kX t v i=t.l[0]?:=by unfold kX;rw[if_neg (by omega),if_neg (by omega)]
    have e4:bn 4 (.isl (dj t.l) t.l.length none) (LV.int .i64 0)=some (.iptr (dj t.l) (0*4)):=cj (i:=0) (by omega)
    generalize t.l[0]'(by omega)=x at hx
    simp only[ad,bj,f7,f8,ae,c00,ab,h1.l,e4,pP hx,h1.b.li,e5,g5]
    refine (ih x (cr hx) y hym).call fun r hr=>?_
    obtain ⟨w,m,ds,rfl,rfl,hn,hpd,h1d,hnd⟩:=hr
    cases htk:cM x y with
    | true=>
     simp only[av,aN,aO,ab,bM,ae,aH,hw1]
     exact ihk (i+1) _ _ (by omega) h1 (nxt (hs.trans hx) htk)
    | false=>
     have e:b=true:=bad fun x' hx'=>by rw[hs,hx] at hx';cases hx';exact htk
     subst e
     simp only[av,aN,aO,ab,bL,ah,CZ b1,ef,bE,af]
     exact qD rfl rfl hn hpd h1d hnd hd
   ·have f7:((t.f:Int)==7)=true:=by rw[h8];rfl
    have hil:i<t.l.length:=by rw[← h7 h8];exact hlt
    have hx:t.l[i]?=some t.l[i]:=bg hil
    have hs:kX t v i=t.l[i]?:=by unfold kX;rw[if_pos h8]
    have e4:bn 4 (.isl (dj t.l) t.l.length none) (i64 i)=some (.iptr (dj t.l) (i*4)):=cj hil
    generalize t.l[i]=x at hx
    simp only[ad,bj,f7,ah,c0,a8,ae,ab,h1.l,e4,pP hx,h1.b.li,e5,g5]
    refine (ih x (cr hx) y hym).call fun r hr=>?_
    obtain ⟨w,m,ds,rfl,rfl,hn,hpd,h1d,hnd⟩:=hr
    cases htk:cM x y with
    | true=>
     simp only[av,aN,aO,ab,bM,ae,aH,hw1]
     exact ihk (i+1) _ _ (by omega) h1 (nxt (hs.trans hx) htk)
    | false=>
     have e:b=true:=bad fun x' hx'=>by rw[hs,hx] at hx';cases hx';exact htk
     subst e
     simp only[av,aN,aO,ab,bL,ah,CZ b1,ef,bE,af]
     exact qD rfl rfl hn hpd h1d hnd hd
theorem kY {t:KT} {v:T} (h5:¬ t.f<5) (hb:¬ v.kind<2) (h:v.kind≠if t.f=6∨t.f=8 then 7 else 6):cM t v=false:=by
 have e:cM t v=cQ t.f (cW t.l) t.ns t.ls v:=by cases t;rfl
 have hb01:¬ (v.kind=0∨v.kind=1):=by omega
 rw[e];unfold cQ;rw[if_neg hb01,if_neg h5]
 cases v<;>simp only[T.kind] at h ⊢<;>try rfl
 ·have h6:t.f=6∨t.f=8:=Classical.byContradiction fun h'=>h (by rw[if_neg h'])
  rw[if_neg (by omega),if_neg (by omega)]
 ·have h6:¬ (t.f=6∨t.f=8):=fun h'=>h (by rw[if_pos h'])
  rw[if_neg (by omega),if_neg (by omega)]
theorem Gs:∀ {d:Nat},d≤1000→∀ {t:KT} {v:T},t.wf d→v.ok→Pb Tryz.prog 134 [.agg (rkC t),vR (rT v)] (WrQ d (!cM t v)):=by
 intro d
 induction d with
 | zero=>intro _ t v h;cases t;simp only[KT.wf] at h
 | succ d ih=>
  intro hd t v hw hv
  refine Pb.of (Ry _ _ ?_) (by simp only[LV.aG,LV.plain,fJ,tV];rfl)
  have e:cM t v=cQ t.f (cW t.l) t.ns t.ls v:=by cases t;rfl
  have w1:t.f≤8:=by cases t;exact hw.1
  have w7':KT.wfs d t.l:=by cases t;exact hw.2.2.2.2.2.2.2.2
  have w7:=KT.mI.1 w7'
  have h:W2 [ar.cells .rw (rkC t),.cells .rw (rc (rT v))] t v:=⟨rfl,rfl⟩
  have ihx:∀ x ∈ t.l,∀ y ∈ v.items,Pb Tryz.prog 134 [.agg (rkC x),vR (rT y)] (WrQ d (!cM x y)):=fun x hx y hy=>ih (by omega) (w7 x hx) (T.dY hv y hy)
  have loop:¬ t.f<5→(v.kind=if t.f=6∨t.f=8 then 7 else 6)→(t.f=7→v.items.length=t.l.length)→kU (.ptr 0 0) (.ptr 1 0) (LV.int .i64 0) (.tup []) (Dp (WrQ (d+1) (!cM t v))) [ar.cells .rw (rkC t),.cells .rw (rc (rT v))]:=fun h5 hk h7=>by
   refine JO (by omega) hw h5 hk h7 hv ihx ?_ v.items.length 0 _ _ (by omega) h fun _ h=>by omega
   rw[← Gq hw h5 hk h7]
   cases cM t v<;>simp
  have no:∀ {s:aa},cM t v=false→Dp (WrQ (d+1) (!cM t v)) (.tup [.nils,.bool true]) s:=fun hb=>eZ (t:=t) (v:=v) (by rw[hb];rfl)
  have tb:aB (fun i=>some (i*1,1)) (List.replicate 5 [i64 0]).flatten [(0,i64 0),(1,i64 2),(2,i64 3),(3,i64 0),(4,i64 5)]=some [i64 0,i64 2,i64 3,i64 0,i64 5]:=rfl
  simp only[Qu,CL,yh,ET,ec,af,aR,bD,List.cons_append,aW,aj,ao,h.b.kk,ab,ad,au,aL]
  refine ⟨fun h2=>eZ (t:=t) (v:=v) ?_,fun h2=>?_⟩
  ·have:v.kind=0∨v.kind=1:=by have:=T.ur (v:=v);omega
   rw[e];unfold cQ;rw[if_pos this];rfl
  have hb01:¬ (v.kind=0∨v.kind=1):=by omega
  have ne:∀ n:Int,(v.kind != n)=decide (v.kind≠n):=fun n=>by by_cases h:v.kind=n<;>simp[h]
  have lo:t.f<5→cM t v=kQ t.f v:=fun h=>by rw[e];unfold cQ;rw[if_neg hb01,if_pos h]
  have g:=h.f
  have h08:t.f=0∨t.f=1∨t.f=2∨t.f=3∨t.f=4∨t.f=5∨t.f=6∨t.f=7∨t.f=8:=by omega
  rcases h08 with hf|hf|hf|hf|hf|hf|hf|hf|hf<;>rw[hf] at g
  ·have lo':=lo (by omega)
   rw[hf] at lo'
   have c0:(((0:Nat):Int)==0)=true:=rfl
   simp only[g,ab]
   exact eZ (t:=t) (v:=v) (by rw[lo'];rfl)
  ·have lo':=lo (by omega)
   rw[hf] at lo'
   have c0:(((1:Nat):Int)==0)=false:=rfl
   have c1:(((1:Nat):Int)==1)=true:=rfl
   simp only[g,ab,tb,bE,af,List.cons_append,bD,aW,aR,aj]
   refine ⟨g,h.b.kk,?_⟩
   simp only[show bn 1 (.sl 2 0 5 (.ex 5)) (i64 ((1:Nat):Int))=some (.ptr 2 1) from rfl,show ∀ a b:ar,ld1 [a,b,ar.cells .rw [i64 0,i64 2,i64 3,i64 0,i64 5]] (.ptr 2 1)=some (i64 2) from fun _ _=>rfl,ab]
   exact eZ (t:=t) (v:=v) (by rw[lo'];show (v.kind != 2) = !decide (v.kind=2);by_cases h:v.kind=2<;>simp[h])
  ·have lo':=lo (by omega)
   rw[hf] at lo'
   have c0:(((2:Nat):Int)==0)=false:=rfl
   have c1:(((2:Nat):Int)==1)=false:=rfl
   have c2:(((2:Nat):Int)==2)=true:=rfl
   have c3:(((2:Nat):Int)==3)=false:=rfl
   have c5:(((2:Nat):Int)==5)=false:=rfl
   have c7:(((2:Nat):Int)==7)=false:=rfl
   simp only[g,ab,tb,bE,af,List.cons_append,bD,aW,aR,aj]
   refine ⟨g,h.b.kk,?_⟩
   simp only[show bn 1 (.sl 2 0 5 (.ex 5)) (i64 ((2:Nat):Int))=some (.ptr 2 2) from rfl,show ∀ a b:ar,ld1 [a,b,ar.cells .rw [i64 0,i64 2,i64 3,i64 0,i64 5]] (.ptr 2 2)=some (i64 3) from fun _ _=>rfl,ab]
   exact eZ (t:=t) (v:=v) (by rw[lo'];show (v.kind != 3) = !decide (v.kind=3);by_cases h:v.kind=3<;>simp[h])
  ·have lo':=lo (by omega)
   rw[hf] at lo'
   have lo3:cM t v=(decide (v.kind=4)||jZ v):=lo'
   have c0:(((3:Nat):Int)==0)=false:=rfl
   have c1:(((3:Nat):Int)==1)=false:=rfl
   have c3:(((3:Nat):Int)==3)=true:=rfl
   simp only[g,ab,bJ,ne,aL]
   refine ⟨fun h4=>⟨fun h3=>?_,fun h3=>?_⟩,fun h4=>?_⟩
   ·refine no ?_
    rw[lo3]
    cases v<;>simp only[T.kind] at h4 h3 ⊢<;>simp_all [jZ]
   ·cases v<;>simp only[T.kind] at h3<;>try (exact absurd (by decide) h3)
    rename_i n
    have gn:ld1 [ar.cells .rw (rkC t),.cells .rw (rc (rT (.int n)))] (.ptr 1 2)=some (i64 n):=rfl
    simp only[gn,ab,ad,au,cT,aL]
    refine ⟨fun hl=>no ?_,fun hl=>eZ (t:=t) (v:=.int n) ?_⟩
    ·rw[lo3];simp only[T.kind,jZ]
     have:¬ (-9007199254740992≤n∧n≤9007199254740992):=by omega
     simp[this]
    ·rw[lo3];simp only[T.kind,jZ]
     by_cases hg:n > 9007199254740992
     ·have:¬ (-9007199254740992≤n∧n≤9007199254740992):=by omega
      simp[this,hg]
     ·have:(-9007199254740992≤n∧n≤9007199254740992):=by omega
      simp[this,hg]
   ·refine eZ (t:=t) (v:=v) ?_
    have:v.kind=4:=Classical.byContradiction h4
    rw[lo3,decide_eq_true this];rfl
  ·have lo':=lo (by omega)
   rw[hf] at lo'
   have c0:(((4:Nat):Int)==0)=false:=rfl
   have c1:(((4:Nat):Int)==1)=false:=rfl
   have c2:(((4:Nat):Int)==2)=false:=rfl
   have c3:(((4:Nat):Int)==3)=false:=rfl
   have c4:(((4:Nat):Int)==4)=true:=rfl
   have c5:(((4:Nat):Int)==5)=false:=rfl
   have c7:(((4:Nat):Int)==7)=false:=rfl
   simp only[g,ab,tb,bE,af,List.cons_append,bD,aW,aR,aj]
   refine ⟨g,h.b.kk,?_⟩
   simp only[show bn 1 (.sl 2 0 5 (.ex 5)) (i64 ((4:Nat):Int))=some (.ptr 2 4) from rfl,show ∀ a b:ar,ld1 [a,b,ar.cells .rw [i64 0,i64 2,i64 3,i64 0,i64 5]] (.ptr 2 4)=some (i64 5) from fun _ _=>rfl,ab]
   exact eZ (t:=t) (v:=v) (by rw[lo'];show (v.kind != 5) = !decide (v.kind=5);by_cases h:v.kind=5<;>simp[h])
  ·have c0:(((5:Nat):Int)==0)=false:=rfl
   have c1:(((5:Nat):Int)==1)=false:=rfl
   have c3:(((5:Nat):Int)==3)=false:=rfl
   have c5:(((5:Nat):Int)==5)=true:=rfl
   have c7:(((5:Nat):Int)==7)=false:=rfl
   simp only[g,ab,bJ,ne,aL]
   refine ⟨fun h6=>no (kY (by omega) h2 (by rw[if_neg (by omega)];exact h6)),fun h6=>loop (by omega) ?_ (by omega)⟩
   rw[if_neg (by omega)];exact Classical.byContradiction h6
  ·have c0:(((6:Nat):Int)==0)=false:=rfl
   have c1:(((6:Nat):Int)==1)=false:=rfl
   have c2:(((6:Nat):Int)==2)=false:=rfl
   have c3:(((6:Nat):Int)==3)=false:=rfl
   have c4:(((6:Nat):Int)==4)=false:=rfl
   have c5:(((6:Nat):Int)==5)=false:=rfl
   have c7:(((6:Nat):Int)==7)=false:=rfl
   simp only[g,ab,bJ,ne,aL]
   refine ⟨fun h6=>no (kY (by omega) h2 (by rw[if_pos (by omega)];exact h6)),fun h6=>loop (by omega) ?_ (by omega)⟩
   rw[if_pos (by omega)];exact Classical.byContradiction h6
  ·have c0:(((7:Nat):Int)==0)=false:=rfl
   have c1:(((7:Nat):Int)==1)=false:=rfl
   have c3:(((7:Nat):Int)==3)=false:=rfl
   have c5:(((7:Nat):Int)==5)=false:=rfl
   have c7:(((7:Nat):Int)==7)=true:=rfl
   have el:((v.items.length:Int) != (t.l.length:Int))=decide (v.items.length≠t.l.length):=by
    by_cases h:v.items.length=t.l.length
    ·simp[h]
    ·have:¬ (v.items.length:Int)=t.l.length:=by omega
     simp[h,bne,this]
   simp only[g,ab,bj,c0,c1,c3,c5,c7,ah,ae,bJ,ne,aL,h.b.li,h.l,aU,ad,el]
   refine ⟨fun h6=>no (kY (by omega) h2 (by rw[if_neg (by omega)];exact h6)),fun h6=>?_⟩
   have h6':v.kind=6:=Classical.byContradiction h6
   refine ⟨fun hn=>no ?_,fun hn=>loop (by omega) (by rw[if_neg (by omega)];exact h6') fun _=>Classical.byContradiction hn⟩
   rw[e];unfold cQ;rw[if_neg hb01,if_neg (by omega)]
   cases v<;>simp only[T.kind] at h6'<;>try omega
   rename_i vs
   show (if t.f=5 then _ else if t.f=7 then _ else _)=false
   rw[if_neg (by omega),if_pos hf]
   have:¬ vs.length=(cW t.l).length:=by rw[ka,bH];exact hn
   rw[decide_eq_false this];rfl
  ·have c0:(((8:Nat):Int)==0)=false:=rfl
   have c1:(((8:Nat):Int)==1)=false:=rfl
   have c2:(((8:Nat):Int)==2)=false:=rfl
   have c3:(((8:Nat):Int)==3)=false:=rfl
   have c4:(((8:Nat):Int)==4)=false:=rfl
   have c5:(((8:Nat):Int)==5)=false:=rfl
   have c7:(((8:Nat):Int)==7)=false:=rfl
   simp only[g,ab,bJ,ne,aL]
   refine ⟨fun h6=>no (kY (by omega) h2 (by rw[if_pos (by omega)];exact h6)),fun h6=>loop (by omega) ?_ (by omega)⟩
   rw[if_pos (by omega)];exact Classical.byContradiction h6
end
section
variable {st:aa} {R:LV→aa→Prop}
structure SV (st:aa) (n:Int) (l:List AT) (v:T):Prop where
 a:rG st 0 n l
 b:cH st 1 (rT v)
theorem Lz {l:List AT} {i:Nat} {a:AT} (h:l[i]?=some a):(bCs l)[i*10+6]?=some (.bool a.must):=by
 rw[JK h (by omega)];unfold bC;rw[gd];rfl
theorem uL {n:Int} {S:ST} (hS:S.ok) {es:List (Tx × T)} (hv:(T.map es).ok) (hsv:SV st n S.l (.map es)) (hR:R (.tup [.str (fY S.l es).1,i64 (fY S.l es).2]) st) :
  ∀ (d i:Nat),i+d=es.length→fY S.l es=fY S.l (es.drop i)→xq (.ptr 0 0) (.ptr 1 0) (i64 i) R st:=by
 have hbe:es.length≤big:=by simp only[T.ok] at hv;exact hv.1
 have hbl:S.l.length≤big:=by have:=hS.len;unfold big;omega
 intro d
 induction d with
 | zero=>
  intro i hi hw
  refine HO _ _ _ ?_
  have c1:¬ ((i:Int)<es.length):=by omega
  rw[bR (by omega)] at hw
  rw[hw] at hR
  simp only[B1,ao,aj,ab,hsv.b.lm,aU,ad,au,c1,a8,ae]
  exact hR
 | succ d ih=>
  intro i hi hw
  refine HO _ _ _ ?_
  have hlt:i<es.length:=by omega
  have c1:((i:Int)<es.length):=by omega
  have e1:bn 1 (.isl ((es.map (·.1)).map .str) es.length none) (i64 i)=some (.iptr ((es.map (·.1)).map .str) (i*1)):=cj hlt
  have hg:((es.map (·.1)).map LV.str)[i*1]?=some (.str es[i].1):=by simp[hlt]
  have e5:bn 7 (.isl (rcs (es.map fun e=>rT e.2)) es.length none) (i64 i)=some (.iptr (rcs (es.map fun e=>rT e.2)) (i*7)):=cj hlt
  have hx5:(es.map fun e=>rT e.2)[i]?=some (rT es[i].2):=by simp[hlt]
  have hm:es[i] ∈ es:=List.getElem_mem hlt
  have hdr:es.drop i=es[i]::es.drop (i+1):=b6 hlt
  generalize es[i]=e at hg hx5 hm hdr
  rw[hdr,fY] at hw
  have hey:e.2.ok:=T.dY hv e.2 (List.mem_map.2 ⟨e,hm,rfl⟩)
  have hw1:=aK (show i<2 ^ 40 by unfold big at hbe;omega)
  simp only[B1,ao,aj,ab,hsv.b.lm,hsv.b.km,hsv.a.ldA,aU,ad,au,c1,aZ,ah,e1,bA,hg]
  refine (OE hbl e.1).call ?_
  have hf:=AG (k:=e.1) (l:=S.l) (i:=0)
  cases hx:eP e.1 (S.l.map (·.nm)) 0 with
  | none=>
   rw[hx] at hf
   have hf':jd e.1 S.l=none:=hf
   rw[hf'] at hw
   have c9:((-1:Int)<0):=by omega
   rw[hw] at hR
   rw[mj hx]
   simp only[ad,au,c9,aZ,ab,ah,hsv.b.km,e1,bA,hg]
   exact hR
  | some j=>
   rw[hx] at hf
   obtain ⟨_,a,h1,h2⟩:=hf
   rw[Nat.sub_zero] at h1
   have hjl:=(List.getElem?_eq_some_iff.1 h1).1
   rw[h2] at hw
   simp only at hw
   have c9:¬ ((j:Int)<0):=by omega
   rw[(nZ hx).1]
   simp only[ad,au,c9,a8,ab,ae,hsv.a.l,jI hjl,b9,OC h1,hsv.b.lm,e5,eF hx5]
   refine (Gs (d:=8) (by omega) (hS.ty a (cr h1)) hey).call fun r hr=>?_
   obtain ⟨w,m,ds,rfl,rfl,-⟩:=hr
   cases htk:cM a.ty e.2 with
   | true=>
    rw[htk,if_pos rfl] at hw
    simp only[av,aN,aO,ab,bM,ae,aH,hw1]
    exact ih (i+1) (by omega) hw
   | false=>
    rw[htk,if_neg (by simp)] at hw
    rw[hw] at hR
    simp only[av,aN,aO,ab,bL,ah,hsv.b.km,e1,bA,hg]
    exact hR
theorem qM {n:Int} {l:List AT} {r:RV}:LV.aG [bS n l,vR r]=true:=by simp only[LV.aG,pL,fX];rfl
theorem AH {n:Int} {S:ST} (hS:S.ok) {v:T} (hv:v.ok):Pu Tryz.prog 111 [bS n S.l,vR (rT v)] (.tup [.str (dw S.l v).1,i64 (dw S.l v).2]):=by
 refine Pu.of (Q5 _ _ ?_) qM rfl
 have h:SV [.cells .rw [i64 n,.isl (bCs S.l) S.l.length none],.cells .rw (rc (rT v))] n S.l v:=⟨rfl,rfl⟩
 have ek:(v.kind != 7)=decide (v.kind≠7):=by by_cases h:v.kind=7<;>simp[h]
 simp only[PS,pO,ec,af,aR,bD,List.cons_append,aW,aj,ao,h.b.kk,ab,ad,bJ,ek,aL]
 refine ⟨fun h7=>?_,fun h7=>?_⟩
 ·have:dw S.l v=([],6):=by cases v<;>first|rfl|exact absurd rfl h7
  rw[this];exact bu (v:=.tup [.str [],i64 6]) _ rfl
 ·have h7':v.kind=7:=Classical.byContradiction h7
  cases v<;>simp only[T.kind] at h7'<;>try omega
  rename_i es
  exact uL (R:=fun r s=>dp s (.tup [.str (fY S.l es).1,i64 (fY S.l es).2]) r) hS hv h (bu (v:=.tup [.str _,i64 _]) _ rfl) es.length 0 (by omega) rfl
theorem AI {n:Int} {S:ST} (hS:S.ok) {v:T} (hv:v.ok) (hsv:SV st n S.l v) (hR:R (.tup [.str (iB v S.l).1,i64 (iB v S.l).2]) st) :
  ∀ (d i:Nat),i+d=S.l.length→iB v S.l=iB v (S.l.drop i)→zJ (.ptr 0 0) (.ptr 1 0) (i64 i) R st:=by
 intro d
 have h16:=hS.len
 induction d with
 | zero=>
  intro i hi hw
  refine Mm _ _ _ ?_
  have c1:¬ ((i:Int)<S.l.length):=by omega
  rw[bR (by omega)] at hw
  rw[hw] at hR
  simp only[HJ,ao,aj,ab,hsv.a.l,aU,ad,au,c1,a8,ae]
  exact hR
 | succ d ih=>
  intro i hi hw
  refine Mm _ _ _ ?_
  have hlt:i<S.l.length:=by omega
  have c1:((i:Int)<S.l.length):=by omega
  have hx:S.l[i]?=some S.l[i]:=bg hlt
  have hdr:S.l.drop i=S.l[i]::S.l.drop (i+1):=b6 hlt
  generalize S.l[i]=a at hx hdr
  rw[hdr,iB] at hw
  have g0:=pM hx
  have hw1:=aK (show i<2 ^ 40 by omega)
  simp only[HJ,ao,aj,ab,hsv.a.l,aU,ad,au,c1,aZ,ah,jI hlt,b9,bA,Lz hx]
  cases hmu:a.must with
  | false=>
   rw[hmu,Bool.false_and,if_neg (by simp)] at hw
   simp only[ae,aH,ab,hw1]
   exact ih (i+1) (by omega) hw
  | true=>
   rw[hmu,Bool.true_and] at hw
   simp only[ah,hsv.b.ldA,ab,Nat.add_zero,g0]
   refine (yq hv a.nm).call ?_
   have ek:wh 0 (vR (rT (cG v a.nm)))=some (i64 (cG v a.nm).kind):=by
    show wh 0 (.agg (rc (rT (cG v a.nm))))=_
    rw[nq,KK];rfl
   have eb:((cG v a.nm).kind==0)=decide ((cG v a.nm).kind=0):=by by_cases h:(cG v a.nm).kind=0<;>simp[h]
   simp only[ek,ab,ad,bj,eb,aL]
   refine ⟨fun hk=>?_,fun hk=>?_⟩
   ·rw[decide_eq_true hk,if_pos rfl] at hw
    rw[hw] at hR
    simp only[hsv.a.l,ab,jI hlt,b9,Nat.add_zero,bA,g0]
    exact hR
   ·rw[decide_eq_false hk,if_neg (by simp)] at hw
    simp only[aH,ab,hw1]
    exact ih (i+1) (by omega) hw
theorem RE {n:Int} {S:ST} (hS:S.ok) {v:T} (hv:v.ok):Pu Tryz.prog 44 [bS n S.l,vR (rT v)] (.tup [.str (vi S.l v).1,i64 (vi S.l v).2]):=by
 refine Pu.of (c44 _ _ ?_) qM rfl
 have h:SV [.cells .rw [i64 n,.isl (bCs S.l) S.l.length none],.cells .rw (rc (rT v))] n S.l v:=⟨rfl,rfl⟩
 simp only[w44,pO,ec,af,aR,bD,List.cons_append,aW,aj,h.a.ldA,h.b.ldA,ab]
 refine (AH hS hv).call ?_
 have en:((dw S.l v).2 != 0)=decide ((dw S.l v).2≠0):=by by_cases h:(dw S.l v).2=0<;>simp[h]
 simp only[av,aN,aO,ab,ad,bJ,en,aL]
 unfold vi
 refine ⟨fun hn=>?_,fun hn=>?_⟩
 ·rw[if_neg hn];exact bu (v:=.tup [.str _,i64 _]) _ rfl
 ·rw[if_pos (Classical.byContradiction hn)]
  exact AI (R:=fun r s=>dp s (.tup [.str (iB v S.l).1,i64 (iB v S.l).2]) r) hS hv h (bu (v:=.tup [.str _,i64 _]) _ rfl) S.l.length 0 (by omega) rfl
theorem C0 {v:T} {k:Tx}:(v.at k).isSome = !decide (ixI k v.keys<0):=by
 have h:=uA (v:=v) (k:=k)
 have e:v.at k=T.find (qL v) k:=by cases v<;>rfl
 rw[e]
 cases hx:T.find (qL v) k with
 | none=>rw[decide_eq_true (h.2 hx)];rfl
 | some x=>rw[decide_eq_false fun h'=>by rw[h.1 h'] at hx;cases hx];rfl
theorem yr {n:Int} {S:ST} (hS:S.ok) {v:T} (hv:v.ok) (hsv:SV st n S.l v) (hR:R (.tup [.str (mT v S.l).1,i64 (mT v S.l).2]) st) :
  ∀ (d i:Nat),i+d=S.l.length→mT v S.l=mT v (S.l.drop i)→DV (.ptr 0 0) (.ptr 1 0) (i64 i) R st:=by
 intro d
 have h16:=hS.len
 induction d with
 | zero=>
  intro i hi hw
  refine Mn _ _ _ ?_
  have c1:¬ ((i:Int)<S.l.length):=by omega
  rw[bR (by omega)] at hw
  rw[hw] at hR
  simp only[HK,ao,aj,ab,hsv.a.l,aU,ad,au,c1,a8,ae]
  exact hR
 | succ d ih=>
  intro i hi hw
  refine Mn _ _ _ ?_
  have hlt:i<S.l.length:=by omega
  have c1:((i:Int)<S.l.length):=by omega
  have hx:S.l[i]?=some S.l[i]:=bg hlt
  have hdr:S.l.drop i=S.l[i]::S.l.drop (i+1):=b6 hlt
  generalize S.l[i]=a at hx hdr
  rw[hdr,mT,C0] at hw
  have g0:=pM hx
  have hw1:=aK (show i<2 ^ 40 by omega)
  simp only[HK,ao,aj,ab,hsv.a.l,hsv.b.ldA,aU,ad,au,c1,aZ,ah,jI hlt,b9,Nat.add_zero,bA,g0]
  refine (yp hv a.nm).call ?_
  simp only[ab,ad,au,aL]
  refine ⟨fun hk=>?_,fun hk=>?_⟩
  ·rw[decide_eq_true hk,if_neg (by simp)] at hw
   rw[hw] at hR
   simp only[hsv.a.l,ab,jI hlt,b9,Nat.add_zero,bA,g0]
   exact hR
  ·rw[decide_eq_false hk,if_pos (by simp)] at hw
   simp only[aH,ab,hw1]
   exact ih (i+1) (by omega) hw
theorem LA {n:Int} {S:ST} (hS:S.ok) {v:T} (hv:v.ok):Pu Tryz.prog 45 [bS n S.l,vR (rT v)] (.tup [.str (cI S.l v).1,i64 (cI S.l v).2]):=by
 refine Pu.of (c45 _ _ ?_) qM rfl
 have h:SV [.cells .rw [i64 n,.isl (bCs S.l) S.l.length none],.cells .rw (rc (rT v))] n S.l v:=⟨rfl,rfl⟩
 simp only[w45,pO,ec,af,aR,bD,List.cons_append,aW,aj,h.a.ldA,h.b.ldA,ab]
 refine (AH hS hv).call ?_
 have en:((dw S.l v).2 != 0)=decide ((dw S.l v).2≠0):=by by_cases h:(dw S.l v).2=0<;>simp[h]
 simp only[av,aN,aO,ab,ad,bJ,en,aL]
 unfold cI
 refine ⟨fun hn=>?_,fun hn=>?_⟩
 ·rw[if_neg hn];exact bu (v:=.tup [.str _,i64 _]) _ rfl
 ·rw[if_pos (Classical.byContradiction hn)]
  exact yr (R:=fun r s=>dp s (.tup [.str (mT v S.l).1,i64 (mT v S.l).2]) r) hS hv h (bu (v:=.tup [.str _,i64 _]) _ rfl) S.l.length 0 (by omega) rfl
end
section
variable {st:aa} {R:LV→aa→Prop}
def rcz (v:T) (a:AT):List LV:=if a.own&&decide ((cG v a.nm).kind=0) then [i64 1,.bool false,i64 0,i64 0,.str [],.nils,.nils] else rc (rT (cG v a.nm))
def zs (v:T) (l:List AT):List LV:=(l.map (rcz v)).flatten
structure RG (st:aa) (n:Int) (S:ST) (v:T) (fL fK:Option Nat) (i k:Nat):Prop where
 s:SV st n S.l v
 c2:st[2]?=some (.cells .rw z7)
 c3:st[3]?=some (.cells .rw [i64 7,.bool false,i64 0,i64 0,.str [],osl fL 7 i,osl fK 1 k])
 oL:ca .rw st fL 7 i (zs v (S.l.take i))
 oK:ca .rw st fK 1 k ((S.l.take k).map fun a=>.str a.nm)
 nL:∀ o,fL=some o→4≤o∧fK≠some o
 nK:∀ o,fK=some o→4≤o
variable {n:Int} {S:ST} {v:T} {fL fK:Option Nat} {i k:Nat} {a:AT}
theorem cH.fr {st st':aa} {Q:Nat→Prop} {o:Nat} {r:RV} (h:cH st o r) (hf:Fr st st' Q) (hn:¬ Q o):cH st' o r:=hf.get h hn
theorem rG.fr {st st':aa} {Q:Nat→Prop} {o:Nat} {n:Int} {l:List AT} (h:rG st o n l) (hf:Fr st st' Q) (hn:¬ Q o):rG st' o n l:=hf.get h hn
end
end Go.Proofs.YtknegckgmklnhaaGreatDoor
namespace Go.CP
end Go.CP
namespace Go.Proofs.YtknegckgmklnhaaGreatDoor
open Go Go.CP
set_option maxRecDepth 100000
section
variable {st:aa} {R:LV→aa→Prop}
theorem qN {a b:Bool}:yx .neq (.bool a) (.bool b)=some (.bool (a != b)):=rfl
structure U2 (st:aa) (t:T):Prop where
 a:st[0]?=some (.cells .rw [lvT t])
 b:cH st 1 (rT t)
end
end Go.Proofs.YtknegckgmklnhaaGreatDoor
