/- Parts of the proof. -/
import Derived.Test.YtknegckgmklnhaaGreatDoorVaX
namespace Go.Proofs.YtknegckgmklnhaaGreatDoor
open Go Go.CP
set_option maxRecDepth 100000
section
variable {st:aa} {R:LV→aa→Prop}
theorem Ky {a b x y:LV} (h1:[x,y].all LV.one=true):stV (st++[av.cells .rw [a,b]]) 2 (.ptr st.length 0) (.agg [x,y])=some (st++[.cells .rw [x,y]]):=by
 rw[ml aw h1];simp
theorem HX {x y:LV} {o:Nat} (h:st[o]?=some (.cells .rw [x,y])):ldA st (.ptr o 0) 2=some (.agg [x,y]):=by rw[cv h (by simp)];rfl
theorem HY {d:Nat} (hd:d≤1000) {t:KT} {v:T} (hw:t.wf (d+1)) (h5:¬ t.f<5) (hk:v.kind=if t.f=6∨t.f=8 then 7 else 6) (h7:t.f=7→v.items.length=t.l.length) (hv:v.ok)
  (ih:∀ x ∈ t.l,∀ y ∈ v.items,Pb Tryz.prog 134 [.agg (rkC x),vR (rT y)] (WrQ d (!bU x y))) {b:Bool} (hbb:b=true↔¬ ((∀ i,En t v i)∧missing t.ns t.ls (pH v)=[])) :
  ∀ (k i:Nat) (st:aa) (x11:LV),i+k=v.items.length→W2 st t v→(∀ j,j<i→En t v j)→b9 (.ptr 0 0) (.ptr 1 0) (i64 i) x11 (Dp (WrQ (d+1) b)) st:=by
 have hw':t.f≤8∧(t.f<5→t.l=[])∧(t.f=5∨t.f=6→t.l.length=1)∧(t.f<8→t.ns=[]∧t.ls=[])∧(t.f=8→t.ns.length=t.l.length∧t.ls.length=t.l.length)∧t.l.length≤16∧t.ns.Pairwise ltB∧(∀ n ∈ t.ns,named n=true)∧KT.wfs d t.l:=by
  cases t;exact hw
 obtain ⟨w1,w2,w3,w4,w5,w6,_,_,w7⟩:=hw'
 have hll:t.ls.length=t.ns.length:=by
  rcases Nat.lt_or_ge t.f 8 with h|h
  ·rw[(w4 h).1,(w4 h).2];rfl
  ·have:=w5 (by omega);omega
 have hnb:t.ns.length≤big:=by
  unfold big
  rcases Nat.lt_or_ge t.f 8 with h|h
  ·rw[(w4 h).1];simp
  ·have:=w5 (by omega);omega
 have hbi:v.items.length≤big:=by
  cases v<;>simp only[T.items,List.length_nil,List.length_map]<;>first|exact Nat.zero_le _ | (simp only[T.ok] at hv;exact hv.1)
 intro k
 induction k with
 | zero=>
  intro i st x11 hi h hh
  refine C5 _ _ _ _ ?_
  have c1:¬ ((i:Int)<v.items.length):=by omega
  simp only[wh,aq,Nat.zero_add,ab,h.b.li,aR,ae,ax,c1,decide_false,af]
  refine HW hv hll hnb t.ns.length 0 st (by omega) h ?_
  have hall:∀ i,En t v i:=fun j=>by
   by_cases hj:j<i
   ·exact hh j hj
   ·intro y hy
    have:=(List.getElem?_eq_some_iff.1 hy).1
    omega
  rw[hbb,List.drop_zero,List.drop_zero]
  exact ⟨fun h1 h2=>h1 ⟨hall,h2⟩,fun h1 h2=>h1 h2.2⟩
 | succ k ihk=>
  intro i st x11 hi h hh
  refine C5 _ _ _ _ ?_
  have hlt:i<v.items.length:=by omega
  have c1:((i:Int)<v.items.length):=by omega
  have c0:¬ ((i:Int)<0):=by omega
  have c00:decide ((0:Int)<0)=false:=rfl
  have hy:v.items[i]?=some v.items[i]:=List.getElem?_eq_getElem hlt
  have hym:=List.getElem_mem hlt
  have e5:aK 7 (.isl (rcs (v.items.map rT)) v.items.length none) (i64 i)=some (.iptr (rcs (v.items.map rT)) (i*7)):=bO hlt
  have hx5:(v.items.map rT)[i]?=some (rT v.items[i]):=by simp[hlt]
  generalize v.items[i]=y at hy hym hx5
  have g5:∀ s:aa,ldA s (.iptr (rcs (v.items.map rT)) (i*7)) 7=some (vR (rT y)):=fun s=>fT hx5
  have hw1:=aH (show i<2 ^ 40 by unfold big at hbi;omega)
  have z1:aP (ao (aA [(0,1),(1,1)]) [LV.str [],i64 0] [(1,i64 i)])=some (.agg [.str [],i64 i]):=rfl
  have ef:∀ a b:LV,ao (fun i=>some (i*2,2)) (List.replicate 1 [LV.str [],i64 0]).flatten [(0,.agg [a,b])]=some [a,b]:=fun _ _=>rfl
  have h1:=h.app (y:=.cells .rw [.str [],i64 i])
  have b1:(st++[av.cells .rw [.str [],i64 i]])[st.length]?=some (.cells .rw [.str [],i64 i]):=aw
  -- what comes of one part
  have nxt:∀ {x:KT},jZ t v i=some x→bU x y=true→∀ j,j<i+1→En t v j:=fun {x} hs ht j hj=>by
   rcases Nat.lt_or_ge j i with h|h
   ·exact hh j h
   ·have:j=i:=by omega
    subst this
    intro y' hy'
    rw[hy] at hy';cases hy'
    exact ⟨x,hs,ht⟩
  have bad:(∀ x,jZ t v i=some x→bU x y=false)→b=true:=fun hs=>hbb.2 fun ⟨h1,_⟩=>by
   obtain ⟨x,h2,h3⟩:=h1 i y hy
   rw[hs x h2] at h3;cases h3
  simp only[wh,aq,Nat.zero_add,ab,h.b.li,aR,ae,ax,c1,decide_true,ai,z1,b6,Ky (x:=.str []) (y:=i64 i) rfl,ay,ag,h1.b.kk,aQ]
  have h58:t.f=5∨t.f=6∨t.f=7∨t.f=8:=by omega
  by_cases hm:v.kind=7
  ·have h68:t.f=6∨t.f=8:=by
    by_cases h:t.f=6∨t.f=8
    ·exact h
    ·rw[if_neg h] at hk;omega
   have e7:(v.kind==7)=true:=by rw[hm];rfl
   have hkl:i<v.keys.length:=by
    cases v<;>simp only[T.kind] at hm<;>try omega
    simpa[T.keys,T.items] using hlt
   have e6:aK 1 (.isl (v.keys.map .str) v.keys.length none) (i64 i)=some (.iptr (v.keys.map .str) (i*1)):=bO hkl
   have hg:(v.keys.map LV.str)[i*1]?=some (.str v.keys[i]):=by simp[hkl]
   have hkk:v.keys[i]?=some v.keys[i]:=List.getElem?_eq_getElem hkl
   generalize v.keys[i]=n at hg hkk
   have z2:aP (ao (aA [(0,1),(1,1)]) [LV.str [],i64 0] [(0,.str n),(1,i64 (-1))])=some (.agg [.str n,i64 (-1)]):=rfl
   have pt:stV (st++[av.cells .rw [.str [],i64 i]]) 2 (.ptr st.length 0) (.agg [.str n,i64 (-1)])=some (st++[.cells .rw [.str n,i64 (-1)]]):=Ky rfl
   have h2:=h.app (y:=.cells .rw [.str n,i64 (-1)])
   have b2:(st++[av.cells .rw [.str n,i64 (-1)]])[st.length]?=some (.cells .rw [.str n,i64 (-1)]):=aw
   simp only[e7,ai,h1.b.ki,ab,e6,ba,hg,z2,pt,ay,ag,h2.f]
   generalize st++[av.cells .rw [.str n,i64 (-1)]]=S at h2 b2
   have one:∀ {kn:Nat} {x:KT},t.l[kn]?=some x→jZ t v i=some x→x ∈ t.l:=fun h _=>List.mem_of_getElem? h
   rcases h68 with h6|h8
   ·have f7:((t.f:Int)==7)=false:=by rw[h6];rfl
    have f8:((t.f:Int)==8)=false:=by rw[h6];rfl
    have hl1:=w3 (.inr h6)
    have hx:t.l[0]?=some (t.l[0]'(by omega)):=List.getElem?_eq_getElem _
    have hs:jZ t v i=t.l[0]?:=by unfold jZ;rw[if_neg (by omega),if_neg (by omega)]
    have e4:aK 4 (.isl (cH t.l) t.l.length none) (LV.int .i64 0)=some (.iptr (cH t.l) (0*4)):=bO (i:=0) (by omega)
    generalize t.l[0]'(by omega)=x at hx
    simp only[ae,aQ,f7,f8,af,c00,ab,h2.l,e4,oz hx,h2.b.li,e5,g5]
    refine (ih x (List.mem_of_getElem? hx) y hym).call fun r hr=>?_
    obtain ⟨w,m,ds,rfl,rfl,hn,hpd,h1d,hnd⟩:=hr
    cases htk:bU x y with
    | true=>
     simp only[au,List.getElem?_cons_zero,List.getElem?_cons_succ,ab,Bool.not_true,af,aG,hw1]
     exact ihk (i+1) _ _ (by omega) h2 (nxt (hs.trans hx) htk)
    | false=>
     have e:b=true:=bad fun x' hx'=>by rw[hs,hx] at hx';cases hx';exact htk
     subst e
     simp only[au,List.getElem?_cons_zero,List.getElem?_cons_succ,ab,Bool.not_false,ai,HX b2,ef,aY,ag]
     exact px rfl rfl hn hpd h1d hnd hd
   ·have f7:((t.f:Int)==7)=false:=by rw[h8];rfl
    have f8:((t.f:Int)==8)=true:=by rw[h8];rfl
    have ⟨l1,l2⟩:=w5 h8
    have hs:jZ t v i=(dU n t.ns 0).bind (t.l[·]?):=by unfold jZ;rw[if_neg (by omega),if_pos h8,hkk];rfl
    simp only[ae,aQ,f7,f8,af,ai,h2.all,ab,h2.b.ki,e6,ba,hg]
    refine (Jx hnb n).call ?_
    cases hx:dU n t.ns 0 with
    | none=>
     rw[lz hx]
     have c9:((-1:Int)<0):=by omega
     rw[hx] at hs
     have e:b=true:=bad fun x' hx'=>by rw[hs] at hx';cases hx'
     subst e
     simp only[ae,ax,c9,decide_true,ab,ai,HX b2,ef,aY,ag]
     exact sB rfl rfl
    | some j=>
     rw[(mV hx).1]
     obtain ⟨_,hj,_⟩:=qI hx
     have c9:¬ ((j:Int)<0):=by omega
     have hjl:j<t.l.length:=by omega
     have hxx:t.l[j]?=some t.l[j]:=List.getElem?_eq_getElem hjl
     rw[hx] at hs
     have hs':jZ t v i=t.l[j]?:=hs
     have e4:aK 4 (.isl (cH t.l) t.l.length none) (i64 j)=some (.iptr (cH t.l) (j*4)):=bO hjl
     generalize t.l[j]=x at hxx
     simp only[ae,ax,c9,decide_false,ab,af,h2.l,e4,oz hxx,h2.b.li,e5,g5]
     refine (ih x (List.mem_of_getElem? hxx) y hym).call fun r hr=>?_
     obtain ⟨w,m,ds,rfl,rfl,hn,hpd,h1d,hnd⟩:=hr
     cases htk:bU x y with
     | true=>
      simp only[au,List.getElem?_cons_zero,List.getElem?_cons_succ,ab,Bool.not_true,af,aG,hw1]
      exact ihk (i+1) _ _ (by omega) h2 (nxt (hs'.trans hxx) htk)
     | false=>
      have e:b=true:=bad fun x' hx'=>by rw[hs',hxx] at hx';cases hx';exact htk
      subst e
      simp only[au,List.getElem?_cons_zero,List.getElem?_cons_succ,ab,Bool.not_false,ai,HX b2,ef,aY,ag]
      exact px rfl rfl hn hpd h1d hnd hd
  ·have h57:t.f=5∨t.f=7:=by
    by_cases h:t.f=6∨t.f=8
    ·rw[if_pos h] at hk;exact absurd hk hm
    ·omega
   have e7:(v.kind==7)=false:=by simpa using hm
   simp only[e7,af,h1.f,ab]
   generalize st++[av.cells .rw [.str [],i64 i]]=S at h1 b1
   rcases h57 with h6|h8
   ·have f7:((t.f:Int)==7)=false:=by rw[h6];rfl
    have f8:((t.f:Int)==8)=false:=by rw[h6];rfl
    have hl1:=w3 (.inl h6)
    have hx:t.l[0]?=some (t.l[0]'(by omega)):=List.getElem?_eq_getElem _
    have hs:jZ t v i=t.l[0]?:=by unfold jZ;rw[if_neg (by omega),if_neg (by omega)]
    have e4:aK 4 (.isl (cH t.l) t.l.length none) (LV.int .i64 0)=some (.iptr (cH t.l) (0*4)):=bO (i:=0) (by omega)
    generalize t.l[0]'(by omega)=x at hx
    simp only[ae,aQ,f7,f8,af,c00,ab,h1.l,e4,oz hx,h1.b.li,e5,g5]
    refine (ih x (List.mem_of_getElem? hx) y hym).call fun r hr=>?_
    obtain ⟨w,m,ds,rfl,rfl,hn,hpd,h1d,hnd⟩:=hr
    cases htk:bU x y with
    | true=>
     simp only[au,List.getElem?_cons_zero,List.getElem?_cons_succ,ab,Bool.not_true,af,aG,hw1]
     exact ihk (i+1) _ _ (by omega) h1 (nxt (hs.trans hx) htk)
    | false=>
     have e:b=true:=bad fun x' hx'=>by rw[hs,hx] at hx';cases hx';exact htk
     subst e
     simp only[au,List.getElem?_cons_zero,List.getElem?_cons_succ,ab,Bool.not_false,ai,HX b1,ef,aY,ag]
     exact px rfl rfl hn hpd h1d hnd hd
   ·have f7:((t.f:Int)==7)=true:=by rw[h8];rfl
    have hil:i<t.l.length:=by rw[← h7 h8];exact hlt
    have hx:t.l[i]?=some t.l[i]:=List.getElem?_eq_getElem hil
    have hs:jZ t v i=t.l[i]?:=by unfold jZ;rw[if_pos h8]
    have e4:aK 4 (.isl (cH t.l) t.l.length none) (i64 i)=some (.iptr (cH t.l) (i*4)):=bO hil
    generalize t.l[i]=x at hx
    simp only[ae,aQ,f7,ai,c0,decide_false,af,ab,h1.l,e4,oz hx,h1.b.li,e5,g5]
    refine (ih x (List.mem_of_getElem? hx) y hym).call fun r hr=>?_
    obtain ⟨w,m,ds,rfl,rfl,hn,hpd,h1d,hnd⟩:=hr
    cases htk:bU x y with
    | true=>
     simp only[au,List.getElem?_cons_zero,List.getElem?_cons_succ,ab,Bool.not_true,af,aG,hw1]
     exact ihk (i+1) _ _ (by omega) h1 (nxt (hs.trans hx) htk)
    | false=>
     have e:b=true:=bad fun x' hx'=>by rw[hs,hx] at hx';cases hx';exact htk
     subst e
     simp only[au,List.getElem?_cons_zero,List.getElem?_cons_succ,ab,Bool.not_false,ai,HX b1,ef,aY,ag]
     exact px rfl rfl hn hpd h1d hnd hd
theorem ka {t:KT} {v:T} (h5:¬ t.f<5) (hb:¬ v.kind<2) (h:v.kind≠if t.f=6∨t.f=8 then 7 else 6):bU t v=false:=by
 have e:bU t v=cd t.f (cw t.l) t.ns t.ls v:=by cases t;rfl
 have hb01:¬ (v.kind=0∨v.kind=1):=by omega
 rw[e];unfold cd;rw[if_neg hb01,if_neg h5]
 cases v<;>simp only[T.kind] at h ⊢<;>try rfl
 ·have h6:t.f=6∨t.f=8:=Classical.byContradiction fun h'=>h (by rw[if_neg h'])
  rw[if_neg (by omega),if_neg (by omega)]
 ·have h6:¬ (t.f=6∨t.f=8):=fun h'=>h (by rw[if_pos h'])
  rw[if_neg (by omega),if_neg (by omega)]
theorem Ep:∀ {d:Nat},d≤1000→∀ {t:KT} {v:T},t.wf d→v.ok→Pb Tryz.prog 134 [.agg (rkC t),vR (rT v)] (WrQ d (!bU t v)):=by
 intro d
 induction d with
 | zero=>intro _ t v h;cases t;simp only[KT.wf] at h
 | succ d ih=>
  intro hd t v hw hv
  refine Pb.of (OO _ _ ?_) (by simp only[LV.aB,LV.plain,eU,nN];rfl)
  have e:bU t v=cd t.f (cw t.l) t.ns t.ls v:=by cases t;rfl
  have w1:t.f≤8:=by cases t;exact hw.1
  have w7':KT.wfs d t.l:=by cases t;exact hw.2.2.2.2.2.2.2.2
  have w7:=KT.lL.1 w7'
  have h:W2 [av.cells .rw (rkC t),.cells .rw (rc (rT v))] t v:=⟨rfl,rfl⟩
  have ihx:∀ x ∈ t.l,∀ y ∈ v.items,Pb Tryz.prog 134 [.agg (rkC x),vR (rT y)] (WrQ d (!bU x y)):=fun x hx y hy=>ih (by omega) (w7 x hx) (T.ik hv y hy)
  have loop:¬ t.f<5→(v.kind=if t.f=6∨t.f=8 then 7 else 6)→(t.f=7→v.items.length=t.l.length)→b9 (.ptr 0 0) (.ptr 1 0) (LV.int .i64 0) (.tup []) (Dp (WrQ (d+1) (!bU t v))) [av.cells .rw (rkC t),.cells .rw (rc (rT v))]:=fun h5 hk h7=>by
   refine HY (by omega) hw h5 hk h7 hv ihx ?_ v.items.length 0 _ _ (by omega) h fun _ h=>by omega
   rw[← Eo hw h5 hk h7]
   cases bU t v<;>simp
  have no:∀ {s:aa},bU t v=false→Dp (WrQ (d+1) (!bU t v)) (.tup [.nils,.bool true]) s:=fun hb=>ej (t:=t) (v:=v) (by rw[hb];rfl)
  have tb:ao (fun i=>some (i*1,1)) (List.replicate 5 [i64 0]).flatten [(0,i64 0),(1,i64 2),(2,i64 3),(3,i64 0),(4,i64 5)]=some [i64 0,i64 2,i64 3,i64 0,i64 5]:=rfl
  simp only[NP,Db,dK,ag,List.length_nil,List.nil_append,List.cons_append,List.length_cons,Nat.zero_add,aq,h.b.kk,ab,ae,ax,aI]
  refine ⟨fun h2=>ej (t:=t) (v:=v) ?_,fun h2=>?_⟩
  ·have:v.kind=0∨v.kind=1:=by have:=T.AZ (v:=v);omega
   rw[e];unfold cd;rw[if_pos this];rfl
  have hb01:¬ (v.kind=0∨v.kind=1):=by omega
  have ne:∀ n:Int,(v.kind != n)=decide (v.kind≠n):=fun n=>by by_cases h:v.kind=n<;>simp[h]
  have lo:t.f<5→bU t v=jR t.f v:=fun h=>by rw[e];unfold cd;rw[if_neg hb01,if_pos h]
  have g:=h.f
  have h08:t.f=0∨t.f=1∨t.f=2∨t.f=3∨t.f=4∨t.f=5∨t.f=6∨t.f=7∨t.f=8:=by omega
  rcases h08 with hf|hf|hf|hf|hf|hf|hf|hf|hf<;>rw[hf] at g
  ·have lo':=lo (by omega)
   rw[hf] at lo'
   have c0:(((0:Nat):Int)==0)=true:=rfl
   simp only[g,ab]
   exact ej (t:=t) (v:=v) (by rw[lo'];rfl)
  ·have lo':=lo (by omega)
   rw[hf] at lo'
   have c0:(((1:Nat):Int)==0)=false:=rfl
   have c1:(((1:Nat):Int)==1)=true:=rfl
   simp only[g,ab,tb,aY,ag,List.cons_append,List.nil_append,List.length_cons,List.length_nil,Nat.zero_add]
   refine ⟨g,h.b.kk,?_⟩
   simp only[show aK 1 (.sl 2 0 5 (.ex 5)) (i64 ((1:Nat):Int))=some (.ptr 2 1) from rfl,show ∀ a b:av,ld1 [a,b,av.cells .rw [i64 0,i64 2,i64 3,i64 0,i64 5]] (.ptr 2 1)=some (i64 2) from fun _ _=>rfl,ab]
   exact ej (t:=t) (v:=v) (by rw[lo'];show (v.kind != 2) = !decide (v.kind=2);by_cases h:v.kind=2<;>simp[h])
  ·have lo':=lo (by omega)
   rw[hf] at lo'
   have c0:(((2:Nat):Int)==0)=false:=rfl
   have c1:(((2:Nat):Int)==1)=false:=rfl
   have c2:(((2:Nat):Int)==2)=true:=rfl
   have c3:(((2:Nat):Int)==3)=false:=rfl
   have c5:(((2:Nat):Int)==5)=false:=rfl
   have c7:(((2:Nat):Int)==7)=false:=rfl
   simp only[g,ab,tb,aY,ag,List.cons_append,List.nil_append,List.length_cons,List.length_nil,Nat.zero_add]
   refine ⟨g,h.b.kk,?_⟩
   simp only[show aK 1 (.sl 2 0 5 (.ex 5)) (i64 ((2:Nat):Int))=some (.ptr 2 2) from rfl,show ∀ a b:av,ld1 [a,b,av.cells .rw [i64 0,i64 2,i64 3,i64 0,i64 5]] (.ptr 2 2)=some (i64 3) from fun _ _=>rfl,ab]
   exact ej (t:=t) (v:=v) (by rw[lo'];show (v.kind != 3) = !decide (v.kind=3);by_cases h:v.kind=3<;>simp[h])
  ·have lo':=lo (by omega)
   rw[hf] at lo'
   have lo3:bU t v=(decide (v.kind=4)||js v):=lo'
   have c0:(((3:Nat):Int)==0)=false:=rfl
   have c1:(((3:Nat):Int)==1)=false:=rfl
   have c3:(((3:Nat):Int)==3)=true:=rfl
   simp only[g,ab,bx,ne,aI]
   refine ⟨fun h4=>⟨fun h3=>?_,fun h3=>?_⟩,fun h4=>?_⟩
   ·refine no ?_
    rw[lo3]
    cases v<;>simp only[T.kind] at h4 h3 ⊢<;>simp_all [js]
   ·cases v<;>simp only[T.kind] at h3<;>try (exact absurd (by decide) h3)
    rename_i n
    have gn:ld1 [av.cells .rw (rkC t),.cells .rw (rc (rT (.int n)))] (.ptr 1 2)=some (i64 n):=rfl
    simp only[gn,ab,ae,ax,cq,aI]
    refine ⟨fun hl=>no ?_,fun hl=>ej (t:=t) (v:=.int n) ?_⟩
    ·rw[lo3];simp only[T.kind,js]
     have:¬ (-9007199254740992≤n∧n≤9007199254740992):=by omega
     simp[this]
    ·rw[lo3];simp only[T.kind,js]
     by_cases hg:n > 9007199254740992
     ·have:¬ (-9007199254740992≤n∧n≤9007199254740992):=by omega
      simp[this,hg]
     ·have:(-9007199254740992≤n∧n≤9007199254740992):=by omega
      simp[this,hg]
   ·refine ej (t:=t) (v:=v) ?_
    have:v.kind=4:=Classical.byContradiction h4
    rw[lo3,decide_eq_true this];rfl
  ·have lo':=lo (by omega)
   rw[hf] at lo'
   have c0:(((4:Nat):Int)==0)=false:=rfl
   have c1:(((4:Nat):Int)==1)=false:=rfl
   have c2:(((4:Nat):Int)==2)=false:=rfl
   have c3:(((4:Nat):Int)==3)=false:=rfl
   have c4:(((4:Nat):Int)==4)=true:=rfl
   have c5:(((4:Nat):Int)==5)=false:=rfl
   have c7:(((4:Nat):Int)==7)=false:=rfl
   simp only[g,ab,tb,aY,ag,List.cons_append,List.nil_append,List.length_cons,List.length_nil,Nat.zero_add]
   refine ⟨g,h.b.kk,?_⟩
   simp only[show aK 1 (.sl 2 0 5 (.ex 5)) (i64 ((4:Nat):Int))=some (.ptr 2 4) from rfl,show ∀ a b:av,ld1 [a,b,av.cells .rw [i64 0,i64 2,i64 3,i64 0,i64 5]] (.ptr 2 4)=some (i64 5) from fun _ _=>rfl,ab]
   exact ej (t:=t) (v:=v) (by rw[lo'];show (v.kind != 5) = !decide (v.kind=5);by_cases h:v.kind=5<;>simp[h])
  ·have c0:(((5:Nat):Int)==0)=false:=rfl
   have c1:(((5:Nat):Int)==1)=false:=rfl
   have c3:(((5:Nat):Int)==3)=false:=rfl
   have c5:(((5:Nat):Int)==5)=true:=rfl
   have c7:(((5:Nat):Int)==7)=false:=rfl
   simp only[g,ab,bx,ne,aI]
   refine ⟨fun h6=>no (ka (by omega) h2 (by rw[if_neg (by omega)];exact h6)),fun h6=>loop (by omega) ?_ (by omega)⟩
   rw[if_neg (by omega)];exact Classical.byContradiction h6
  ·have c0:(((6:Nat):Int)==0)=false:=rfl
   have c1:(((6:Nat):Int)==1)=false:=rfl
   have c2:(((6:Nat):Int)==2)=false:=rfl
   have c3:(((6:Nat):Int)==3)=false:=rfl
   have c4:(((6:Nat):Int)==4)=false:=rfl
   have c5:(((6:Nat):Int)==5)=false:=rfl
   have c7:(((6:Nat):Int)==7)=false:=rfl
   simp only[g,ab,bx,ne,aI]
   refine ⟨fun h6=>no (ka (by omega) h2 (by rw[if_pos (by omega)];exact h6)),fun h6=>loop (by omega) ?_ (by omega)⟩
   rw[if_pos (by omega)];exact Classical.byContradiction h6
  ·have c0:(((7:Nat):Int)==0)=false:=rfl
   have c1:(((7:Nat):Int)==1)=false:=rfl
   have c3:(((7:Nat):Int)==3)=false:=rfl
   have c5:(((7:Nat):Int)==5)=false:=rfl
   have c7:(((7:Nat):Int)==7)=true:=rfl
   have el:((v.items.length:Int) != (t.l.length:Int))=decide (v.items.length≠t.l.length):=by
    by_cases h:v.items.length=t.l.length
    ·simp[h]
    ·have:¬ (v.items.length:Int)=t.l.length:=by omega
     simp[h,bne,this]
   simp only[g,ab,aQ,c0,c1,c3,c5,c7,ai,af,bx,ne,aI,h.b.li,h.l,aR,ae,el]
   refine ⟨fun h6=>no (ka (by omega) h2 (by rw[if_neg (by omega)];exact h6)),fun h6=>?_⟩
   have h6':v.kind=6:=Classical.byContradiction h6
   refine ⟨fun hn=>no ?_,fun hn=>loop (by omega) (by rw[if_neg (by omega)];exact h6') fun _=>Classical.byContradiction hn⟩
   rw[e];unfold cd;rw[if_neg hb01,if_neg (by omega)]
   cases v<;>simp only[T.kind] at h6'<;>try omega
   rename_i vs
   show (if t.f=5 then _ else if t.f=7 then _ else _)=false
   rw[if_neg (by omega),if_pos hf]
   have:¬ vs.length=(cw t.l).length:=by rw[jt,List.length_map];exact hn
   rw[decide_eq_false this];rfl
  ·have c0:(((8:Nat):Int)==0)=false:=rfl
   have c1:(((8:Nat):Int)==1)=false:=rfl
   have c2:(((8:Nat):Int)==2)=false:=rfl
   have c3:(((8:Nat):Int)==3)=false:=rfl
   have c4:(((8:Nat):Int)==4)=false:=rfl
   have c5:(((8:Nat):Int)==5)=false:=rfl
   have c7:(((8:Nat):Int)==7)=false:=rfl
   simp only[g,ab,bx,ne,aI]
   refine ⟨fun h6=>no (ka (by omega) h2 (by rw[if_pos (by omega)];exact h6)),fun h6=>loop (by omega) ?_ (by omega)⟩
   rw[if_pos (by omega)];exact Classical.byContradiction h6
end
section
variable {st:aa} {R:LV→aa→Prop}
structure SV (st:aa) (n:Int) (l:List AT) (v:T):Prop where
 a:mW st 0 n l
 b:ct st 1 (rT v)
theorem Jy {l:List AT} {i:Nat} {a:AT} (h:l[i]?=some a):(bCs l)[i*10+6]?=some (.bool a.must):=by
 rw[Bn h (by omega)];unfold bC;rw[eM];rfl
theorem HZ {l:List AT} {i:Nat} {a:AT} (h:l[i]?=some a):(bCs l)[i*10+7]?=some (.bool a.own):=by
 rw[Bn h (by omega)];unfold bC;rw[eM];rfl
theorem ta {n:Int} {S:ST} (hS:S.ok) {es:List (Tx × T)} (hv:(T.map es).ok) (hsv:SV st n S.l (.map es)) (hR:R (.tup [.str (dV S.l es).1,i64 (dV S.l es).2]) st) :
  ∀ (d i:Nat),i+d=es.length→dV S.l es=dV S.l (es.drop i)→vk (.ptr 0 0) (.ptr 1 0) (i64 i) R st:=by
 have hbe:es.length≤big:=by simp only[T.ok] at hv;exact hv.1
 have hbl:S.l.length≤big:=by have:=hS.len;unfold big;omega
 intro d
 induction d with
 | zero=>
  intro i hi hw
  refine FN _ _ _ ?_
  have c1:¬ ((i:Int)<es.length):=by omega
  rw[List.drop_eq_nil_of_le (by omega)] at hw
  rw[hw] at hR
  simp only[Af,aq,Nat.zero_add,ab,hsv.b.lm,aR,ae,ax,c1,decide_false,af]
  exact hR
 | succ d ih=>
  intro i hi hw
  refine FN _ _ _ ?_
  have hlt:i<es.length:=by omega
  have c1:((i:Int)<es.length):=by omega
  have e1:aK 1 (.isl ((es.map (·.1)).map .str) es.length none) (i64 i)=some (.iptr ((es.map (·.1)).map .str) (i*1)):=bO hlt
  have hg:((es.map (·.1)).map LV.str)[i*1]?=some (.str es[i].1):=by simp[hlt]
  have e5:aK 7 (.isl (rcs (es.map fun e=>rT e.2)) es.length none) (i64 i)=some (.iptr (rcs (es.map fun e=>rT e.2)) (i*7)):=bO hlt
  have hx5:(es.map fun e=>rT e.2)[i]?=some (rT es[i].2):=by simp[hlt]
  have hm:es[i] ∈ es:=List.getElem_mem hlt
  have hdr:es.drop i=es[i]::es.drop (i+1):=List.drop_eq_getElem_cons hlt
  generalize es[i]=e at hg hx5 hm hdr
  rw[hdr,dV] at hw
  have hey:e.2.ok:=T.ik hv e.2 (List.mem_map.2 ⟨e,hm,rfl⟩)
  have hw1:=aH (show i<2 ^ 40 by unfold big at hbe;omega)
  simp only[Af,aq,Nat.zero_add,ab,hsv.b.lm,hsv.b.km,hsv.a.ldA,aR,ae,ax,c1,decide_true,ai,e1,ba,hg]
  refine (Mc hbl e.1).call ?_
  have hf:=yR (k:=e.1) (l:=S.l) (i:=0)
  cases hx:dU e.1 (S.l.map (·.nm)) 0 with
  | none=>
   rw[hx] at hf
   have hf':fm e.1 S.l=none:=hf
   rw[hf'] at hw
   have c9:((-1:Int)<0):=by omega
   rw[hw] at hR
   rw[lz hx]
   simp only[ae,ax,c9,decide_true,ab,ai,hsv.b.km,e1,ba,hg]
   exact hR
  | some j=>
   rw[hx] at hf
   obtain ⟨_,a,h1,h2⟩:=hf
   rw[Nat.sub_zero] at h1
   have hjl:=(List.getElem?_eq_some_iff.1 h1).1
   rw[h2] at hw
   simp only at hw
   have c9:¬ ((j:Int)<0):=by omega
   rw[(mV hx).1]
   simp only[ae,ax,c9,decide_false,ab,af,hsv.a.l,jc hjl,bG,Ma h1,hsv.b.lm,e5,fT hx5]
   refine (Ep (d:=8) (by omega) (hS.ty a (List.mem_of_getElem? h1)) hey).call fun r hr=>?_
   obtain ⟨w,m,ds,rfl,rfl,-⟩:=hr
   cases htk:bU a.ty e.2 with
   | true=>
    rw[htk,if_pos rfl] at hw
    simp only[au,List.getElem?_cons_zero,List.getElem?_cons_succ,ab,Bool.not_true,af,aG,hw1]
    exact ih (i+1) (by omega) hw
   | false=>
    rw[htk,if_neg (by simp)] at hw
    rw[hw] at hR
    simp only[au,List.getElem?_cons_zero,List.getElem?_cons_succ,ab,Bool.not_false,ai,hsv.b.km,e1,ba,hg]
    exact hR
theorem lO {n:Int} {l:List AT} {r:RV}:LV.aB [bS n l,vR r]=true:=by simp only[LV.aB,sH,gp];rfl
theorem yS {n:Int} {S:ST} (hS:S.ok) {v:T} (hv:v.ok):Pu Tryz.prog 111 [bS n S.l,vR (rT v)] (.tup [.str (ck S.l v).1,i64 (ck S.l v).2]):=by
 refine Pu.of (Oh _ _ ?_) lO rfl
 have h:SV [.cells .rw [i64 n,.isl (bCs S.l) S.l.length none],.cells .rw (rc (rT v))] n S.l v:=⟨rfl,rfl⟩
 have ek:(v.kind != 7)=decide (v.kind≠7):=by by_cases h:v.kind=7<;>simp[h]
 simp only[Nn,oy,dK,ag,List.length_nil,List.nil_append,List.cons_append,List.length_cons,Nat.zero_add,aq,h.b.kk,ab,ae,bx,ek,aI]
 refine ⟨fun h7=>?_,fun h7=>?_⟩
 ·have:ck S.l v=([],6):=by cases v<;>first|rfl|exact absurd rfl h7
  rw[this];exact bn (v:=.tup [.str [],i64 6]) _ rfl
 ·have h7':v.kind=7:=Classical.byContradiction h7
  cases v<;>simp only[T.kind] at h7'<;>try omega
  rename_i es
  exact ta (R:=fun r s=>dp s (.tup [.str (dV S.l es).1,i64 (dV S.l es).2]) r) hS hv h (bn (v:=.tup [.str _,i64 _]) _ rfl) es.length 0 (by omega) rfl
theorem yT {n:Int} {S:ST} (hS:S.ok) {v:T} (hv:v.ok) (hsv:SV st n S.l v) (hR:R (.tup [.str (dW v S.l).1,i64 (dW v S.l).2]) st) :
  ∀ (d i:Nat),i+d=S.l.length→dW v S.l=dW v (S.l.drop i)→xN (.ptr 0 0) (.ptr 1 0) (i64 i) R st:=by
 intro d
 have h16:=hS.len
 induction d with
 | zero=>
  intro i hi hw
  refine J0 _ _ _ ?_
  have c1:¬ ((i:Int)<S.l.length):=by omega
  rw[List.drop_eq_nil_of_le (by omega)] at hw
  rw[hw] at hR
  simp only[FF,aq,Nat.zero_add,ab,hsv.a.l,aR,ae,ax,c1,decide_false,af]
  exact hR
 | succ d ih=>
  intro i hi hw
  refine J0 _ _ _ ?_
  have hlt:i<S.l.length:=by omega
  have c1:((i:Int)<S.l.length):=by omega
  have hx:S.l[i]?=some S.l[i]:=List.getElem?_eq_getElem hlt
  have hdr:S.l.drop i=S.l[i]::S.l.drop (i+1):=List.drop_eq_getElem_cons hlt
  generalize S.l[i]=a at hx hdr
  rw[hdr,dW] at hw
  have g0:=ox hx
  have hw1:=aH (show i<2 ^ 40 by omega)
  simp only[FF,aq,Nat.zero_add,ab,hsv.a.l,aR,ae,ax,c1,decide_true,ai,jc hlt,bG,ba,Jy hx]
  cases hmu:a.must with
  | false=>
   rw[hmu,Bool.false_and,if_neg (by simp)] at hw
   simp only[af,aG,ab,hw1]
   exact ih (i+1) (by omega) hw
  | true=>
   rw[hmu,Bool.true_and] at hw
   simp only[ai,hsv.b.ldA,ab,Nat.add_zero,g0]
   refine (Bo hv a.nm).call ?_
   have ek:uA 0 (vR (rT (dx v a.nm)))=some (i64 (dx v a.nm).kind):=by
    show uA 0 (.agg (rc (rT (dx v a.nm))))=_
    rw[mg,IQ];rfl
   have eb:((dx v a.nm).kind==0)=decide ((dx v a.nm).kind=0):=by by_cases h:(dx v a.nm).kind=0<;>simp[h]
   simp only[ek,ab,ae,aQ,eb,aI]
   refine ⟨fun hk=>?_,fun hk=>?_⟩
   ·rw[decide_eq_true hk,if_pos rfl] at hw
    rw[hw] at hR
    simp only[hsv.a.l,ab,jc hlt,bG,Nat.add_zero,ba,g0]
    exact hR
   ·rw[decide_eq_false hk,if_neg (by simp)] at hw
    simp only[aG,ab,hw1]
    exact ih (i+1) (by omega) hw
theorem Me {n:Int} {S:ST} (hS:S.ok) {v:T} (hv:v.ok):Pu Tryz.prog 44 [bS n S.l,vR (rT v)] (.tup [.str (eu S.l v).1,i64 (eu S.l v).2]):=by
 refine Pu.of (c44 _ _ ?_) lO rfl
 have h:SV [.cells .rw [i64 n,.isl (bCs S.l) S.l.length none],.cells .rw (rc (rT v))] n S.l v:=⟨rfl,rfl⟩
 simp only[w44,oy,dK,ag,List.length_nil,List.nil_append,List.cons_append,List.length_cons,Nat.zero_add,h.a.ldA,h.b.ldA,ab]
 refine (yS hS hv).call ?_
 have en:((ck S.l v).2 != 0)=decide ((ck S.l v).2≠0):=by by_cases h:(ck S.l v).2=0<;>simp[h]
 simp only[au,List.getElem?_cons_zero,List.getElem?_cons_succ,ab,ae,bx,en,aI]
 unfold eu
 refine ⟨fun hn=>?_,fun hn=>?_⟩
 ·rw[if_neg hn];exact bn (v:=.tup [.str _,i64 _]) _ rfl
 ·rw[if_pos (Classical.byContradiction hn)]
  exact yT (R:=fun r s=>dp s (.tup [.str (dW v S.l).1,i64 (dW v S.l).2]) r) hS hv h (bn (v:=.tup [.str _,i64 _]) _ rfl) S.l.length 0 (by omega) rfl
theorem Bp {v:T} {k:Tx}:(v.at k).isSome = !decide (ixI k v.keys<0):=by
 have h:=sK (v:=v) (k:=k)
 have e:v.at k=T.find (pH v) k:=by cases v<;>rfl
 rw[e]
 cases hx:T.find (pH v) k with
 | none=>rw[decide_eq_true (h.2 hx)];rfl
 | some x=>rw[decide_eq_false fun h'=>by rw[h.1 h'] at hx;cases hx];rfl
theorem wv {n:Int} {S:ST} (hS:S.ok) {v:T} (hv:v.ok) (hsv:SV st n S.l v) (hR:R (.tup [.str (jS v S.l).1,i64 (jS v S.l).2]) st) :
  ∀ (d i:Nat),i+d=S.l.length→jS v S.l=jS v (S.l.drop i)→Ch (.ptr 0 0) (.ptr 1 0) (i64 i) R st:=by
 intro d
 have h16:=hS.len
 induction d with
 | zero=>
  intro i hi hw
  refine J1 _ _ _ ?_
  have c1:¬ ((i:Int)<S.l.length):=by omega
  rw[List.drop_eq_nil_of_le (by omega)] at hw
  rw[hw] at hR
  simp only[FG,aq,Nat.zero_add,ab,hsv.a.l,aR,ae,ax,c1,decide_false,af]
  exact hR
 | succ d ih=>
  intro i hi hw
  refine J1 _ _ _ ?_
  have hlt:i<S.l.length:=by omega
  have c1:((i:Int)<S.l.length):=by omega
  have hx:S.l[i]?=some S.l[i]:=List.getElem?_eq_getElem hlt
  have hdr:S.l.drop i=S.l[i]::S.l.drop (i+1):=List.drop_eq_getElem_cons hlt
  generalize S.l[i]=a at hx hdr
  rw[hdr,jS,Bp] at hw
  have g0:=ox hx
  have hw1:=aH (show i<2 ^ 40 by omega)
  simp only[FG,aq,Nat.zero_add,ab,hsv.a.l,hsv.b.ldA,aR,ae,ax,c1,decide_true,ai,jc hlt,bG,Nat.add_zero,ba,g0]
  refine (wu hv a.nm).call ?_
  simp only[ab,ae,ax,aI]
  refine ⟨fun hk=>?_,fun hk=>?_⟩
  ·rw[decide_eq_true hk,if_neg (by simp)] at hw
   rw[hw] at hR
   simp only[hsv.a.l,ab,jc hlt,bG,Nat.add_zero,ba,g0]
   exact hR
  ·rw[decide_eq_false hk,if_pos (by simp)] at hw
   simp only[aG,ab,hw1]
   exact ih (i+1) (by omega) hw
theorem Jz {n:Int} {S:ST} (hS:S.ok) {v:T} (hv:v.ok):Pu Tryz.prog 45 [bS n S.l,vR (rT v)] (.tup [.str (jT S.l v).1,i64 (jT S.l v).2]):=by
 refine Pu.of (c45 _ _ ?_) lO rfl
 have h:SV [.cells .rw [i64 n,.isl (bCs S.l) S.l.length none],.cells .rw (rc (rT v))] n S.l v:=⟨rfl,rfl⟩
 simp only[w45,oy,dK,ag,List.length_nil,List.nil_append,List.cons_append,List.length_cons,Nat.zero_add,h.a.ldA,h.b.ldA,ab]
 refine (yS hS hv).call ?_
 have en:((ck S.l v).2 != 0)=decide ((ck S.l v).2≠0):=by by_cases h:(ck S.l v).2=0<;>simp[h]
 simp only[au,List.getElem?_cons_zero,List.getElem?_cons_succ,ab,ae,bx,en,aI]
 unfold jT
 refine ⟨fun hn=>?_,fun hn=>?_⟩
 ·rw[if_neg hn];exact bn (v:=.tup [.str _,i64 _]) _ rfl
 ·rw[if_pos (Classical.byContradiction hn)]
  exact wv (R:=fun r s=>dp s (.tup [.str (jS v S.l).1,i64 (jS v S.l).2]) r) hS hv h (bn (v:=.tup [.str _,i64 _]) _ rfl) S.l.length 0 (by omega) rfl
end
end Go.Proofs.YtknegckgmklnhaaGreatDoor
