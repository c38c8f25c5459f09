/- Parts of the proof. -/
import Derived.Test.YtknegckgmklnhaaGreatDoorVaX
namespace Go.Proofs.YtknegckgmklnhaaGreatDoor
open Go Go.CP
set_option maxRecDepth 100000
section
variable {st:aa} {R:LV→aa→Prop}
open Classical in
noncomputable def mz (S:ST) (p m:T):Int × Tx:=if (cb S.l m).2=0 then qt p m S.l else (1,(cb S.l m).1)
def zh (S:ST) (m:T):Int × Tx:=if (cb S.l m).2=0 then uN m S.l else (1,(cb S.l m).1)
theorem J3 {S:ST} (hS:S.ok) {p m:T} (hp:p.ok) (hm:m.ok):Pu Tryz.prog 58 [sV S,vT p,vT m] (vd (mz S p m).1 (mz S p m).2):=by
 refine Pu.of (c58 _ _ _ ?_) (by simp only[LV.aB,et,bO];rfl) rfl
 have h0:V3 [aq.cells .rw [lvT p],.cells .rw [lvT m],.cells .rw [i64 0,.str []]] p m:=⟨rfl,rfl,rfl⟩
 have g1:ldA [aq.cells .rw [lvT p],.cells .rw [lvT m],.cells .rw [i64 0,LV.str []]] (.ptr 1 0) 1=some (vT m):=rfl
 have pt:∀ n:Tx,stV [aq.cells .rw [lvT p],.cells .rw [lvT m],.cells .rw [i64 0,LV.str []],.cells .rw [i64 0,LV.str []]] 2 (.ptr 3 0) (vd 1 n)=some [.cells .rw [lvT p],.cells .rw [lvT m],.cells .rw [i64 0,LV.str []],.cells .rw [i64 1,.str n]]:=
  fun n=>zg (st:=[aq.cells .rw [lvT p],.cells .rw [lvT m],.cells .rw [i64 0,LV.str []]]) rfl
 simp only[w58,de,ag,List.length_nil,List.nil_append,List.cons_append,List.length_cons,Nat.zero_add,Nat.reduceAdd,bQ,g1,ab]
 refine (tm hS hm).call ?_
 simp only[aw,List.getElem?_cons_zero,List.getElem?_cons_succ,ab,List.nil_append,List.cons_append,List.length_cons,List.length_nil,Nat.zero_add,Nat.reduceAdd,pt,az,ag]
 unfold mz
 by_cases hh:(cb S.l m).2=0
 ·rw[if_pos hh,decide_eq_true hh]
  simp only[aZ,Bool.not_true,ab,af]
  refine (qS hS).call ?_
  simp only[bn,ab]
  exact BK hS hp hm S.l.length 0 _ (by omega) (h0.app (y:=.cells .rw [i64 1,.str (cb S.l m).1])) rfl
 ·rw[if_neg hh,decide_eq_false hh]
  have g3:ldA [aq.cells .rw [lvT p],.cells .rw [lvT m],.cells .rw [i64 0,LV.str []],.cells .rw [i64 1,.str (cb S.l m).1]] (.ptr 3 0) 2=some (vd 1 (cb S.l m).1):=rfl
  simp only[aZ,Bool.not_false,ab,ah,g3]
  exact oD (x:=i64 0) (y:=.str []) rfl fun _=>bj (v:=vd _ _) _ rfl
structure V2 (st:aa) (m:T):Prop where
 a:st[0]?=some (.cells .rw [lvT m])
 c:st[1]?=some (.cells .rw [i64 0,.str []])
theorem V2.app {m:T} {y:aq} (h:V2 st m):V2 (st++[y]) m:=
 ⟨fy h.a,by rw[List.getElem?_append_left (bM h.c)];exact h.c⟩
theorem EN {S:ST} (hS:S.ok) {m:T} (hm:m.ok) {w:Int × Tx}:∀ (d i:Nat) (st:aa),i+d=S.l.length→V2 st m→uN m (S.l.drop i)=w→
  Cx (.ptr 0 0) (.ptr 1 0) (.isl (atC S.l) S.l.length none) (i64 S.l.length) (i64 i) (fun r s=>dp s (vd w.1 w.2) r) st:=by
 have h16:=hS.len
 have fin:∀ {r:Int} {n:Tx} {s:aa},(r,n)=w→dp s (vd w.1 w.2) (vd r n):=fun e=>by subst e;exact bj (v:=vd _ _) _ rfl
 intro d
 induction d with
 | zero=>
  intro i st hi h hw
  refine Ko _ _ _ _ _ ?_
  have c1:¬ ((i:Int)<S.l.length):=by omega
  rw[List.drop_eq_nil_of_le (by omega)] at hw
  simp only[FQ,ae,aA,ab,c1,decide_false,af,wV]
  exact oD h.c fun _=>fin hw
 | succ d ih=>
  intro i st hi h hw
  refine Ko _ _ _ _ _ ?_
  have hlt:i<S.l.length:=by omega
  have c1:((i:Int)<S.l.length):=by omega
  have hx:S.l[i]?=some S.l[i]:=List.getElem?_eq_getElem hlt
  have hdr:S.l.drop i=S.l[i]::S.l.drop (i+1):=List.drop_eq_getElem_cons hlt
  generalize S.l[i]=a at hx hdr
  rw[hdr,uN] at hw
  have e1:aR 6 (.isl (atC S.l) S.l.length none) (i64 i)=some (.iptr (atC S.l) (i*6)):=bW hlt
  have hw1:=aI (show i<2 ^ 40 by omega)
  have hA:=h.app (y:=.cells .rw (aC a))
  have hB:=hA.app (y:=.cells .rw [lvT (cf m a.nm)])
  have n1:(st++[aq.cells .rw (aC a)])[st.length]?=some (.cells .rw (aC a)):=au
  have n2:=bH (y:=aq.cells .rw [lvT (cf m a.nm)]) n1
  have k1:ld1 (st++[aq.cells .rw (aC a)]) (.ptr st.length 0)=some (.str a.nm):=by rw[aU n1];rfl
  have k2:ld1 (st++[aq.cells .rw (aC a)]++[aq.cells .rw [lvT (cf m a.nm)]]) (.ptr st.length 0)=some (.str a.nm):=by rw[aU n2];rfl
  have hmo:(cf m a.nm).ok:=T.oz hm
  simp only[FQ,ae,aA,ab,c1,decide_true,ah,e1,iX hx,bQ,ta (show (aC a).length=6 from rfl) (show (aC a).all LV.one=true from rfl),az,ag,gX hA.a,av,Nat.zero_add,k1]
  refine (nO hm a.nm).call ?_
  rw[jZ]
  simp only[aw,List.getElem?_cons_zero,List.getElem?_cons_succ,ab,cI,az,ag,gX (v:=cf m a.nm) (au (st:=st++[aq.cells .rw (aC a)]))]
  refine (oe hmo).call ?_
  by_cases hk:every dT (cf m a.nm)=true
  ·rw[if_pos hk] at hw
   rw[hk]
   simp only[aZ,Bool.not_true,ab,af,aH,hw1]
   exact ih (i+1) _ (by omega) hB hw
  ·rw[if_neg hk] at hw
   have hk':every dT (cf m a.nm)=false:=by simpa using hk
   rw[hk']
   simp only[aZ,Bool.not_false,ab,ah,k2,Ik]
   exact oD hB.c fun _=>fin hw
theorem MO {S:ST} (hS:S.ok) {m:T} (hm:m.ok):Pu Tryz.prog 59 [sV S,vT m] (vd (zh S m).1 (zh S m).2):=by
 refine Pu.of (c59 _ _ ?_) uM rfl
 have h0:V2 [aq.cells .rw [lvT m],.cells .rw [i64 0,.str []]] m:=⟨rfl,rfl⟩
 have g1:ldA [aq.cells .rw [lvT m],.cells .rw [i64 0,LV.str []]] (.ptr 0 0) 1=some (vT m):=rfl
 have pt:∀ n:Tx,stV [aq.cells .rw [lvT m],.cells .rw [i64 0,LV.str []],.cells .rw [i64 0,LV.str []]] 2 (.ptr 2 0) (vd 1 n)=some [.cells .rw [lvT m],.cells .rw [i64 0,LV.str []],.cells .rw [i64 1,.str n]]:=
  fun n=>zg (st:=[aq.cells .rw [lvT m],.cells .rw [i64 0,LV.str []]]) rfl
 simp only[w59,de,ag,List.length_nil,List.nil_append,List.cons_append,List.length_cons,Nat.zero_add,bQ,g1,ab]
 refine (tm hS hm).call ?_
 simp only[aw,List.getElem?_cons_zero,List.getElem?_cons_succ,ab,List.nil_append,List.cons_append,List.length_cons,List.length_nil,Nat.zero_add,Nat.reduceAdd,pt,az,ag]
 unfold zh
 by_cases hh:(cb S.l m).2=0
 ·rw[if_pos hh,decide_eq_true hh]
  simp only[aZ,Bool.not_true,ab,af]
  refine (qS hS).call ?_
  simp only[bn,ab]
  exact EN hS hm S.l.length 0 _ (by omega) (h0.app (y:=.cells .rw [i64 1,.str (cb S.l m).1])) rfl
 ·rw[if_neg hh,decide_eq_false hh]
  have g3:ldA [aq.cells .rw [lvT m],.cells .rw [i64 0,LV.str []],.cells .rw [i64 1,.str (cb S.l m).1]] (.ptr 2 0) 2=some (vd 1 (cb S.l m).1):=rfl
  simp only[aZ,Bool.not_false,ab,ah,g3]
  exact oD (x:=i64 0) (y:=.str []) rfl fun _=>bj (v:=vd _ _) _ rfl
theorem J4 {a:AT} {x:T} (hx:x.ok):Pu Tryz.prog 127 [aV a,vT x,vT x] (.tup [vd 0 [],.bool true]):=by
 refine Pu.of (c127 _ _ _ ?_) (by simp only[LV.aB,bO,sX];rfl) rfl
 have hco:(cf x a.nm).ok:=T.oz hx
 have ek:((cf x a.nm).kind==0)=decide ((cf x a.nm).kind=0):=by by_cases h:(cf x a.nm).kind=0<;>simp[h]
 have en:((cf x a.nm).kind != 0)=decide ((cf x a.nm).kind≠0):=by by_cases h:(cf x a.nm).kind=0<;>simp[h]
 have ko:∀ {s:aa},s[0]?=some (.cells .rw (aC a))→ld1 s (.ptr 0 3)=some (.bool a.own):=fun h=>by rw[aU h];rfl
 have kn:∀ {s:aa},s[0]?=some (.cells .rw (aC a))→ld1 s (.ptr 0 0)=some (.str a.nm):=fun h=>by rw[aU h];rfl
 have g1:ldA [aq.cells .rw (aC a),.cells .rw [lvT x],.cells .rw [lvT x],.cells .rw [i64 0,LV.str []]] (.ptr 1 0) 1=some (vT x):=rfl
 have k1:=kn (s:=[aq.cells .rw (aC a),.cells .rw [lvT x],.cells .rw [lvT x],.cells .rw [i64 0,LV.str []]]) rfl
 simp only[NG,jE,ag,List.length_nil,List.nil_append,List.cons_append,List.length_cons,Nat.zero_add,Nat.reduceAdd,bQ,g1,ab,av,k1]
 refine (nO hx a.nm).call ?_
 rw[jZ]
 generalize hc:cf x a.nm=c at hco ek en
 have pt1:stV [aq.cells .rw (aC a),.cells .rw [lvT x],.cells .rw [lvT x],.cells .rw [i64 0,LV.str []],.cells .rw [LV.nili]] 1 (.ptr 4 0) (vT c)=some [.cells .rw (aC a),.cells .rw [lvT x],.cells .rw [lvT x],.cells .rw [i64 0,LV.str []],.cells .rw [lvT c]]:=
  cI (st:=[aq.cells .rw (aC a),.cells .rw [lvT x],.cells .rw [lvT x],.cells .rw [i64 0,LV.str []]])
 have g2:ldA [aq.cells .rw (aC a),.cells .rw [lvT x],.cells .rw [lvT x],.cells .rw [i64 0,LV.str []],.cells .rw [lvT c]] (.ptr 2 0) 1=some (vT x):=rfl
 have k2:=kn (s:=[aq.cells .rw (aC a),.cells .rw [lvT x],.cells .rw [lvT x],.cells .rw [i64 0,LV.str []],.cells .rw [lvT c]]) rfl
 simp only[aw,List.getElem?_cons_zero,List.getElem?_cons_succ,ab,List.nil_append,List.cons_append,List.length_cons,List.length_nil,Nat.zero_add,Nat.reduceAdd,pt1,az,ag,g2,k2]
 refine (nO hx a.nm).call ?_
 rw[jZ,hc]
 have pt2:stV [aq.cells .rw (aC a),.cells .rw [lvT x],.cells .rw [lvT x],.cells .rw [i64 0,LV.str []],.cells .rw [lvT c],.cells .rw [LV.nili]] 1 (.ptr 5 0) (vT c)=some [.cells .rw (aC a),.cells .rw [lvT x],.cells .rw [lvT x],.cells .rw [i64 0,LV.str []],.cells .rw [lvT c],.cells .rw [lvT c]]:=
  cI (st:=[aq.cells .rw (aC a),.cells .rw [lvT x],.cells .rw [lvT x],.cells .rw [i64 0,LV.str []],.cells .rw [lvT c]])
 have h3:([aq.cells .rw (aC a),.cells .rw [lvT x],.cells .rw [lvT x],.cells .rw [i64 0,LV.str []],.cells .rw [lvT c],.cells .rw [lvT c]]:aa)[3]?=some (.cells .rw [i64 0,LV.str []]):=rfl
 have g4:ldA [aq.cells .rw (aC a),.cells .rw [lvT x],.cells .rw [lvT x],.cells .rw [i64 0,LV.str []],.cells .rw [lvT c],.cells .rw [lvT c]] (.ptr 4 0) 1=some (vT c):=rfl
 have g5:ldA [aq.cells .rw (aC a),.cells .rw [lvT x],.cells .rw [lvT x],.cells .rw [i64 0,LV.str []],.cells .rw [lvT c],.cells .rw [lvT c]] (.ptr 5 0) 1=some (vT c):=rfl
 have k3:=ko (s:=[aq.cells .rw (aC a),.cells .rw [lvT x],.cells .rw [lvT x],.cells .rw [i64 0,LV.str []],.cells .rw [lvT c],.cells .rw [lvT c]]) rfl
 simp only[aw,List.getElem?_cons_zero,List.getElem?_cons_succ,ab,List.nil_append,List.cons_append,List.length_cons,List.length_nil,Nat.zero_add,Nat.reduceAdd,pt2,az,ag,g4]
 have fin:bd2 (lmk (stV [aq.cells .rw (aC a),.cells .rw [lvT x],.cells .rw [lvT x],.cells .rw [i64 0,LV.str []],.cells .rw [lvT c],.cells .rw [lvT c]] 2 (.ptr 3 0) (vd 0 []))) fun _v st2=>bd (ldA st2 (.ptr 3 0) 2) fun v=>dp st2 (.tup [vd 0 [],.bool true]) (.tup [v,.bool true]):=
  oD (K:=fun v s=>dp s (.tup [vd 0 [],.bool true]) (.tup [v,.bool true])) h3 fun _=>bj (v:=.tup [vd 0 [],.bool true]) _ rfl
 refine (ft c).call ?_
 by_cases h0:c.kind=0
 ·have e0:(c.kind==0)=true:=by rw[h0];rfl
  have e1:(c.kind != 0)=false:=by rw[h0];rfl
  simp only[ae,aW,e0,aZ,Bool.not_true,ab,ah,af,k3]
  cases a.own with
  | true=>
   simp only[Bool.not_true,af,wV,ab]
   exact fin
  | false=>
   simp only[Bool.not_false,ah,g5,ab]
   refine (ft c).call ?_
   simp only[ae,bz,e1,ab,af,wV]
   exact fin
 ·have e0:(c.kind==0)=false:=by simpa using h0
  simp only[ae,aW,e0,aZ,Bool.not_false,ab,ah,af,g4]
  refine (oe hco).call ?_
  cases every dT c with
  | true=>
   simp only[ah,g4,g5,ab]
   refine (wz _ c c (Nat.lt_succ_self _) hco hco).call ?_
   rw[H6 rfl]
   simp only[aZ,Bool.not_true,ab,af,wV]
   exact fin
  | false=>
   simp only[af,wV,ab]
   exact fin
theorem Il {a:AT} {x:T}:Pu Tryz.prog 128 [aV a,vT .null,vT x] (.bool false):=by
 refine Pu.of (OT _ _ _ ?_) (by simp only[LV.aB,bO,sX];rfl) rfl
 have g1:ldA [aq.cells .rw (aC a),.cells .rw [lvT .null],.cells .rw [lvT x]] (.ptr 1 0) 1=some (vT .null):=rfl
 simp only[NC,jE,ag,List.length_nil,List.nil_append,List.cons_append,List.length_cons,Nat.zero_add,Nat.reduceAdd,g1,ab]
 refine (ft .null).call ?_
 have e1:(T.null.kind != 7)=true:=rfl
 simp only[ae,bz,e1,ab,ah]
 exact rfl
structure VN (st:aa) (x:T):Prop where
 a:st[0]?=some (.cells .rw [lvT .null])
 b:st[1]?=some (.cells .rw [lvT x])
theorem VN.app {x:T} {y:aq} (h:VN st x):VN (st++[y]) x:=
 ⟨fy h.a,by rw[List.getElem?_append_left (bM h.b)];exact h.b⟩
theorem BL {S:ST} (hS:S.ok) {x:T}:∀ (d i:Nat) (st:aa),i+d=S.l.length→VN st x→
  ph (.ptr 0 0) (.ptr 1 0) .nils (.isl (atC S.l) S.l.length none) (i64 S.l.length) (i64 i) (fun r s=>dp s (.isl [] 0 none) r) st:=by
 have h16:=hS.len
 intro d
 induction d with
 | zero=>
  intro i st hi h
  refine FR _ _ _ _ _ _ ?_
  have c1:¬ ((i:Int)<S.l.length):=by omega
  simp only[Ao,ae,aA,ab,c1,decide_false,af]
  exact .inr (.inr ⟨.inr rfl,rfl,rfl⟩)
 | succ d ih=>
  intro i st hi h
  refine FR _ _ _ _ _ _ ?_
  have hlt:i<S.l.length:=by omega
  have c1:((i:Int)<S.l.length):=by omega
  have hx:S.l[i]?=some S.l[i]:=List.getElem?_eq_getElem hlt
  generalize S.l[i]=a at hx
  have e1:aR 6 (.isl (atC S.l) S.l.length none) (i64 i)=some (.iptr (atC S.l) (i*6)):=bW hlt
  have hw1:=aI (show i<2 ^ 40 by omega)
  have hA:=h.app (y:=.cells .rw (aC a))
  have n1:(st++[aq.cells .rw (aC a)])[st.length]?=some (.cells .rw (aC a)):=au
  have k5:ld1 (st++[aq.cells .rw (aC a)]) (.ptr st.length 5)=some (.bool a.new):=by rw[aU n1];rfl
  have kA:ldA (st++[aq.cells .rw (aC a)]) (.ptr st.length 0) 6=some (aV a):=by rw[ck n1 (by simp[aC])];rfl
  simp only[Ao,ae,aA,ab,c1,decide_true,ah,e1,iX hx,bQ,ta (show (aC a).length=6 from rfl) (show (aC a).all LV.one=true from rfl),az,ag,av,Nat.zero_add,k5]
  cases a.new with
  | true=>
   simp only[ah,kA,gX hA.a,gX hA.b,ab]
   refine Il.call ?_
   simp only[af,aH,ab,hw1]
   exact ih (i+1) _ (by omega) hA
  | false=>
   simp only[af,aH,ab,hw1]
   exact ih (i+1) _ (by omega) hA
theorem Im {S:ST} (hS:S.ok) {x:T}:Pu Tryz.prog 129 [sV S,vT .null,vT x] (.isl [] 0 none):=by
 refine Pu.of (OU _ _ _ ?_) (by simp only[LV.aB,et,bO];rfl) rfl
 simp only[NH,de,ag,List.length_nil,List.nil_append,List.cons_append,List.length_cons,Nat.zero_add]
 refine (qS hS).call ?_
 simp only[bn,ab]
 exact BL hS S.l.length 0 _ (by omega) ⟨rfl,rfl⟩
structure VP (st:aa) (x:T):Prop where
 a:st[0]?=some (.cells .rw [lvT x])
 b:st[1]?=some (.cells .rw [lvT .null])
 c:st[2]?=some (.cells .rw [lvT x])
 d:st[3]?=some (.cells .rw [i64 0,.str []])
theorem VP.app {x:T} {y:aq} (h:VP st x):VP (st++[y]) x:=
 ⟨fy h.a,by rw[List.getElem?_append_left (bM h.b)];exact h.b,by rw[List.getElem?_append_left (bM h.c)];exact h.c,by rw[List.getElem?_append_left (bM h.d)];exact h.d⟩
theorem EO {S:ST} (hS:S.ok) {x:T} (hx:x.ok) {y1 y2 y3 y4 y5 y6:LV}:∀ (d i:Nat) (st:aa),i+d=S.l.length→VP st x→
  Cy (sV S) .nils (.ptr 0 0) (.ptr 1 0) (.ptr 2 0) (.ptr 3 0) (.isl (atC S.l) S.l.length none) (i64 S.l.length) (i64 i) y1 y2 y3 y4 y5 y6 (fun r s=>dp s (vd 0 []) r) st:=by
 have h16:=hS.len
 intro d
 induction d with
 | zero=>
  intro i st hi h
  refine Kq _ _ _ _ _ _ _ _ _ _ _ _ _ _ _ ?_
  have c1:¬ ((i:Int)<S.l.length):=by omega
  have c0:decide ((0:Int)<0)=false:=rfl
  have l0:bo .nils=some (i64 0):=rfl
  simp only[FT,ae,aA,ab,c1,decide_false,af,l0]
  refine LO _ _ _ _ _ _ _ _ _ _ _ _ _ _ _ ?_
  simp only[FU,ae,aA,ab,c0,af,gX h.b,gX h.c]
  refine (Im hS).call ?_
  simp only[bn,ab]
  refine LP _ _ _ _ _ _ _ _ _ _ _ _ _ _ _ ?_
  have c00:decide (((0:Int))<((0:Nat):Int))=false:=rfl
  simp only[FV,ae,aA,ab,c00,af,wV]
  exact oD h.d fun _=>bj (v:=vd _ _) _ rfl
 | succ d ih=>
  intro i st hi h
  refine Kq _ _ _ _ _ _ _ _ _ _ _ _ _ _ _ ?_
  have hlt:i<S.l.length:=by omega
  have c1:((i:Int)<S.l.length):=by omega
  have hxx:S.l[i]?=some S.l[i]:=List.getElem?_eq_getElem hlt
  generalize S.l[i]=a at hxx
  have e1:aR 6 (.isl (atC S.l) S.l.length none) (i64 i)=some (.iptr (atC S.l) (i*6)):=bW hlt
  have hw1:=aI (show i<2 ^ 40 by omega)
  have hA:=h.app (y:=.cells .rw (aC a))
  have hB:=hA.app (y:=.cells .rw [i64 0,.str []])
  have n1:(st++[aq.cells .rw (aC a)])[st.length]?=some (.cells .rw (aC a)):=au
  have kA:ldA (st++[aq.cells .rw (aC a)]) (.ptr st.length 0) 6=some (aV a):=by rw[ck n1 (by simp[aC])];rfl
  have pt:stV (st++[aq.cells .rw (aC a)]++[aq.cells .rw [i64 0,LV.str []]]) 2 (.ptr (st++[aq.cells .rw (aC a)]).length 0) (vd 0 [])=some (st++[aq.cells .rw (aC a)]++[.cells .rw [i64 0,.str []]]):=zg rfl
  simp only[FT,ae,aA,ab,c1,decide_true,ah,e1,iX hxx,bQ,ta (show (aC a).length=6 from rfl) (show (aC a).all LV.one=true from rfl),az,ag,kA,gX hA.a,gX hA.c]
  refine (J4 hx).call ?_
  simp only[aw,List.getElem?_cons_zero,List.getElem?_cons_succ,ab,pt,az,ag,aZ,Bool.not_true,af,aH,hw1]
  exact ih (i+1) _ (by omega) hB
theorem Io {S:ST} (hS:S.ok) {x:T} (hx:x.ok) (hh:(cb S.l x).2=0):Pu Tryz.prog 65 [sV S,vT x,vT .null,vT x,.nils] (vd 0 []):=by
 refine Pu.of (c65 _ _ _ _ _ ?_) (by simp only[LV.aB,et,bO];rfl) rfl
 have h0:VP [aq.cells .rw [lvT x],.cells .rw [lvT .null],.cells .rw [lvT x],.cells .rw [i64 0,.str []]] x:=⟨rfl,rfl,rfl,rfl⟩
 have g1:ldA [aq.cells .rw [lvT x],.cells .rw [lvT .null],.cells .rw [lvT x],.cells .rw [i64 0,LV.str []]] (.ptr 2 0) 1=some (vT x):=rfl
 have pt:∀ n:Tx,stV [aq.cells .rw [lvT x],.cells .rw [lvT .null],.cells .rw [lvT x],.cells .rw [i64 0,LV.str []],.cells .rw [i64 0,LV.str []]] 2 (.ptr 4 0) (vd 1 n)=some [.cells .rw [lvT x],.cells .rw [lvT .null],.cells .rw [lvT x],.cells .rw [i64 0,LV.str []],.cells .rw [i64 1,.str n]]:=
  fun n=>zg (st:=[aq.cells .rw [lvT x],.cells .rw [lvT .null],.cells .rw [lvT x],.cells .rw [i64 0,LV.str []]]) rfl
 simp only[w65,de,ag,List.length_nil,List.nil_append,List.cons_append,List.length_cons,Nat.zero_add,Nat.reduceAdd,bQ,g1,ab]
 refine (tm hS hx).call ?_
 rw[decide_eq_true hh]
 simp only[aw,List.getElem?_cons_zero,List.getElem?_cons_succ,ab,List.nil_append,List.cons_append,List.length_cons,List.length_nil,Nat.zero_add,Nat.reduceAdd,pt,az,ag,aZ,Bool.not_true,af]
 refine (qS hS).call ?_
 simp only[bn,ab]
 exact EO hS hx S.l.length 0 _ (by omega) (h0.app (y:=.cells .rw [i64 1,.str (cb S.l x).1]))
end
theorem zi:(mr Tryz.prog [116,115] Ic 100000 60 false 54 [] []).map (·.1)=some (.bool true):=by kernel_rfl
theorem wW {st:aa} {R:LV→aa→Prop} (h:R (.bool true) st):ax Tryz.prog 54 [] st R:=vt aG Ie zi rfl rfl h
theorem zj:∀ {a b:List Tx},a.Pairwise ltB→b.Pairwise ltB→(∀ x,x ∈ a↔x ∈ b)→a=b
 | [],[],_,_,_=>rfl
 | [],y::b,_,_,h=>by have:=(h y).2 (by simp);cases this
 | x::a,[],_,_,h=>by have:=(h x).1 (by simp);cases this
 | x::a,y::b,ha,hb,h=>by
  have ha':=List.pairwise_cons.1 ha
  have hb':=List.pairwise_cons.1 hb
  have e:x=y:=by
   have h1:=(h x).1 (by simp)
   have h2:=(h y).2 (by simp)
   rcases List.mem_cons.1 h1 with e|h1
   ·exact e
   ·rcases List.mem_cons.1 h2 with e|h2
    ·exact e.symm
    ·have k1:=hb'.1 x h1
     have k2:=ha'.1 y h2
     have:=so k1
     rw[k2] at this;cases this
  subst e
  congr 1
  refine zj ha'.2 hb'.2 fun z=>⟨fun hz=>?_,fun hz=>?_⟩
  ·have:=(h z).1 (List.mem_cons_of_mem _ hz)
   rcases List.mem_cons.1 this with e|this
   ·exact absurd e.symm (mV (ha'.1 z hz))
   ·exact this
  ·have:=(h z).2 (List.mem_cons_of_mem _ hz)
   rcases List.mem_cons.1 this with e|this
   ·exact absurd e.symm (mV (hb'.1 z hz))
   ·exact this
theorem zk:∀ (n:Nat) (t:T),SizeOf.sizeOf t<n→Agr t t
 | 0,_,h=>by omega
 | n+1,t,hn=>by
  by_cases hk:t.kind=6∨t.kind=7
  ·refine .parts rfl hk rfl rfl fun i x y h1 h2=>?_
   rw[h1] at h2;cases h2
   exact zk n x (by have:=T.fJ (List.mem_of_getElem? h1);omega)
  ·exact .same hk
open Classical in
theorem tn {p m:T}:∀ {l:List AT},(qt p m l).1=0→∀ a ∈ l,every dT (cf m a.nm)=true∧Agr (cf p a.nm) (cf m a.nm)
 | [],_,_,h=>by cases h
 | a::l,h,x,hx=>by
  unfold qt at h
  split at h
  ·rename_i h1
   split at h
   ·rename_i h2
    rcases List.mem_cons.1 hx with rfl|hx
    ·exact ⟨h1,h2⟩
    ·exact tn h x hx
   ·simp at h
  ·simp at h
theorem zl {m:T}:∀ {l:List AT},(∀ a ∈ l,every dT (cf m a.nm)=true)→uN m l=(0,[])
 | [],_=>rfl
 | a::l,h=>by
  unfold uN
  rw[if_pos (h a (by simp))]
  exact zl fun x hx=>h x (List.mem_cons_of_mem _ hx)
theorem BM {S:ST} (hS:S.ok) {m:T} (hm:m.ok) (h:(cb S.l m).2=0):∃ es,m=.map es∧es.map (·.1)=S.l.map (·.nm):=by
 obtain ⟨h1,h2⟩:=ug.1 h
 cases m<;>simp only[dd] at h1<;>try (simp at h1;done)
 rename_i es
 refine ⟨es,rfl,?_⟩
 have hm':=hm
 simp only[T.ok] at hm'
 refine zj hm'.2.2 hS.rise fun k=>⟨fun hk=>?_,fun hk=>?_⟩
 ·obtain ⟨e,he,rfl⟩:=List.mem_map.1 hk
  obtain ⟨a,ha,_⟩:=lV.1 h1 e he
  have:=pA ha
  exact List.mem_map.2 ⟨a,this.1,this.2⟩
 ·obtain ⟨a,ha,rfl⟩:=List.mem_map.1 hk
  have h3:=h2 a ha
  have e:(T.map es).at a.nm=T.find es a.nm:=rfl
  rw[e] at h3
  obtain ⟨t,ht⟩:=Option.isSome_iff_exists.1 h3
  exact List.mem_map.2 ⟨(a.nm,t),T.k9 ht,rfl⟩
theorem EP {S:ST} (hS:S.ok) {v m:T} (hm:m.ok) (h:(cb S.l m).2=0) (h2:(qt (dS S.l v) m S.l).1=0):every dT m=true∧Agr (dS S.l v) m:=by
 obtain ⟨es,rfl,hk⟩:=BM hS hm h
 have hm':=hm
 simp only[T.ok] at hm'
 have hall:=tn h2
 have hlen:es.length=S.l.length:=by have:=congrArg List.length hk;simpa using this
 have at_:∀ (i:Nat) (e:Tx × T),es[i]?=some e→∃ a,S.l[i]?=some a∧a.nm=e.1∧cf (.map es) a.nm=e.2:=fun i e he=>by
  have h1:(es.map (·.1))[i]?=some e.1:=by rw[List.getElem?_map,he];rfl
  rw[hk,List.getElem?_map] at h1
  obtain ⟨a,ha,hn⟩:=Option.map_eq_some_iff.1 h1
  refine ⟨a,ha,hn,?_⟩
  have:=T.JZ hm he
  rw[← hn] at this
  unfold cf
  rw[this];rfl
 refine ⟨?_,?_⟩
 ·rw[sR,Bool.and_eq_true]
  refine ⟨rfl,List.all_eq_true.2 fun t ht=>?_⟩
  obtain ⟨e,he,rfl⟩:=List.mem_map.1 ht
  obtain ⟨i,hi⟩:=List.getElem?_of_mem he
  obtain ⟨a,ha,_,hg⟩:=at_ i e hi
  rw[← hg]
  exact (hall a (List.mem_of_getElem? ha)).1
 ·refine .parts rfl (.inr rfl) ?_ ?_ fun i x y hx hy=>?_
  ·show (cN S.l v).map (·.1)=es.map (·.1)
   rw[pG,hk]
  ·show ((cN S.l v).map (·.2)).length=(es.map (·.2)).length
   unfold cN
   rw[List.length_map,List.length_map,List.length_map,hlen]
  ·have hy':(es.map (·.2))[i]?=some y:=hy
   rw[List.getElem?_map] at hy'
   obtain ⟨e,he,rfl⟩:=Option.map_eq_some_iff.1 hy'
   obtain ⟨a,ha,_,hg⟩:=at_ i e he
   have hx':((cN S.l v).map (·.2))[i]?=some x:=hx
   unfold cN at hx'
   rw[List.getElem?_map,List.getElem?_map,ha] at hx'
   simp only[Option.map_some,Option.some.injEq] at hx'
   have hf:cf (dS S.l v) a.nm=iz v a:=by rw[cf,pB hS.rise (List.mem_of_getElem? ha)];rfl
   have:=(hall a (List.mem_of_getElem? ha)).2
   rw[hf,hg,hx'] at this
   exact this
theorem BN (t:T):Pu Tryz.prog 110 [.nilp,vT t] (.tup [.str [],i64 11]):=by
 refine Pu.of (NP _ _ ?_) (by simp only[LV.aB,LV.plain,eC,Bool.and_true]) rfl
 have e:eqB .eql (dW true .nilp .nilp)=some (.bool true):=rfl
 simp only[L6,de,ag,e,ab,ah]
 exact bj (v:=.tup [.str [],i64 11]) _ rfl
theorem ER (t:T):Pu Tryz.prog 41 [.nilp,vT t] (.tup [.str [],i64 11]):=by
 refine Pu.of (c41 _ _ ?_) (by simp only[LV.aB,LV.plain,eC,Bool.and_true]) rfl
 simp only[w41,de,ag,gR,ab]
 refine (BN t).call ?_
 have e:((11:Int) != 0)=true:=by decide
 simp only[aw,List.getElem?_cons_zero,List.getElem?_cons_succ,ab,ae,bz,e,ah]
 exact bj (v:=.tup [.str [],i64 11]) _ rfl
theorem ES (t:T):Pu Tryz.prog 42 [.nilp,vT t] (.tup [vT .null,i64 11]):=by
 refine Pu.of (c42 _ _ ?_) (by simp only[LV.aB,LV.plain,eC,Bool.and_true]) rfl
 simp only[w42,de,ag,bQ,List.nil_append,List.cons_append,List.length_nil,List.length_cons,Nat.zero_add]
 have e0:ldA [aq.cells .rw [lvT t],.cells .rw [.nili]] (.ptr 0 0) 1=some (vT t):=rfl
 simp only[e0,ab]
 refine (ER t).call ?_
 have e:((11:Int) != 0)=true:=by decide
 simp only[aw,List.getElem?_cons_zero,List.getElem?_cons_succ,ab,ae,bz,e,ah]
 refine lg.call ?_
 exact bj (v:=.tup [vT .null,i64 11]) _ rfl
section
variable {st:aa}
open Classical in
theorem BO (g:GlS st) {s:Tx} {r r2:RV} (hr:r.ok) (hr2:r2.ok):w14 (.str s) (vR r) (vR r2) (fun v _=>v=.bool true) st:=by
 obtain ⟨n,hg⟩:=yx hr
 obtain ⟨n2,hg2⟩:=yx hr2
 have hb:dK (st++[aq.cells .rw (rc r)]++[aq.cells .rw (rc r2)]) st.length r:=bH au
 have hb2:dK (st++[aq.cells .rw (rc r)]++[aq.cells .rw (rc r2)]) (st++[aq.cells .rw (rc r)]).length r2:=au
 have g1:GlS (st++[aq.cells .rw (rc r)]++[aq.cells .rw (rc r2)]):=(g.fr (Fr.app (S:=fun _=>False)) id id id).fr (Fr.app (S:=fun _=>False)) id id id
 generalize hL:(st++[aq.cells .rw (rc r)]).length=L at hb2
 simp only[w14,lU,ag,hL]
 generalize st++[aq.cells .rw (rc r)]++[aq.cells .rw (rc r2)]=S0 at hb hb2 g1
 simp only[hb.ldA,ab]
 refine hg.call ?_
 simp only[ae,cx,ab,aM,hb2.ldA]
 refine ⟨fun _=>wW rfl,fun _=>hg2.call ?_⟩
 simp only[ae,cx,ab,aM]
 refine ⟨fun _=>wW rfl,fun _=>wW ?_⟩
 simp only[aZ,ab,Bool.not_true,af]
 have hv:=Ia hr
 have hv2:=Ia hr2
 refine Pr g1 (fun st2 m0 m1 hm hf=>?_) fun st2 S n hS hf hl=>?_
 ·have pm:stV (st2++[aq.cells .rw [i64 0,LV.nils]]) 2 (.ptr st2.length 0) (.agg [m0,m1])=some (st2++[.cells .rw [m0,m1]]):=by
   rw[lC au hm];simp
  have f3:Fr S0 (st2++[.cells .rw [m0,m1]]) (fun _=>False):=hf.trans Fr.app fun _ _ h=>h
  have c00:decide ((1:Int) > 0)=true:=rfl
  simp only[aw,List.getElem?_cons_zero,List.getElem?_cons_succ,ab,bQ,pm,az,ag,(hb.fr f3 id).ldA]
  refine (sO hr).call ?_
  refine (C7 _ _ (Nat.lt_succ_self _) hv).call ?_
  refine (ES _).call ?_
  simp only[aw,List.getElem?_cons_zero,List.getElem?_cons_succ,ab,cI,az,ag,ae,cx,c00,ah]
 ·have hSok:=Bu hS
  have pm:stV (st2++[aq.cells .rw [i64 0,LV.nils]]) 2 (.ptr st2.length 0) (bS n S.l)=some (st2++[.cells .rw [i64 n,.isl (bCs S.l) S.l.length none]]):=by
   unfold bS
   rw[lC au rfl];simp
  have f3:Fr S0 (st2++[.cells .rw [i64 n,.isl (bCs S.l) S.l.length none]]) (fun _=>False):=hf.trans Fr.app fun _ _ h=>h
  have c00:decide ((0:Int) > 0)=false:=rfl
  simp only[aw,List.getElem?_cons_zero,List.getElem?_cons_succ,ab,bQ,pm,az,ag,(hb.fr f3 id).ldA]
  refine (sO hr).call ?_
  refine (C7 _ _ (Nat.lt_succ_self _) hv).call ?_
  generalize cln r=v at hv
  refine (MC hSok hv).call ?_
  have en:((fu S.l v).2 != 0)=decide ((fu S.l v).2≠0):=by by_cases h:(fu S.l v).2=0<;>simp[h]
  simp only[aw,List.getElem?_cons_zero,List.getElem?_cons_succ,ab,cI,az,ag,ae,cx,bz,c00,af,en,aM]
  refine ⟨fun _=>by trivial,fun he=>?_⟩
  have he0:(fu S.l v).2=0:=Classical.byContradiction he
  rw[if_pos he0]
  have hx:=Ig hSok hv
  have hh:=A1 hSok he0
  have hb3:=hb2.fr (f3.trans (Fr.app (y:=.cells .rw [lvT (dS S.l v)])) fun _ _ h=>h) id
  generalize hS3:st2++[aq.cells .rw [i64 n,.isl (bCs S.l) S.l.length none]]=S3 at hb3
  have hX:(S3++[aq.cells .rw [lvT (dS S.l v)]])[S3.length]?=some (.cells .rw [lvT (dS S.l v)]):=au
  generalize S3++[aq.cells .rw [lvT (dS S.l v)]]=S4 at hb3 hX
  simp only[gX hX,ab,wV]
  refine lg.call ⟨gX hX,gX hX,?_⟩
  refine (Io hSok hx hh).call ?_
  have ev:eqB .neq (jh (leq Tryz.prog 64 92) (vd 0 []) (vd 0 []))=some (.bool false):=by rw[eqV];rfl
  have ev2:eqB .eql (jh (leq Tryz.prog 64 92) (vd 0 []) (vd 0 []))=some (.bool true):=by rw[eqV];rfl
  simp only[ev,ab,af,gX hX]
  refine (lZ _ _ _ (Nat.lt_succ_self _) hx hx).call ?_
  rw[decide_eq_true (zk _ (dS S.l v) (Nat.lt_succ_self _))]
  simp only[aZ,Bool.not_true,ab]
  refine NI _ _ _ _ ?_
  simp only[Kr,af,hb3.ldA,ab]
  refine (sO hr2).call ?_
  refine (C7 _ _ (Nat.lt_succ_self _) hv2).call ?_
  generalize cln r2=m at hv2
  have hX2:(S4++[aq.cells .rw [lvT m]])[S3.length]?=some (.cells .rw [lvT (dS S.l v)]):=bH hX
  have hM:(S4++[aq.cells .rw [lvT m]])[S4.length]?=some (.cells .rw [lvT m]):=au
  simp only[bQ,cI,az,ag,gX hX2,gX hM,ab]
  refine (J3 hSok hx hv2).call ?_
  have evm:eqB .neq (jh (leq Tryz.prog 64 92) (vd (mz S (dS S.l v) m).1 (mz S (dS S.l v) m).2) (vd 0 []))=some (.bool (!(((mz S (dS S.l v) m).1==0)&&((mz S (dS S.l v) m).2==[])))):=by rw[eqV];rfl
  simp only[wV,ab,evm]
  rw[bN]
  refine ⟨fun _=>by trivial,fun hv0=>?_⟩
  have hv1:(mz S (dS S.l v) m).1=0:=by
   simp only[Bool.not_eq_false',Bool.and_eq_true,beq_iff_eq] at hv0
   exact hv0.1
  have hmh:(cb S.l m).2=0:=by
   unfold mz at hv1
   split at hv1
   ·assumption
   ·simp at hv1
  have hme:(qt (dS S.l v) m S.l).1=0:=by
   unfold mz at hv1
   rw[if_pos hmh] at hv1
   exact hv1
  obtain ⟨hkn,hag⟩:=EP hSok hv2 hmh hme
  have hre:zh S m=(0,[]):=by
   unfold zh
   rw[if_pos hmh]
   exact zl fun a ha=>(tn hme a ha).1
  simp only[gX hM,ab]
  refine (oe hv2).call ?_
  rw[hkn]
  simp only[ah,gX hX2,gX hM,ab]
  refine (lZ _ _ _ (Nat.lt_succ_self _) hx hv2).call ?_
  rw[decide_eq_true hag]
  simp only[ah,gX hM,ab]
  refine (MO hSok hv2).call ?_
  rw[hre]
  simp only[ev2,ab,ah,gX hM]
  refine lg.call ⟨gX hM,gX hM,?_⟩
  refine (Io hSok hv2 hmh).call ?_
  simp only[ev2,ab]
  exact LS _ rfl
theorem Ov (g:GlS st) {s:Tx} {r r2:RV} (hr:r.ok) (hr2:r2.ok):ax Tryz.prog 14 [.str s,vR r,vR r2] st fun v _=>v=.bool true:=c14 _ _ _ (BO g hr hr2)
end
theorem wX {H:Type} {u u':TypeId} {xs:List LV} {ds:List (DataW H)} (h:qN Tryz.prog [9,49,49] xs ds) (hb:Rows.uptoBulkAll ds≤1048576):ax Tryz.prog 14 xs (xW (EL u u')) fun v _=>v=.bool true:=by
 obtain ⟨x0,_,d0,_,rfl,rfl,⟨n0,cs0,_,a2,a3⟩,x1,_,d1,_,rfl,rfl,⟨n1,cs1,b1,_,b3⟩,x2,_,d2,_,rfl,rfl,⟨n2,cs2,e1,_,e3⟩,rfl,rfl⟩:=h
 have i0:cq Tryz.prog 9=false:=by kernel_rfl
 have i1:cq Tryz.prog 49=true:=by kernel_rfl
 rw[a2 i0] at a3
 obtain ⟨s,e,_⟩:=BH a3
 simp only[List.cons.injEq,and_true] at e
 subst e
 rw[if_pos i1] at b1 e1
 subst b1;subst e1
 simp only[Rows.uptoBulkAll] at hb
 obtain ⟨r,rfl,hr⟩:=tj (N:=1048576) (by unfold big;omega) n1 b3 (by omega)
 obtain ⟨r2,rfl,hr2⟩:=tj (N:=1048576) (by unfold big;omega) n2 e3 (by omega)
 exact Ov J0 hr hr2
end Go.Proofs.YtknegckgmklnhaaGreatDoor
