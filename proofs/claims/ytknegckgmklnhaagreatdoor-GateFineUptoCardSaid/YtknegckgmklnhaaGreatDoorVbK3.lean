/- Parts of the proof. -/
import Derived.Test.YtknegckgmklnhaaGreatDoorVbN3
namespace Go.Proofs.YtknegckgmklnhaaGreatDoor
open Go Go.CP
set_option maxRecDepth 100000
section
variable {st st':aa} {R:LV→aa→Prop}
theorem Dd {a b x y:LV} (h1:dp st a x) (h2:dp st b y):dp st (.tup [a,b]) (.tup [x,y]):=⟨_,rfl,_,_,rfl,h1,_,_,rfl,h2,rfl⟩
theorem Bn {x y:LV} {d:Nat} {b:Bool} (hx:LV.aB [x,y]=true) (h1:[x,y].all LV.one=true) :
  Dp (WrQ (d+1) b) (.tup [.sl st.length 0 1 (.ex 1),.bool b]) (st++[.cells .rw [x,y]]):=
 ⟨.tup [.isl [x,y] 1 none,.bool b],Dd (.inl ⟨_,_,_,.rw,[x,y],rfl,au,rfl,by simp,bA _ hx⟩) rfl,by simpa[LV.plain,LV.aB] using hx,_,1,[x,y],rfl,rfl,rfl,hx,h1,by omega⟩
theorem Hz {x y:LV} {cs:List LV} {k d:Nat} (hx:LV.aB [x,y]=true) (h1:[x,y].all LV.one=true) (hc:cs.length=k*2) (hp:LV.aB cs=true) (ho:cs.all LV.one=true) (hk:k≤d) (hd:d≤1000) {b:Bool} :
  bd2 (ar (st++[.cells .rw [x,y]]) 2 24 .rw (.sl st.length 0 1 (.ex 1)) (.isl cs k none)) fun v st2=>Dp (WrQ (d+1) b) (.tup [v,.bool b]) st2:=by
 have hs:=rR (st:=st++[.cells .rw [x,y]]) (c:=none) hc
 by_cases hk0:k=0
 ·subst hk0
  simp only[ar,hs,if_true,ag]
  exact Bn hx h1
 ·have c1:¬ (1+k≤1):=by omega
  have hr:dX (1+k) 24=true:=cL (by omega) (by omega)
  have e:ar (st++[.cells .rw [x,y]]) 2 24 .rw (.sl st.length 0 1 (.ex 1)) (.isl cs k none)=some (.sl (st++[aq.cells .rw [x,y]]).length 0 (1+k) (.rest 2),(st++[.cells .rw [x,y]])++[.cells .rw ([x,y]++cs)]):=by
   simp[ar,hs,hk0,c1,hr]
  rw[e,ag]
  have hpl:LV.aB ([x,y]++cs)=true:=by rw[cZ,hx,hp];rfl
  refine ⟨.tup [.isl ([x,y]++cs) (1+k) none,.bool b],Dd (.inl ⟨_,_,_,.rw,[x,y]++cs,rfl,au,rfl,by simp,?_⟩) rfl,by simp only[LV.plain,LV.aB,hpl];rfl,_,1+k,_,rfl,rfl,by simp[hc];omega,hpl,by rw[List.all_append,h1,ho];rfl,by omega⟩
  rw[List.drop_zero,List.take_length]
  exact bA _ hpl
def Bo (ts:List KT) (vs:List T):Prop:=∀ (i:Nat) (t:KT) (v:T),ts[min i (ts.length-1)]?=some t→vs[i]?=some v→dw t v=true
theorem EB {a b:Nat}:ke [i64 a,i64 b]=some (i64 (min a b:Nat)):=by
 simp only[ke,nj,xd]
 rcases Nat.lt_or_ge b a with h|h
 ·rw[Nat.min_eq_right (by omega)]
  have:(b:Int)<a:=by omega
  simp[this]
 ·rw[Nat.min_eq_left h]
  have:¬ (b:Int)<a:=by omega
  simp[this]
theorem Bp {d:Nat} (hd:d≤1000) {ts:List KT} {vs:List T} {cs:List LV} (ht:0<vs.length→0<ts.length) (htb:ts.length≤big) (hb:vs.length≤big) (hc:cs.length=vs.length*2) (hp:LV.aB cs=true) (h1:cs.all LV.one=true)
  (ih:∀ (i:Nat) (t:KT) (v:T),ts[min i (ts.length-1)]?=some t→vs[i]?=some v→Pb Tryz.prog 118 [kV t,vT v] (WrQ d (!dw t v))) {b:Bool} (hbb:b=false↔Bo ts vs) :
  ∀ (k i:Nat) (st:aa),i+k=vs.length→(∀ (j:Nat) (t:KT) (v:T),j<i→ts[min j (ts.length-1)]?=some t→vs[j]?=some v→dw t v=true)→vZ (.isl (kVs ts) ts.length none) (.isl cs vs.length none) (vL vs) (i64 vs.length) (i64 i) (Dp (WrQ (d+1) b)) st:=by
 intro k
 induction k with
 | zero=>
  intro i st hi hh
  refine Gy _ _ _ _ _ ?_
  have c1:¬ ((i:Int)<vs.length):=by omega
  have e:b=false:=hbb.2 fun j t v h2 h3=>hh j t v (by have:=(List.getElem?_eq_some_iff.1 h3).1;omega) h2 h3
  subst e
  simp only[AG,ae,aA,ab,c1,decide_false,af]
  exact Bd
 | succ k ihk=>
  intro i st hi hh
  refine Gy _ _ _ _ _ ?_
  have hlt:i<vs.length:=by omega
  have c1:((i:Int)<vs.length):=by omega
  have e1:aR 1 (vL vs) (i64 i)=some (.iptr (eF vs) (i*1)):=bW hlt
  have hv:vs[i]?=some vs[i]:=List.getElem?_eq_getElem hlt
  have hlv:(eF vs).length=vs.length:=by rw[eL];simp
  have g:∀ s:aa,ldA s (.iptr (eF vs) (i*1)) 1=some (vT vs[i]):=fun s=>by
   rw[gq (by omega),Nat.mul_one,eL,← List.map_drop,List.drop_eq_getElem_cons hlt];rfl
  have ht:=ht (by omega)
  have hm:min i (ts.length-1)<ts.length:=by omega
  have htm:ts[min i (ts.length-1)]?=some ts[min i (ts.length-1)]:=List.getElem?_eq_getElem hm
  have e2:aR 1 (.isl (kVs ts) ts.length none) (i64 (min i (ts.length-1):Nat))=some (.iptr (kVs ts) (min i (ts.length-1)*1)):=bW hm
  have hw:IntKind.i64.wrap ((ts.length:Int)-1)=((ts.length-1:Nat):Int):=by rw[wrap_i64 (by omega) (by unfold big at htb;omega)];omega
  have hk:(kVs ts)[min i (ts.length-1)*1]?=some (kV ts[min i (ts.length-1)]):=by rw[Nat.mul_one,wE,htm];rfl
  generalize ts[min i (ts.length-1)]=t at htm hk
  generalize vs[i]=v at hv g
  have gb:∀ {s:aa},ldA (s++[aq.cells .rw [lvT v]]) (.ptr s.length 0) 1=some (vT v):=fun {s}=>by rw[ck au (by simp)];rfl
  simp only[AG,ae,aA,ab,c1,decide_true,ah,e1,g,bQ,cI,az,ag,bn,cX,hw,EB,e2,bF,hk,gb]
  refine (ih i t v htm hv).call fun r hr=>?_
  obtain ⟨x,n,ds,rfl,rfl,hn,hpd,h1d,hnd⟩:=hr
  simp only[aw,List.getElem?_cons_zero,List.getElem?_cons_succ,ab]
  refine Ma _ _ _ _ _ _ _ _ ?_
  cases htk:dw t v with
  | true=>
   simp only[AH,Bool.not_true,af,ae,aH,ab,aI (show i<2 ^ 40 by unfold big at hb;omega)]
   refine ihk (i+1) _ (by omega) fun j t' v' hj h2 h3=>?_
   rcases Nat.lt_or_ge j i with h|h
   ·exact hh j t' v' h h2 h3
   ·have:j=i:=by omega
    subst this
    rw[htm] at h2;rw[hv] at h3
    cases h2;cases h3
    exact htk
  | false=>
   have e:b=true:=by
    cases b with
    | true=>rfl
    | false=>have:=hbb.1 rfl i t v htm hv;rw[htk] at this;cases this
   subst e
   have e3:aR 2 (.isl cs vs.length none) (i64 i)=some (.iptr cs (i*2)):=bW hlt
   have hd2:(cs.drop (i*2)).take 2=[cs[i*2]'(by omega),cs[i*2+1]'(by omega)]:=by
    rw[List.drop_eq_getElem_cons (by omega),List.drop_eq_getElem_cons (by omega)];rfl
   have p1:=mQ hp _ (List.getElem_mem (show i*2<cs.length by omega))
   have p2:=mQ hp _ (List.getElem_mem (show i*2+1<cs.length by omega))
   have o1:=List.all_eq_true.1 h1 _ (List.getElem_mem (show i*2<cs.length by omega))
   have o2:=List.all_eq_true.1 h1 _ (List.getElem_mem (show i*2+1<cs.length by omega))
   generalize cs[i*2]'(by omega)=y1 at hd2 p1 o1
   generalize cs[i*2+1]'(by omega)=y2 at hd2 p2 o2
   have ef:ao (fun i=>some (i*2,2)) (List.replicate 1 [LV.str [],i64 0]).flatten [(0,.agg [y1,y2])]=some [y1,y2]:=rfl
   have g2:∀ s:aa,ldA s (.iptr cs (i*2)) 2=some (.agg [y1,y2]):=fun s=>by rw[gq (by omega),hd2]
   simp only[AH,Bool.not_false,ah,e3,ab,g2,ef,bw,ag]
   exact Hz (by simp[LV.aB,p1,p2]) (by simp[o1,o2]) hn hpd h1d hnd hd
theorem HA {d:Nat} (hd:d≤1000) {ts:List KT} {vs:List T} {cs:List LV} (ht:0<vs.length→0<ts.length) (htb:ts.length≤big) (hb:vs.length≤big) (hc:cs.length=vs.length*2) (hp:LV.aB cs=true) (h1:cs.all LV.one=true)
  (ih:∀ (i:Nat) (t:KT) (v:T),ts[min i (ts.length-1)]?=some t→vs[i]?=some v→Pb Tryz.prog 118 [kV t,vT v] (WrQ d (!dw t v))) {b:Bool} (hbb:b=false↔Bo ts vs) :
  Pb Tryz.prog 174 [.isl (kVs ts) ts.length none,vL vs,.isl cs vs.length none] (WrQ (d+1) b):=by
 refine Pb.of (O8 _ _ _ ?_) (by simp[LV.aB,LV.plain,po,fN,hp])
 simp only[N0,bn,ab]
 exact Bp hd ht htb hb hc hp h1 ih hbb vs.length 0 [] (by omega) fun _ _ _ h=>by omega
end
section
variable {st st':aa} {R:LV→aa→Prop}
def pF (t:KT) (k:Tx):Option KT:=(px k t.ns 0).bind (t.l[·]?)
def uz (t:KT) (e:Tx × T):Bool:=match pF t e.1 with
 | some x=>dw x e.2
 | none=>false
theorem Bq {d:Nat} (hd:d≤1000) {t:KT} {es:List (Tx × T)} (hv:(T.map es).ok) (htb:t.ns.length≤big) (hl:t.ns.length=t.l.length) (hl2:t.ls.length=t.l.length)
  (ih:∀ (i:Nat) (x:KT),t.l[i]?=some x→∀ e ∈ es,Pb Tryz.prog 118 [kV x,vT e.2] (WrQ d (!dw x e.2))) :
  ∀ (k i:Nat) (st:aa),i+k=es.length→st[0]?=some (.cells .rw [lvT (.map es)])→
   vY (kV t) (.ptr 0 0) (vL (es.map (·.2))) (sL (es.map (·.1))) (i64 es.length) (i64 i) (LV.tup []) (LV.tup []) (LV.tup []) (Dp (WrQ (d+1) (!((es.drop i).all (uz t)&&(missing t.ns t.ls es).isEmpty)))) st:=by
 have hbe:es.length≤big:=by simp only[T.ok] at hv;exact hv.1
 intro k
 induction k with
 | zero=>
  intro i st hi h0
  refine Gu _ _ _ _ _ _ _ _ _ ?_
  have c1:¬ ((i:Int)<es.length):=by omega
  have g:ldA st (.ptr 0 0) 1=some (vT (.map es)):=by rw[ck h0 (by simp)];rfl
  simp only[AF,ae,aA,ab,c1,decide_false,af,g]
  refine (Bc hv htb (by omega)).call ?_
  rw[List.drop_eq_nil_of_le (by omega)]
  have hml:=qm (es:=es) (ns:=t.ns) (ls:=t.ls)
  generalize missing t.ns t.ls es=ms at hml
  simp only[bn,ab,List.all_nil,Bool.true_and]
  refine I5 _ _ _ _ _ _ _ _ _ ?_
  cases ms with
  | nil=>exact Bd
  | cons m ms=>
   have c2:((0:Int)<(m::ms).length):=by simp only[List.length_cons];omega
   have e1:aR 1 (sL (m::ms)) (.int .i64 0)=some (.iptr ((m::ms).map .str) (0*1)):=bW (i:=0) (by simp)
   have hg:((m::ms).map LV.str)[0*1]?=some (.str m):=rfl
   simp only[CR,ae,aA,ab,c2,decide_true,ah,e1,bF,hg]
   refine (wC _).call ?_
   have ef:ao (fun i=>some (i*2,2)) (List.replicate 1 [LV.str [],i64 0]).flatten [(0,.agg [.str m,i64 (-1)])]=some [.str m,i64 (-1)]:=rfl
   simp only[ef,bw,ag]
   exact Bn rfl rfl
 | succ k ihk=>
  intro i st hi h0
  refine Gu _ _ _ _ _ _ _ _ _ ?_
  have hlt:i<es.length:=by omega
  have c1:((i:Int)<es.length):=by omega
  have e1:aR 1 (sL (es.map (·.1))) (i64 i)=some (.iptr ((es.map (·.1)).map .str) (i*1)):=bW (by simpa using hlt)
  have hg:((es.map (·.1)).map LV.str)[i*1]?=some (.str es[i].1):=by simp[hlt]
  have e2:aR 1 (vL (es.map (·.2))) (i64 i)=some (.iptr (eF (es.map (·.2))) (i*1)):=bW (by simpa using hlt)
  have g:∀ s:aa,ldA s (.iptr (eF (es.map (·.2))) (i*1)) 1=some (vT es[i].2):=fun s=>by
   rw[gq (by rw[eL];simp;omega),Nat.mul_one,eL,List.map_map,← List.map_drop,List.drop_eq_getElem_cons hlt];rfl
  have hm:es[i] ∈ es:=List.getElem_mem hlt
  have hdr:es.drop i=es[i]::es.drop (i+1):=List.drop_eq_getElem_cons hlt
  generalize es[i]=e at hg g hm hdr
  simp only[AF,ae,aA,ab,c1,decide_true,ah,e1,bF,hg]
  have hfp:Pu Tryz.prog 213 [kV t,.str e.1] (match pF t e.1 with
   | some x=>.tup [kV x,.bool true]
   | none=>.tup [.nilp,.bool false]):=He htb hl
  refine hfp.call ?_
  rw[hdr,List.all_cons]
  have hf:uz t e=match pF t e.1 with|some x=>dw x e.2|none=>false:=rfl
  rw[hf]
  cases hx:pF t e.1 with
  | none=>
   simp only[aw,List.getElem?_cons_zero,List.getElem?_cons_succ,ab,aZ,Bool.not_false,ah]
   refine (wC _).call ?_
   have ef:ao (fun i=>some (i*2,2)) (List.replicate 1 [LV.str [],i64 0]).flatten [(0,.agg [.str e.1,i64 (-1)])]=some [.str e.1,i64 (-1)]:=rfl
   simp only[ef,bw,ag]
   exact Bn rfl rfl
  | some x=>
   have hxl:∃ j:Nat,t.l[j]?=some x:=by
    unfold pF at hx
    obtain ⟨j,_,h⟩:=Option.bind_eq_some_iff.1 hx
    exact ⟨j,h⟩
   obtain ⟨j,hj⟩:=hxl
   simp only[aw,List.getElem?_cons_zero,List.getElem?_cons_succ,ab,aZ,Bool.not_true,af,e2,g]
   refine (ih j x hj e hm).call fun r hr=>?_
   obtain ⟨y,n,ds,rfl,rfl,hn,hpd,h1d,hnd⟩:=hr
   simp only[aw,List.getElem?_cons_zero,List.getElem?_cons_succ,ab]
   cases htk:dw x e.2 with
   | true=>
    simp only[Bool.not_true,af,aH,ab,aI (show i<2 ^ 40 by unfold big at hbe;omega),Bool.true_and]
    exact ihk (i+1) st (by omega) h0
   | false=>
    simp only[Bool.not_false,ah,Bool.false_and]
    refine (wC _).call ?_
    have ef:ao (fun i=>some (i*2,2)) (List.replicate 1 [LV.str [],i64 0]).flatten [(0,.agg [.str e.1,i64 (-1)])]=some [.str e.1,i64 (-1)]:=rfl
    simp only[ef,bw,ag]
    exact Hz rfl rfl hn hpd h1d hnd hd
theorem HB {d:Nat} (hd:d≤1000) {t:KT} {es:List (Tx × T)} (hv:(T.map es).ok) (htb:t.ns.length≤big) (hl:t.ns.length=t.l.length) (hl2:t.ls.length=t.l.length)
  (ih:∀ (i:Nat) (x:KT),t.l[i]?=some x→∀ e ∈ es,Pb Tryz.prog 118 [kV x,vT e.2] (WrQ d (!dw x e.2))) :
  Pb Tryz.prog 173 [kV t,vT (.map es)] (WrQ (d+1) (!(es.all (uz t)&&(missing t.ns t.ls es).isEmpty))):=by
 refine Pb.of (c173 _ _ ?_) jB
 have g:ldA ([]++[aq.cells .rw [lvT (.map es)]]) (.ptr 0 0) 1=some (vT (.map es)):=rfl
 simp only[NZ,de,ag,List.length_nil,g,ab]
 refine (jx hv).call ?_
 simp only[g,ab]
 refine (lQ hv).call ?_
 have hk:(T.map es).keys=es.map (·.1):=rfl
 have hi:(T.map es).items=es.map (·.2):=rfl
 rw[hk,hi]
 simp only[bn,ab,List.length_map]
 have:=Bq hd hv htb hl hl2 ih es.length 0 ([]++[aq.cells .rw [lvT (.map es)]]) (by omega) rfl
 simpa using this
end
section
variable {st st':aa} {R:LV→aa→Prop}
theorem oi {d:Nat} {t:KT} {v:T} {b b':Bool} {st:aa} (e:b'=b):Dp (WrQ d b) (.tup [.nils,.bool b']) st:=by subst e;exact Bd
theorem Br {l:List KT} {i:Nat}:(dA l).getD i (fun _=>false)=match l[i]? with
  | some x=>dw x
  | none=>fun _=>false:=by
 rw[py,List.getD_eq_getElem?_getD,List.getElem?_map]
 cases l[i]?<;>rfl
theorem uA:∀ {ts:List KT} {vs:List T},ts.length=vs.length→(pr (dA ts) vs=true↔∀ (i:Nat) (t:KT) (v:T),ts[i]?=some t→vs[i]?=some v→dw t v=true)
 | [],[],_=>by simp[dA,pr]
 | t::ts,v::vs,h=>by
  simp only[dA,pr,Bool.and_eq_true]
  rw[uA (ts:=ts) (vs:=vs) (by simpa using h)]
  constructor
  ·rintro ⟨h1,h2⟩ i t' v' h3 h4
   cases i with
   | zero=>simp only[List.getElem?_cons_zero,Option.some.injEq] at h3 h4;subst h3;subst h4;exact h1
   | succ i=>simp only[List.getElem?_cons_succ] at h3 h4;exact h2 i t' v' h3 h4
  ·intro h
   exact ⟨h 0 t v rfl rfl,fun i t' v' h3 h4=>h (i+1) t' v' (by simpa using h3) (by simpa using h4)⟩
theorem HC {ts:List KT} {vs:List T} (h:ts.length=1):vs.all ((dA ts).getD 0 fun _=>false)=true↔Bo ts vs:=by
 match ts,h with
 | [t],_=>
  simp only[dA,List.getD_cons_zero,List.all_eq_true]
  constructor
  ·intro k i t' v h1 h2
   simp only[List.length_singleton,Nat.sub_self,Nat.min_zero,List.getElem?_cons_zero,Option.some.injEq] at h1
   subst h1
   exact k v (List.mem_of_getElem? h2)
  ·intro k v hv
   obtain ⟨i,hi⟩:=List.getElem?_of_mem hv
   exact k i t v (by simp) hi
theorem HD {t:KT} (hl:t.ns.length=t.l.length) {e:Tx × T}:uz t e=match px e.1 t.ns 0 with
  | some i=>((dA t.l).getD i fun _=>false) e.2
  | none=>false:=by
 unfold uz pF
 cases h:px e.1 t.ns 0 with
 | none=>rfl
 | some i=>
  obtain ⟨_,h2,_⟩:=wD h
  have hx:t.l[i]?=some (t.l[i]'(by omega)):=List.getElem?_eq_getElem (by omega)
  simp only[Option.bind_some,Br,hx]
theorem HE:∀ {d:Nat},d≤1000→∀ {t:KT} {v:T},t.wf d→v.ok→Pb Tryz.prog 118 [kV t,vT v] (WrQ d (!dw t v)):=by
 intro d
 induction d with
 | zero=>intro _ t v h;cases t;simp only[KT.wf] at h
 | succ d ih=>
  intro hd t v hw hv
  refine Pb.of (O7 _ _ ?_) jB
  have e:dw t v=dh t.f (dA t.l) t.ns t.ls v:=by cases t;rfl
  rw[e]
  have hw':t.f≤8∧(t.f<5→t.l=[])∧(t.f=5∨t.f=6→t.l.length=1)∧(t.f<8→t.ns=[]∧t.ls=[])∧(t.f=8→t.ns.length=t.l.length∧t.ls.length=t.l.length)∧t.l.length≤16∧t.ns.Pairwise ltB∧(∀ n ∈ t.ns,named n=true)∧KT.wfs d t.l:=by cases t;exact hw
  obtain ⟨w1,w2,w3,w4,w5,w6,_,_,w7⟩:=hw'
  have w7':=KT.nJ.1 w7
  have g:ldA ([]++[aq.cells .rw [lvT v]]) (.ptr 0 0) 1=some (vT v):=rfl
  have ek:∀ n:Int,(v.kind==n)=decide (v.kind=n):=fun n=>by by_cases h:v.kind=n<;>simp[h]
  have ek2:(v.kind != eY t.f)=decide (v.kind≠eY t.f):=by by_cases h:v.kind=eY t.f<;>simp[h]
  simp only[NY,de,ag,List.length_nil,g,ab,iq,cW,cH,af]
  refine (ft v).call ?_
  simp only[ae,aW,aA,ab,ek,bE,b6,Nat.zero_add,bF,kc0,aM]
  refine ⟨fun h0=>oi (t:=t) (v:=v) ?_,fun h0=>⟨fun h1=>oi (t:=t) (v:=v) ?_,fun h1=>⟨fun h5=>?_,fun h5=>?_⟩⟩⟩
  ·simp[dh,h0]
  ·simp[dh,h1]
  ·refine Hh.call ?_
   simp only[aZ,ab]
   refine oi (t:=t) (v:=v) ?_
   have:t.f<5:=by omega
   simp[dh,h0,h1,this]
  ·refine Hf.call ?_
   have h5':¬ t.f<5:=by omega
   simp only[ae,bz,ab,ek2,aM]
   have hb01:¬ (v.kind=0∨v.kind=1):=by omega
   have hh:eY t.f=if t.f=6∨t.f=8 then 7 else 6:=by simp[eY,h5']
   refine ⟨fun hk=>oi (t:=t) (v:=v) ?_,fun hk=>?_⟩
   ·rw[hh] at hk
    unfold dh
    rw[if_neg hb01,if_neg h5']
    cases v<;>simp only[T.kind] at hk ⊢<;>try rfl
    ·have h6:t.f=6∨t.f=8:=Classical.byContradiction fun h=>hk (by rw[if_neg h])
     have:t.f≠5∧t.f≠7:=by omega
     simp[this]
    ·have h6:¬ (t.f=6∨t.f=8):=fun h=>hk (by rw[if_pos h])
     have:t.f≠6∧t.f≠8:=by omega
     simp[this]
   ·have hk':v.kind=eY t.f:=Classical.byContradiction hk
    rw[hh] at hk'
    refine L9 _ _ ?_
    simp only[Gq,g,ab]
    refine (jx hv).call ?_
    simp only[bE,b6,Nat.zero_add,ab,bF,kc0]
    refine IZ _ _ _ _ ?_
    have e8:((t.f:Int)==8)=decide (t.f=8):=by by_cases h:t.f=8<;>simp[h];omega
    have e6:((t.f:Int)==6)=decide (t.f=6):=by by_cases h:t.f=6<;>simp[h];omega
    have e7:((t.f:Int)==7)=decide (t.f=7):=by by_cases h:t.f=7<;>simp[h];omega
    simp only[CN,ae,aW,ab,e8,e6,e7,aM,g]
    have fin:∀ {b:Bool} {r:LV} {s:aa} {K:LV→LV→Prop},WrQ (d+1) b r→(∀ x y,Dp (WrQ (d+1) b) (.tup [x,y]) s→K x y)→bd (ai r 0) fun x=>bd (ai r 1) fun y=>K x y:=by
     intro b r s K hr hK
     obtain ⟨x,k,cs,rfl,rfl,h1,h2,h3,h4⟩:=hr
     simp only[aw,List.getElem?_cons_zero,List.getElem?_cons_succ,ab]
     have hp:(LV.tup [LV.isl cs k none,.bool b]).plain=true:=by simp only[LV.plain,LV.aB,h2];rfl
     exact hK _ _ ⟨_,bj _ hp,hp,_,k,cs,rfl,rfl,h1,h2,h3,h4⟩
    have ihx:∀ (x:KT) (y:T),x ∈ t.l→y ∈ v.items→Pb Tryz.prog 118 [kV x,vT y] (WrQ d (!dw x y)):=fun x y hx hy=>ih (by omega) (w7' x hx) (T.fq hv y hy)
    have hbig:t.l.length≤big:=by unfold big;omega
    have inn:∀ {cs:List LV} {b:Bool} {s:aa},(0<v.items.length→0<t.l.length)→v.items.length≤big→cs.length=v.items.length*2→LV.aB cs=true→cs.all LV.one=true→(b=false↔Bo t.l v.items)→∀ {R:LV→aa→Prop},(∀ r,WrQ (d+1) b r→R r s)→ax Tryz.prog 174 [.isl (kVs t.l) t.l.length none,vL v.items,.isl cs v.items.length none] s R:=by
     intro cs b s p1 p2 p3 p4 p5 p6 R hR
     exact (HA (by omega) p1 hbig p2 p3 p4 p5 (fun i x y h1 h2=>ihx x y (List.mem_of_getElem? h1) (List.mem_of_getElem? h2)) p6).call hR
    have one13:∀ {b:Bool} {s:aa},(0<v.items.length→0<t.l.length)→v.items.length≤big→(b=false↔Bo t.l v.items)→qK (kV t) (vL v.items) (Dp (WrQ (d+1) b)) s:=by
     intro b s p1 p2 p3
     refine I0 _ _ ?_
     simp only[CO,bE,b6,Nat.zero_add,ab,bF,kc1,bn]
     refine (Ev p2).call fun r hr=>?_
     obtain ⟨cs,rfl,q1,q2,q3⟩:=hr
     refine ⟨by trivial,inn p1 p2 q1 q2 q3 p3 fun r hr=>?_⟩
     exact fin hr fun x y h=>I4 _ _ h
    have tk:∀ {b:Bool},dh t.f (dA t.l) t.ns t.ls v=b→∀ {P:Bool→Prop},P (!b)→P (!dh t.f (dA t.l) t.ns t.ls v):=fun e _ h=>by rw[e];exact h
    have inb:∀ {b:Bool},(b=true↔Bo t.l v.items)→((!b)=false↔Bo t.l v.items):=fun {b} h=>by rw[← h];cases b<;>simp
    refine ⟨fun h8=>?_,fun h8=>⟨fun h6=>?_,fun h6=>⟨fun h7=>?_,fun h7=>?_⟩⟩⟩
    ·rw[if_pos (by omega)] at hk'
     cases v<;>simp only[T.kind] at hk'<;>try omega
     rename_i es
     have ⟨l1,l2⟩:=w5 (by omega)
     refine (HB (d:=d) (by omega) hv (by omega) l1 (by omega) fun i x hx e he=>ihx x e.2 (List.mem_of_getElem? hx) (List.mem_map.2 ⟨e,he,rfl⟩)).call fun r hr=>?_
     have e:dh t.f (dA t.l) t.ns t.ls (.map es)=(es.all (uz t)&&(missing t.ns t.ls es).isEmpty):=by
      have h86:t.f≠6:=by omega
      have h88:t.f=8:=by omega
      unfold dh
      rw[if_neg hb01,if_neg h5']
      show (if t.f=6 then _ else if t.f=8 then _ else _)=_
      rw[if_neg h86,if_pos h88]
      congr 1
      exact congrArg es.all (funext fun e=>(HD l1).symm)
     rw[e]
     exact fin hr fun x y h=>h
    ·rw[if_pos (by omega)] at hk'
     cases v<;>simp only[T.kind] at hk'<;>try omega
     rename_i es
     have hlen:(es.map (·.1)).length=(T.map es).items.length:=by simp[T.items]
     have hbe:es.length≤big:=by simp only[T.ok] at hv;exact hv.1
     have e:dh t.f (dA t.l) t.ns t.ls (.map es)=((T.map es).items.all ((dA t.l).getD 0 fun _=>false)):=by
      unfold dh
      rw[if_neg hb01,if_neg h5']
      show (if t.f=6 then _ else _)=_
      rw[if_pos (by omega)]
      simp only[T.items,List.all_map]
      rfl
     rw[e]
     simp only[bE,b6,Nat.zero_add,ab,bF,kc1]
     refine (lQ hv).call ⟨by trivial,?_⟩
     refine (Jr (ks:=es.map (·.1)) (by simpa using hbe)).call fun r hr=>?_
     obtain ⟨cs,rfl,q1,q2,q3⟩:=hr
     rw[hlen] at q1
     refine ⟨by trivial,?_⟩
     rw[hlen]
     refine inn (fun _=>by have:=w3 (by omega);omega) (by rw[← hlen];simpa using hbe) q1 q2 q3 (inb (HC (w3 (by omega)))) fun r hr=>?_
     exact fin hr fun x y h=>I2 _ _ h
    ·rw[if_neg (by omega)] at hk'
     cases v<;>simp only[T.kind] at hk'<;>try omega
     rename_i vs
     have hbe:vs.length≤big:=by simp only[T.ok] at hv;exact hv.1
     have e:dh t.f (dA t.l) t.ns t.ls (.list vs)=(decide (vs.length=t.l.length)&&pr (dA t.l) vs):=by
      unfold dh
      rw[if_neg hb01,if_neg h5']
      show (if t.f=5 then _ else if t.f=7 then _ else _)=_
      rw[if_neg (by omega),if_pos (by omega),py,List.length_map]
     rw[e]
     have e9:(((T.list vs).items.length:Int) != (t.l.length:Int))=decide (vs.length≠t.l.length):=by
      show ((vs.length:Int) != _)=_
      by_cases h:vs.length=t.l.length
      ·simp[h]
      ·have:¬ (vs.length:Int)=t.l.length:=by omega
       simp[h,bne,this]
     simp only[bn,bE,b6,Nat.zero_add,ab,bF,kc1,bz,ae,e9,aM]
     refine ⟨fun hn=>oi (t:=t) (v:=.list vs) ?_,fun hn=>?_⟩
     ·rw[decide_eq_false hn];rfl
     ·have hn':t.l.length=vs.length:=by omega
      refine one13 (fun h=>by rw[hn'];exact h) hbe (inb ?_)
      rw[decide_eq_true hn'.symm,Bool.true_and,uA hn']
      show _↔∀ (i:Nat) (x:KT) (y:T),t.l[min i (t.l.length-1)]?=some x→vs[i]?=some y→dw x y=true
      constructor
      ·intro h i x y h1 h2
       have:=(List.getElem?_eq_some_iff.1 h2).1
       rw[Nat.min_eq_left (by omega)] at h1
       exact h i x y h1 h2
      ·intro h i x y h1 h2
       have:=(List.getElem?_eq_some_iff.1 h2).1
       refine h i x y ?_ h2
       rw[Nat.min_eq_left (by omega)];exact h1
    ·rw[if_neg (by omega)] at hk'
     cases v<;>simp only[T.kind] at hk'<;>try omega
     rename_i vs
     have hbe:vs.length≤big:=by simp only[T.ok] at hv;exact hv.1
     have h55:t.f=5:=by omega
     have e:dh t.f (dA t.l) t.ns t.ls (.list vs)=vs.all ((dA t.l).getD 0 fun _=>false):=by
      unfold dh
      rw[if_neg hb01,if_neg h5']
      show (if t.f=5 then _ else _)=_
      rw[if_pos h55]
     rw[e]
     exact one13 (fun _=>by have:=w3 (by omega);omega) hbe (inb (HC (w3 (by omega))))
theorem HF {d:Nat} (hd:d≤1000) {t:KT} {v:T} (hw:t.wf d) (hv:v.ok):Pu Tryz.prog 53 [kV t,vT v] (.bool (dw t v)):=by
 refine Pu.of (c53 _ _ ?_) jB rfl
 have g:ldA ([]++[aq.cells .rw [lvT v]]) (.ptr 0 0) 1=some (vT v):=rfl
 simp only[w53,de,ag,List.length_nil,g,ab]
 refine (HE hd hw hv).call fun r hr=>?_
 obtain ⟨x,k,cs,rfl,rfl,-⟩:=hr
 simp only[aw,List.getElem?_cons_zero,List.getElem?_cons_succ,ab,aZ,Bool.not_not]
 exact bj _ rfl
end
def wJ (k:Tx):List AT→Nat→Option Nat
 | [],_=>none
 | a::l,j=>if a.nm=k then some j else wJ k l (j+1)
theorem uB {k:Tx}:∀ {l:List AT} {j:Nat},match wJ k l j with
  | none=>iy k l=none
  | some i=>j≤i∧l[i-j]?=iy k l∧(iy k l).isSome=true
 | [],_=>rfl
 | a::l,j=>by
  unfold wJ iy
  by_cases h:a.nm=k
  ·simp[h]
  ·simp only[h,if_false]
   have:=uB (k:=k) (l:=l) (j:=j+1)
   cases hx:wJ k l (j+1) with
   | none=>rw[hx] at this;exact this
   | some i=>
    rw[hx] at this
    obtain ⟨h1,h2,h3⟩:=this
    refine ⟨by omega,?_,h3⟩
    have e:i-j=(i-(j+1))+1:=by omega
    rw[e,List.getElem?_cons_succ]
    exact h2
theorem De {k:Tx}:∀ {l:List AT} {j:Nat},dC (.str k) ((l.map fun a=>LV.str a.nm).zip (qz j l))=some ((wJ k l j).map fun i=>i64 (i:Nat))
 | [],_=>rfl
 | a::l,j=>by
  simp only[List.map_cons,qz,List.zip_cons_cons,dC,uv,wJ]
  by_cases h:a.nm=k
  ·simp[h]
  ·have h':(k==a.nm)=false:=by simpa using Ne.symm h
   rw[h',if_neg h]
   exact De
theorem y7:∀ {l:List AT} {j:Nat},(qz j l).length=l.length
 | [],_=>rfl
 | _::l,j=>by simp[qz,y7]
section
variable {st st':aa} {R:LV→aa→Prop}
theorem Mw {s:ST} (hs:s.ok) {k:Tx}:q6 st true (some (.int .i64 0)) (.imap (s.l.map fun a=>.str a.nm) (qz 0 s.l)) (.str k) true=some (match wJ k s.l 0 with
  | some i=>.tup [i64 i,.bool true]
  | none=>.tup [i64 0,.bool false]):=by
 have hk:(cK (s.l.map fun a=>LV.str a.nm) []).isSome=true:=by
  have:=gv (ss:=s.l.map (·.nm)) (seen:=[]) (cJ hs.rise) (by simp)
  rw[List.map_map] at this
  simp only[Function.comp_def] at this
  rw[this];rfl
 show tG _ _ _ _ _ _=_
 unfold tG
 rw[if_pos ⟨rfl,rfl,hk,by simp[y7]⟩,De]
 cases wJ k s.l 0<;>rfl
theorem y8 {s:ST}:ld1 st (.iptr (sC s) 1)=some (.isl (atC s.l) s.l.length none):=rfl
theorem Oh {s:ST}:ld1 st (.iptr (sC s) 2)=some (.imap (s.l.map fun a=>.str a.nm) (qz 0 s.l)):=rfl
theorem iX {l:List AT} {i:Nat} {a:AT} (h:l[i]?=some a):ldA st (.iptr (atC l) (i*6)) 6=some (aV a):=by
 have hlt:=(List.getElem?_eq_some_iff.1 h).1
 rw[gq (by rw[Dc];omega)]
 unfold atC
 rw[pE (r:=iW a) (by rw[List.getElem?_map,h];rfl)]
 rfl
theorem Mx {s:ST} (hs:s.ok) (k:Tx):Pu Tryz.prog 39 [sV s,.str k] (match iy k s.l with
  | some a=>.tup [aV a,.bool true]
  | none=>.tup [.agg (aX [] .nilp false false false false),.bool false]):=by
 refine Pu.of (c39 _ _ ?_) (by simp only[LV.aB,et];rfl) (by split<;>simp[LV.plain,LV.aB,ly])
 have zag:aL (ao (ay [(0,1),(1,1),(2,1),(3,1),(4,1),(5,1)]) [LV.str [],LV.nilp,LV.bool false,LV.bool false,LV.bool false,LV.bool false] [])=some (.agg (aX [] .nilp false false false false)):=rfl
 have hx:=uB (k:=k) (l:=s.l) (j:=0)
 simp only[w39,bQ,List.nil_append,List.length_nil,sV,iq,cW,cH,ab,af,bE,b6,Nat.zero_add,Oh,Mw hs]
 cases hi:wJ k s.l 0 with
 | none=>
  rw[hi] at hx
  rw[show iy k s.l=none from hx]
  simp only[aw,List.getElem?_cons_zero,List.getElem?_cons_succ,ab,aZ,Bool.not_false,ah,zag]
  rw[sY (l:=aX [] .nilp false false false false) rfl rfl rfl rfl]
  simp only[az,ag]
  rw[ld6 (l:=aX [] .nilp false false false false) rfl rfl,ab]
  exact bj (v:=.tup [.agg _,.bool false]) _ rfl
 | some i=>
  rw[hi] at hx
  obtain ⟨_,h2,h3⟩:=hx
  rw[Nat.sub_zero] at h2
  obtain ⟨a,ha⟩:=Option.isSome_iff_exists.1 h3
  rw[ha] at h2 ⊢
  have hlt:=(List.getElem?_eq_some_iff.1 h2).1
  have e1:aR 6 (.isl (atC s.l) s.l.length none) (i64 i)=some (.iptr (atC s.l) (i*6)):=bW hlt
  simp only[aw,List.getElem?_cons_zero,List.getElem?_cons_succ,ab,aZ,Bool.not_true,af,y8,e1,iX h2]
  rw[sY (l:=aX [] .nilp false false false false) rfl rfl rfl sW]
  simp only[az,ag]
  rw[ld6 (l:=aC a) rfl rfl,ab]
  exact bj (v:=.tup [aV a,.bool true]) _ (by simp only[LV.plain,LV.aB,ly];rfl)
end
section
variable {st st':aa} {R:LV→aa→Prop}
theorem Bs {s:ST} (hs:s.ok) {es:List (Tx × T)} (hv:(T.map es).ok) (hR:∀ st,R (.tup [.str (jf s.l es).1,i64 (jf s.l es).2]) st) :
  ∀ (d i:Nat) (st:aa),i+d=es.length→jf s.l es=jf s.l (es.drop i)→vK (sV s) (vL (es.map (·.2))) (sL (es.map (·.1))) (i64 es.length) (i64 i) R st:=by
 have hbe:es.length≤big:=by simp only[T.ok] at hv;exact hv.1
 intro d
 induction d with
 | zero=>
  intro i st hi hw
  refine Gf _ _ _ _ _ ?_
  have c1:¬ ((i:Int)<es.length):=by omega
  simp only[Ay,ae,aA,ab,c1,decide_false,af]
  rw[List.drop_eq_nil_of_le (by omega)] at hw
  rw[hw] at hR
  exact hR st
 | succ d ih=>
  intro i st hi hw
  refine Gf _ _ _ _ _ ?_
  have hlt:i<es.length:=by omega
  have c1:((i:Int)<es.length):=by omega
  have e1:aR 1 (sL (es.map (·.1))) (i64 i)=some (.iptr ((es.map (·.1)).map .str) (i*1)):=bW (by simpa using hlt)
  have hg:((es.map (·.1)).map LV.str)[i*1]?=some (.str es[i].1):=by simp[hlt]
  have e2:aR 1 (vL (es.map (·.2))) (i64 i)=some (.iptr (eF (es.map (·.2))) (i*1)):=bW (by simpa using hlt)
  have g:∀ s:aa,ldA s (.iptr (eF (es.map (·.2))) (i*1)) 1=some (vT es[i].2):=fun s=>by
   rw[gq (by rw[eL];simp;omega),Nat.mul_one,eL,List.map_map,← List.map_drop,List.drop_eq_getElem_cons hlt];rfl
  have hm:es[i] ∈ es:=List.getElem_mem hlt
  have hdr:es.drop i=es[i]::es.drop (i+1):=List.drop_eq_getElem_cons hlt
  generalize es[i]=e at hg g hm hdr
  rw[hdr,jf] at hw
  have hey:e.2.ok:=T.fq hv e.2 (List.mem_map.2 ⟨e,hm,rfl⟩)
  have put:∀ cs:List LV,cs.length=6→cs.all LV.one=true→stV (st++[aq.cells .rw [LV.str [],LV.nilp,LV.bool false,LV.bool false,LV.bool false,LV.bool false]]) 6 (.ptr st.length 0) (.agg cs)=some (st++[.cells .rw cs]):=fun cs h1 h2=>by
   rw[sY au rfl h1 h2];simp
  simp only[Ay,ae,aA,ab,c1,decide_true,ah,e1,bF,hg]
  have hf39:=Mx hs e.1
  cases hf:iy e.1 s.l with
  | none=>
   rw[hf] at hf39
   rw[hf] at hw
   refine hf39.call ?_
   simp only[aw,List.getElem?_cons_zero,List.getElem?_cons_succ,ab,bQ,put (aX [] .nilp false false false false) rfl rfl,az,ag,aZ,Bool.not_false,ah]
   rw[hw] at hR
   exact hR _
  | some a=>
   rw[hf] at hf39
   rw[hf] at hw
   refine hf39.call ?_
   have ham:=pA hf
   have g1:ld1 (st++[aq.cells .rw (aC a)]) (.ptr st.length 1)=some (kV a.ty):=aU au
   simp only[aw,List.getElem?_cons_zero,List.getElem?_cons_succ,ab,bQ,put (aC a) rfl rfl,az,ag,aZ,Bool.not_true,af,av,Nat.zero_add,g1,e2,g]
   refine (HF (d:=8) (by omega) (hs.ty a ham.1) hey).call ?_
   simp only[aZ,ab]
   simp only at hw
   cases htk:dw a.ty e.2 with
   | true=>
    rw[htk,if_pos rfl] at hw
    simp only[Bool.not_true,af,aH,ab,aI (show i<2 ^ 40 by unfold big at hbe;omega)]
    exact ih (i+1) _ (by omega) hw
   | false=>
    rw[htk,if_neg (by simp)] at hw
    simp only[Bool.not_false,ah]
    rw[hw] at hR
    exact hR _
theorem y9 {s:ST} (hs:s.ok) {v:T} (hv:v.ok):Pu Tryz.prog 110 [sV s,vT v] (.tup [.str (dd s.l v).1,i64 (dd s.l v).2]):=by
 refine Pu.of (NP _ _ ?_) (by simp only[LV.aB,et,bO];rfl) rfl
 have g:ldA ([]++[aq.cells .rw [lvT v]]) (.ptr 0 0) 1=some (vT v):=rfl
 have ep:dW true (sV s) .nilp=some false:=rfl
 simp only[L6,de,ag,List.length_nil,ep,cW,cH,ab,af,g]
 refine (ft v).call ?_
 have ek:(v.kind != 7)=decide (v.kind≠7):=by by_cases h:v.kind=7<;>simp[h]
 simp only[ae,bz,ek,ab,aM]
 refine ⟨fun h=>?_,fun h=>?_⟩
 ·have:dd s.l v=([],6):=by cases v<;>first|rfl|exact absurd rfl h
  rw[this];exact bj (v:=.tup [.str [],i64 6]) _ rfl
 ·have:v.kind=7:=Classical.byContradiction h
  cases v<;>simp only[T.kind] at this<;>try omega
  rename_i es
  simp only[g,ab]
  refine (jx hv).call ?_
  simp only[g,ab]
  refine (lQ hv).call ?_
  have hk:(T.map es).keys=es.map (·.1):=rfl
  have hi:(T.map es).items=es.map (·.2):=rfl
  rw[hk,hi]
  simp only[bn,ab,List.length_map]
  have:=Bs hs hv (R:=fun r s'=>dp s' (.tup [.str (dd s.l (.map es)).1,i64 (dd s.l (.map es)).2]) r) (fun st=>bj (v:=.tup [.str _,i64 _]) _ rfl) es.length 0 ([]++[aq.cells .rw [lvT (.map es)]]) (by omega) rfl
  simpa using this
end
end Go.Proofs.YtknegckgmklnhaaGreatDoor
