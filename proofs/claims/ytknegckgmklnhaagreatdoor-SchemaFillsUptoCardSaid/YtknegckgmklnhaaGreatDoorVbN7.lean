/- What schema.Parse answers. -/
import Derived.Test.YtknegckgmklnhaaGreatDoorVbN3
import Derived.Test.YtknegckgmklnhaaGreatDoorVbZ
import Derived.Test.YtknegckgmklnhaaGreatDoorVbF
namespace Go.Proofs.YtknegckgmklnhaaGreatDoor
open Go Go.CP
set_option maxRecDepth 100000
section
variable {st st':aa} {R:LV→aa→Prop}
theorem FX {n0:Nat} {v:Int} {l:List AT} {B:Nat} {f:Option Nat} {M:Nat} (h:Sch st n0 v l B f M):dp (eL n0 st) (sV ⟨v,l⟩) (.ptr B 0):=by
 refine .inl ⟨B,.rw,[i64 v,osl f 6 l.length,.map M],rfl,by rw[fE h.nb];exact h.b,rfl,Nat.le_refl _,?_⟩
 refine ⟨_,_,rfl,rfl,_,_,rfl,dM (h.o.eL h.nf) rfl (bz _ ox),_,_,rfl,?_,rfl⟩
 refine .inl ⟨M,.rw,_,_,_,_,rfl,by rw[fE h.nm];exact h.m,rfl,List.Perm.refl _,?_,wg,?_⟩
 ·have:=fV (ss:=l.map (·.nm)) (seen:=[]) (cQ h.pw) (by simp)
  rw[List.map_map] at this
  show (cC (l.map fun a=>.str a.nm) []).isSome=true
  rw[show (l.map fun a=>LV.str a.nm)=l.map (LV.str ∘ fun x=>x.nm) from rfl,this]
  rfl
 ·rw[wh]
  exact bz _ mh
theorem wm (g:GlS st) {s:Tx} (hs:s.length≤2 ^ 20) (h1:∀ S,ez s=.inl S→R (.tup [sV S,i64 0,i64 0]) st) (h2:∀ n e,ez s=.inr (n,e)→R (.tup [.nilp,i64 n,i64 e]) st) :
  aw Tryz.prog 21 [.str s] st R:=by
 refine aw.Bq ?_
 refine c21 _ ?_
 have bad:∀ n e,ez s=.inr (n,e)→∀ st2,Fr st st2 (fun _=>False)→∃ v,Fr st st2 (fun _=>False)∧dp (eL st.length st2) v (.tup [.nilp,i64 n,i64 e])∧v.plain=true∧R v st:=fun n e h st2 hf=>⟨_,hf,bp _ rfl,rfl,h2 n e h⟩
 have hl:¬ ((s.length:Int) > 1048576):=by omega
 simp only[w21,aU,ab,ae,cy,hl,decide_false,af]
 refine (EM s (by omega)).call ?_
 match hsp:splitB 10 s with
 | []=>exact absurd hsp cr
 | [p]=>
  have hps:=nr hsp
  subst hps
  have he:ez p=.inr (1,4):=by unfold ez;rw[hsp]
  rw[wj hsp]
  simp only[ax,List.getElem?_cons_zero,List.getElem?_cons_succ,ab]
  refine sx g (by omega) (fun n _=>?_) fun _ n=>?_
  all_goals
   simp only[ax,List.getElem?_cons_zero,List.getElem?_cons_succ,ab,bx,Bool.not_false,ai]
   exact bad 1 4 he _ Fr.refl
 | p::q::r=>
  have hnx:=mi hsp
  have hpl:=gD p (by rw[hsp];simp)
  have hcl:=dS (c:=10) (s:=s)
  have hcc:s.count 10≤s.length:=List.count_le_length
  rw[hsp] at hcl
  have he:ez s=match uc p with
   | none=>.inr (1,4)
   | some v=>if v<0∨1000<v then .inr (1,2) else match cT [] 2 (q::r) with
    | .inl l=>.inl ⟨v,l⟩
    | .inr e=>.inr e:=by unfold ez;rw[hsp];rfl
  rw[wi hsp]
  simp only[ax,List.getElem?_cons_zero,List.getElem?_cons_succ,ab]
  refine sx g (by omega) (fun v hv=>?_) fun hv n=>?_
  ·rw[hv] at he
   simp only at he
   simp only[ax,List.getElem?_cons_zero,List.getElem?_cons_succ,ab,bx,Bool.not_true,af]
   refine sw (v:=v) (l:=[]) (f:=none) (fun _ h=>by simp at h) (by simp) bD.nil (.inr rfl) (fun e st3 hne hme hfr=>?_) fun st3 B M f hme hfr hB hM hf hne g1 g2 g3 g4=>?_
   ·simp only[ax,List.getElem?_cons_zero,List.getElem?_cons_succ,ab]
    have hme':v<0∨1000<v:=by
     refine Classical.byContradiction fun h=>hne ?_
     rw[← hme]
     unfold mkW
     rw[if_neg h];rfl
    have e2:e=2:=by rw[← hme];unfold mkW;rw[if_pos hme']
    subst e2
    rw[if_pos hme'] at he
    refine p21_10 _ _ _ _ _ ?_
    have q1:((2:Int)==0)=false:=rfl
    have q2:((2:Int) != 0)=true:=rfl
    simp only[w21_10,ae,aR,bE,q1,q2,ab,af,ai]
    exact bad 1 2 he _ hfr
   ·have hv0:¬ (v<0∨1000<v):=by
     intro h
     unfold mkW at hme
     rw[if_pos h] at hme
     omega
    rw[if_neg hv0] at he
    simp only[ax,List.getElem?_cons_zero,List.getElem?_cons_succ,ab]
    refine xY (st0:=st) hv0 (cT [] 2 (q::r)) (fun l B' f' M' st4 hres hfr4 hS4=>?_) (fun n e st4 hres hfr4=>?_) (q::r).length (q::r) (s.drop (p.length+1)) [] 2 B f M st3 (Nat.le_refl _) hnx (by simp;omega) (by simp at hcl ⊢;omega) (by simp) rfl (by simp) rfl hfr ⟨?_,?_,?_,hB,hM,hf,?_,?_⟩
    ·rw[hres] at he
     exact ⟨.tup [sV ⟨v,l⟩,i64 0,i64 0],hfr4,⟨_,rfl,_,_,rfl,FX hS4,_,_,rfl,rfl,_,_,rfl,rfl,rfl⟩,by simp only[LV.plain,LV.aB,kE];rfl,h1 _ he⟩
    ·rw[hres] at he
     exact bad n e he _ hfr4
    ·exact g1
    ·exact g2
    ·exact g3
    ·exact hne
    ·exact g4
  ·rw[hv] at he
   simp only[ax,List.getElem?_cons_zero,List.getElem?_cons_succ,ab,bx,Bool.not_true,Bool.not_false,af,ai]
   exact bad 1 4 he _ Fr.refl
end
section
variable {st st':aa} {R:LV→aa→Prop}
theorem zk {a b x y:LV} (h1:dp st a x) (h2:dp st b y):dp st (.tup [a,b]) (.tup [x,y]):=⟨_,rfl,_,_,rfl,h1,_,_,rfl,h2,rfl⟩
theorem xZ {x y:LV} {d:Nat} {b:Bool} (hx:LV.aB [x,y]=true) (h1:[x,y].all LV.one=true) :
  Dp (WrQ (d+1) b) (.tup [.sl st.length 0 1 (.ex 1),.bool b]) (st++[.cells .rw [x,y]]):=
 ⟨.tup [.isl [x,y] 1 none,.bool b],zk (.inl ⟨_,_,_,.rw,[x,y],rfl,au,rfl,by simp,bz _ hx⟩) rfl,by simpa[LV.plain,LV.aB] using hx,_,1,[x,y],rfl,rfl,rfl,hx,h1,by omega⟩
theorem Cz {x y:LV} {cs:List LV} {k d:Nat} (hx:LV.aB [x,y]=true) (h1:[x,y].all LV.one=true) (hc:cs.length=k*2) (hp:LV.aB cs=true) (ho:cs.all LV.one=true) (hk:k≤d) (hd:d≤1000) {b:Bool} :
  bd2 (ak (st++[.cells .rw [x,y]]) 2 24 .rw (.sl st.length 0 1 (.ex 1)) (.isl cs k none)) fun v st2=>Dp (WrQ (d+1) b) (.tup [v,.bool b]) st2:=by
 have hs:=vk (st:=st++[.cells .rw [x,y]]) (c:=none) hc
 by_cases hk0:k=0
 ·subst hk0
  simp only[ak,hs,if_true,ag]
  exact xZ hx h1
 ·have c1:¬ (1+k≤1):=by omega
  have hr:ee (1+k) 24=true:=cS (by omega) (by omega)
  have e:ak (st++[.cells .rw [x,y]]) 2 24 .rw (.sl st.length 0 1 (.ex 1)) (.isl cs k none)=some (.sl (st++[av.cells .rw [x,y]]).length 0 (1+k) (.rest 2),(st++[.cells .rw [x,y]])++[.cells .rw ([x,y]++cs)]):=by
   simp[ak,hs,hk0,c1,hr]
  rw[e,ag]
  have hpl:LV.aB ([x,y]++cs)=true:=by rw[cP,hx,hp];rfl
  refine ⟨.tup [.isl ([x,y]++cs) (1+k) none,.bool b],zk (.inl ⟨_,_,_,.rw,[x,y]++cs,rfl,au,rfl,by simp,?_⟩) rfl,by simp only[LV.plain,LV.aB,hpl];rfl,_,1+k,_,rfl,rfl,by simp[hc];omega,hpl,by rw[List.all_append,h1,ho];rfl,by omega⟩
  rw[List.drop_zero,List.take_length]
  exact bz _ hpl
def ya (ts:List KT) (vs:List T):Prop:=∀ (i:Nat) (t:KT) (v:T),ts[min i (ts.length-1)]?=some t→vs[i]?=some v→da t v=true
theorem AD {a b:Nat}:jC [i64 a,i64 b]=some (i64 (min a b:Nat)):=by
 simp only[jC,mn,uu]
 rcases Nat.lt_or_ge b a with h|h
 ·rw[Nat.min_eq_right (by omega)]
  have:(b:Int)<a:=by omega
  simp[this]
 ·rw[Nat.min_eq_left h]
  have:¬ (b:Int)<a:=by omega
  simp[this]
theorem yb {d:Nat} (hd:d≤1000) {ts:List KT} {vs:List T} {cs:List LV} (ht:0<vs.length→0<ts.length) (htb:ts.length≤big) (hb:vs.length≤big) (hc:cs.length=vs.length*2) (hp:LV.aB cs=true) (h1:cs.all LV.one=true)
  (ih:∀ (i:Nat) (t:KT) (v:T),ts[min i (ts.length-1)]?=some t→vs[i]?=some v→Pb Tryz.prog 118 [kV t,vT v] (WrQ d (!da t v))) {b:Bool} (hbb:b=false↔ya ts vs) :
  ∀ (k i:Nat) (st:aa),i+k=vs.length→(∀ (j:Nat) (t:KT) (v:T),j<i→ts[min j (ts.length-1)]?=some t→vs[j]?=some v→da t v=true)→P174_3 (.isl (kVs ts) ts.length none) (.isl cs vs.length none) (vL vs) (i64 vs.length) (i64 i) (Dp (WrQ (d+1) b)) st:=by
 intro k
 induction k with
 | zero=>
  intro i st hi hh
  refine p174_3 _ _ _ _ _ ?_
  have c1:¬ ((i:Int)<vs.length):=by omega
  have e:b=false:=hbb.2 fun j t v h2 h3=>hh j t v (by have:=(List.getElem?_eq_some_iff.1 h3).1;omega) h2 h3
  subst e
  simp only[w174_3,ae,aA,ab,c1,decide_false,af]
  exact xQ
 | succ k ihk=>
  intro i st hi hh
  refine p174_3 _ _ _ _ _ ?_
  have hlt:i<vs.length:=by omega
  have c1:((i:Int)<vs.length):=by omega
  have e1:aW 1 (vL vs) (i64 i)=some (.iptr (eM vs) (i*1)):=ca hlt
  have hv:vs[i]?=some vs[i]:=List.getElem?_eq_getElem hlt
  have hlv:(eM vs).length=vs.length:=by rw[ew];simp
  have g:∀ s:aa,ldA s (.iptr (eM vs) (i*1)) 1=some (vT vs[i]):=fun s=>by
   rw[fS (by omega),Nat.mul_one,ew,← List.map_drop,List.drop_eq_getElem_cons hlt];rfl
  have ht:=ht (by omega)
  have hm:min i (ts.length-1)<ts.length:=by omega
  have htm:ts[min i (ts.length-1)]?=some ts[min i (ts.length-1)]:=List.getElem?_eq_getElem hm
  have e2:aW 1 (.isl (kVs ts) ts.length none) (i64 (min i (ts.length-1):Nat))=some (.iptr (kVs ts) (min i (ts.length-1)*1)):=ca hm
  have hw:IntKind.i64.wrap ((ts.length:Int)-1)=((ts.length-1:Nat):Int):=by rw[wrap_i64 (by omega) (by unfold big at htb;omega)];omega
  have hk:(kVs ts)[min i (ts.length-1)*1]?=some (kV ts[min i (ts.length-1)]):=by rw[Nat.mul_one,tY,htm];rfl
  generalize ts[min i (ts.length-1)]=t at htm hk
  generalize vs[i]=v at hv g
  have gb:∀ {s:aa},ldA (s++[av.cells .rw [lvT v]]) (.ptr s.length 0) 1=some (vT v):=fun {s}=>by rw[cA au (by simp)];rfl
  simp only[w174_3,ae,aA,ab,c1,decide_true,ai,e1,g,bV,cU,ay,ag,bh,cO,hw,AD,e2,bB,hk,gb]
  refine (ih i t v htm hv).call fun r hr=>?_
  obtain ⟨x,n,ds,rfl,rfl,hn,hpd,h1d,hnd⟩:=hr
  simp only[ax,List.getElem?_cons_zero,List.getElem?_cons_succ,ab]
  refine p174_7 _ _ _ _ _ _ _ _ ?_
  cases htk:da t v with
  | true=>
   simp only[w174_7,Bool.not_true,af,ae,aH,ab,aI (show i<2 ^ 40 by unfold big at hb;omega)]
   refine ihk (i+1) _ (by omega) fun j t' v' hj h2 h3=>?_
   rcases Nat.lt_or_ge j i with h|h
   ·exact hh j t' v' h h2 h3
   ·have:j=i:=by omega
    subst this
    rw[htm] at h2;rw[hv] at h3
    cases h2;cases h3
    exact htk
  | false=>
   have e:b=true:=by
    cases b with
    | true=>rfl
    | false=>have:=hbb.1 rfl i t v htm hv;rw[htk] at this;cases this
   subst e
   have e3:aW 2 (.isl cs vs.length none) (i64 i)=some (.iptr cs (i*2)):=ca hlt
   have hd2:(cs.drop (i*2)).take 2=[cs[i*2]'(by omega),cs[i*2+1]'(by omega)]:=by
    rw[List.drop_eq_getElem_cons (by omega),List.drop_eq_getElem_cons (by omega)];rfl
   have p1:=lW hp _ (List.getElem_mem (show i*2<cs.length by omega))
   have p2:=lW hp _ (List.getElem_mem (show i*2+1<cs.length by omega))
   have o1:=List.all_eq_true.1 h1 _ (List.getElem_mem (show i*2<cs.length by omega))
   have o2:=List.all_eq_true.1 h1 _ (List.getElem_mem (show i*2+1<cs.length by omega))
   generalize cs[i*2]'(by omega)=y1 at hd2 p1 o1
   generalize cs[i*2+1]'(by omega)=y2 at hd2 p2 o2
   have ef:ao (fun i=>some (i*2,2)) (List.replicate 1 [LV.str [],i64 0]).flatten [(0,.agg [y1,y2])]=some [y1,y2]:=rfl
   have g2:∀ s:aa,ldA s (.iptr cs (i*2)) 2=some (.agg [y1,y2]):=fun s=>by rw[fS (by omega),hd2]
   simp only[w174_7,Bool.not_false,ai,e3,ab,g2,ef,bw,ag]
   exact Cz (by simp[LV.aB,p1,p2]) (by simp[o1,o2]) hn hpd h1d hnd hd
theorem CA {d:Nat} (hd:d≤1000) {ts:List KT} {vs:List T} {cs:List LV} (ht:0<vs.length→0<ts.length) (htb:ts.length≤big) (hb:vs.length≤big) (hc:cs.length=vs.length*2) (hp:LV.aB cs=true) (h1:cs.all LV.one=true)
  (ih:∀ (i:Nat) (t:KT) (v:T),ts[min i (ts.length-1)]?=some t→vs[i]?=some v→Pb Tryz.prog 118 [kV t,vT v] (WrQ d (!da t v))) {b:Bool} (hbb:b=false↔ya ts vs) :
  Pb Tryz.prog 174 [.isl (kVs ts) ts.length none,vL vs,.isl cs vs.length none] (WrQ (d+1) b):=by
 refine Pb.of (c174 _ _ _ ?_) (by simp[LV.aB,LV.plain,oe,ft,hp])
 simp only[w174,bh,ab]
 exact yb hd ht htb hb hc hp h1 ih hbb vs.length 0 [] (by omega) fun _ _ _ h=>by omega
end
section
variable {st st':aa} {R:LV→aa→Prop}
def oy (t:KT) (k:Tx):Option KT:=(oi k t.ns 0).bind (t.l[·]?)
def sA (t:KT) (e:Tx × T):Bool:=match oy t e.1 with
 | some x=>da x e.2
 | none=>false
theorem yc {d:Nat} (hd:d≤1000) {t:KT} {es:List (Tx × T)} (hv:(T.map es).ok) (htb:t.ns.length≤big) (hl:t.ns.length=t.l.length) (hl2:t.ls.length=t.l.length)
  (ih:∀ (i:Nat) (x:KT),t.l[i]?=some x→∀ e ∈ es,Pb Tryz.prog 118 [kV x,vT e.2] (WrQ d (!da x e.2))) :
  ∀ (k i:Nat) (st:aa),i+k=es.length→st[0]?=some (.cells .rw [lvT (.map es)])→
   P173_4 (kV t) (.ptr 0 0) (vL (es.map (·.2))) (sL (es.map (·.1))) (i64 es.length) (i64 i) (LV.tup []) (LV.tup []) (LV.tup []) (Dp (WrQ (d+1) (!((es.drop i).all (sA t)&&(missing t.ns t.ls es).isEmpty)))) st:=by
 have hbe:es.length≤big:=by simp only[T.ok] at hv;exact hv.1
 intro k
 induction k with
 | zero=>
  intro i st hi h0
  refine p173_4 _ _ _ _ _ _ _ _ _ ?_
  have c1:¬ ((i:Int)<es.length):=by omega
  have g:ldA st (.ptr 0 0) 1=some (vT (.map es)):=by rw[cA h0 (by simp)];rfl
  simp only[w173_4,ae,aA,ab,c1,decide_false,af,g]
  refine (xP hv htb (by omega)).call ?_
  rw[List.drop_eq_nil_of_le (by omega)]
  have hml:=po (es:=es) (ns:=t.ns) (ls:=t.ls)
  generalize missing t.ns t.ls es=ms at hml
  simp only[bh,ab,List.all_nil,Bool.true_and]
  refine p173_17 _ _ _ _ _ _ _ _ _ ?_
  cases ms with
  | nil=>exact xQ
  | cons m ms=>
   have c2:((0:Int)<(m::ms).length):=by simp only[List.length_cons];omega
   have e1:aW 1 (sL (m::ms)) (.int .i64 0)=some (.iptr ((m::ms).map .str) (0*1)):=ca (i:=0) (by simp)
   have hg:((m::ms).map LV.str)[0*1]?=some (.str m):=rfl
   simp only[w173_17,ae,aA,ab,c2,decide_true,ai,e1,bB,hg]
   refine (tW _).call ?_
   have ef:ao (fun i=>some (i*2,2)) (List.replicate 1 [LV.str [],i64 0]).flatten [(0,.agg [.str m,i64 (-1)])]=some [.str m,i64 (-1)]:=rfl
   simp only[ef,bw,ag]
   exact xZ rfl rfl
 | succ k ihk=>
  intro i st hi h0
  refine p173_4 _ _ _ _ _ _ _ _ _ ?_
  have hlt:i<es.length:=by omega
  have c1:((i:Int)<es.length):=by omega
  have e1:aW 1 (sL (es.map (·.1))) (i64 i)=some (.iptr ((es.map (·.1)).map .str) (i*1)):=ca (by simpa using hlt)
  have hg:((es.map (·.1)).map LV.str)[i*1]?=some (.str es[i].1):=by simp[hlt]
  have e2:aW 1 (vL (es.map (·.2))) (i64 i)=some (.iptr (eM (es.map (·.2))) (i*1)):=ca (by simpa using hlt)
  have g:∀ s:aa,ldA s (.iptr (eM (es.map (·.2))) (i*1)) 1=some (vT es[i].2):=fun s=>by
   rw[fS (by rw[ew];simp;omega),Nat.mul_one,ew,List.map_map,← List.map_drop,List.drop_eq_getElem_cons hlt];rfl
  have hm:es[i] ∈ es:=List.getElem_mem hlt
  have hdr:es.drop i=es[i]::es.drop (i+1):=List.drop_eq_getElem_cons hlt
  generalize es[i]=e at hg g hm hdr
  simp only[w173_4,ae,aA,ab,c1,decide_true,ai,e1,bB,hg]
  have hfp:Pu Tryz.prog 213 [kV t,.str e.1] (match oy t e.1 with
   | some x=>.tup [kV x,.bool true]
   | none=>.tup [.nilp,.bool false]):=Cd htb hl
  refine hfp.call ?_
  rw[hdr,List.all_cons]
  have hf:sA t e=match oy t e.1 with|some x=>da x e.2|none=>false:=rfl
  rw[hf]
  cases hx:oy t e.1 with
  | none=>
   simp only[ax,List.getElem?_cons_zero,List.getElem?_cons_succ,ab,bx,Bool.not_false,ai]
   refine (tW _).call ?_
   have ef:ao (fun i=>some (i*2,2)) (List.replicate 1 [LV.str [],i64 0]).flatten [(0,.agg [.str e.1,i64 (-1)])]=some [.str e.1,i64 (-1)]:=rfl
   simp only[ef,bw,ag]
   exact xZ rfl rfl
  | some x=>
   have hxl:∃ j:Nat,t.l[j]?=some x:=by
    unfold oy at hx
    obtain ⟨j,_,h⟩:=Option.bind_eq_some_iff.1 hx
    exact ⟨j,h⟩
   obtain ⟨j,hj⟩:=hxl
   simp only[ax,List.getElem?_cons_zero,List.getElem?_cons_succ,ab,bx,Bool.not_true,af,e2,g]
   refine (ih j x hj e hm).call fun r hr=>?_
   obtain ⟨y,n,ds,rfl,rfl,hn,hpd,h1d,hnd⟩:=hr
   simp only[ax,List.getElem?_cons_zero,List.getElem?_cons_succ,ab]
   cases htk:da x e.2 with
   | true=>
    simp only[Bool.not_true,af,aH,ab,aI (show i<2 ^ 40 by unfold big at hbe;omega),Bool.true_and]
    exact ihk (i+1) st (by omega) h0
   | false=>
    simp only[Bool.not_false,ai,Bool.false_and]
    refine (tW _).call ?_
    have ef:ao (fun i=>some (i*2,2)) (List.replicate 1 [LV.str [],i64 0]).flatten [(0,.agg [.str e.1,i64 (-1)])]=some [.str e.1,i64 (-1)]:=rfl
    simp only[ef,bw,ag]
    exact Cz rfl rfl hn hpd h1d hnd hd
theorem CB {d:Nat} (hd:d≤1000) {t:KT} {es:List (Tx × T)} (hv:(T.map es).ok) (htb:t.ns.length≤big) (hl:t.ns.length=t.l.length) (hl2:t.ls.length=t.l.length)
  (ih:∀ (i:Nat) (x:KT),t.l[i]?=some x→∀ e ∈ es,Pb Tryz.prog 118 [kV x,vT e.2] (WrQ d (!da x e.2))) :
  Pb Tryz.prog 173 [kV t,vT (.map es)] (WrQ (d+1) (!(es.all (sA t)&&(missing t.ns t.ls es).isEmpty))):=by
 refine Pb.of (c173 _ _ ?_) ja
 have g:ldA ([]++[av.cells .rw [lvT (.map es)]]) (.ptr 0 0) 1=some (vT (.map es)):=rfl
 simp only[w173,jy,ag,List.length_nil,g,ab]
 refine (qS hv).call ?_
 simp only[g,ab]
 refine (mS hv).call ?_
 have hk:(T.map es).keys=es.map (·.1):=rfl
 have hi:(T.map es).items=es.map (·.2):=rfl
 rw[hk,hi]
 simp only[bh,ab,List.length_map]
 have:=yc hd hv htb hl hl2 ih es.length 0 ([]++[av.cells .rw [lvT (.map es)]]) (by omega) rfl
 simpa using this
end
section
variable {st st':aa} {R:LV→aa→Prop}
theorem nt {d:Nat} {t:KT} {v:T} {b b':Bool} {st:aa} (e:b'=b):Dp (WrQ d b) (.tup [.nils,.bool b']) st:=by subst e;exact xQ
theorem yd {l:List KT} {i:Nat}:(de l).getD i (fun _=>false)=match l[i]? with
  | some x=>da x
  | none=>fun _=>false:=by
 rw[oo,List.getD_eq_getElem?_getD,List.getElem?_map]
 cases l[i]?<;>rfl
theorem sB:∀ {ts:List KT} {vs:List T},ts.length=vs.length→(oh (de ts) vs=true↔∀ (i:Nat) (t:KT) (v:T),ts[i]?=some t→vs[i]?=some v→da t v=true)
 | [],[],_=>by simp[de,oh]
 | t::ts,v::vs,h=>by
  simp only[de,oh,Bool.and_eq_true]
  rw[sB (ts:=ts) (vs:=vs) (by simpa using h)]
  constructor
  ·rintro ⟨h1,h2⟩ i t' v' h3 h4
   cases i with
   | zero=>simp only[List.getElem?_cons_zero,Option.some.injEq] at h3 h4;subst h3;subst h4;exact h1
   | succ i=>simp only[List.getElem?_cons_succ] at h3 h4;exact h2 i t' v' h3 h4
  ·intro h
   exact ⟨h 0 t v rfl rfl,fun i t' v' h3 h4=>h (i+1) t' v' (by simpa using h3) (by simpa using h4)⟩
theorem CC {ts:List KT} {vs:List T} (h:ts.length=1):vs.all ((de ts).getD 0 fun _=>false)=true↔ya ts vs:=by
 match ts,h with
 | [t],_=>
  simp only[de,List.getD_cons_zero,List.all_eq_true]
  constructor
  ·intro k i t' v h1 h2
   simp only[List.length_singleton,Nat.sub_self,Nat.min_zero,List.getElem?_cons_zero,Option.some.injEq] at h1
   subst h1
   exact k v (List.mem_of_getElem? h2)
  ·intro k v hv
   obtain ⟨i,hi⟩:=List.getElem?_of_mem hv
   exact k i t v (by simp) hi
theorem CD {t:KT} (hl:t.ns.length=t.l.length) {e:Tx × T}:sA t e=match oi e.1 t.ns 0 with
  | some i=>((de t.l).getD i fun _=>false) e.2
  | none=>false:=by
 unfold sA oy
 cases h:oi e.1 t.ns 0 with
 | none=>rfl
 | some i=>
  obtain ⟨_,h2,_⟩:=tX h
  have hx:t.l[i]?=some (t.l[i]'(by omega)):=List.getElem?_eq_getElem (by omega)
  simp only[Option.bind_some,yd,hx]
theorem CE:∀ {d:Nat},d≤1000→∀ {t:KT} {v:T},t.wf d→v.ok→Pb Tryz.prog 118 [kV t,vT v] (WrQ d (!da t v)):=by
 intro d
 induction d with
 | zero=>intro _ t v h;cases t;simp only[KT.wf] at h
 | succ d ih=>
  intro hd t v hw hv
  refine Pb.of (c118 _ _ ?_) ja
  have e:da t v=cV t.f (de t.l) t.ns t.ls v:=by cases t;rfl
  rw[e]
  have hw':t.f≤8∧(t.f<5→t.l=[])∧(t.f=5∨t.f=6→t.l.length=1)∧(t.f<8→t.ns=[]∧t.ls=[])∧(t.f=8→t.ns.length=t.l.length∧t.ls.length=t.l.length)∧t.l.length≤16∧t.ns.Pairwise ltB∧(∀ n ∈ t.ns,named n=true)∧KT.wfs d t.l:=by cases t;exact hw
  obtain ⟨w1,w2,w3,w4,w5,w6,_,_,w7⟩:=hw'
  have w7':=KT.mP.1 w7
  have g:ldA ([]++[av.cells .rw [lvT v]]) (.ptr 0 0) 1=some (vT v):=rfl
  have ek:∀ n:Int,(v.kind==n)=decide (v.kind=n):=fun n=>by by_cases h:v.kind=n<;>simp[h]
  have ek2:(v.kind != eJ t.f)=decide (v.kind≠eJ t.f):=by by_cases h:v.kind=eJ t.f<;>simp[h]
  simp only[w118,jy,ag,List.length_nil,g,ab,gO,dE,du,af]
  refine (jv v).call ?_
  simp only[ae,aR,aA,ab,ek,bH,bR,Nat.zero_add,bB,kc0,aL]
  refine ⟨fun h0=>nt (t:=t) (v:=v) ?_,fun h0=>⟨fun h1=>nt (t:=t) (v:=v) ?_,fun h1=>⟨fun h5=>?_,fun h5=>?_⟩⟩⟩
  ·simp[cV,h0]
  ·simp[cV,h1]
  ·refine Cg.call ?_
   simp only[bx,ab]
   refine nt (t:=t) (v:=v) ?_
   have:t.f<5:=by omega
   simp[cV,h0,h1,this]
  ·refine Ce.call ?_
   have h5':¬ t.f<5:=by omega
   simp only[ae,bE,ab,ek2,aL]
   have hb01:¬ (v.kind=0∨v.kind=1):=by omega
   have hh:eJ t.f=if t.f=6∨t.f=8 then 7 else 6:=by simp[eJ,h5']
   refine ⟨fun hk=>nt (t:=t) (v:=v) ?_,fun hk=>?_⟩
   ·rw[hh] at hk
    unfold cV
    rw[if_neg hb01,if_neg h5']
    cases v<;>simp only[T.kind] at hk ⊢<;>try rfl
    ·have h6:t.f=6∨t.f=8:=Classical.byContradiction fun h=>hk (by rw[if_neg h])
     have:t.f≠5∧t.f≠7:=by omega
     simp[this]
    ·have h6:¬ (t.f=6∨t.f=8):=fun h=>hk (by rw[if_pos h])
     have:t.f≠6∧t.f≠8:=by omega
     simp[this]
   ·have hk':v.kind=eJ t.f:=Classical.byContradiction hk
    rw[hh] at hk'
    refine p118_4 _ _ ?_
    simp only[w118_4,g,ab]
    refine (qS hv).call ?_
    simp only[bH,bR,Nat.zero_add,ab,bB,kc0]
    refine p118_12 _ _ _ _ ?_
    have e8:((t.f:Int)==8)=decide (t.f=8):=by by_cases h:t.f=8<;>simp[h];omega
    have e6:((t.f:Int)==6)=decide (t.f=6):=by by_cases h:t.f=6<;>simp[h];omega
    have e7:((t.f:Int)==7)=decide (t.f=7):=by by_cases h:t.f=7<;>simp[h];omega
    simp only[w118_12,ae,aR,ab,e8,e6,e7,aL,g]
    have fin:∀ {b:Bool} {r:LV} {s:aa} {K:LV→LV→Prop},WrQ (d+1) b r→(∀ x y,Dp (WrQ (d+1) b) (.tup [x,y]) s→K x y)→bd (aj r 0) fun x=>bd (aj r 1) fun y=>K x y:=by
     intro b r s K hr hK
     obtain ⟨x,k,cs,rfl,rfl,h1,h2,h3,h4⟩:=hr
     simp only[ax,List.getElem?_cons_zero,List.getElem?_cons_succ,ab]
     have hp:(LV.tup [LV.isl cs k none,.bool b]).plain=true:=by simp only[LV.plain,LV.aB,h2];rfl
     exact hK _ _ ⟨_,bp _ hp,hp,_,k,cs,rfl,rfl,h1,h2,h3,h4⟩
    have ihx:∀ (x:KT) (y:T),x ∈ t.l→y ∈ v.items→Pb Tryz.prog 118 [kV x,vT y] (WrQ d (!da x y)):=fun x y hx hy=>ih (by omega) (w7' x hx) (T.iU hv y hy)
    have hbig:t.l.length≤big:=by unfold big;omega
    have inn:∀ {cs:List LV} {b:Bool} {s:aa},(0<v.items.length→0<t.l.length)→v.items.length≤big→cs.length=v.items.length*2→LV.aB cs=true→cs.all LV.one=true→(b=false↔ya t.l v.items)→∀ {R:LV→aa→Prop},(∀ r,WrQ (d+1) b r→R r s)→aw Tryz.prog 174 [.isl (kVs t.l) t.l.length none,vL v.items,.isl cs v.items.length none] s R:=by
     intro cs b s p1 p2 p3 p4 p5 p6 R hR
     exact (CA (by omega) p1 hbig p2 p3 p4 p5 (fun i x y h1 h2=>ihx x y (List.mem_of_getElem? h1) (List.mem_of_getElem? h2)) p6).call hR
    have one13:∀ {b:Bool} {s:aa},(0<v.items.length→0<t.l.length)→v.items.length≤big→(b=false↔ya t.l v.items)→P118_13 (kV t) (vL v.items) (Dp (WrQ (d+1) b)) s:=by
     intro b s p1 p2 p3
     refine p118_13 _ _ ?_
     simp only[w118_13,bH,bR,Nat.zero_add,ab,bB,kc1,bh]
     refine (Aw p2).call fun r hr=>?_
     obtain ⟨cs,rfl,q1,q2,q3⟩:=hr
     refine ⟨by trivial,inn p1 p2 q1 q2 q3 p3 fun r hr=>?_⟩
     exact fin hr fun x y h=>p118_21 _ _ h
    have tk:∀ {b:Bool},cV t.f (de t.l) t.ns t.ls v=b→∀ {P:Bool→Prop},P (!b)→P (!cV t.f (de t.l) t.ns t.ls v):=fun e _ h=>by rw[e];exact h
    have inb:∀ {b:Bool},(b=true↔ya t.l v.items)→((!b)=false↔ya t.l v.items):=fun {b} h=>by rw[← h];cases b<;>simp
    refine ⟨fun h8=>?_,fun h8=>⟨fun h6=>?_,fun h6=>⟨fun h7=>?_,fun h7=>?_⟩⟩⟩
    ·rw[if_pos (by omega)] at hk'
     cases v<;>simp only[T.kind] at hk'<;>try omega
     rename_i es
     have ⟨l1,l2⟩:=w5 (by omega)
     refine (CB (d:=d) (by omega) hv (by omega) l1 (by omega) fun i x hx e he=>ihx x e.2 (List.mem_of_getElem? hx) (List.mem_map.2 ⟨e,he,rfl⟩)).call fun r hr=>?_
     have e:cV t.f (de t.l) t.ns t.ls (.map es)=(es.all (sA t)&&(missing t.ns t.ls es).isEmpty):=by
      have h86:t.f≠6:=by omega
      have h88:t.f=8:=by omega
      unfold cV
      rw[if_neg hb01,if_neg h5']
      show (if t.f=6 then _ else if t.f=8 then _ else _)=_
      rw[if_neg h86,if_pos h88]
      congr 1
      exact congrArg es.all (funext fun e=>(CD l1).symm)
     rw[e]
     exact fin hr fun x y h=>h
    ·rw[if_pos (by omega)] at hk'
     cases v<;>simp only[T.kind] at hk'<;>try omega
     rename_i es
     have hlen:(es.map (·.1)).length=(T.map es).items.length:=by simp[T.items]
     have hbe:es.length≤big:=by simp only[T.ok] at hv;exact hv.1
     have e:cV t.f (de t.l) t.ns t.ls (.map es)=((T.map es).items.all ((de t.l).getD 0 fun _=>false)):=by
      unfold cV
      rw[if_neg hb01,if_neg h5']
      show (if t.f=6 then _ else _)=_
      rw[if_pos (by omega)]
      simp only[T.items,List.all_map]
      rfl
     rw[e]
     simp only[bH,bR,Nat.zero_add,ab,bB,kc1]
     refine (mS hv).call ⟨by trivial,?_⟩
     refine (DR (ks:=es.map (·.1)) (by simpa using hbe)).call fun r hr=>?_
     obtain ⟨cs,rfl,q1,q2,q3⟩:=hr
     rw[hlen] at q1
     refine ⟨by trivial,?_⟩
     rw[hlen]
     refine inn (fun _=>by have:=w3 (by omega);omega) (by rw[← hlen];simpa using hbe) q1 q2 q3 (inb (CC (w3 (by omega)))) fun r hr=>?_
     exact fin hr fun x y h=>p118_17 _ _ h
    ·rw[if_neg (by omega)] at hk'
     cases v<;>simp only[T.kind] at hk'<;>try omega
     rename_i vs
     have hbe:vs.length≤big:=by simp only[T.ok] at hv;exact hv.1
     have e:cV t.f (de t.l) t.ns t.ls (.list vs)=(decide (vs.length=t.l.length)&&oh (de t.l) vs):=by
      unfold cV
      rw[if_neg hb01,if_neg h5']
      show (if t.f=5 then _ else if t.f=7 then _ else _)=_
      rw[if_neg (by omega),if_pos (by omega),oo,List.length_map]
     rw[e]
     have e9:(((T.list vs).items.length:Int) != (t.l.length:Int))=decide (vs.length≠t.l.length):=by
      show ((vs.length:Int) != _)=_
      by_cases h:vs.length=t.l.length
      ·simp[h]
      ·have:¬ (vs.length:Int)=t.l.length:=by omega
       simp[h,bne,this]
     simp only[bh,bH,bR,Nat.zero_add,ab,bB,kc1,bE,ae,e9,aL]
     refine ⟨fun hn=>nt (t:=t) (v:=.list vs) ?_,fun hn=>?_⟩
     ·rw[decide_eq_false hn];rfl
     ·have hn':t.l.length=vs.length:=by omega
      refine one13 (fun h=>by rw[hn'];exact h) hbe (inb ?_)
      rw[decide_eq_true hn'.symm,Bool.true_and,sB hn']
      show _↔∀ (i:Nat) (x:KT) (y:T),t.l[min i (t.l.length-1)]?=some x→vs[i]?=some y→da x y=true
      constructor
      ·intro h i x y h1 h2
       have:=(List.getElem?_eq_some_iff.1 h2).1
       rw[Nat.min_eq_left (by omega)] at h1
       exact h i x y h1 h2
      ·intro h i x y h1 h2
       have:=(List.getElem?_eq_some_iff.1 h2).1
       refine h i x y ?_ h2
       rw[Nat.min_eq_left (by omega)];exact h1
    ·rw[if_neg (by omega)] at hk'
     cases v<;>simp only[T.kind] at hk'<;>try omega
     rename_i vs
     have hbe:vs.length≤big:=by simp only[T.ok] at hv;exact hv.1
     have h55:t.f=5:=by omega
     have e:cV t.f (de t.l) t.ns t.ls (.list vs)=vs.all ((de t.l).getD 0 fun _=>false):=by
      unfold cV
      rw[if_neg hb01,if_neg h5']
      show (if t.f=5 then _ else _)=_
      rw[if_pos h55]
     rw[e]
     exact one13 (fun _=>by have:=w3 (by omega);omega) hbe (inb (CC (w3 (by omega))))
theorem CF {d:Nat} (hd:d≤1000) {t:KT} {v:T} (hw:t.wf d) (hv:v.ok):Pu Tryz.prog 53 [kV t,vT v] (.bool (da t v)):=by
 refine Pu.of (c53 _ _ ?_) ja rfl
 have g:ldA ([]++[av.cells .rw [lvT v]]) (.ptr 0 0) 1=some (vT v):=rfl
 simp only[w53,jy,ag,List.length_nil,g,ab]
 refine (CE hd hw hv).call fun r hr=>?_
 obtain ⟨x,k,cs,rfl,rfl,-⟩:=hr
 simp only[ax,List.getElem?_cons_zero,List.getElem?_cons_succ,ab,bx,Bool.not_not]
 exact bp _ rfl
end
def ud (k:Tx):List AT→Nat→Option Nat
 | [],_=>none
 | a::l,j=>if a.nm=k then some j else ud k l (j+1)
theorem sD {k:Tx}:∀ {l:List AT} {j:Nat},match ud k l j with
  | none=>gW k l=none
  | some i=>j≤i∧l[i-j]?=gW k l∧(gW k l).isSome=true
 | [],_=>rfl
 | a::l,j=>by
  unfold ud gW
  by_cases h:a.nm=k
  ·simp[h]
  ·simp only[h,if_false]
   have:=sD (k:=k) (l:=l) (j:=j+1)
   cases hx:ud k l (j+1) with
   | none=>rw[hx] at this;exact this
   | some i=>
    rw[hx] at this
    obtain ⟨h1,h2,h3⟩:=this
    refine ⟨by omega,?_,h3⟩
    have e:i-j=(i-(j+1))+1:=by omega
    rw[e,List.getElem?_cons_succ]
    exact h2
theorem zl {k:Tx}:∀ {l:List AT} {j:Nat},dj (.str k) ((l.map fun a=>LV.str a.nm).zip (pD j l))=some ((ud k l j).map fun i=>i64 (i:Nat))
 | [],_=>rfl
 | a::l,j=>by
  simp only[List.map_cons,pD,List.zip_cons_cons,dj,sv,ud]
  by_cases h:a.nm=k
  ·simp[h]
  ·have h':(k==a.nm)=false:=by simpa using Ne.symm h
   rw[h',if_neg h]
   exact zl
theorem wo:∀ {l:List AT} {j:Nat},(pD j l).length=l.length
 | [],_=>rfl
 | _::l,j=>by simp[pD,wo]
section
variable {st st':aa} {R:LV→aa→Prop}
theorem FY {s:ST} (hs:s.ok) {k:Tx}:pU st true (some (.int .i64 0)) (.imap (s.l.map fun a=>.str a.nm) (pD 0 s.l)) (.str k) true=some (match ud k s.l 0 with
  | some i=>.tup [i64 i,.bool true]
  | none=>.tup [i64 0,.bool false]):=by
 have hk:(cC (s.l.map fun a=>LV.str a.nm) []).isSome=true:=by
  have:=fV (ss:=s.l.map (·.nm)) (seen:=[]) (cQ hs.rise) (by simp)
  rw[List.map_map] at this
  simp only[Function.comp_def] at this
  rw[this];rfl
 show rJ _ _ _ _ _ _=_
 unfold rJ
 rw[if_pos ⟨rfl,rfl,hk,by simp[wo]⟩,zl]
 cases ud k s.l 0<;>rfl
theorem CG {s:ST}:ld1 st (.iptr (sC s) 1)=some (.isl (atC s.l) s.l.length none):=rfl
theorem G2 {s:ST}:ld1 st (.iptr (sC s) 2)=some (.imap (s.l.map fun a=>.str a.nm) (pD 0 s.l)):=rfl
theorem ue {l:List AT} {i:Nat} {a:AT} (h:l[i]?=some a):ldA st (.iptr (atC l) (i*6)) 6=some (aV a):=by
 have hlt:=(List.getElem?_eq_some_iff.1 h).1
 rw[fS (by rw[DY];omega)]
 unfold atC
 rw[ow (r:=iv a) (by rw[List.getElem?_map,h];rfl)]
 rfl
theorem FZ {s:ST} (hs:s.ok) (k:Tx):Pu Tryz.prog 39 [sV s,.str k] (match gW k s.l with
  | some a=>.tup [aV a,.bool true]
  | none=>.tup [.agg (aX [] .nilp false false false false),.bool false]):=by
 refine Pu.of (c39 _ _ ?_) (by simp only[LV.aB,kE];rfl) (by split<;>simp[LV.plain,LV.aB,kB])
 have zag:aP (ao (az [(0,1),(1,1),(2,1),(3,1),(4,1),(5,1)]) [LV.str [],LV.nilp,LV.bool false,LV.bool false,LV.bool false,LV.bool false] [])=some (.agg (aX [] .nilp false false false false)):=rfl
 have hx:=sD (k:=k) (l:=s.l) (j:=0)
 simp only[w39,bV,List.nil_append,List.length_nil,sV,gO,dE,du,ab,af,bH,bR,Nat.zero_add,G2,FY hs]
 cases hi:ud k s.l 0 with
 | none=>
  rw[hi] at hx
  rw[show gW k s.l=none from hx]
  simp only[ax,List.getElem?_cons_zero,List.getElem?_cons_succ,ab,bx,Bool.not_false,ai,zag]
  rw[ri (l:=aX [] .nilp false false false false) rfl rfl rfl rfl]
  simp only[ay,ag]
  rw[ld6 (l:=aX [] .nilp false false false false) rfl rfl,ab]
  exact bp (v:=.tup [.agg _,.bool false]) _ rfl
 | some i=>
  rw[hi] at hx
  obtain ⟨_,h2,h3⟩:=hx
  rw[Nat.sub_zero] at h2
  obtain ⟨a,ha⟩:=Option.isSome_iff_exists.1 h3
  rw[ha] at h2 ⊢
  have hlt:=(List.getElem?_eq_some_iff.1 h2).1
  have e1:aW 6 (.isl (atC s.l) s.l.length none) (i64 i)=some (.iptr (atC s.l) (i*6)):=ca hlt
  simp only[ax,List.getElem?_cons_zero,List.getElem?_cons_succ,ab,bx,Bool.not_true,af,CG,e1,ue h2]
  rw[ri (l:=aX [] .nilp false false false false) rfl rfl rfl ua]
  simp only[ay,ag]
  rw[ld6 (l:=aC a) rfl rfl,ab]
  exact bp (v:=.tup [aV a,.bool true]) _ (by simp only[LV.plain,LV.aB,kB];rfl)
end
end Go.Proofs.YtknegckgmklnhaaGreatDoor
