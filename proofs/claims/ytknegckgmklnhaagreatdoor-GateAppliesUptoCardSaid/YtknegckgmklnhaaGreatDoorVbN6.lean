/- Parts of the proof. -/
import Derived.Test.YtknegckgmklnhaaGreatDoorVbN2
namespace Go.Proofs.YtknegckgmklnhaaGreatDoor
open Go Go.CP
set_option maxRecDepth 100000
section
variable {st st':aa} {R:LV→aa→Prop}
structure Sch (st:aa) (n0:Nat) (v:Int) (l:List AT) (B:Nat) (f:Option Nat) (M:Nat):Prop where
 b:st[B]?=some (.cells .rw [i64 v,osl f 6 l.length,.map M])
 o:ca .rw st f 6 l.length (atC l)
 m:st[M]?=some (.map .rw (gF 0 ((l.map jy).map (·.nm))) (List.range l.length) l.length)
 nb:n0≤B
 nm:n0≤M
 nf:∀ o,f=some o→n0≤o
 ne:0<l.length∨f=none
 pw:(l.map (·.nm)).Pairwise ltB
theorem Aq {c:UInt8} {s p q:Tx} {r:List Tx} (h:splitB c s=p::q::r):po c s=.tup [.str p,.str (s.drop (p.length+1)),.bool true]:=by unfold po;rw[h]
theorem Ar {c:UInt8} {s p:Tx} (h:splitB c s=[p]):po c s=.tup [.str s,.str [],.bool false]:=by unfold po;rw[h]
theorem I6 {l:List AT} {a:AT}:atC (l++[a])=atC l++aC a:=by
 unfold atC
 rw[List.map_append,vt]
 simp[ga,vz]
theorem Au {s:Tx} {a:AT} (h:fp s=some a):a.nm.length≤s.length:=by
 unfold fp at h
 split at h
 ·rename_i w0 w1 w2 r e
  split at h
  ·cases h
  ·split at h
   ·cases h
   ·split at h
    ·cases h
     exact iO w1 (by rw[e];simp)
    ·cases h
 ·cases h
theorem I7 {v:Int} {l:List Row} (h:mkW v l=0):jf [] l=0∧l.length≤16:=by
 unfold mkW at h
 split at h
 ·omega
 split at h
 ·omega
 ·exact ⟨h,by omega⟩
theorem CB {s:Tx} {q:LV} (h:AtQ s q):∃ cs ok,cs.length=6∧cs.all LV.one=true∧q=.tup [.agg cs,.bool ok]:=by
 unfold AtQ at h
 split at h
 ·rename_i a _
  exact ⟨aC a,true,rfl,rfl,h⟩
 ·obtain ⟨nm,tv,tnil,m,o,hh,n,ht,rfl⟩:=h
  exact ⟨_,false,rfl,xY ht,rfl⟩
theorem CC {st0:aa} {v:Int} (hv:¬ (v<0∨1000<v)) (res:List AT ⊕ Int × Int)
  (hK1:∀ l B f M st,res=.inl l→Fr st0 st (fun _=>False)→Sch st st0.length v l B f M→R (.tup [.ptr B 0,i64 0,i64 0]) st)
  (hK2:∀ n e st,res=.inr (n,e)→Fr st0 st (fun _=>False)→R (.tup [.nilp,i64 n,i64 e]) st) :
  ∀ (k:Nat) (ps:List Tx) (rest:Tx) (l:List AT) (n B:Nat) (f:Option Nat) (M:Nat) (st:aa),ps.length≤k→splitB 10 rest=ps→rest.length≤2 ^ 20→n+k≤2 ^ 30→l.length≤16→jf [] (l.map jy)=0→(∀ a ∈ l,a.nm.length≤2 ^ 32)→dS l n ps=res→
   Fr st0 st (fun _=>False)→Sch st st0.length v l B f M→xh (.str rest) (i64 v) (.ptr B 0) (i64 0) (i64 n) R st:=by
 intro k
 induction k with
 | zero=>
  intro ps rest l n B f M st hk hs
  have:=dd (c:=10) (s:=rest)
  rw[hs] at this
  exact absurd (List.eq_nil_of_length_eq_zero (by omega)) this
 | succ k ih=>
  intro ps rest l n B f M st hk hs hr hn hl hw hnm hp hfr hS
  refine HB _ _ _ _ _ ?_
  have e0:((0:Int)==0)=true:=rfl
  simp only[BS,ad,bj,e0,ab,ah,ct,iV]
  by_cases hre:rest=[]
  ·subst hre
   have hps:ps=[[]]:=by rw[← hs];rfl
   subst hps
   simp only[dS,if_true] at hp
   have e1:(!(([]:Tx)==[]))=false:=rfl
   have e2:((0:Int) != 0)=false:=rfl
   simp only[e1,ae,bJ,e2,ab]
   exact hK1 l B f M st hp.symm hfr hS
  ·have e1:(!(rest==[]))=true:=by simp[hre]
   simp only[e1,ah]
   refine (MH rest (by omega)).call ?_
   have put:∀ cs:List LV,cs.length=6→cs.all LV.one=true→stV (st++[ar.cells .rw [LV.str [],LV.nilp,LV.bool false,LV.bool false,LV.bool false,LV.bool false]]) 6 (.ptr st.length 0) (.agg cs)=some (st++[.cells .rw cs]):=fun cs h1 h2=>by
    rw[uk ay rfl h1 h2];simp
   have fr1:∀ y,Fr st0 (st++[y]) (fun _=>False):=fun y=>hfr.trans Fr.app fun _ _ h=>h
   match ps,hs with
   | [],hs=>exact absurd hs dd
   | [p],hs=>
    have hps:=pr hs
    subst hps
    simp only[dS,hre,if_false] at hp
    rw[Ar hs]
    simp only[av,aN,aO,ab]
    refine (I2 (s:=p) (by omega)).call fun q hq=>?_
    obtain ⟨cs,ok,h1,h2,rfl⟩:=CB hq
    simp only[av,aN,aO,ab,cv,put cs h1 h2,aA,af,bw,bL,ah]
    exact hK2 n 4 _ hp.symm (fr1 _)
   | p::q::r,hs=>
    have hnx:=nY hs
    have hpl:=iO p (by rw[hs];simp)
    rw[Aq hs]
    simp only[av,aN,aO,ab]
    refine (I2 (s:=p) (by omega)).call fun w hq=>?_
    simp only[dS] at hp
    cases hpa:fp p with
    | none=>
     rw[hpa] at hp
     unfold AtQ at hq
     rw[hpa] at hq
     obtain ⟨nm,tv,tnil,m,o,hh,nn,ht,rfl⟩:=hq
     simp only[av,aN,aO,ab,cv,put _ rfl (xY ht),aA,af,bw,bM,bL,ae,ah]
     exact hK2 n 4 _ hp.symm (fr1 _)
    | some a=>
     rw[hpa] at hp
     unfold AtQ at hq
     rw[hpa] at hq
     simp only at hq hp
     subst hq
     have hB1:∀ y,(st++[y])[B]?=some (.cells .rw [i64 v,osl f 6 l.length,.map M]):=fun y=>by rw[bW (cA hS.b)];exact hS.b
     have hlB:∀ y,ld1 (st++[y]) (.ptr B 1)=some (osl f 6 l.length):=fun y=>by rw[bx (hB1 y)];rfl
     have g6:ldA (st++[ar.cells .rw (aC a)]) (.ptr st.length 0) 6=some (aV a):=ld6 ay rfl
     have ef:aB (fun i=>some (i*6,6)) (List.replicate 1 [LV.str [],LV.nilp,LV.bool false,LV.bool false,LV.bool false,LV.bool false]).flatten [(0,aV a)]=some (aC a):=rfl
     have ho1:=hS.o.fr (st':=st++[.cells .rw (aC a)]) (S:=fun _=>False) Fr.app (fun _ _ h=>h)
     obtain ⟨st2,f2,q1,q2,q3,q4⟩:=mN ho1 (new:=aC a) rfl rfl (by omega) (b:=32)
     have hlB2:ld1 ((st++[ar.cells .rw (aC a)])++[ar.cells .rw (aC a)]) (.ptr B 1)=some (osl f 6 l.length):=by
      rw[bx (l:=[i64 v,osl f 6 l.length,.map M]) (m:=.rw) (by rw[bW (by simp;have:=cA hS.b;omega)];exact hB1 _)];rfl
     simp only[av,aN,aO,ab,cv,put _ Cw xX,aA,af,bw,bM,ae,aI,ao,aj,hlB,g6,ef,bE,hlB2,true_and,q1]
     have hfr2:Fr st0 st2 (fun _=>False):=(fr1 _).trans q3 fun j hj h=>by have:=hS.nf j h;omega
     have hlen:((l++[a]).map jy).length=l.length+1:=by simp
     have hnm':∀ x ∈ l++[a],x.nm.length≤2 ^ 32:=fun x hx=>by
      rcases List.mem_append.1 hx with h|h
      ·exact hnm x h
      ·simp at h;subst h;have:=Au hpa;omega
     have hmore:=I5 (a:=a) hv hl hw
     rw[← I6,← hlen] at q2
     rw[← hlen]
     refine vv (fun x hx=>?_) (by rw[hlen];omega) q2 (.inl (by rw[hlen];omega)) (fun e st3 he hme hfr3=>?_) fun st3 B3 M3 f3 hme hfr3 hb3 hm3 hf3 hne3 g1 g2 g3 g4=>?_
     ·obtain ⟨y,hy,rfl⟩:=List.mem_map.1 hx
      exact Oj (hnm' y hy)
     ·rw[hmore] at hme
      rw[hme,if_neg he] at hp
      simp only[av,aN,aO,ab]
      refine HC _ _ _ _ _ ?_
      have he':(e != 0)=true:=by simpa using he
      simp only[BT,ad,bJ,he',ab,ah]
      exact hK2 n e st3 hp.symm (hfr2.trans hfr3 fun _ _ h=>h)
     ·have hz:=I7 hme
      rw[hmore] at hme
      rw[if_pos hme] at hp
      simp only[av,aN,aO,ab]
      refine HC _ _ _ _ _ ?_
      have he':((0:Int) != 0)=false:=rfl
      simp only[BT,ad,bJ,he',ab,ae,aH,aK (show n<2 ^ 40 by omega)]
      have hl2:=hfr2.len
      rw[hlen] at g1 g2 g3
      refine ih (q::r) (rest.drop (p.length+1)) (l++[a]) (n+1) B3 f3 M3 st3 (by simp at hk ⊢;omega) hnx (by simp;omega) (by omega) (by have:=hz.2;simp at this ⊢;omega) hz.1 hnm' hp (hfr2.trans hfr3 fun _ _ h=>h) ⟨?_,?_,?_,by omega,by omega,fun o ho=>by have:=hf3 o ho;omega,?_,?_⟩
      ·simpa using g1
      ·simpa[atC] using g2
      ·simpa using g3
      ·rcases hne3 with h|h
       ·exact .inl (by simp)
       ·exact .inr h
      ·have e:((l++[a]).map jy).map (·.nm)=(l++[a]).map (·.nm):=by rw[List.map_map];rfl
       rw[← e];exact g4
end
section
variable {st st':aa} {R:LV→aa→Prop}
theorem Ol {n0:Nat} {v:Int} {l:List AT} {B:Nat} {f:Option Nat} {M:Nat} (h:Sch st n0 v l B f M):dp (fN n0 st) (sV ⟨v,l⟩) (.ptr B 0):=by
 refine .inl ⟨B,.rw,[i64 v,osl f 6 l.length,.map M],rfl,by rw[gJ h.nb];exact h.b,rfl,Nat.le_refl _,?_⟩
 refine ⟨_,_,rfl,rfl,_,_,rfl,eL (h.o.fN h.nf) rfl (bU _ kf),_,_,rfl,?_,rfl⟩
 refine .inl ⟨M,.rw,_,_,_,_,rfl,by rw[gJ h.nm];exact h.m,rfl,List.Perm.refl _,?_,Ao,?_⟩
 ·have:=ic (ss:=l.map (·.nm)) (seen:=[]) (ey h.pw) (by simp)
  rw[List.map_map] at this
  show (dA (l.map fun a=>.str a.nm) []).isSome=true
  rw[show (l.map fun a=>LV.str a.nm)=l.map (LV.str ∘ fun x=>x.nm) from rfl,this]
  rfl
 ·rw[Ap]
  exact bU _ nX
theorem Av (g:GlS st) {s:Tx} (hs:s.length≤2 ^ 20) (h1:∀ S,fw s=.inl S→R (.tup [sV S,i64 0,i64 0]) st) (h2:∀ n e,fw s=.inr (n,e)→R (.tup [.nilp,i64 n,i64 e]) st) :
  aw Tryz.prog 21 [.str s] st R:=by
 refine aw.Hc ?_
 refine c21 _ ?_
 have bad:∀ n e,fw s=.inr (n,e)→∀ st2,Fr st st2 (fun _=>False)→∃ v,Fr st st2 (fun _=>False)∧dp (fN st.length st2) v (.tup [.nilp,i64 n,i64 e])∧v.plain=true∧R v st:=fun n e h st2 hf=>⟨_,hf,bu _ rfl,rfl,h2 n e h⟩
 have hl:¬ ((s.length:Int) > 1048576):=by omega
 simp only[w21,bF,ab,ad,cT,hl,a8,ae]
 refine (MH s (by omega)).call ?_
 match hsp:splitB 10 s with
 | []=>exact absurd hsp dd
 | [p]=>
  have hps:=pr hsp
  subst hps
  have he:fw p=.inr (1,4):=by unfold fw;rw[hsp]
  rw[Ar hsp]
  simp only[av,aN,aO,ab]
  refine vw g (by omega) (fun n _=>?_) fun _ n=>?_
  all_goals
   simp only[av,aN,aO,ab,bw,bL,ah]
   exact bad 1 4 he _ Fr.refl
 | p::q::r=>
  have hnx:=nY hsp
  have hpl:=iO p (by rw[hsp];simp)
  have hcl:=eR (c:=10) (s:=s)
  have hcc:s.count 10≤s.length:=List.count_le_length
  rw[hsp] at hcl
  have he:fw s=match xZ p with
   | none=>.inr (1,4)
   | some v=>if v<0∨1000<v then .inr (1,2) else match dS [] 2 (q::r) with
    | .inl l=>.inl ⟨v,l⟩
    | .inr e=>.inr e:=by unfold fw;rw[hsp];try rfl
  rw[Aq hsp]
  simp only[av,aN,aO,ab]
  refine vw g (by omega) (fun v hv=>?_) fun hv n=>?_
  ·rw[hv] at he
   simp only at he
   simp only[av,aN,aO,ab,bw,bM,ae]
   refine vv (v:=v) (l:=[]) (f:=none) (fun _ h=>by simp at h) (by simp) ca.nil (.inr rfl) (fun e st3 hne hme hfr=>?_) fun st3 B M f hme hfr hB hM hf hne g1 g2 g3 g4=>?_
   ·simp only[av,aN,aO,ab]
    have hme':v<0∨1000<v:=by
     refine Classical.byContradiction fun h=>hne ?_
     rw[← hme]
     unfold mkW
     rw[if_neg h];rfl
    have e2:e=2:=by rw[← hme];unfold mkW;rw[if_pos hme']
    subst e2
    rw[if_pos hme'] at he
    refine HB _ _ _ _ _ ?_
    have q1:((2:Int)==0)=false:=rfl
    have q2:((2:Int) != 0)=true:=rfl
    simp only[BS,ad,bj,bJ,q1,q2,ab,ae,ah]
    exact bad 1 2 he _ hfr
   ·have hv0:¬ (v<0∨1000<v):=by
     intro h
     unfold mkW at hme
     rw[if_pos h] at hme
     omega
    rw[if_neg hv0] at he
    simp only[av,aN,aO,ab]
    refine CC (st0:=st) hv0 (dS [] 2 (q::r)) (fun l B' f' M' st4 hres hfr4 hS4=>?_) (fun n e st4 hres hfr4=>?_) (q::r).length (q::r) (s.drop (p.length+1)) [] 2 B f M st3 (Nat.le_refl _) hnx (by simp;omega) (by simp at hcl ⊢;omega) (by simp) rfl (by simp) rfl hfr ⟨?_,?_,?_,hB,hM,hf,?_,?_⟩
    ·rw[hres] at he
     exact ⟨.tup [sV ⟨v,l⟩,i64 0,i64 0],hfr4,⟨_,rfl,_,_,rfl,Ol hS4,_,_,rfl,rfl,_,_,rfl,rfl,rfl⟩,by simp only[LV.plain,LV.aG,ie];rfl,h1 _ he⟩
    ·rw[hres] at he
     exact bad n e he _ hfr4
    ·exact g1
    ·exact g2
    ·exact g3
    ·exact hne
    ·exact g4
  ·rw[hv] at he
   simp only[av,aN,aO,ab,bw,bM,bL,ae,ah]
   exact bad 1 4 he _ Fr.refl
end
section
variable {st st':aa} {R:LV→aa→Prop}
theorem Ez {a b x y:LV} (h1:dp st a x) (h2:dp st b y):dp st (.tup [a,b]) (.tup [x,y]):=⟨_,rfl,_,_,rfl,h1,_,_,rfl,h2,rfl⟩
theorem uq {x y:LV} {d:Nat} {b:Bool} (hx:LV.aG [x,y]=true) (h1:[x,y].all LV.one=true) :
  Dp (WrQ (d+1) b) (.tup [.sl st.length 0 1 (.ex 1),.bool b]) (st++[.cells .rw [x,y]]):=
 ⟨.tup [.isl [x,y] 1 none,.bool b],Ez (.inl ⟨_,_,_,.rw,[x,y],rfl,ay,rfl,by simp,bU _ hx⟩) rfl,by simpa[LV.plain,LV.aG] using hx,_,1,[x,y],rfl,rfl,rfl,hx,h1,by omega⟩
theorem qD {x y:LV} {cs:List LV} {k d:Nat} (hx:LV.aG [x,y]=true) (h1:[x,y].all LV.one=true) (hc:cs.length=k*2) (hp:LV.aG cs=true) (ho:cs.all LV.one=true) (hk:k≤d) (hd:d≤1000) {b:Bool} :
  bd2 (bo (st++[.cells .rw [x,y]]) 2 24 .rw (.sl st.length 0 1 (.ex 1)) (.isl cs k none)) fun v st2=>Dp (WrQ (d+1) b) (.tup [v,.bool b]) st2:=by
 have hs:=th (st:=st++[.cells .rw [x,y]]) (c:=none) hc
 by_cases hk0:k=0
 ·subst hk0
  simp only[bo,hs,if_true,af]
  exact uq hx h1
 ·have c1:¬ (1+k≤1):=by omega
  have hr:eJ (1+k) 24=true:=dR (by omega) (by omega)
  have e:bo (st++[.cells .rw [x,y]]) 2 24 .rw (.sl st.length 0 1 (.ex 1)) (.isl cs k none)=some (.sl (st++[ar.cells .rw [x,y]]).length 0 (1+k) (.rest 2),(st++[.cells .rw [x,y]])++[.cells .rw ([x,y]++cs)]):=by
   simp[bo,hs,hk0,c1,hr]
  rw[e,af]
  have hpl:LV.aG ([x,y]++cs)=true:=by rw[dP,hx,hp];rfl
  refine ⟨.tup [.isl ([x,y]++cs) (1+k) none,.bool b],Ez (.inl ⟨_,_,_,.rw,[x,y]++cs,rfl,ay,rfl,by simp,?_⟩) rfl,by simp only[LV.plain,LV.aG,hpl];rfl,_,1+k,_,rfl,rfl,by simp[hc];omega,hpl,by rw[List.all_append,h1,ho];rfl,by omega⟩
  rw[List.drop_zero,List.take_length]
  exact bU _ hpl
def CD (ts:List KT) (vs:List T):Prop:=∀ (i:Nat) (t:KT) (v:T),ts[min i (ts.length-1)]?=some t→vs[i]?=some v→cM t v=true
theorem Gc {a b:Nat}:kZ [i64 a,i64 b]=some (i64 (min a b:Nat)):=by
 simp only[kZ,oh,yD]
 rcases Nat.lt_or_ge b a with h|h
 ·rw[Nat.min_eq_right (by omega)]
  have:(b:Int)<a:=by omega
  simp[this]
 ·rw[Nat.min_eq_left h]
  have:¬ (b:Int)<a:=by omega
  simp[this]
theorem CE {d:Nat} (hd:d≤1000) {ts:List KT} {vs:List T} {cs:List LV} (ht:0<vs.length→0<ts.length) (htb:ts.length≤big) (hb:vs.length≤big) (hc:cs.length=vs.length*2) (hp:LV.aG cs=true) (h1:cs.all LV.one=true)
  (ih:∀ (i:Nat) (t:KT) (v:T),ts[min i (ts.length-1)]?=some t→vs[i]?=some v→Pb Tryz.prog 118 [kV t,vT v] (WrQ d (!cM t v))) {b:Bool} (hbb:b=false↔CD ts vs) :
  ∀ (k i:Nat) (st:aa),i+k=vs.length→(∀ (j:Nat) (t:KT) (v:T),j<i→ts[min j (ts.length-1)]?=some t→vs[j]?=some v→cM t v=true)→xA (.isl (kVs ts) ts.length none) (.isl cs vs.length none) (vL vs) (i64 vs.length) (i64 i) (Dp (WrQ (d+1) b)) st:=by
 intro k
 induction k with
 | zero=>
  intro i st hi hh
  refine H0 _ _ _ _ _ ?_
  have c1:¬ ((i:Int)<vs.length):=by omega
  have e:b=false:=hbb.2 fun j t v h2 h3=>hh j t v (by have:=(List.getElem?_eq_some_iff.1 h3).1;omega) h2 h3
  subst e
  simp only[B7,ad,au,ab,c1,a8,ae]
  exact xV
 | succ k ihk=>
  intro i st hi hh
  refine H0 _ _ _ _ _ ?_
  have hlt:i<vs.length:=by omega
  have c1:((i:Int)<vs.length):=by omega
  have e1:bn 1 (vL vs) (i64 i)=some (.iptr (fh vs) (i*1)):=cj hlt
  have hv:vs[i]?=some vs[i]:=bg hlt
  have hlv:(fh vs).length=vs.length:=by rw[fW];simp
  have g:∀ s:aa,ldA s (.iptr (fh vs) (i*1)) 1=some (vT vs[i]):=fun s=>by
   rw[fk (by omega),Nat.mul_one,fW,← List.map_drop,b6 hlt];rfl
  have ht:=ht (by omega)
  have hm:min i (ts.length-1)<ts.length:=by omega
  have htm:ts[min i (ts.length-1)]?=some ts[min i (ts.length-1)]:=bg hm
  have e2:bn 1 (.isl (kVs ts) ts.length none) (i64 (min i (ts.length-1):Nat))=some (.iptr (kVs ts) (min i (ts.length-1)*1)):=cj hm
  have hw:IntKind.i64.wrap ((ts.length:Int)-1)=((ts.length-1:Nat):Int):=by rw[wrap_i64 (by omega) (by unfold big at htb;omega)];omega
  have hk:(kVs ts)[min i (ts.length-1)*1]?=some (kV ts[min i (ts.length-1)]):=by rw[Nat.mul_one,xU,htm];rfl
  generalize ts[min i (ts.length-1)]=t at htm hk
  generalize vs[i]=v at hv g
  have gb:∀ {s:aa},ldA (s++[ar.cells .rw [lvT v]]) (.ptr s.length 0) 1=some (vT v):=fun {s}=>by rw[du ay (by simp)];rfl
  simp only[B7,ad,au,ab,c1,aZ,ah,e1,g,cv,eY,aA,af,aU,dM,hw,Gc,e2,bA,hk,gb]
  refine (ih i t v htm hv).call fun r hr=>?_
  obtain ⟨x,n,ds,rfl,rfl,hn,hpd,h1d,hnd⟩:=hr
  simp only[av,aN,aO,ab]
  refine NZ _ _ _ _ _ _ _ _ ?_
  cases htk:cM t v with
  | true=>
   simp only[B8,bM,ae,ad,aH,ab,aK (show i<2 ^ 40 by unfold big at hb;omega)]
   refine ihk (i+1) _ (by omega) fun j t' v' hj h2 h3=>?_
   rcases Nat.lt_or_ge j i with h|h
   ·exact hh j t' v' h h2 h3
   ·have:j=i:=by omega
    subst this
    rw[htm] at h2;rw[hv] at h3
    cases h2;cases h3
    exact htk
  | false=>
   have e:b=true:=by
    cases b with
    | true=>rfl
    | false=>have:=hbb.1 rfl i t v htm hv;rw[htk] at this;cases this
   subst e
   have e3:bn 2 (.isl cs vs.length none) (i64 i)=some (.iptr cs (i*2)):=cj hlt
   have hd2:(cs.drop (i*2)).take 2=[cs[i*2]'(by omega),cs[i*2+1]'(by omega)]:=by
    rw[b6 (by omega),b6 (by omega)];rfl
   have p1:=nM hp _ (List.getElem_mem (show i*2<cs.length by omega))
   have p2:=nM hp _ (List.getElem_mem (show i*2+1<cs.length by omega))
   have o1:=List.all_eq_true.1 h1 _ (List.getElem_mem (show i*2<cs.length by omega))
   have o2:=List.all_eq_true.1 h1 _ (List.getElem_mem (show i*2+1<cs.length by omega))
   generalize cs[i*2]'(by omega)=y1 at hd2 p1 o1
   generalize cs[i*2+1]'(by omega)=y2 at hd2 p2 o2
   have ef:aB (fun i=>some (i*2,2)) (List.replicate 1 [LV.str [],i64 0]).flatten [(0,.agg [y1,y2])]=some [y1,y2]:=rfl
   have g2:∀ s:aa,ldA s (.iptr cs (i*2)) 2=some (.agg [y1,y2]):=fun s=>by rw[fk (by omega),hd2]
   simp only[B8,bL,ah,e3,ab,g2,ef,bE,af]
   exact qD (by simp[LV.aG,p1,p2]) (by simp[o1,o2]) hn hpd h1d hnd hd
theorem I8 {d:Nat} (hd:d≤1000) {ts:List KT} {vs:List T} {cs:List LV} (ht:0<vs.length→0<ts.length) (htb:ts.length≤big) (hb:vs.length≤big) (hc:cs.length=vs.length*2) (hp:LV.aG cs=true) (h1:cs.all LV.one=true)
  (ih:∀ (i:Nat) (t:KT) (v:T),ts[min i (ts.length-1)]?=some t→vs[i]?=some v→Pb Tryz.prog 118 [kV t,vT v] (WrQ d (!cM t v))) {b:Bool} (hbb:b=false↔CD ts vs) :
  Pb Tryz.prog 174 [.isl (kVs ts) ts.length none,vL vs,.isl cs vs.length none] (WrQ (d+1) b):=by
 refine Pb.of (Ri _ _ _ ?_) (by simp[LV.aG,LV.plain,qw,gv,hp])
 simp only[Qb,aU,ab]
 exact CE hd ht htb hb hc hp h1 ih hbb vs.length 0 [] (by omega) fun _ _ _ h=>by omega
end
section
variable {st st':aa} {R:LV→aa→Prop}
def jG (t:KT) (k:Tx):Option KT:=(eP k t.ns 0).bind (t.l[·]?)
def px (t:KT) (e:Tx × T):Bool:=match jG t e.1 with
 | some x=>cM x e.2
 | none=>false
theorem CF {d:Nat} (hd:d≤1000) {t:KT} {es:List (Tx × T)} (hv:(T.map es).ok) (htb:t.ns.length≤big) (hl:t.ns.length=t.l.length) (hl2:t.ls.length=t.l.length)
  (ih:∀ (i:Nat) (x:KT),t.l[i]?=some x→∀ e ∈ es,Pb Tryz.prog 118 [kV x,vT e.2] (WrQ d (!cM x e.2))) :
  ∀ (k i:Nat) (st:aa),i+k=es.length→st[0]?=some (.cells .rw [lvT (.map es)])→
   xz (kV t) (.ptr 0 0) (vL (es.map (·.2))) (sL (es.map (·.1))) (i64 es.length) (i64 i) (LV.tup []) (LV.tup []) (LV.tup []) (Dp (WrQ (d+1) (!((es.drop i).all (px t)&&(missing t.ns t.ls es).isEmpty)))) st:=by
 have hbe:es.length≤big:=by simp only[T.ok] at hv;exact hv.1
 intro k
 induction k with
 | zero=>
  intro i st hi h0
  refine HW _ _ _ _ _ _ _ _ _ ?_
  have c1:¬ ((i:Int)<es.length):=by omega
  have g:ldA st (.ptr 0 0) 1=some (vT (.map es)):=by rw[du h0 (by simp)];rfl
  simp only[B6,ad,au,ab,c1,a8,ae,g]
  refine (Cu hv htb (by omega)).call ?_
  rw[bR (by omega)]
  have hml:=rp (es:=es) (ns:=t.ns) (ls:=t.ls)
  generalize missing t.ns t.ls es=ms at hml
  simp only[aU,ab,List.all_nil,Bool.true_and]
  refine Kx _ _ _ _ _ _ _ _ _ ?_
  cases ms with
  | nil=>exact xV
  | cons m ms=>
   have c2:((0:Int)<(m::ms).length):=by simp only[aW];omega
   have e1:bn 1 (sL (m::ms)) (.int .i64 0)=some (.iptr ((m::ms).map .str) (0*1)):=cj (i:=0) (by simp)
   have hg:((m::ms).map LV.str)[0*1]?=some (.str m):=rfl
   simp only[Eb,ad,au,ab,c2,aZ,ah,e1,bA,hg]
   refine (xT _).call ?_
   have ef:aB (fun i=>some (i*2,2)) (List.replicate 1 [LV.str [],i64 0]).flatten [(0,.agg [.str m,i64 (-1)])]=some [.str m,i64 (-1)]:=rfl
   simp only[ef,bE,af]
   exact uq rfl rfl
 | succ k ihk=>
  intro i st hi h0
  refine HW _ _ _ _ _ _ _ _ _ ?_
  have hlt:i<es.length:=by omega
  have c1:((i:Int)<es.length):=by omega
  have e1:bn 1 (sL (es.map (·.1))) (i64 i)=some (.iptr ((es.map (·.1)).map .str) (i*1)):=cj (by simpa using hlt)
  have hg:((es.map (·.1)).map LV.str)[i*1]?=some (.str es[i].1):=by simp[hlt]
  have e2:bn 1 (vL (es.map (·.2))) (i64 i)=some (.iptr (fh (es.map (·.2))) (i*1)):=cj (by simpa using hlt)
  have g:∀ s:aa,ldA s (.iptr (fh (es.map (·.2))) (i*1)) 1=some (vT es[i].2):=fun s=>by
   rw[fk (by rw[fW];simp;omega),Nat.mul_one,fW,List.map_map,← List.map_drop,b6 hlt];rfl
  have hm:es[i] ∈ es:=List.getElem_mem hlt
  have hdr:es.drop i=es[i]::es.drop (i+1):=b6 hlt
  generalize es[i]=e at hg g hm hdr
  simp only[B6,ad,au,ab,c1,aZ,ah,e1,bA,hg]
  have hfp:Pu Tryz.prog 213 [kV t,.str e.1] (match jG t e.1 with
   | some x=>.tup [kV x,.bool true]
   | none=>.tup [.nilp,.bool false]):=II htb hl
  refine hfp.call ?_
  rw[hdr,List.all_cons]
  have hf:px t e=match jG t e.1 with|some x=>cM x e.2|none=>false:=rfl
  rw[hf]
  cases hx:jG t e.1 with
  | none=>
   simp only[av,aN,aO,ab,bw,bL,ah]
   refine (xT _).call ?_
   have ef:aB (fun i=>some (i*2,2)) (List.replicate 1 [LV.str [],i64 0]).flatten [(0,.agg [.str e.1,i64 (-1)])]=some [.str e.1,i64 (-1)]:=rfl
   simp only[ef,bE,af]
   exact uq rfl rfl
  | some x=>
   have hxl:∃ j:Nat,t.l[j]?=some x:=by
    unfold jG at hx
    obtain ⟨j,_,h⟩:=Option.bind_eq_some_iff.1 hx
    exact ⟨j,h⟩
   obtain ⟨j,hj⟩:=hxl
   simp only[av,aN,aO,ab,bw,bM,ae,e2,g]
   refine (ih j x hj e hm).call fun r hr=>?_
   obtain ⟨y,n,ds,rfl,rfl,hn,hpd,h1d,hnd⟩:=hr
   simp only[av,aN,aO,ab]
   cases htk:cM x e.2 with
   | true=>
    simp only[bM,ae,aH,ab,aK (show i<2 ^ 40 by unfold big at hbe;omega),Bool.true_and]
    exact ihk (i+1) st (by omega) h0
   | false=>
    simp only[bL,ah,Bool.false_and]
    refine (xT _).call ?_
    have ef:aB (fun i=>some (i*2,2)) (List.replicate 1 [LV.str [],i64 0]).flatten [(0,.agg [.str e.1,i64 (-1)])]=some [.str e.1,i64 (-1)]:=rfl
    simp only[ef,bE,af]
    exact qD rfl rfl hn hpd h1d hnd hd
theorem I9 {d:Nat} (hd:d≤1000) {t:KT} {es:List (Tx × T)} (hv:(T.map es).ok) (htb:t.ns.length≤big) (hl:t.ns.length=t.l.length) (hl2:t.ls.length=t.l.length)
  (ih:∀ (i:Nat) (x:KT),t.l[i]?=some x→∀ e ∈ es,Pb Tryz.prog 118 [kV x,vT e.2] (WrQ d (!cM x e.2))) :
  Pb Tryz.prog 173 [kV t,vT (.map es)] (WrQ (d+1) (!(es.all (px t)&&(missing t.ns t.ls es).isEmpty))):=by
 refine Pb.of (c173 _ _ ?_) kb
 have g:ldA ([]++[ar.cells .rw [lvT (.map es)]]) (.ptr 0 0) 1=some (vT (.map es)):=rfl
 simp only[Qa,dV,af,aR,g,ab]
 refine (jV hv).call ?_
 simp only[g,ab]
 refine (mL hv).call ?_
 have hk:(T.map es).keys=es.map (·.1):=rfl
 have hi:(T.map es).items=es.map (·.2):=rfl
 rw[hk,hi]
 simp only[aU,ab,bH]
 have:=CF hd hv htb hl hl2 ih es.length 0 ([]++[ar.cells .rw [lvT (.map es)]]) (by omega) rfl
 simpa using this
end
section
variable {st st':aa} {R:LV→aa→Prop}
theorem eZ {d:Nat} {t:KT} {v:T} {b b':Bool} {st:aa} (e:b'=b):Dp (WrQ d b) (.tup [.nils,.bool b']) st:=by subst e;exact xV
theorem CG {l:List KT} {i:Nat}:(cW l).getD i (fun _=>false)=match l[i]? with
  | some x=>cM x
  | none=>fun _=>false:=by
 rw[ka,List.getD_eq_getElem?_getD,bT]
 cases l[i]?<;>rfl
theorem qE:∀ {ts:List KT} {vs:List T},ts.length=vs.length→(qy (cW ts) vs=true↔∀ (i:Nat) (t:KT) (v:T),ts[i]?=some t→vs[i]?=some v→cM t v=true)
 | [],[],_=>by simp[cW,qy]
 | t::ts,v::vs,h=>by
  simp only[cW,qy,bp]
  rw[qE (ts:=ts) (vs:=vs) (by simpa using h)]
  constructor
  ·rintro ⟨h1,h2⟩ i t' v' h3 h4
   cases i with
   | zero=>simp only[aN,aM] at h3 h4;subst h3;subst h4;exact h1
   | succ i=>simp only[aO] at h3 h4;exact h2 i t' v' h3 h4
  ·intro h
   exact ⟨h 0 t v rfl rfl,fun i t' v' h3 h4=>h (i+1) t' v' (by simpa using h3) (by simpa using h4)⟩
theorem Ja {ts:List KT} {vs:List T} (h:ts.length=1):vs.all ((cW ts).getD 0 fun _=>false)=true↔CD ts vs:=by
 match ts,h with
 | [t],_=>
  simp only[cW,List.getD_cons_zero,List.all_eq_true]
  constructor
  ·intro k i t' v h1 h2
   simp only[List.length_singleton,Nat.sub_self,Nat.min_zero,aN,aM] at h1
   subst h1
   exact k v (cr h2)
  ·intro k v hv
   obtain ⟨i,hi⟩:=List.getElem?_of_mem hv
   exact k i t v (by simp) hi
theorem Aw {t:KT} (hl:t.ns.length=t.l.length) {e:Tx × T}:px t e=match eP e.1 t.ns 0 with
  | some i=>((cW t.l).getD i fun _=>false) e.2
  | none=>false:=by
 unfold px jG
 cases h:eP e.1 t.ns 0 with
 | none=>rfl
 | some i=>
  obtain ⟨_,h2,_⟩:=r6 h
  have hx:t.l[i]?=some (t.l[i]'(by omega)):=bg (by omega)
  simp only[Option.bind_some,CG,hx]
theorem T.ur {v:T}:0≤v.kind∧v.kind≤7:=by cases v<;>simp[T.kind]
theorem Jb:∀ {d:Nat},d≤1000→∀ {t:KT} {v:T},t.wf d→v.ok→Pb Tryz.prog 118 [kV t,vT v] (WrQ d (!cM t v)):=by
 intro d
 induction d with
 | zero=>intro _ t v h;cases t;simp only[KT.wf] at h
 | succ d ih=>
  intro hd t v hw hv
  refine Pb.of (Rh _ _ ?_) kb
  have e:cM t v=cQ t.f (cW t.l) t.ns t.ls v:=by cases t;rfl
  rw[e]
  have hw':t.f≤8∧(t.f<5→t.l=[])∧(t.f=5∨t.f=6→t.l.length=1)∧(t.f<8→t.ns=[]∧t.ls=[])∧(t.f=8→t.ns.length=t.l.length∧t.ls.length=t.l.length)∧t.l.length≤16∧t.ns.Pairwise ltB∧(∀ n ∈ t.ns,named n=true)∧KT.wfs d t.l:=by cases t;exact hw
  obtain ⟨w1,w2,w3,w4,w5,w6,_,_,w7⟩:=hw'
  have w7':=KT.mI.1 w7
  have g:ldA ([]++[ar.cells .rw [lvT v]]) (.ptr 0 0) 1=some (vT v):=rfl
  have ek:∀ n:Int,(v.kind==n)=decide (v.kind=n):=fun n=>by by_cases h:v.kind=n<;>simp[h]
  have ek2:(v.kind != fI t.f)=decide (v.kind≠fI t.f):=by by_cases h:v.kind=fI t.f<;>simp[h]
  simp only[PZ,dV,af,aR,g,ab,iY,dL,dz,ae]
  refine (kN v).call ?_
  simp only[ad,bj,au,ab,ek,cf,b9,aj,bA,kc0,aL]
  refine ⟨fun h0=>eZ (t:=t) (v:=v) ?_,fun h0=>⟨fun h1=>eZ (t:=t) (v:=v) ?_,fun h1=>⟨fun h5=>?_,fun h5=>?_⟩⟩⟩
  ·simp[cQ,h0]
  ·simp[cQ,h1]
  ·refine IL.call ?_
   simp only[bw,ab]
   refine eZ (t:=t) (v:=v) ?_
   have:t.f<5:=by omega
   simp[cQ,h0,h1,this]
  ·refine IJ.call ?_
   have h5':¬ t.f<5:=by omega
   simp only[ad,bJ,ab,ek2,aL]
   have hb01:¬ (v.kind=0∨v.kind=1):=by omega
   have hh:fI t.f=if t.f=6∨t.f=8 then 7 else 6:=by simp[fI,h5']
   refine ⟨fun hk=>eZ (t:=t) (v:=v) ?_,fun hk=>?_⟩
   ·rw[hh] at hk
    unfold cQ
    rw[if_neg hb01,if_neg h5']
    cases v<;>simp only[T.kind] at hk ⊢<;>try rfl
    ·have h6:t.f=6∨t.f=8:=Classical.byContradiction fun h=>hk (by rw[if_neg h])
     have:t.f≠5∧t.f≠7:=by omega
     simp[this]
    ·have h6:¬ (t.f=6∨t.f=8):=fun h=>hk (by rw[if_pos h])
     have:t.f≠6∧t.f≠8:=by omega
     simp[this]
   ·have hk':v.kind=fI t.f:=Classical.byContradiction hk
    rw[hh] at hk'
    refine NY _ _ ?_
    simp only[HU,g,ab]
    refine (jV hv).call ?_
    simp only[cf,b9,aj,ab,bA,kc0]
    refine Kr _ _ _ _ ?_
    have e8:((t.f:Int)==8)=decide (t.f=8):=by by_cases h:t.f=8<;>simp[h];omega
    have e6:((t.f:Int)==6)=decide (t.f=6):=by by_cases h:t.f=6<;>simp[h];omega
    have e7:((t.f:Int)==7)=decide (t.f=7):=by by_cases h:t.f=7<;>simp[h];omega
    simp only[D8,ad,bj,ab,e8,e6,e7,aL,g]
    have fin:∀ {b:Bool} {r:LV} {s:aa} {K:LV→LV→Prop},WrQ (d+1) b r→(∀ x y,Dp (WrQ (d+1) b) (.tup [x,y]) s→K x y)→bd (ai r 0) fun x=>bd (ai r 1) fun y=>K x y:=by
     intro b r s K hr hK
     obtain ⟨x,k,cs,rfl,rfl,h1,h2,h3,h4⟩:=hr
     simp only[av,aN,aO,ab]
     have hp:(LV.tup [LV.isl cs k none,.bool b]).plain=true:=by simp only[LV.plain,LV.aG,h2];rfl
     exact hK _ _ ⟨_,bu _ hp,hp,_,k,cs,rfl,rfl,h1,h2,h3,h4⟩
    have ihx:∀ (x:KT) (y:T),x ∈ t.l→y ∈ v.items→Pb Tryz.prog 118 [kV x,vT y] (WrQ d (!cM x y)):=fun x y hx hy=>ih (by omega) (w7' x hx) (T.dY hv y hy)
    have hbig:t.l.length≤big:=by unfold big;omega
    have inn:∀ {cs:List LV} {b:Bool} {s:aa},(0<v.items.length→0<t.l.length)→v.items.length≤big→cs.length=v.items.length*2→LV.aG cs=true→cs.all LV.one=true→(b=false↔CD t.l v.items)→∀ {R:LV→aa→Prop},(∀ r,WrQ (d+1) b r→R r s)→aw Tryz.prog 174 [.isl (kVs t.l) t.l.length none,vL v.items,.isl cs v.items.length none] s R:=by
     intro cs b s p1 p2 p3 p4 p5 p6 R hR
     exact (I8 (by omega) p1 hbig p2 p3 p4 p5 (fun i x y h1 h2=>ihx x y (cr h1) (cr h2)) p6).call hR
    have one13:∀ {b:Bool} {s:aa},(0<v.items.length→0<t.l.length)→v.items.length≤big→(b=false↔CD t.l v.items)→rX (kV t) (vL v.items) (Dp (WrQ (d+1) b)) s:=by
     intro b s p1 p2 p3
     refine Ks _ _ ?_
     simp only[D9,cf,b9,aj,ab,bA,kc1,aU]
     refine (FZ p2).call fun r hr=>?_
     obtain ⟨cs,rfl,q1,q2,q3⟩:=hr
     refine ⟨by trivial,inn p1 p2 q1 q2 q3 p3 fun r hr=>?_⟩
     exact fin hr fun x y h=>Kw _ _ h
    have tk:∀ {b:Bool},cQ t.f (cW t.l) t.ns t.ls v=b→∀ {P:Bool→Prop},P (!b)→P (!cQ t.f (cW t.l) t.ns t.ls v):=fun e _ h=>by rw[e];exact h
    have inb:∀ {b:Bool},(b=true↔CD t.l v.items)→((!b)=false↔CD t.l v.items):=fun {b} h=>by rw[← h];cases b<;>simp
    refine ⟨fun h8=>?_,fun h8=>⟨fun h6=>?_,fun h6=>⟨fun h7=>?_,fun h7=>?_⟩⟩⟩
    ·rw[if_pos (by omega)] at hk'
     cases v<;>simp only[T.kind] at hk'<;>try omega
     rename_i es
     have ⟨l1,l2⟩:=w5 (by omega)
     refine (I9 (d:=d) (by omega) hv (by omega) l1 (by omega) fun i x hx e he=>ihx x e.2 (cr hx) (List.mem_map.2 ⟨e,he,rfl⟩)).call fun r hr=>?_
     have e:cQ t.f (cW t.l) t.ns t.ls (.map es)=(es.all (px t)&&(missing t.ns t.ls es).isEmpty):=by
      have h86:t.f≠6:=by omega
      have h88:t.f=8:=by omega
      unfold cQ
      rw[if_neg hb01,if_neg h5']
      show (if t.f=6 then _ else if t.f=8 then _ else _)=_
      rw[if_neg h86,if_pos h88]
      congr 1
      exact congrArg es.all (funext fun e=>(Aw l1).symm)
     rw[e]
     exact fin hr fun x y h=>h
    ·rw[if_pos (by omega)] at hk'
     cases v<;>simp only[T.kind] at hk'<;>try omega
     rename_i es
     have hlen:(es.map (·.1)).length=(T.map es).items.length:=by simp[T.items]
     have hbe:es.length≤big:=by simp only[T.ok] at hv;exact hv.1
     have e:cQ t.f (cW t.l) t.ns t.ls (.map es)=((T.map es).items.all ((cW t.l).getD 0 fun _=>false)):=by
      unfold cQ
      rw[if_neg hb01,if_neg h5']
      show (if t.f=6 then _ else _)=_
      rw[if_pos (by omega)]
      simp only[T.items,List.all_map]
      rfl
     rw[e]
     simp only[cf,b9,aj,ab,bA,kc1]
     refine (mL hv).call ⟨by trivial,?_⟩
     refine (KV (ks:=es.map (·.1)) (by simpa using hbe)).call fun r hr=>?_
     obtain ⟨cs,rfl,q1,q2,q3⟩:=hr
     rw[hlen] at q1
     refine ⟨by trivial,?_⟩
     rw[hlen]
     refine inn (fun _=>by have:=w3 (by omega);omega) (by rw[← hlen];simpa using hbe) q1 q2 q3 (inb (Ja (w3 (by omega)))) fun r hr=>?_
     exact fin hr fun x y h=>Ku _ _ h
    ·rw[if_neg (by omega)] at hk'
     cases v<;>simp only[T.kind] at hk'<;>try omega
     rename_i vs
     have hbe:vs.length≤big:=by simp only[T.ok] at hv;exact hv.1
     have e:cQ t.f (cW t.l) t.ns t.ls (.list vs)=(decide (vs.length=t.l.length)&&qy (cW t.l) vs):=by
      unfold cQ
      rw[if_neg hb01,if_neg h5']
      show (if t.f=5 then _ else if t.f=7 then _ else _)=_
      rw[if_neg (by omega),if_pos (by omega),ka,bH]
     rw[e]
     have e9:(((T.list vs).items.length:Int) != (t.l.length:Int))=decide (vs.length≠t.l.length):=by
      show ((vs.length:Int) != _)=_
      by_cases h:vs.length=t.l.length
      ·simp[h]
      ·have:¬ (vs.length:Int)=t.l.length:=by omega
       simp[h,bne,this]
     simp only[aU,cf,b9,aj,ab,bA,kc1,bJ,ad,e9,aL]
     refine ⟨fun hn=>eZ (t:=t) (v:=.list vs) ?_,fun hn=>?_⟩
     ·rw[decide_eq_false hn];rfl
     ·have hn':t.l.length=vs.length:=by omega
      refine one13 (fun h=>by rw[hn'];exact h) hbe (inb ?_)
      rw[decide_eq_true hn'.symm,Bool.true_and,qE hn']
      show _↔∀ (i:Nat) (x:KT) (y:T),t.l[min i (t.l.length-1)]?=some x→vs[i]?=some y→cM x y=true
      constructor
      ·intro h i x y h1 h2
       have:=(List.getElem?_eq_some_iff.1 h2).1
       rw[Nat.min_eq_left (by omega)] at h1
       exact h i x y h1 h2
      ·intro h i x y h1 h2
       have:=(List.getElem?_eq_some_iff.1 h2).1
       refine h i x y ?_ h2
       rw[Nat.min_eq_left (by omega)];exact h1
    ·rw[if_neg (by omega)] at hk'
     cases v<;>simp only[T.kind] at hk'<;>try omega
     rename_i vs
     have hbe:vs.length≤big:=by simp only[T.ok] at hv;exact hv.1
     have h55:t.f=5:=by omega
     have e:cQ t.f (cW t.l) t.ns t.ls (.list vs)=vs.all ((cW t.l).getD 0 fun _=>false):=by
      unfold cQ
      rw[if_neg hb01,if_neg h5']
      show (if t.f=5 then _ else _)=_
      rw[if_pos h55]
     rw[e]
     exact one13 (fun _=>by have:=w3 (by omega);omega) hbe (inb (Ja (w3 (by omega))))
theorem Jc {d:Nat} (hd:d≤1000) {t:KT} {v:T} (hw:t.wf d) (hv:v.ok):Pu Tryz.prog 53 [kV t,vT v] (.bool (cM t v)):=by
 refine Pu.of (c53 _ _ ?_) kb rfl
 have g:ldA ([]++[ar.cells .rw [lvT v]]) (.ptr 0 0) 1=some (vT v):=rfl
 simp only[w53,dV,af,aR,g,ab]
 refine (Jb hd hw hv).call fun r hr=>?_
 obtain ⟨x,k,cs,rfl,rfl,-⟩:=hr
 simp only[av,aN,aO,ab,bw,Bool.not_not]
 exact bu _ rfl
end
end Go.Proofs.YtknegckgmklnhaaGreatDoor
