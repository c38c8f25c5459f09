/- Parts of the proof. -/
import Derived.Test.YtknegckgmklnhaaGreatDoorVbW5
import Derived.Test.YtknegckgmklnhaaGreatDoorVaE
namespace Go.Proofs.YtknegckgmklnhaaGreatDoor
open Go Go.CP
set_option maxRecDepth 100000
mutual
def rkC:KT→List LV
 | .mk f l ns ls=>[i64 f,.isl (dj l) l.length none,.isl (ns.map .str) ns.length none,.isl (ls.map .bool) ls.length none]
def dj:List KT→List LV
 | []=>[]
 | t::ts=>rkC t++dj ts
end
theorem gd {t:KT}:rkC t=[i64 t.f,.isl (dj t.l) t.l.length none,.isl (t.ns.map .str) t.ns.length none,.isl (t.ls.map .bool) t.ls.length none]:=by cases t;rfl
theorem dT {t:KT}:(rkC t).length=4:=by rw[gd];rfl
theorem yl:∀ {l:List KT},dj l=(l.map rkC).flatten
 | []=>rfl
 | r::rs=>by simp[dj,yl (l:=rs)]
theorem Jk {a b:List KT}:dj (a++b)=dj a++dj b:=by simp[yl]
theorem pG {t:KT}:(rkC t).all LV.one=true:=by rw[gd];rfl
mutual
theorem fJ:∀ {t:KT},LV.aG (rkC t)=true
 | .mk f l ns ls=>by
  simp only[rkC,LV.aG,LV.plain,Bool.true_and,Bool.and_true,bp]
  exact ⟨kW,bV fun _ _=>rfl,bV fun _ _=>rfl⟩
theorem kW:∀ {l:List KT},LV.aG (dj l)=true
 | []=>rfl
 | t::ts=>by rw[dj,dP,fJ,kW];rfl
end
abbrev tE (t:KT) (a e:Int):LV:=.tup [.agg (rkC t),.agg [i64 a,i64 e]]
theorem Az {t:KT} {a e:Int}:(tE t a e).plain=true:=by simp[LV.plain,LV.aG,fJ]
def atB (s:Tx) (i:Nat):Int:=match s[i]? with
 | some c=>c.toNat
 | none=>-1
section
variable {st st' st0:aa} {s:Tx} {a d n:Nat} {R:LV→aa→Prop}
theorem gG (i:Nat):Pu Tryz.prog 243 [.str s,i64 i] (i64 (atB s i)):=by
 refine Pu.of (Rv _ _ ?_) rfl rfl
 simp only[Qr,bF,ab,ad,dN]
 rw[aL]
 refine ⟨fun h=>?_,fun h=>?_⟩
 ·have:atB s i = -1:=by unfold atB;rw[List.getElem?_eq_none (by omega)]
  rw[this];exact (rfl:_=_)
 ·have hx:s[i]?=some (s[i]'(by omega)):=bg (by omega)
  generalize s[i]'(by omega)=c at hx
  have hw:IntKind.i64.wrap ((c.toNat:Nat):Int)=((c.toNat:Nat):Int):=by
   have:=c.toNat_lt
   rw[wrap_i64 (by omega) (by omega)]
  simp only[dB hx,ab,mw,hw]
  have:atB s i=c.toNat:=by unfold atB;rw[hx]
  rw[this];exact (rfl:_=_)
theorem jh {c:UInt8} {i:Nat}:(atB s i==((c.toNat:Nat):Int))=decide (s[i]?=some c):=by
 unfold atB
 cases h:s[i]? with
 | none=>
  have:((-1:Int)==((c.toNat:Nat):Int))=false:=by
   rw[beq_eq_false_iff_ne];omega
  simp[this]
 | some x=>
  by_cases hx:x=c
  ·subst hx;simp
  ·have h1:x.toNat≠c.toNat:=fun k=>hx (UInt8.toNat_inj.1 k)
   have h2:(((x.toNat:Nat):Int)==((c.toNat:Nat):Int))=false:=by
    have:((x.toNat:Nat):Int)≠((c.toNat:Nat):Int):=by omega
    simpa using this
   simp[h2,hx]
def NmQ (s:Tx) (i:Nat) (v:LV):Prop:=match iz (s.drop i) with
 | some p=>v=.agg [i64 (i+p.1.length:Nat),i64 0]
 | none=>∃ a e:Int,e≠0∧v=.agg [i64 a,i64 e]
theorem uK {o:Nat} {l:List LV} {x y:Int} (h:st[o]?=some (.cells .rw l)) (hl:l.length=2):stV st 2 (.ptr o 0) (.agg [i64 x,i64 y])=some (st.set o (.cells .rw [i64 x,i64 y])):=by
 have h1:=fq (k:=0) (vs:=[i64 x,i64 y]) (n:=2) h (by simp;omega) rfl rfl
 refine h1.trans ?_
 congr 3
 simp only[cy,List.take_zero,bD,aj]
 rw[bR (by simp;omega),List.append_nil]
theorem ux {o:Nat} {l:List LV} (h:st[o]?=some (.cells .rw l)) (hl:l.length=2):ldA st (.ptr o 0) 2=some (.agg l):=by
 rw[du h (by omega)]
 congr 2
 rw[List.drop_zero,List.take_of_length_le (by omega)]
theorem mk2 {x y:Int}:bh (aB (aF [(0,1),(1,1)]) [i64 0,i64 0] [(0,i64 x),(1,i64 y)])=some (.agg [i64 x,i64 y]):=rfl
theorem vC {i k:Nat} {c:UInt8} (hc:s[k]?=some c) (hik:i≤k) (hk:k<2 ^ 40) (hy:(isLet c||decide (i<k)&&jT c)=true→rr (.str s) (i64 i) (.ptr 0 0) (i64 (k+1:Nat)) R st)
  (hn:(isLet c||decide (i<k)&&jT c)=false→nt (i64 i) (.ptr 0 0) (i64 k) R st):rr (.str s) (i64 i) (.ptr 0 0) (i64 k) R st:=by
 refine MJ _ _ _ _ ?_
 have hlt:=(List.getElem?_eq_some_iff.1 hc).1
 have c1:(k:Int)<s.length:=by omega
 have g1:(decide (((c.toNat:Nat):Int)≥97))=decide (97≤c.toNat):=decide_eq_decide.2 (by omega)
 have g2:(decide (((c.toNat:Nat):Int)≤122))=decide (c.toNat≤122):=decide_eq_decide.2 (by omega)
 have g3:(decide (((c.toNat:Nat):Int)≥48))=decide (48≤c.toNat):=decide_eq_decide.2 (by omega)
 have g4:(decide (((c.toNat:Nat):Int)≤57))=decide (c.toNat≤57):=decide_eq_decide.2 (by omega)
 have g5:decide ((k:Int) > (i:Int))=decide (i<k):=decide_eq_decide.2 (by omega)
 have e:(isLet c||decide (i<k)&&jT c)=(decide (97≤c.toNat)&&decide (c.toNat≤122)||decide (i<k)&&(decide (48≤c.toNat)&&decide (c.toNat≤57))):=by
  simp only[jT,isLet]
  by_cases h1:97≤c.toNat<;>by_cases h2:c.toNat≤122<;>simp[h1,h2]
 rw[e] at hy hn
 simp only[Jh,bF,ad,au,ab,c1,aZ,ah,dB hc,dN,eo,cT,g1,g2,g3,g4,g5,aH,aK hk]
 revert hy hn
 generalize decide (97≤c.toNat)=b1
 generalize decide (c.toNat≤122)=b2
 generalize decide (i<k)=b3
 generalize decide (48≤c.toNat)=b4
 generalize decide (c.toNat≤57)=b5
 intro hy hn
 cases b1<;>cases b2<;>cases b3<;>cases b4<;>cases b5<;>first|exact hy rfl|exact hn rfl
theorem vD (hs:s.length<2 ^ 40) {i:Nat} (hfin:nt (i64 i) (.ptr 0 0) (i64 (i+(dQ (s.drop i)).length:Nat)) R st):∀ (d k:Nat),k+d=(dQ (s.drop i)).length→rr (.str s) (i64 i) (.ptr 0 0) (i64 (i+k:Nat)) R st
 | 0,k,hk=>by
  have hk:k=(dQ (s.drop i)).length:=by omega
  subst hk
  rcases Nat.lt_or_ge (i+(dQ (s.drop i)).length) s.length with hlt|hge
  ·have hx:s[i+(dQ (s.drop i)).length]?=some s[i+(dQ (s.drop i)).length]:=bg hlt
   generalize s[i+(dQ (s.drop i)).length]=c at hx
   refine vC hx (by omega) (by omega) (fun hy=>?_) fun _=>hfin
   exfalso
   have hno:=(zV (t:=s.drop i) (k:=(dQ (s.drop i)).length) (Nat.le_refl _)).2
   simp only[Bool.or_eq_true,bp,decide_eq_true_eq] at hy
   have hx':(s.drop i)[(dQ (s.drop i)).length]?=some c:=by rw[List.getElem?_drop];exact hx
   rcases Nat.eq_zero_or_pos (dQ (s.drop i)).length with h0|h0
   ·have h0':(s.drop i)[0]?=some c:=by rw[← h0];exact hx'
    rcases hy with hy|hy
    ·have:=hno ⟨c,c,h0',hy,hx',by simp[jT,hy]⟩;omega
    ·omega
   ·obtain ⟨c0,x,hc0,hl0,_,_⟩:=(zV (t:=s.drop i) (k:=0) (by omega)).1 h0
    have hn:jT c=true:=by
     rcases hy with hy|hy
     ·simp[jT,hy]
     ·exact hy.2
    have:=hno ⟨c0,c,hc0,hl0,hx',hn⟩;omega
  ·refine MJ _ _ _ _ ?_
   have c1:¬ ((i+(dQ (s.drop i)).length:Nat):Int)<s.length:=by omega
   simp only[Jh,bF,ad,au,ab,c1,a8,ae]
   exact hfin
 | d+1,k,hk=>by
  obtain ⟨c,x,hc,hlet,hx,hnm⟩:=(zV (t:=s.drop i) (k:=k) (by omega)).1 (by omega)
  rw[List.getElem?_drop] at hx hc
  have hlt:=(List.getElem?_eq_some_iff.1 hx).1
  refine vC hx (by omega) (by omega) (fun _=>vD hs hfin d (k+1) (by omega)) fun hn=>?_
  exfalso
  rw[hnm] at hn
  rcases Nat.eq_zero_or_pos k with h0|h0
  ·subst h0
   rw[hc] at hx;cases hx
   rw[hlet] at hn;cases hn
  ·have:i<i+k:=by omega
   simp[this] at hn
theorem Qw (hs:s.length<2 ^ 40) {i:Nat} (hi:i≤s.length):Pb Tryz.prog 77 [.str s,i64 i] (NmQ s i):=by
 refine Pb.of (c77 _ _ ?_) rfl
 simp only[w77,cv,bD,aR]
 refine vD hs (i:=i) ?_ (dQ (s.drop i)).length 0 (by omega)
 refine Qs _ _ _ ?_
 have hlen:=Ch (t:=s.drop i)
 rw[List.length_drop] at hlen
 have h0:([ar.cells .rw [i64 0,i64 0]]:aa)[0]?=some (.cells .rw [i64 0,i64 0]):=rfl
 have out:∀ x y:Int,NmQ s i (.agg [i64 x,i64 y])→bd2 (lmk (stV [ar.cells .rw [i64 0,i64 0]] 2 (.ptr 0 0) (.agg [i64 x,i64 y]))) fun _v2 st3=>bd (ldA st3 (.ptr 0 0) 2) fun v4=>Dp (NmQ s i) v4 st3:=by
  intro x y hq
  rw[uK h0 rfl]
  simp only[aA,af]
  rw[ux (bO h0) rfl]
  exact ⟨_,bu _ rfl,rfl,hq⟩
 generalize hm:(dQ (s.drop i)).length=m at hlen
 have em:(((i+m:Nat):Int)==(i:Int))=decide (m=0):=by
  by_cases h:m=0
  ·simp[h]
  ·simp only[h,a8,beq_eq_false_iff_ne,ne_eq]
   omega
 have e2:IntKind.i64.wrap (((i+m:Nat):Int)-(i:Int))=(m:Int):=by rw[wrap_i64 (by omega) (by omega)];omega
 simp only[MI,ad,bj,ab,em,mk2,dM,e2,cT]
 rw[aL]
 refine ⟨fun h=>out _ _ ?_,fun h=>?_⟩
 ·unfold NmQ iz
  rw[if_pos (.inl (List.eq_nil_of_length_eq_zero (by omega)))]
  exact ⟨_,_,by decide,rfl⟩
 ·rw[aL]
  refine ⟨fun hg=>out _ _ ?_,fun hg=>out _ _ ?_⟩
  ·unfold NmQ iz
   rw[if_pos (.inr (by omega))]
   exact ⟨_,_,by decide,rfl⟩
  ·unfold NmQ iz
   rw[if_neg (by intro hc;rcases hc with hc|hc;(rw[hc] at hm;exact h hm.symm);omega)]
   simp only[hm]
end
def TyQ (s:Tx) (res:Option (KT × Tx)) (v:LV):Prop:=match res with
 | some p=>∃ a':Nat,a'≤s.length∧p.2=s.drop a'∧v=tE p.1 a' 0
 | none=>∃ (t:KT) (a e:Int),e≠0∧v=tE t a e
def nu (d D:Nat):Prop:=∀ {s:Tx},s.length≤4096→∀ i:Nat,i≤s.length→Pb Tryz.prog 196 [.str s,i64 i,i64 D] (TyQ s (pT d (s.drop i)))
structure MIn (st:aa) (form:Nat) (fl fn fb:Option Nat) (l:List KT) (ns:List Tx) (ls:List Bool):Prop where
 h0:st[0]?=some (.cells .rw [i64 0,.nils,.nils,.nils])
 h1:st[1]?=some (.cells .rw [i64 0,i64 0])
 h2:st[2]?=some (.cells .rw [i64 form,osl fl 4 l.length,osl fn 1 (ns.map LV.str).length,osl fb 1 (ls.map LV.bool).length])
 ol:ca .rw st fl 4 l.length (dj l)
 on:ca .rw st fn 1 (ns.map LV.str).length (ns.map .str)
 ob:ca .rw st fb 1 (ls.map LV.bool).length (ls.map .bool)
 gl:∀ j,fl=some j→3≤j
 gn:∀ j,fn=some j→3≤j
 gb:∀ j,fb=some j→3≤j
 d1:∀ j,fl=some j→fn≠some j∧fb≠some j
 d2:∀ j,fn=some j→fb≠some j
section
variable {st st' st0:aa} {s:Tx} {a d D n form:Nat} {Q:LV→Prop} {fl fn fb:Option Nat} {l:List KT} {ns:List Tx} {ls:List Bool}
theorem MIn.fr (h:MIn st form fl fn fb l ns ls) (F:Fr st st' (fun _=>False)):MIn st' form fl fn fb l ns ls:=
 ⟨F.get h.h0 id,F.get h.h1 id,F.get h.h2 id,h.ol.fr F fun _ _ h=>h,h.on.fr F fun _ _ h=>h,h.ob.fr F fun _ _ h=>h,h.gl,h.gn,h.gb,h.d1,h.d2⟩
theorem ym {f:Option Nat} {sz k:Nat} {acc:List LV} {j:Nat} (h:ca .rw st f sz k acc) (e:f=some j):j<st.length:=by subst e;exact h.lt
theorem pH {f:Option Nat} {sz n:Nat}:(osl f sz n).one=true:=by cases f<;>rfl
abbrev mC (form:Nat) (fl fn fb:Option Nat) (l:List KT) (ns:List Tx) (ls:List Bool):List LV:=[i64 form,osl fl 4 l.length,osl fn 1 (ns.map LV.str).length,osl fb 1 (ls.map LV.bool).length]
theorem yn:(mC form fl fn fb l ns ls).all LV.one=true:=by
 simp only[List.all_cons,List.all_nil,pH];rfl
theorem CN {o:Nat} {l:List LV} (h:st[o]?=some (.cells .rw l)) (hl:l.length=4):ldA st (.ptr o 0) 4=some (.agg l):=by
 rw[du h (by omega)]
 congr 2
 rw[List.drop_zero,List.take_of_length_le (by omega)]
theorem CO {o:Nat} {l vs:List LV} (h:st[o]?=some (.cells .rw l)) (hl:l.length=4) (hv:vs.length=4) (h1:vs.all LV.one=true):stV st 4 (.ptr o 0) (.agg vs)=some (st.set o (.cells .rw vs)):=by
 have h:=fq (k:=0) (n:=4) h (by omega) h1 hv
 refine h.trans ?_
 congr 3
 simp only[cy,List.take_zero,bD,aj]
 rw[bR (by omega),List.append_nil]
theorem MIn.ld (h:MIn st form fl fn fb l ns ls):ldA st (.ptr 2 0) 4=some (.agg (mC form fl fn fb l ns ls)):=CN h.h2 rfl
theorem MIn.out (h:MIn st form fl fn fb l ns ls) {x y:Int} (hQ:Q (tE (.mk form l ns ls) x y)) :
  bd2 (lmk (stV st 4 (.ptr 0 0) (.agg (mC form fl fn fb l ns ls)))) fun _v6 st7=>bd2 (lmk (stV st7 2 (.ptr 1 0) (.agg [i64 x,i64 y]))) fun _v8 st9=>bd (ldA st9 (.ptr 0 0) 4) fun v10=>bd (ldA st9 (.ptr 1 0) 2) fun v11=>Dp Q (LV.tup [v10,v11]) st9:=by
 rw[CO h.h0 rfl rfl yn]
 simp only[aA,af]
 have k1:(st.set 0 (.cells .rw (mC form fl fn fb l ns ls)))[1]?=some (.cells .rw [i64 0,i64 0]):=(bK (by decide)).trans h.h1
 rw[uK k1 rfl]
 simp only[aA,af]
 have k0:((st.set 0 (.cells .rw (mC form fl fn fb l ns ls))).set 1 (.cells .rw [i64 x,i64 y]))[0]?=some (.cells .rw (mC form fl fn fb l ns ls)):=(bK (by decide)).trans (bO h.h0)
 rw[CN k0 rfl]
 simp only[ab]
 rw[ux (bO k1) rfl]
 have F:Fr st ((st.set 0 (.cells .rw (mC form fl fn fb l ns ls))).set 1 (.cells .rw [i64 x,i64 y])) (fun j=>j<2):=(Fr.set (S:=fun j=>j<2) (by omega)).trans (Fr.set (S:=fun j=>j<2) (by omega)) fun _ _ h=>h
 have q:∀ {f:Option Nat},(∀ j,f=some j→3≤j)→∀ j,f=some j→¬ j<2:=fun g j e=>by have:=g j e;omega
 refine ⟨_,?_,Az,hQ⟩
 generalize ((st.set 0 (ar.cells .rw (mC form fl fn fb l ns ls))).set 1 (.cells .rw [i64 x,i64 y]))=S at F
 have a1:dp S (.isl (dj l) l.length none) (osl fl 4 l.length):=eL (h.ol.fr F (q h.gl)) rfl (bU _ kW)
 have a2:dp S (.isl (ns.map .str) ns.length none) (osl fn 1 (ns.map LV.str).length):=by
  have t:=eL (h.on.fr F (q h.gn)) rfl (bU S (bV (f:=LV.str) (l:=ns) fun _ _=>rfl))
  rw[bH] at t ⊢
  exact t
 have a3:dp S (.isl (ls.map .bool) ls.length none) (osl fb 1 (ls.map LV.bool).length):=by
  have t:=eL (h.ob.fr F (q h.gb)) rfl (bU S (bV (f:=LV.bool) (l:=ls) fun _ _=>rfl))
  rw[bH] at t ⊢
  exact t
 refine ⟨_,rfl,_,_,rfl,⟨_,rfl,?_⟩,_,_,rfl,bu (v:=.agg [i64 x,i64 y]) _ rfl,rfl⟩
 exact ⟨_,_,rfl,rfl,_,_,rfl,a1,_,_,rfl,a2,_,_,rfl,a3,rfl⟩
theorem MIn.Oy (h:MIn st form fl fn fb l ns ls) {o:Nat} (ho:2<o) {x y:Int} (he:st[o]?=some (.cells .rw [i64 x,i64 y])) (hQ:Q (tE (.mk form l ns ls) x y)) {K:aa→Prop} (hK:∀ s2,(bd (ldA s2 (.ptr 0 0) 4) fun v10=>bd (ldA s2 (.ptr 1 0) 2) fun v11=>Dp Q (LV.tup [v10,v11]) s2)→K s2) :
  bd2 (lmk (stV st 4 (.ptr 0 0) (.agg (mC form fl fn fb l ns ls)))) fun _v6 st7=>ldA st7 (.ptr o 0) 2=some (.agg [i64 x,i64 y])∧bd2 (lmk (stV st7 2 (.ptr 1 0) (.agg [i64 x,i64 y]))) fun _v8 st9=>K st9:=by
 have h3:=h.out hQ
 rw[CO h.h0 rfl rfl yn] at h3 ⊢
 simp only[aA,af] at h3 ⊢
 have k1:(st.set 0 (.cells .rw (mC form fl fn fb l ns ls)))[1]?=some (.cells .rw [i64 0,i64 0]):=(bK (by decide)).trans h.h1
 rw[uK k1 rfl] at h3 ⊢
 simp only[aA,af] at h3 ⊢
 exact ⟨ux ((bK (by omega)).trans he) rfl,hK _ h3⟩
theorem MIn.more (h:MIn st form fl fn fb l ns ls) (hl:l.length<2 ^ 20) {t:KT} {K:aa→Prop} (hK:∀ st2 fl2,MIn st2 form fl2 fn fb (l++[t]) ns ls→(∀ j x,2<j→fl≠some j→st[j]?=some x→st2[j]?=some x)→K st2) :
  bd2 (cq st 1 (aB (fun i=>some (i*4,4)) (List.replicate 1 [i64 0,LV.nils,LV.nils,LV.nils]).flatten [(0,.agg (rkC t))])) fun v109 st110=>
   bd2 (bo st110 4 80 Md.rw (osl fl 4 l.length) v109) fun v111 st112=>bd2 (lmk (stV st112 1 (.ptr 2 1) v111)) fun _v114 st115=>K st115:=by
 have ef:aB (fun i=>some (i*4,4)) (List.replicate 1 [i64 0,LV.nils,LV.nils,LV.nils]).flatten [(0,.agg (rkC t))]=some (rkC t):=by cases t;rfl
 rw[ef]
 simp only[bE,af]
 have F1:Fr st (st++[ar.cells .rw (rkC t)]) (fun _=>False):=Fr.app
 have h1:=h.fr F1
 obtain ⟨st2,f2,q1,q2,q3,q4,_⟩:=h1.ol.append (x:=.sl st.length 0 1 (.ex 1)) (k:=1) (new:=rkC t) (bytes:=80) (by simp[eA,dT];rw[List.take_of_length_le (by rw[dT];omega)]) (by omega) (by rw[dT]) pG (dR (by omega) (by omega))
 rw[q1]
 simp only[af]
 have hl0:2<st.length:=cA h.h2
 have g2:=q3.get h1.h2 (fun e=>by have:=h.gl _ e;omega)
 have e1:stV st2 1 (.ptr 2 1) (osl f2 4 (l.length+1))=some (st2.set 2 (.cells .rw [i64 form,osl f2 4 (l.length+1),osl fn 1 (ns.map LV.str).length,osl fb 1 (ls.map LV.bool).length])):=by
  rw[dZ g2 (by simp) pH];rfl
 rw[e1]
 simp only[aA,af]
 have F:Fr st2 (st2.set 2 (.cells .rw [i64 form,osl f2 4 (l.length+1),osl fn 1 (ns.map LV.str).length,osl fb 1 (ls.map LV.bool).length])) (fun j=>j=2):=Fr.set rfl
 have gl2:∀ j,f2=some j→3≤j:=fun j e=>by
  rcases q4 j e with e|e
  ·exact h.gl j e
  ·simp at e;omega
 have ne2:∀ {f:Option Nat},(∀ j,f=some j→3≤j)→∀ j,f=some j→¬ j=2:=fun g j e=>by have:=g j e;omega
 refine hK _ f2 ⟨?_,?_,?_,?_,?_,?_,gl2,h.gn,h.gb,fun j e=>?_,h.d2⟩ fun j x hj hfl hx=>?_
 ·rw[bK (by decide)];exact q3.get h1.h0 fun e=>by have:=h.gl _ e;omega
 ·rw[bK (by decide)];exact q3.get h1.h1 fun e=>by have:=h.gl _ e;omega
 ·rw[b8];exact bO g2
 ·rw[b8,Jk]
  have:dj [t]=rkC t:=by simp[dj]
  rw[this];exact q2.fr F (ne2 gl2)
 ·exact (h1.on.fr q3 fun j e e2=>(h.d1 j e2).1 e).fr F (ne2 h.gn)
 ·exact (h1.ob.fr q3 fun j e e2=>(h.d1 j e2).2 e).fr F (ne2 h.gb)
 ·rcases q4 j e with e1|e1
  ·exact h.d1 j e1
  ·refine ⟨fun e2=>?_,fun e2=>?_⟩
   ·have:=ir h.on e2;simp at e1;omega
   ·have:=ir h.ob e2;simp at e1;omega
 ·rw[bK (by omega)]
  exact q3.get (F1.get hx id) hfl
theorem MIn.pair (h:MIn st form fl fn fb l ns ls) (hln:ns.length<2 ^ 20) (hlb:ls.length<2 ^ 20) {w:Tx} {g:Bool} {K:aa→Prop} (hK:∀ st2 fn2 fb2,MIn st2 form fl fn2 fb2 l (ns++[w]) (ls++[g])→K st2) :
  bd2 (cq st 1 (aB (fun i=>some (i*1,1)) (List.replicate 1 [LV.str []]).flatten [(0,.str w)])) fun v13 st14=>
  bd2 (bo st14 1 16 Md.rw (osl fn 1 (ns.map LV.str).length) v13) fun v15 st16=>bd2 (lmk (stV st16 1 (.ptr 2 2) v15)) fun _v18 st19=>
  bd (ld1 st19 (.ptr 2 3)) fun v21=>bd2 (cq st19 1 (aB (fun i=>some (i*1,1)) (List.replicate 1 [LV.bool false]).flatten [(0,.bool g)])) fun v22 st23=>
  bd2 (bo st23 1 1 Md.rw v21 v22) fun v24 st25=>bd2 (lmk (stV st25 1 (.ptr 2 3) v24)) fun _v27 st28=>K st28:=by
 have efb:aB (fun i=>some (i*1,1)) (List.replicate 1 [LV.bool false]).flatten [(0,.bool g)]=some [.bool g]:=rfl
 have efs:aB (fun i=>some (i*1,1)) (List.replicate 1 [LV.str []]).flatten [(0,.str w)]=some [.str w]:=rfl
 rw[efs]
 simp only[bE,af,efb]
 have hl0:2<st.length:=cA h.h2
 have F1:Fr st (st++[ar.cells .rw [LV.str w]]) (fun _=>False):=Fr.app
 have h1:=h.fr F1
 obtain ⟨st2,fn2,q1,q2,q3,q4⟩:=oZ (bytes:=16) h1.on jX (x:=.str w) rfl (by simpa using hln) (by omega)
 rw[q1]
 simp only[af]
 have l1:=F1.len
 have l2:=q3.len
 have gn2:∀ j,fn2=some j→3≤j:=fun j e=>by
  rcases q4 j e with e|e
  ·exact h.gn j e
  ·simp at e;omega
 have g2:=q3.get h1.h2 (fun e=>by have:=h.gn _ e;omega)
 have e1:stV st2 1 (.ptr 2 2) (osl fn2 1 (ns.map LV.str++[LV.str w]).length)=some (st2.set 2 (.cells .rw [i64 form,osl fl 4 l.length,osl fn2 1 (ns.map LV.str++[LV.str w]).length,osl fb 1 (ls.map LV.bool).length])):=by
  rw[dZ g2 (by simp) pH];rfl
 rw[e1]
 simp only[aA,af]
 generalize hS:st2.set 2 (.cells .rw [i64 form,osl fl 4 l.length,osl fn2 1 (ns.map LV.str++[LV.str w]).length,osl fb 1 (ls.map LV.bool).length])=S
 have Sg:S[2]?=some (.cells .rw [i64 form,osl fl 4 l.length,osl fn2 1 (ns.map LV.str++[LV.str w]).length,osl fb 1 (ls.map LV.bool).length]):=by rw[← hS];exact bO g2
 have FS:Fr st2 S (fun j=>j=2):=by rw[← hS];exact Fr.set rfl
 have ls2:S.length=st2.length:=by rw[← hS];simp
 have ne2:∀ {f:Option Nat},(∀ j,f=some j→3≤j)→∀ j,f=some j→¬ j=2:=fun g j e=>by have:=g j e;omega
 have lb:ld1 S (.ptr 2 3)=some (osl fb 1 (ls.map LV.bool).length):=by rw[bx Sg];rfl
 rw[lb]
 simp only[ab]
 have nfb:∀ j,fn2=some j→fb≠some j:=fun j e e2=>by
  rcases q4 j e with e1|e1
  ·exact h.d2 j e1 e2
  ·have:=ir h.ob e2;simp at e1;omega
 have nfl:∀ j,fl=some j→fn2≠some j:=fun j e e2=>by
  rcases q4 j e2 with e1|e1
  ·exact (h.d1 j e).1 e1
  ·have:=ym h.ol e;simp at e1;omega
 have oB:ca .rw S fb 1 (ls.map LV.bool).length (ls.map .bool):=(h1.ob.fr q3 fun j e e2=>h.d2 j e2 e).fr FS (ne2 h.gb)
 have oL:ca .rw S fl 4 l.length (dj l):=(h1.ol.fr q3 fun j e e2=>(h.d1 j e).1 e2).fr FS (ne2 h.gl)
 have oN:ca .rw S fn2 1 (ns.map LV.str++[LV.str w]).length (ns.map LV.str++[LV.str w]):=q2.fr FS (ne2 gn2)
 have F3:Fr S (S++[ar.cells .rw [LV.bool g]]) (fun _=>False):=Fr.app
 obtain ⟨st4,fb2,p1,p2,p3,p4⟩:=oZ (bytes:=1) (oB.fr F3 fun _ _ h=>h) jX (x:=.bool g) rfl (by simpa using hlb) (by omega)
 rw[p1]
 simp only[af]
 have l3:=F3.len
 have g4:=p3.get (F3.get Sg id) (fun e=>by have:=h.gb _ e;omega)
 have e2:stV st4 1 (.ptr 2 3) (osl fb2 1 (ls.map LV.bool++[LV.bool g]).length)=some (st4.set 2 (.cells .rw [i64 form,osl fl 4 l.length,osl fn2 1 (ns.map LV.str++[LV.str w]).length,osl fb2 1 (ls.map LV.bool++[LV.bool g]).length])):=by
  rw[dZ g4 (by simp) pH];rfl
 rw[e2]
 simp only[aA,af]
 have F4:Fr st4 (st4.set 2 (.cells .rw [i64 form,osl fl 4 l.length,osl fn2 1 (ns.map LV.str++[LV.str w]).length,osl fb2 1 (ls.map LV.bool++[LV.bool g]).length])) (fun j=>j=2):=Fr.set rfl
 have gb2:∀ j,fb2=some j→3≤j:=fun j e=>by
  rcases p4 j e with e|e
  ·exact h.gb j e
  ·simp at e;omega
 have keep:∀ {j:Nat} {x:ar},j<2→st[j]?=some x→(st4.set 2 (.cells .rw [i64 form,osl fl 4 l.length,osl fn2 1 (ns.map LV.str++[LV.str w]).length,osl fb2 1 (ls.map LV.bool++[LV.bool g]).length]))[j]?=some x:=fun {j x} hj hx=>by
  rw[bK (by omega)]
  refine p3.get (F3.get (FS.get (q3.get (F1.get hx id) fun e=>by have:=h.gn _ e;omega) (by omega)) id) fun e=>by have:=h.gb _ e;omega
 refine hK _ fn2 fb2 ⟨keep (by omega) h.h0,keep (by omega) h.h1,?_,?_,?_,?_,h.gl,gn2,gb2,fun j e=>⟨nfl j e,fun e2=>?_⟩,fun j e e2=>?_⟩
 ·rw[List.map_append,List.map_append];exact bO g4
 ·refine ((oL.fr F3 fun _ _ h=>h).fr p3 fun j e e2=>(h.d1 j e).2 e2).fr F4 (ne2 h.gl)
 ·rw[List.map_append];exact ((oN.fr F3 fun _ _ h=>h).fr p3 fun j e e2=>nfb j e e2).fr F4 (ne2 gn2)
 ·rw[List.map_append];exact p2.fr F4 (ne2 gb2)
 ·rcases p4 j e2 with e1|e1
  ·exact (h.d1 j e).2 e1
  ·have:=ym oL e;simp at e1;omega
 ·rcases p4 j e2 with e1|e1
  ·exact nfb j e e1
  ·have:=ir oN e;simp at e1;omega
end
section
variable {st st' st0:aa} {s:Tx} {a d D n form:Nat} {Q:LV→Prop} {fl fn fb:Option Nat} {l:List KT} {ns:List Tx} {ls:List Bool}
theorem CQ (c:UInt8):gR IntKind.i64 (LV.int IntKind.i32 ((c.toNat:Nat):Int))=some (i64 ((c.toNat:Nat):Int)):=by
 have:=c.toNat_lt
 simp only[mw]
 rw[wrap_i64 (by omega) (by omega)]
theorem MIn.store (h:MIn st form fl fn fb l ns ls) {t:KT} {x y:Int} {K:LV→LV→aa→Prop} (hK:∀ o1 o2 s2,MIn s2 form fl fn fb l ns ls→2<o2→s2[o1]?=some (.cells .rw (rkC t))→s2[o2]?=some (.cells .rw [i64 x,i64 y])→fl≠some o2→K (.ptr o1 0) (.ptr o2 0) s2) :
  nw st [i64 0,LV.nils,LV.nils,LV.nils] fun v89 st90=>nw st90 [i64 0,i64 0] fun v91 st92=>bd2 (lmk (stV st92 4 v89 (.agg (rkC t)))) fun _v93 st94=>bd2 (lmk (stV st94 2 v91 (.agg [i64 x,i64 y]))) fun _v95 st96=>K v89 v91 st96:=by
 simp only[cv]
 have l0:=cA h.h2
 have g1:(st++[ar.cells .rw [i64 0,LV.nils,LV.nils,LV.nils]]++[ar.cells .rw [i64 0,i64 0]])[st.length]?=some (.cells .rw [i64 0,.nils,.nils,.nils]):=cb ay
 have g2:(st++[ar.cells .rw [i64 0,LV.nils,LV.nils,LV.nils]]++[ar.cells .rw [i64 0,i64 0]])[(st++[ar.cells .rw [i64 0,LV.nils,LV.nils,LV.nils]]).length]?=some (.cells .rw [i64 0,i64 0]):=ay
 rw[CO g1 rfl dT pG]
 simp only[aA,af]
 have hne:(st++[ar.cells .rw [i64 0,LV.nils,LV.nils,LV.nils]]).length≠st.length:=by simp
 have g3:=(bK (y:=ar.cells .rw (rkC t)) (Ne.symm hne)).trans g2
 rw[uK g3 rfl]
 simp only[aA,af]
 have F:Fr st (((st++[ar.cells .rw [i64 0,LV.nils,LV.nils,LV.nils]]++[ar.cells .rw [i64 0,i64 0]]).set st.length (.cells .rw (rkC t))).set (st++[ar.cells .rw [i64 0,LV.nils,LV.nils,LV.nils]]).length (.cells .rw [i64 x,i64 y])) (fun _=>False):=by
  refine ⟨by simp,fun j hj _=>?_⟩
  rw[bK (by simp;omega),bK (by omega),bW (by simp;omega),bW hj]
 refine hK _ _ _ (h.fr F) (by simp;omega) ?_ (bO g3) fun e=>?_
 ·rw[bK hne];exact bO g1
 ·have:=ym h.ol e
  simp only[b8,aW,aR] at this
  omega
theorem vE (hs:s.length≤4096) (h:MIn st form fl fn fb l ns ls) {a1:Nat} (ha1:a1≤s.length) {endc:UInt8} (hne:endc≠44) {D:Nat} {obj:Bool}
  (hend:∀ t,t=KT.mk form l ns ls→s[a1]?=some endc→Q (tE t (a1+1:Nat) 0))
  (hbad:s[a1]?≠some endc→s[a1]?≠some 44→∀ (t:KT) (a e:Int),e≠0→Q (tE t a e))
  (hmore:s[a1]?=some 44→gN (.str s) (i64 (a1+1:Nat)) (i64 D) (.bool obj) (.ptr 0 0) (.ptr 1 0) (.ptr 2 0) (.int .i32 ((endc.toNat:Nat):Int)) (Dp Q) st) :
  aw Tryz.prog 243 [.str s,i64 a1] st fun v118 st119=>bd (gR IntKind.i64 (.int .i32 ((endc.toNat:Nat):Int))) fun v120=>bd (al BinOp.eql v118 v120) fun v121=>aq v121
   (bd (ldA st119 (.ptr 2 0) 4) fun v122=>bd (al BinOp.add (i64 a1) (i64 1)) fun v123=>bd (bh (aB (aF [(0,1),(1,1)]) [i64 0,i64 0] [(0,v123),(1,i64 0)])) fun v124=>
    bd2 (lmk (stV st119 4 (.ptr 0 0) v122)) fun _v125 st126=>bd2 (lmk (stV st126 2 (.ptr 1 0) v124)) fun _v127 st128=>bd (ldA st128 (.ptr 0 0) 4) fun v129=>bd (ldA st128 (.ptr 1 0) 2) fun v130=>Dp Q (LV.tup [v129,v130]) st128)
   (aw Tryz.prog 243 [.str s,i64 a1] st119 fun v131 st132=>bd (al BinOp.neq v131 (i64 44)) fun v133=>aq v133
    (bd (ldA st132 (.ptr 2 0) 4) fun v134=>bd (bh (aB (aF [(0,1),(1,1)]) [i64 0,i64 0] [(0,i64 a1),(1,i64 4)])) fun v135=>
     bd2 (lmk (stV st132 4 (.ptr 0 0) v134)) fun _v136 st137=>bd2 (lmk (stV st137 2 (.ptr 1 0) v135)) fun _v138 st139=>bd (ldA st139 (.ptr 0 0) 4) fun v140=>bd (ldA st139 (.ptr 1 0) 2) fun v141=>Dp Q (LV.tup [v140,v141]) st139)
    (bd (al BinOp.add (i64 a1) (i64 1)) fun v142=>gN (.str s) v142 (i64 D) (.bool obj) (.ptr 0 0) (.ptr 1 0) (.ptr 2 0) (.int .i32 ((endc.toNat:Nat):Int)) (Dp Q) st132)):=by
 have w1:IntKind.i64.wrap ((a1:Int)+1)=((a1+1:Nat):Int):=aK (by omega)
 refine (gG a1).call ?_
 simp only[CQ,ab,ad,bj,jh]
 by_cases hc:s[a1]?=some endc
 ·simp only[hc,aZ,ah,h.ld,ab,aH,w1,mk2]
  exact h.out (hend _ rfl hc)
 ·simp only[hc,a8,ae]
  refine (gG a1).call ?_
  have e2:(atB s a1 != 44) = !(decide (s[a1]?=some 44)):=by rw[← jh];rfl
  simp only[ad,bJ,e2,ab]
  by_cases hc2:s[a1]?=some 44
  ·simp only[hc2,aZ,bM,ae,aH,w1,ab]
   exact hmore hc2
  ·simp only[hc2,a8,bL,ah,h.ld,ab,mk2]
   exact h.out (hbad hc hc2 _ _ _ (by decide))
theorem ldO (h:MIn st form fl fn fb l ns ls):ld1 st (.ptr 2 1)=some (osl fl 4 l.length)∧ld1 st (.ptr 2 2)=some (osl fn 1 (ns.map LV.str).length)∧ld1 st (.ptr 2 3)=some (osl fb 1 (ls.map LV.bool).length):=
 ⟨by rw[bx h.h2];rfl,by rw[bx h.h2];rfl,by rw[bx h.h2];rfl⟩
theorem Jl (ih:nu d (D+1)) (hs:s.length≤4096) (hD:D<2 ^ 20) {res:Option (List KT × Tx)}
  (h1:∀ l a',a'≤s.length→res=some (l,s.drop a')→Q (tE (.mk 7 l [] []) a' 0))
  (h2:res=none→∀ (t:KT) (a e:Int),e≠0→Q (tE t a e)) :
  ∀ (k:Nat) (acc:List KT) (fl:Option Nat) (st:aa) (a:Nat),acc.length+k=16→a≤s.length→MIn st 7 fl none none acc [] []→
   (res=match eN (pT d) k (s.drop a) with
    | none=>none
    | some (l,r)=>some (acc++l,r))→gN (.str s) (i64 a) (i64 D) (.bool false) (.ptr 0 0) (.ptr 1 0) (.ptr 2 0) (.int .i32 93) (Dp Q) st:=by
 intro k
 induction k with
 | zero=>
  intro acc fl st a hk ha h hres
  have hres:res=none:=hres
  refine se _ _ _ _ _ _ _ _ ?_
  have c1:((acc.length:Int)==16)=true:=by
   have:acc.length=16:=by omega
   rw[this];rfl
  simp only[pE,ao,aj,ab,(ldO h).1,h.ol.bB,ad,bj,c1,ah,h.ld,mk2]
  exact h.out (h2 hres _ _ _ (by decide))
 | succ k ihk=>
  intro acc fl st a hk ha h hres
  rw[eN] at hres
  refine se _ _ _ _ _ _ _ _ ?_
  have c1:((acc.length:Int)==16)=false:=by
   have:(acc.length:Int)≠16:=by omega
   simpa using this
  simp only[pE,ao,aj,ab,(ldO h).1,h.ol.bB,ad,bj,c1,ae]
  refine EK _ _ _ _ _ _ _ _ _ ?_
  simp only[yf,mO,mP,ae,ad,aH,aK (show D<2 ^ 40 by omega),ab]
  refine (ih hs a ha).call fun v hv=>?_
  unfold TyQ at hv
  cases hp:pT d (s.drop a) with
  | none=>
   rw[hp] at hv hres
   obtain ⟨t,x,y,hy,rfl⟩:=hv
   simp only[tE,av,aN,aO,ab]
   refine h.store fun o1 o2 s2 hM ho2 g1 g2 hfl=>?_
   have l1:ld1 s2 (.ptr o2 1)=some (i64 y):=by rw[bx g2];rfl
   have e4:(y != 0)=true:=by simpa using hy
   simp only[ao,aj,ab,l1,ad,bJ,e4,ah,hM.ld,ux g2 rfl]
   exact hM.Oy ho2 g2 (h2 hres _ _ _ hy) fun s3 h3=>EM _ _ h3
  | some p=>
   obtain ⟨t,r⟩:=p
   rw[hp] at hv hres
   obtain ⟨a1,ha1,hr1,rfl⟩:=hv
   simp only at hr1 hres
   subst hr1
   simp only[tE,av,aN,aO,ab]
   refine h.store fun o1 o2 s2 hM ho2 g1 g2 hfl=>?_
   have l1:ld1 s2 (.ptr o2 1)=some (i64 0):=by rw[bx g2];rfl
   simp only[ao,aj,ab,l1,ad,bJ,bne_self_eq_false,ae,(ldO hM).1,CN g1 dT]
   refine hM.more (by omega) fun s3 fl3 hM3 hk3=>?_
   have l2:ld1 s3 (.ptr o2 0)=some (i64 a1):=by rw[bx (hk3 o2 _ ho2 hfl g2)];rfl
   simp only[ab,l2]
   refine vE (endc:=93) hs hM3 ha1 (by decide) (fun t' ht' hc=>?_) (fun hc hc2=>h2 ?_) fun hc=>?_
   ·subst ht'
    have hlt:=(List.getElem?_eq_some_iff.1 hc).1
    refine h1 (acc++[t]) (a1+1) (by omega) ?_
    rw[hres,drop_cons hc];simp
   ·rw[hres]
    cases hd:s.drop a1 with
    | nil=>rfl
    | cons c r=>
     have hx:s[a1]?=some c:=by rw[← cx,hd];rfl
     have n1:¬ c=93:=fun e=>hc (by rw[hx,e])
     have n2:¬ c=44:=fun e=>hc2 (by rw[hx,e])
     simp only[n1,n2,if_false]
   ·have hlt:=(List.getElem?_eq_some_iff.1 hc).1
    refine ihk (acc++[t]) fl3 s3 (a1+1) (by simp;omega) (by omega) hM3 ?_
    rw[hres,drop_cons hc]
    have n1:¬ (44:UInt8)=93:=by decide
    simp only[n1,if_false,if_true]
    cases eN (pT d) k (s.drop (a1+1)) with
    | none=>rfl
    | some p=>simp
end
end Go.Proofs.YtknegckgmklnhaaGreatDoor
