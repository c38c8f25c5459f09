/- Parts of the proof. -/
import Derived.Test.YtknegckgmklnhaaGreatDoorVbW5
import Derived.Test.YtknegckgmklnhaaGreatDoorVaS
namespace Go.Proofs.YtknegckgmklnhaaGreatDoor
open Go Go.CP
set_option maxRecDepth 100000
mutual
def rkC:KT→List LV
 | .mk f l ns ls=>[i64 f,.isl (dB l) l.length none,.isl (ns.map .str) ns.length none,.isl (ls.map .bool) ls.length none]
def dB:List KT→List LV
 | []=>[]
 | t::ts=>rkC t++dB ts
end
theorem iC {t:KT}:rkC t=[i64 t.f,.isl (dB t.l) t.l.length none,.isl (t.ns.map .str) t.ns.length none,.isl (t.ls.map .bool) t.ls.length none]:=by cases t;rfl
theorem dL {t:KT}:(rkC t).length=4:=by rw[iC];rfl
theorem Ds:∀ {l:List KT},dB l=(l.map rkC).flatten
 | []=>rfl
 | r::rs=>by simp[dB,Ds (l:=rs)]
theorem HL {a b:List KT}:dB (a++b)=dB a++dB b:=by simp[Ds]
theorem ov {t:KT}:(rkC t).all LV.one=true:=by rw[iC];rfl
mutual
theorem hZ:∀ {t:KT},LV.aB (rkC t)=true
 | .mk f l ns ls=>by
  simp only[rkC,LV.aB,LV.plain,Bool.true_and,Bool.and_true,Bool.and_eq_true]
  exact ⟨kc,bB fun _ _=>rfl,bB fun _ _=>rfl⟩
theorem kc:∀ {l:List KT},LV.aB (dB l)=true
 | []=>rfl
 | t::ts=>by rw[dB,cZ,hZ,kc];rfl
end
abbrev tE (t:KT) (a e:Int):LV:=.tup [.agg (rkC t),.agg [i64 a,i64 e]]
theorem za {t:KT} {a e:Int}:(tE t a e).plain=true:=by simp[LV.plain,LV.aB,hZ]
def atB (s:Tx) (i:Nat):Int:=match s[i]? with
 | some c=>c.toNat
 | none=>-1
section
variable {st st' st0:aa} {s:Tx} {a d n:Nat} {R:LV→aa→Prop}
theorem fT (i:Nat):Pu Tryz.prog 243 [.str s,i64 i] (i64 (atB s i)):=by
 refine Pu.of (Po _ _ ?_) rfl rfl
 simp only[Oj,a7,ab,ae,cY]
 rw[aM]
 refine ⟨fun h=>?_,fun h=>?_⟩
 ·have:atB s i = -1:=by unfold atB;rw[List.getElem?_eq_none (by omega)]
  rw[this];exact (rfl:_=_)
 ·have hx:s[i]?=some (s[i]'(by omega)):=List.getElem?_eq_getElem (by omega)
  generalize s[i]'(by omega)=c at hx
  have hw:IntKind.i64.wrap ((c.toNat:Nat):Int)=((c.toNat:Nat):Int):=by
   have:=c.toNat_lt
   rw[wrap_i64 (by omega) (by omega)]
  simp only[cM hx,ab,lK,hw]
  have:atB s i=c.toNat:=by unfold atB;rw[hx]
  rw[this];exact (rfl:_=_)
theorem iE {c:UInt8} {i:Nat}:(atB s i==((c.toNat:Nat):Int))=decide (s[i]?=some c):=by
 unfold atB
 cases h:s[i]? with
 | none=>
  have:((-1:Int)==((c.toNat:Nat):Int))=false:=by
   rw[beq_eq_false_iff_ne];omega
  simp[this]
 | some x=>
  by_cases hx:x=c
  ·subst hx;simp
  ·have h1:x.toNat≠c.toNat:=fun k=>hx (UInt8.toNat_inj.1 k)
   have h2:(((x.toNat:Nat):Int)==((c.toNat:Nat):Int))=false:=by
    have:((x.toNat:Nat):Int)≠((c.toNat:Nat):Int):=by omega
    simpa using this
   simp[h2,hx]
def NmQ (s:Tx) (i:Nat) (v:LV):Prop:=match gJ (s.drop i) with
 | some p=>v=.agg [i64 (i+p.1.length:Nat),i64 0]
 | none=>∃ a e:Int,e≠0∧v=.agg [i64 a,i64 e]
theorem tD {o:Nat} {l:List LV} {x y:Int} (h:st[o]?=some (.cells .rw l)) (hl:l.length=2):stV st 2 (.ptr o 0) (.agg [i64 x,i64 y])=some (st.set o (.cells .rw [i64 x,i64 y])):=by
 have h1:=eA (k:=0) (vs:=[i64 x,i64 y]) (n:=2) h (by simp;omega) rfl rfl
 refine h1.trans ?_
 congr 3
 simp only[bU,List.take_zero,List.nil_append,Nat.zero_add]
 rw[List.drop_eq_nil_of_le (by simp;omega),List.append_nil]
theorem th {o:Nat} {l:List LV} (h:st[o]?=some (.cells .rw l)) (hl:l.length=2):ldA st (.ptr o 0) 2=some (.agg l):=by
 rw[ck h (by omega)]
 congr 2
 rw[List.drop_zero,List.take_of_length_le (by omega)]
theorem mk2 {x y:Int}:aL (ao (ay [(0,1),(1,1)]) [i64 0,i64 0] [(0,i64 x),(1,i64 y)])=some (.agg [i64 x,i64 y]):=rfl
theorem uD {i k:Nat} {c:UInt8} (hc:s[k]?=some c) (hik:i≤k) (hk:k<2 ^ 40) (hy:(isLet c||decide (i<k)&&ju c)=true→qo (.str s) (i64 i) (.ptr 0 0) (i64 (k+1:Nat)) R st)
  (hn:(isLet c||decide (i<k)&&ju c)=false→mx (i64 i) (.ptr 0 0) (i64 k) R st):qo (.str s) (i64 i) (.ptr 0 0) (i64 k) R st:=by
 refine KR _ _ _ _ ?_
 have hlt:=(List.getElem?_eq_some_iff.1 hc).1
 have c1:(k:Int)<s.length:=by omega
 have g1:(decide (((c.toNat:Nat):Int)≥97))=decide (97≤c.toNat):=decide_eq_decide.2 (by omega)
 have g2:(decide (((c.toNat:Nat):Int)≤122))=decide (c.toNat≤122):=decide_eq_decide.2 (by omega)
 have g3:(decide (((c.toNat:Nat):Int)≥48))=decide (48≤c.toNat):=decide_eq_decide.2 (by omega)
 have g4:(decide (((c.toNat:Nat):Int)≤57))=decide (c.toNat≤57):=decide_eq_decide.2 (by omega)
 have g5:decide ((k:Int) > (i:Int))=decide (i<k):=decide_eq_decide.2 (by omega)
 have e:(isLet c||decide (i<k)&&ju c)=(decide (97≤c.toNat)&&decide (c.toNat≤122)||decide (i<k)&&(decide (48≤c.toNat)&&decide (c.toNat≤57))):=by
  simp only[ju,isLet]
  by_cases h1:97≤c.toNat<;>by_cases h2:c.toNat≤122<;>simp[h1,h2]
 rw[e] at hy hn
 simp only[HK,a7,ae,aA,ab,c1,decide_true,ah,cM hc,cY,dF,cx,g1,g2,g3,g4,g5,aH,aI hk]
 revert hy hn
 generalize decide (97≤c.toNat)=b1
 generalize decide (c.toNat≤122)=b2
 generalize decide (i<k)=b3
 generalize decide (48≤c.toNat)=b4
 generalize decide (c.toNat≤57)=b5
 intro hy hn
 cases b1<;>cases b2<;>cases b3<;>cases b4<;>cases b5<;>first|exact hy rfl|exact hn rfl
theorem uE (hs:s.length<2 ^ 40) {i:Nat} (hfin:mx (i64 i) (.ptr 0 0) (i64 (i+(da (s.drop i)).length:Nat)) R st):∀ (d k:Nat),k+d=(da (s.drop i)).length→qo (.str s) (i64 i) (.ptr 0 0) (i64 (i+k:Nat)) R st
 | 0,k,hk=>by
  have hk:k=(da (s.drop i)).length:=by omega
  subst hk
  rcases Nat.lt_or_ge (i+(da (s.drop i)).length) s.length with hlt|hge
  ·have hx:s[i+(da (s.drop i)).length]?=some s[i+(da (s.drop i)).length]:=List.getElem?_eq_getElem hlt
   generalize s[i+(da (s.drop i)).length]=c at hx
   refine uD hx (by omega) (by omega) (fun hy=>?_) fun _=>hfin
   exfalso
   have hno:=(yz (t:=s.drop i) (k:=(da (s.drop i)).length) (Nat.le_refl _)).2
   simp only[Bool.or_eq_true,Bool.and_eq_true,decide_eq_true_eq] at hy
   have hx':(s.drop i)[(da (s.drop i)).length]?=some c:=by rw[List.getElem?_drop];exact hx
   rcases Nat.eq_zero_or_pos (da (s.drop i)).length with h0|h0
   ·have h0':(s.drop i)[0]?=some c:=by rw[← h0];exact hx'
    rcases hy with hy|hy
    ·have:=hno ⟨c,c,h0',hy,hx',by simp[ju,hy]⟩;omega
    ·omega
   ·obtain ⟨c0,x,hc0,hl0,_,_⟩:=(yz (t:=s.drop i) (k:=0) (by omega)).1 h0
    have hn:ju c=true:=by
     rcases hy with hy|hy
     ·simp[ju,hy]
     ·exact hy.2
    have:=hno ⟨c0,c,hc0,hl0,hx',hn⟩;omega
  ·refine KR _ _ _ _ ?_
   have c1:¬ ((i+(da (s.drop i)).length:Nat):Int)<s.length:=by omega
   simp only[HK,a7,ae,aA,ab,c1,decide_false,af]
   exact hfin
 | d+1,k,hk=>by
  obtain ⟨c,x,hc,hlet,hx,hnm⟩:=(yz (t:=s.drop i) (k:=k) (by omega)).1 (by omega)
  rw[List.getElem?_drop] at hx hc
  have hlt:=(List.getElem?_eq_some_iff.1 hx).1
  refine uD hx (by omega) (by omega) (fun _=>uE hs hfin d (k+1) (by omega)) fun hn=>?_
  exfalso
  rw[hnm] at hn
  rcases Nat.eq_zero_or_pos k with h0|h0
  ·subst h0
   rw[hc] at hx;cases hx
   rw[hlet] at hn;cases hn
  ·have:i<i+k:=by omega
   simp[this] at hn
theorem On (hs:s.length<2 ^ 40) {i:Nat} (hi:i≤s.length):Pb Tryz.prog 77 [.str s,i64 i] (NmQ s i):=by
 refine Pb.of (c77 _ _ ?_) rfl
 simp only[w77,bQ,List.nil_append,List.length_nil]
 refine uE hs (i:=i) ?_ (da (s.drop i)).length 0 (by omega)
 refine Ol _ _ _ ?_
 have hlen:=AQ (t:=s.drop i)
 rw[List.length_drop] at hlen
 have h0:([aq.cells .rw [i64 0,i64 0]]:aa)[0]?=some (.cells .rw [i64 0,i64 0]):=rfl
 have out:∀ x y:Int,NmQ s i (.agg [i64 x,i64 y])→bd2 (lmk (stV [aq.cells .rw [i64 0,i64 0]] 2 (.ptr 0 0) (.agg [i64 x,i64 y]))) fun _v2 st3=>bd (ldA st3 (.ptr 0 0) 2) fun v4=>Dp (NmQ s i) v4 st3:=by
  intro x y hq
  rw[tD h0 rfl]
  simp only[az,ag]
  rw[th (bx h0) rfl]
  exact ⟨_,bj _ rfl,rfl,hq⟩
 generalize hm:(da (s.drop i)).length=m at hlen
 have em:(((i+m:Nat):Int)==(i:Int))=decide (m=0):=by
  by_cases h:m=0
  ·simp[h]
  ·simp only[h,decide_false,beq_eq_false_iff_ne,ne_eq]
   omega
 have e2:IntKind.i64.wrap (((i+m:Nat):Int)-(i:Int))=(m:Int):=by rw[wrap_i64 (by omega) (by omega)];omega
 simp only[KQ,ae,aW,ab,em,mk2,cX,e2,cx]
 rw[aM]
 refine ⟨fun h=>out _ _ ?_,fun h=>?_⟩
 ·unfold NmQ gJ
  rw[if_pos (.inl (List.eq_nil_of_length_eq_zero (by omega)))]
  exact ⟨_,_,by decide,rfl⟩
 ·rw[aM]
  refine ⟨fun hg=>out _ _ ?_,fun hg=>out _ _ ?_⟩
  ·unfold NmQ gJ
   rw[if_pos (.inr (by omega))]
   exact ⟨_,_,by decide,rfl⟩
  ·unfold NmQ gJ
   rw[if_neg (by intro hc;rcases hc with hc|hc;(rw[hc] at hm;exact h hm.symm);omega)]
   simp only[hm]
end
def TyQ (s:Tx) (res:Option (KT × Tx)) (v:LV):Prop:=match res with
 | some p=>∃ a':Nat,a'≤s.length∧p.2=s.drop a'∧v=tE p.1 a' 0
 | none=>∃ (t:KT) (a e:Int),e≠0∧v=tE t a e
def my (d D:Nat):Prop:=∀ {s:Tx},s.length≤4096→∀ i:Nat,i≤s.length→Pb Tryz.prog 196 [.str s,i64 i,i64 D] (TyQ s (pT d (s.drop i)))
structure MIn (st:aa) (form:Nat) (fl fn fb:Option Nat) (l:List KT) (ns:List Tx) (ls:List Bool):Prop where
 h0:st[0]?=some (.cells .rw [i64 0,.nils,.nils,.nils])
 h1:st[1]?=some (.cells .rw [i64 0,i64 0])
 h2:st[2]?=some (.cells .rw [i64 form,osl fl 4 l.length,osl fn 1 (ns.map LV.str).length,osl fb 1 (ls.map LV.bool).length])
 ol:bD .rw st fl 4 l.length (dB l)
 on:bD .rw st fn 1 (ns.map LV.str).length (ns.map .str)
 ob:bD .rw st fb 1 (ls.map LV.bool).length (ls.map .bool)
 gl:∀ j,fl=some j→3≤j
 gn:∀ j,fn=some j→3≤j
 gb:∀ j,fb=some j→3≤j
 d1:∀ j,fl=some j→fn≠some j∧fb≠some j
 d2:∀ j,fn=some j→fb≠some j
section
variable {st st' st0:aa} {s:Tx} {a d D n form:Nat} {Q:LV→Prop} {fl fn fb:Option Nat} {l:List KT} {ns:List Tx} {ls:List Bool}
theorem MIn.fr (h:MIn st form fl fn fb l ns ls) (F:Fr st st' (fun _=>False)):MIn st' form fl fn fb l ns ls:=
 ⟨F.get h.h0 id,F.get h.h1 id,F.get h.h2 id,h.ol.fr F fun _ _ h=>h,h.on.fr F fun _ _ h=>h,h.ob.fr F fun _ _ h=>h,h.gl,h.gn,h.gb,h.d1,h.d2⟩
theorem wQ {f:Option Nat} {sz k:Nat} {acc:List LV} {j:Nat} (h:bD .rw st f sz k acc) (e:f=some j):j<st.length:=by subst e;exact h.lt
theorem ow {f:Option Nat} {sz n:Nat}:(osl f sz n).one=true:=by cases f<;>rfl
abbrev mC (form:Nat) (fl fn fb:Option Nat) (l:List KT) (ns:List Tx) (ls:List Bool):List LV:=[i64 form,osl fl 4 l.length,osl fn 1 (ns.map LV.str).length,osl fb 1 (ls.map LV.bool).length]
theorem wR:(mC form fl fn fb l ns ls).all LV.one=true:=by
 simp only[List.all_cons,List.all_nil,ow];rfl
theorem Bx {o:Nat} {l:List LV} (h:st[o]?=some (.cells .rw l)) (hl:l.length=4):ldA st (.ptr o 0) 4=some (.agg l):=by
 rw[ck h (by omega)]
 congr 2
 rw[List.drop_zero,List.take_of_length_le (by omega)]
theorem Bz {o:Nat} {l vs:List LV} (h:st[o]?=some (.cells .rw l)) (hl:l.length=4) (hv:vs.length=4) (h1:vs.all LV.one=true):stV st 4 (.ptr o 0) (.agg vs)=some (st.set o (.cells .rw vs)):=by
 have h:=eA (k:=0) (n:=4) h (by omega) h1 hv
 refine h.trans ?_
 congr 3
 simp only[bU,List.take_zero,List.nil_append,Nat.zero_add]
 rw[List.drop_eq_nil_of_le (by omega),List.append_nil]
theorem MIn.ld (h:MIn st form fl fn fb l ns ls):ldA st (.ptr 2 0) 4=some (.agg (mC form fl fn fb l ns ls)):=Bx h.h2 rfl
theorem MIn.out (h:MIn st form fl fn fb l ns ls) {x y:Int} (hQ:Q (tE (.mk form l ns ls) x y)) :
  bd2 (lmk (stV st 4 (.ptr 0 0) (.agg (mC form fl fn fb l ns ls)))) fun _v6 st7=>bd2 (lmk (stV st7 2 (.ptr 1 0) (.agg [i64 x,i64 y]))) fun _v8 st9=>bd (ldA st9 (.ptr 0 0) 4) fun v10=>bd (ldA st9 (.ptr 1 0) 2) fun v11=>Dp Q (LV.tup [v10,v11]) st9:=by
 rw[Bz h.h0 rfl rfl wR]
 simp only[az,ag]
 have k1:(st.set 0 (.cells .rw (mC form fl fn fb l ns ls)))[1]?=some (.cells .rw [i64 0,i64 0]):=(bq (by decide)).trans h.h1
 rw[tD k1 rfl]
 simp only[az,ag]
 have k0:((st.set 0 (.cells .rw (mC form fl fn fb l ns ls))).set 1 (.cells .rw [i64 x,i64 y]))[0]?=some (.cells .rw (mC form fl fn fb l ns ls)):=(bq (by decide)).trans (bx h.h0)
 rw[Bx k0 rfl]
 simp only[ab]
 rw[th (bx k1) rfl]
 have F:Fr st ((st.set 0 (.cells .rw (mC form fl fn fb l ns ls))).set 1 (.cells .rw [i64 x,i64 y])) (fun j=>j<2):=(Fr.set (S:=fun j=>j<2) (by omega)).trans (Fr.set (S:=fun j=>j<2) (by omega)) fun _ _ h=>h
 have q:∀ {f:Option Nat},(∀ j,f=some j→3≤j)→∀ j,f=some j→¬ j<2:=fun g j e=>by have:=g j e;omega
 refine ⟨_,?_,za,hQ⟩
 generalize ((st.set 0 (aq.cells .rw (mC form fl fn fb l ns ls))).set 1 (.cells .rw [i64 x,i64 y]))=S at F
 have a1:dp S (.isl (dB l) l.length none) (osl fl 4 l.length):=dZ (h.ol.fr F (q h.gl)) rfl (bA _ kc)
 have a2:dp S (.isl (ns.map .str) ns.length none) (osl fn 1 (ns.map LV.str).length):=by
  have t:=dZ (h.on.fr F (q h.gn)) rfl (bA S (bB (f:=LV.str) (l:=ns) fun _ _=>rfl))
  rw[List.length_map] at t ⊢
  exact t
 have a3:dp S (.isl (ls.map .bool) ls.length none) (osl fb 1 (ls.map LV.bool).length):=by
  have t:=dZ (h.ob.fr F (q h.gb)) rfl (bA S (bB (f:=LV.bool) (l:=ls) fun _ _=>rfl))
  rw[List.length_map] at t ⊢
  exact t
 refine ⟨_,rfl,_,_,rfl,⟨_,rfl,?_⟩,_,_,rfl,bj (v:=.agg [i64 x,i64 y]) _ rfl,rfl⟩
 exact ⟨_,_,rfl,rfl,_,_,rfl,a1,_,_,rfl,a2,_,_,rfl,a3,rfl⟩
theorem MIn.ML (h:MIn st form fl fn fb l ns ls) {o:Nat} (ho:2<o) {x y:Int} (he:st[o]?=some (.cells .rw [i64 x,i64 y])) (hQ:Q (tE (.mk form l ns ls) x y)) {K:aa→Prop} (hK:∀ s2,(bd (ldA s2 (.ptr 0 0) 4) fun v10=>bd (ldA s2 (.ptr 1 0) 2) fun v11=>Dp Q (LV.tup [v10,v11]) s2)→K s2) :
  bd2 (lmk (stV st 4 (.ptr 0 0) (.agg (mC form fl fn fb l ns ls)))) fun _v6 st7=>ldA st7 (.ptr o 0) 2=some (.agg [i64 x,i64 y])∧bd2 (lmk (stV st7 2 (.ptr 1 0) (.agg [i64 x,i64 y]))) fun _v8 st9=>K st9:=by
 have h3:=h.out hQ
 rw[Bz h.h0 rfl rfl wR] at h3 ⊢
 simp only[az,ag] at h3 ⊢
 have k1:(st.set 0 (.cells .rw (mC form fl fn fb l ns ls)))[1]?=some (.cells .rw [i64 0,i64 0]):=(bq (by decide)).trans h.h1
 rw[tD k1 rfl] at h3 ⊢
 simp only[az,ag] at h3 ⊢
 exact ⟨th ((bq (by omega)).trans he) rfl,hK _ h3⟩
theorem MIn.more (h:MIn st form fl fn fb l ns ls) (hl:l.length<2 ^ 20) {t:KT} {K:aa→Prop} (hK:∀ st2 fl2,MIn st2 form fl2 fn fb (l++[t]) ns ls→(∀ j x,2<j→fl≠some j→st[j]?=some x→st2[j]?=some x)→K st2) :
  bd2 (aP st 1 (ao (fun i=>some (i*4,4)) (List.replicate 1 [i64 0,LV.nils,LV.nils,LV.nils]).flatten [(0,.agg (rkC t))])) fun v109 st110=>
   bd2 (ar st110 4 80 Md.rw (osl fl 4 l.length) v109) fun v111 st112=>bd2 (lmk (stV st112 1 (.ptr 2 1) v111)) fun _v114 st115=>K st115:=by
 have ef:ao (fun i=>some (i*4,4)) (List.replicate 1 [i64 0,LV.nils,LV.nils,LV.nils]).flatten [(0,.agg (rkC t))]=some (rkC t):=by cases t;rfl
 rw[ef]
 simp only[bw,ag]
 have F1:Fr st (st++[aq.cells .rw (rkC t)]) (fun _=>False):=Fr.app
 have h1:=h.fr F1
 obtain ⟨st2,f2,q1,q2,q3,q4,_⟩:=h1.ol.append (x:=.sl st.length 0 1 (.ex 1)) (k:=1) (new:=rkC t) (bytes:=80) (by simp[dJ,dL];rw[List.take_of_length_le (by rw[dL];omega)]) (by omega) (by rw[dL]) ov (cL (by omega) (by omega))
 rw[q1]
 simp only[ag]
 have hl0:2<st.length:=bM h.h2
 have g2:=q3.get h1.h2 (fun e=>by have:=h.gl _ e;omega)
 have e1:stV st2 1 (.ptr 2 1) (osl f2 4 (l.length+1))=some (st2.set 2 (.cells .rw [i64 form,osl f2 4 (l.length+1),osl fn 1 (ns.map LV.str).length,osl fb 1 (ls.map LV.bool).length])):=by
  rw[dz g2 (by simp) ow];rfl
 rw[e1]
 simp only[az,ag]
 have F:Fr st2 (st2.set 2 (.cells .rw [i64 form,osl f2 4 (l.length+1),osl fn 1 (ns.map LV.str).length,osl fb 1 (ls.map LV.bool).length])) (fun j=>j=2):=Fr.set rfl
 have gl2:∀ j,f2=some j→3≤j:=fun j e=>by
  rcases q4 j e with e|e
  ·exact h.gl j e
  ·simp at e;omega
 have ne2:∀ {f:Option Nat},(∀ j,f=some j→3≤j)→∀ j,f=some j→¬ j=2:=fun g j e=>by have:=g j e;omega
 refine hK _ f2 ⟨?_,?_,?_,?_,?_,?_,gl2,h.gn,h.gb,fun j e=>?_,h.d2⟩ fun j x hj hfl hx=>?_
 ·rw[bq (by decide)];exact q3.get h1.h0 fun e=>by have:=h.gl _ e;omega
 ·rw[bq (by decide)];exact q3.get h1.h1 fun e=>by have:=h.gl _ e;omega
 ·rw[List.length_append];exact bx g2
 ·rw[List.length_append,HL]
  have:dB [t]=rkC t:=by simp[dB]
  rw[this];exact q2.fr F (ne2 gl2)
 ·exact (h1.on.fr q3 fun j e e2=>(h.d1 j e2).1 e).fr F (ne2 h.gn)
 ·exact (h1.ob.fr q3 fun j e e2=>(h.d1 j e2).2 e).fr F (ne2 h.gb)
 ·rcases q4 j e with e1|e1
  ·exact h.d1 j e1
  ·refine ⟨fun e2=>?_,fun e2=>?_⟩
   ·have:=gF h.on e2;simp at e1;omega
   ·have:=gF h.ob e2;simp at e1;omega
 ·rw[bq (by omega)]
  exact q3.get (F1.get hx id) hfl
theorem MIn.pair (h:MIn st form fl fn fb l ns ls) (hln:ns.length<2 ^ 20) (hlb:ls.length<2 ^ 20) {w:Tx} {g:Bool} {K:aa→Prop} (hK:∀ st2 fn2 fb2,MIn st2 form fl fn2 fb2 l (ns++[w]) (ls++[g])→K st2) :
  bd2 (aP st 1 (ao (fun i=>some (i*1,1)) (List.replicate 1 [LV.str []]).flatten [(0,.str w)])) fun v13 st14=>
  bd2 (ar st14 1 16 Md.rw (osl fn 1 (ns.map LV.str).length) v13) fun v15 st16=>bd2 (lmk (stV st16 1 (.ptr 2 2) v15)) fun _v18 st19=>
  bd (ld1 st19 (.ptr 2 3)) fun v21=>bd2 (aP st19 1 (ao (fun i=>some (i*1,1)) (List.replicate 1 [LV.bool false]).flatten [(0,.bool g)])) fun v22 st23=>
  bd2 (ar st23 1 1 Md.rw v21 v22) fun v24 st25=>bd2 (lmk (stV st25 1 (.ptr 2 3) v24)) fun _v27 st28=>K st28:=by
 have efb:ao (fun i=>some (i*1,1)) (List.replicate 1 [LV.bool false]).flatten [(0,.bool g)]=some [.bool g]:=rfl
 have efs:ao (fun i=>some (i*1,1)) (List.replicate 1 [LV.str []]).flatten [(0,.str w)]=some [.str w]:=rfl
 rw[efs]
 simp only[bw,ag,efb]
 have hl0:2<st.length:=bM h.h2
 have F1:Fr st (st++[aq.cells .rw [LV.str w]]) (fun _=>False):=Fr.app
 have h1:=h.fr F1
 obtain ⟨st2,fn2,q1,q2,q3,q4⟩:=nT (bytes:=16) h1.on jz (x:=.str w) rfl (by simpa using hln) (by omega)
 rw[q1]
 simp only[ag]
 have l1:=F1.len
 have l2:=q3.len
 have gn2:∀ j,fn2=some j→3≤j:=fun j e=>by
  rcases q4 j e with e|e
  ·exact h.gn j e
  ·simp at e;omega
 have g2:=q3.get h1.h2 (fun e=>by have:=h.gn _ e;omega)
 have e1:stV st2 1 (.ptr 2 2) (osl fn2 1 (ns.map LV.str++[LV.str w]).length)=some (st2.set 2 (.cells .rw [i64 form,osl fl 4 l.length,osl fn2 1 (ns.map LV.str++[LV.str w]).length,osl fb 1 (ls.map LV.bool).length])):=by
  rw[dz g2 (by simp) ow];rfl
 rw[e1]
 simp only[az,ag]
 generalize hS:st2.set 2 (.cells .rw [i64 form,osl fl 4 l.length,osl fn2 1 (ns.map LV.str++[LV.str w]).length,osl fb 1 (ls.map LV.bool).length])=S
 have Sg:S[2]?=some (.cells .rw [i64 form,osl fl 4 l.length,osl fn2 1 (ns.map LV.str++[LV.str w]).length,osl fb 1 (ls.map LV.bool).length]):=by rw[← hS];exact bx g2
 have FS:Fr st2 S (fun j=>j=2):=by rw[← hS];exact Fr.set rfl
 have ls2:S.length=st2.length:=by rw[← hS];simp
 have ne2:∀ {f:Option Nat},(∀ j,f=some j→3≤j)→∀ j,f=some j→¬ j=2:=fun g j e=>by have:=g j e;omega
 have lb:ld1 S (.ptr 2 3)=some (osl fb 1 (ls.map LV.bool).length):=by rw[aU Sg];rfl
 rw[lb]
 simp only[ab]
 have nfb:∀ j,fn2=some j→fb≠some j:=fun j e e2=>by
  rcases q4 j e with e1|e1
  ·exact h.d2 j e1 e2
  ·have:=gF h.ob e2;simp at e1;omega
 have nfl:∀ j,fl=some j→fn2≠some j:=fun j e e2=>by
  rcases q4 j e2 with e1|e1
  ·exact (h.d1 j e).1 e1
  ·have:=wQ h.ol e;simp at e1;omega
 have oB:bD .rw S fb 1 (ls.map LV.bool).length (ls.map .bool):=(h1.ob.fr q3 fun j e e2=>h.d2 j e2 e).fr FS (ne2 h.gb)
 have oL:bD .rw S fl 4 l.length (dB l):=(h1.ol.fr q3 fun j e e2=>(h.d1 j e).1 e2).fr FS (ne2 h.gl)
 have oN:bD .rw S fn2 1 (ns.map LV.str++[LV.str w]).length (ns.map LV.str++[LV.str w]):=q2.fr FS (ne2 gn2)
 have F3:Fr S (S++[aq.cells .rw [LV.bool g]]) (fun _=>False):=Fr.app
 obtain ⟨st4,fb2,p1,p2,p3,p4⟩:=nT (bytes:=1) (oB.fr F3 fun _ _ h=>h) jz (x:=.bool g) rfl (by simpa using hlb) (by omega)
 rw[p1]
 simp only[ag]
 have l3:=F3.len
 have g4:=p3.get (F3.get Sg id) (fun e=>by have:=h.gb _ e;omega)
 have e2:stV st4 1 (.ptr 2 3) (osl fb2 1 (ls.map LV.bool++[LV.bool g]).length)=some (st4.set 2 (.cells .rw [i64 form,osl fl 4 l.length,osl fn2 1 (ns.map LV.str++[LV.str w]).length,osl fb2 1 (ls.map LV.bool++[LV.bool g]).length])):=by
  rw[dz g4 (by simp) ow];rfl
 rw[e2]
 simp only[az,ag]
 have F4:Fr st4 (st4.set 2 (.cells .rw [i64 form,osl fl 4 l.length,osl fn2 1 (ns.map LV.str++[LV.str w]).length,osl fb2 1 (ls.map LV.bool++[LV.bool g]).length])) (fun j=>j=2):=Fr.set rfl
 have gb2:∀ j,fb2=some j→3≤j:=fun j e=>by
  rcases p4 j e with e|e
  ·exact h.gb j e
  ·simp at e;omega
 have keep:∀ {j:Nat} {x:aq},j<2→st[j]?=some x→(st4.set 2 (.cells .rw [i64 form,osl fl 4 l.length,osl fn2 1 (ns.map LV.str++[LV.str w]).length,osl fb2 1 (ls.map LV.bool++[LV.bool g]).length]))[j]?=some x:=fun {j x} hj hx=>by
  rw[bq (by omega)]
  refine p3.get (F3.get (FS.get (q3.get (F1.get hx id) fun e=>by have:=h.gn _ e;omega) (by omega)) id) fun e=>by have:=h.gb _ e;omega
 refine hK _ fn2 fb2 ⟨keep (by omega) h.h0,keep (by omega) h.h1,?_,?_,?_,?_,h.gl,gn2,gb2,fun j e=>⟨nfl j e,fun e2=>?_⟩,fun j e e2=>?_⟩
 ·rw[List.map_append,List.map_append];exact bx g4
 ·refine ((oL.fr F3 fun _ _ h=>h).fr p3 fun j e e2=>(h.d1 j e).2 e2).fr F4 (ne2 h.gl)
 ·rw[List.map_append];exact ((oN.fr F3 fun _ _ h=>h).fr p3 fun j e e2=>nfb j e e2).fr F4 (ne2 gn2)
 ·rw[List.map_append];exact p2.fr F4 (ne2 gb2)
 ·rcases p4 j e2 with e1|e1
  ·exact (h.d1 j e).2 e1
  ·have:=wQ oL e;simp at e1;omega
 ·rcases p4 j e2 with e1|e1
  ·exact nfb j e e1
  ·have:=gF oN e;simp at e1;omega
end
section
variable {st st' st0:aa} {s:Tx} {a d D n form:Nat} {Q:LV→Prop} {fl fn fb:Option Nat} {l:List KT} {ns:List Tx} {ls:List Bool}
theorem BA (c:UInt8):gg IntKind.i64 (LV.int IntKind.i32 ((c.toNat:Nat):Int))=some (i64 ((c.toNat:Nat):Int)):=by
 have:=c.toNat_lt
 simp only[lK]
 rw[wrap_i64 (by omega) (by omega)]
theorem MIn.store (h:MIn st form fl fn fb l ns ls) {t:KT} {x y:Int} {K:LV→LV→aa→Prop} (hK:∀ o1 o2 s2,MIn s2 form fl fn fb l ns ls→2<o2→s2[o1]?=some (.cells .rw (rkC t))→s2[o2]?=some (.cells .rw [i64 x,i64 y])→fl≠some o2→K (.ptr o1 0) (.ptr o2 0) s2) :
  nw st [i64 0,LV.nils,LV.nils,LV.nils] fun v89 st90=>nw st90 [i64 0,i64 0] fun v91 st92=>bd2 (lmk (stV st92 4 v89 (.agg (rkC t)))) fun _v93 st94=>bd2 (lmk (stV st94 2 v91 (.agg [i64 x,i64 y]))) fun _v95 st96=>K v89 v91 st96:=by
 simp only[bQ]
 have l0:=bM h.h2
 have g1:(st++[aq.cells .rw [i64 0,LV.nils,LV.nils,LV.nils]]++[aq.cells .rw [i64 0,i64 0]])[st.length]?=some (.cells .rw [i64 0,.nils,.nils,.nils]):=bH au
 have g2:(st++[aq.cells .rw [i64 0,LV.nils,LV.nils,LV.nils]]++[aq.cells .rw [i64 0,i64 0]])[(st++[aq.cells .rw [i64 0,LV.nils,LV.nils,LV.nils]]).length]?=some (.cells .rw [i64 0,i64 0]):=au
 rw[Bz g1 rfl dL ov]
 simp only[az,ag]
 have hne:(st++[aq.cells .rw [i64 0,LV.nils,LV.nils,LV.nils]]).length≠st.length:=by simp
 have g3:=(bq (y:=aq.cells .rw (rkC t)) (Ne.symm hne)).trans g2
 rw[tD g3 rfl]
 simp only[az,ag]
 have F:Fr st (((st++[aq.cells .rw [i64 0,LV.nils,LV.nils,LV.nils]]++[aq.cells .rw [i64 0,i64 0]]).set st.length (.cells .rw (rkC t))).set (st++[aq.cells .rw [i64 0,LV.nils,LV.nils,LV.nils]]).length (.cells .rw [i64 x,i64 y])) (fun _=>False):=by
  refine ⟨by simp,fun j hj _=>?_⟩
  rw[bq (by simp;omega),bq (by omega),List.getElem?_append_left (by simp;omega),List.getElem?_append_left hj]
 refine hK _ _ _ (h.fr F) (by simp;omega) ?_ (bx g3) fun e=>?_
 ·rw[bq hne];exact bx g1
 ·have:=wQ h.ol e
  simp only[List.length_append,List.length_cons,List.length_nil] at this
  omega
theorem uF (hs:s.length≤4096) (h:MIn st form fl fn fb l ns ls) {a1:Nat} (ha1:a1≤s.length) {endc:UInt8} (hne:endc≠44) {D:Nat} {obj:Bool}
  (hend:∀ t,t=KT.mk form l ns ls→s[a1]?=some endc→Q (tE t (a1+1:Nat) 0))
  (hbad:s[a1]?≠some endc→s[a1]?≠some 44→∀ (t:KT) (a e:Int),e≠0→Q (tE t a e))
  (hmore:s[a1]?=some 44→fZ (.str s) (i64 (a1+1:Nat)) (i64 D) (.bool obj) (.ptr 0 0) (.ptr 1 0) (.ptr 2 0) (.int .i32 ((endc.toNat:Nat):Int)) (Dp Q) st) :
  ax Tryz.prog 243 [.str s,i64 a1] st fun v118 st119=>bd (gg IntKind.i64 (.int .i32 ((endc.toNat:Nat):Int))) fun v120=>bd (ak BinOp.eql v118 v120) fun v121=>al v121
   (bd (ldA st119 (.ptr 2 0) 4) fun v122=>bd (ak BinOp.add (i64 a1) (i64 1)) fun v123=>bd (aL (ao (ay [(0,1),(1,1)]) [i64 0,i64 0] [(0,v123),(1,i64 0)])) fun v124=>
    bd2 (lmk (stV st119 4 (.ptr 0 0) v122)) fun _v125 st126=>bd2 (lmk (stV st126 2 (.ptr 1 0) v124)) fun _v127 st128=>bd (ldA st128 (.ptr 0 0) 4) fun v129=>bd (ldA st128 (.ptr 1 0) 2) fun v130=>Dp Q (LV.tup [v129,v130]) st128)
   (ax Tryz.prog 243 [.str s,i64 a1] st119 fun v131 st132=>bd (ak BinOp.neq v131 (i64 44)) fun v133=>al v133
    (bd (ldA st132 (.ptr 2 0) 4) fun v134=>bd (aL (ao (ay [(0,1),(1,1)]) [i64 0,i64 0] [(0,i64 a1),(1,i64 4)])) fun v135=>
     bd2 (lmk (stV st132 4 (.ptr 0 0) v134)) fun _v136 st137=>bd2 (lmk (stV st137 2 (.ptr 1 0) v135)) fun _v138 st139=>bd (ldA st139 (.ptr 0 0) 4) fun v140=>bd (ldA st139 (.ptr 1 0) 2) fun v141=>Dp Q (LV.tup [v140,v141]) st139)
    (bd (ak BinOp.add (i64 a1) (i64 1)) fun v142=>fZ (.str s) v142 (i64 D) (.bool obj) (.ptr 0 0) (.ptr 1 0) (.ptr 2 0) (.int .i32 ((endc.toNat:Nat):Int)) (Dp Q) st132)):=by
 have w1:IntKind.i64.wrap ((a1:Int)+1)=((a1+1:Nat):Int):=aI (by omega)
 refine (fT a1).call ?_
 simp only[BA,ab,ae,aW,iE]
 by_cases hc:s[a1]?=some endc
 ·simp only[hc,decide_true,ah,h.ld,ab,aH,w1,mk2]
  exact h.out (hend _ rfl hc)
 ·simp only[hc,decide_false,af]
  refine (fT a1).call ?_
  have e2:(atB s a1 != 44) = !(decide (s[a1]?=some 44)):=by rw[← iE];rfl
  simp only[ae,bz,e2,ab]
  by_cases hc2:s[a1]?=some 44
  ·simp only[hc2,decide_true,Bool.not_true,af,aH,w1,ab]
   exact hmore hc2
  ·simp only[hc2,decide_false,Bool.not_false,ah,h.ld,ab,mk2]
   exact h.out (hbad hc hc2 _ _ _ (by decide))
theorem ldO (h:MIn st form fl fn fb l ns ls):ld1 st (.ptr 2 1)=some (osl fl 4 l.length)∧ld1 st (.ptr 2 2)=some (osl fn 1 (ns.map LV.str).length)∧ld1 st (.ptr 2 3)=some (osl fb 1 (ls.map LV.bool).length):=
 ⟨by rw[aU h.h2];rfl,by rw[aU h.h2];rfl,by rw[aU h.h2];rfl⟩
theorem HM (ih:my d (D+1)) (hs:s.length≤4096) (hD:D<2 ^ 20) {res:Option (List KT × Tx)}
  (h1:∀ l a',a'≤s.length→res=some (l,s.drop a')→Q (tE (.mk 7 l [] []) a' 0))
  (h2:res=none→∀ (t:KT) (a e:Int),e≠0→Q (tE t a e)) :
  ∀ (k:Nat) (acc:List KT) (fl:Option Nat) (st:aa) (a:Nat),acc.length+k=16→a≤s.length→MIn st 7 fl none none acc [] []→
   (res=match eh (pT d) k (s.drop a) with
    | none=>none
    | some (l,r)=>some (acc++l,r))→fZ (.str s) (i64 a) (i64 D) (.bool false) (.ptr 0 0) (.ptr 1 0) (.ptr 2 0) (.int .i32 93) (Dp Q) st:=by
 intro k
 induction k with
 | zero=>
  intro acc fl st a hk ha h hres
  have hres:res=none:=hres
  refine qR _ _ _ _ _ _ _ _ ?_
  have c1:((acc.length:Int)==16)=true:=by
   have:acc.length=16:=by omega
   rw[this];rfl
  simp only[ou,av,Nat.zero_add,ab,(ldO h).1,h.ol.bo,ae,aW,c1,ah,h.ld,mk2]
  exact h.out (h2 hres _ _ _ (by decide))
 | succ k ihk=>
  intro acc fl st a hk ha h hres
  rw[eh] at hres
  refine qR _ _ _ _ _ _ _ _ ?_
  have c1:((acc.length:Int)==16)=false:=by
   have:(acc.length:Int)≠16:=by omega
   simpa using this
  simp only[ou,av,Nat.zero_add,ab,(ldO h).1,h.ol.bo,ae,aW,c1,af]
  refine Dn _ _ _ _ _ _ _ _ _ ?_
  simp only[wO,af,ae,aH,aI (show D<2 ^ 40 by omega),ab]
  refine (ih hs a ha).call fun v hv=>?_
  unfold TyQ at hv
  cases hp:pT d (s.drop a) with
  | none=>
   rw[hp] at hv hres
   obtain ⟨t,x,y,hy,rfl⟩:=hv
   simp only[tE,aw,List.getElem?_cons_zero,List.getElem?_cons_succ,ab]
   refine h.store fun o1 o2 s2 hM ho2 g1 g2 hfl=>?_
   have l1:ld1 s2 (.ptr o2 1)=some (i64 y):=by rw[aU g2];rfl
   have e4:(y != 0)=true:=by simpa using hy
   simp only[av,Nat.zero_add,ab,l1,ae,bz,e4,ah,hM.ld,th g2 rfl]
   exact hM.ML ho2 g2 (h2 hres _ _ _ hy) fun s3 h3=>Dr _ _ h3
  | some p=>
   obtain ⟨t,r⟩:=p
   rw[hp] at hv hres
   obtain ⟨a1,ha1,hr1,rfl⟩:=hv
   simp only at hr1 hres
   subst hr1
   simp only[tE,aw,List.getElem?_cons_zero,List.getElem?_cons_succ,ab]
   refine h.store fun o1 o2 s2 hM ho2 g1 g2 hfl=>?_
   have l1:ld1 s2 (.ptr o2 1)=some (i64 0):=by rw[aU g2];rfl
   simp only[av,Nat.zero_add,ab,l1,ae,bz,bne_self_eq_false,af,(ldO hM).1,Bx g1 dL]
   refine hM.more (by omega) fun s3 fl3 hM3 hk3=>?_
   have l2:ld1 s3 (.ptr o2 0)=some (i64 a1):=by rw[aU (hk3 o2 _ ho2 hfl g2)];rfl
   simp only[ab,l2]
   refine uF (endc:=93) hs hM3 ha1 (by decide) (fun t' ht' hc=>?_) (fun hc hc2=>h2 ?_) fun hc=>?_
   ·subst ht'
    have hlt:=(List.getElem?_eq_some_iff.1 hc).1
    refine h1 (acc++[t]) (a1+1) (by omega) ?_
    rw[hres,drop_cons hc];simp
   ·rw[hres]
    cases hd:s.drop a1 with
    | nil=>rfl
    | cons c r=>
     have hx:s[a1]?=some c:=by rw[← bT,hd];rfl
     have n1:¬ c=93:=fun e=>hc (by rw[hx,e])
     have n2:¬ c=44:=fun e=>hc2 (by rw[hx,e])
     simp only[n1,n2,if_false]
   ·have hlt:=(List.getElem?_eq_some_iff.1 hc).1
    refine ihk (acc++[t]) fl3 s3 (a1+1) (by simp;omega) (by omega) hM3 ?_
    rw[hres,drop_cons hc]
    have n1:¬ (44:UInt8)=93:=by decide
    simp only[n1,if_false,if_true]
    cases eh (pT d) k (s.drop (a1+1)) with
    | none=>rfl
    | some p=>simp
end
end Go.Proofs.YtknegckgmklnhaaGreatDoor
