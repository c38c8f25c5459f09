/- Parts of the proof. -/
import Derived.Test.YtknegckgmklnhaaGreatDoorVbT4
import Derived.Test.YtknegckgmklnhaaGreatDoorVbN8
namespace Go.Proofs.YtknegckgmklnhaaGreatDoor
open Go Go.CP
set_option maxRecDepth 100000
section
variable {st st' st0:aa} {s:Tx} {a d D n:Nat} {Q:LV→Prop}
structure WIn (st:aa):Prop where
 h0:st[0]?=some (.cells .rw [i64 0,.nils,.nils,.nils])
 h1:st[1]?=some (.cells .rw [i64 0,i64 0])
theorem WIn.fr (h:WIn st) (F:Fr st st' (fun j=>2≤j)):WIn st':=⟨F.get h.h0 (by omega),F.get h.h1 (by omega)⟩
theorem WIn.out (h:WIn st) {cs:List LV} (hl:cs.length=4) (h1:cs.all LV.one=true) {t:KT} {x y:Int} (hd:∀ S,Fr st S (fun j=>j<2)→dps S (rkC t) cs) (hQ:Q (tE t x y)) :
  ∃ S1 S2,stV st 4 (.ptr 0 0) (.agg cs)=some S1∧stV S1 2 (.ptr 1 0) (.agg [i64 x,i64 y])=some S2∧Fr st S1 (fun j=>j<2)∧(bd (ldA S2 (.ptr 0 0) 4) fun v10=>bd (ldA S2 (.ptr 1 0) 2) fun v11=>Dp Q (LV.tup [v10,v11]) S2):=by
 have k1:(st.set 0 (.cells .rw cs))[1]?=some (.cells .rw [i64 0,i64 0]):=(bK (by decide)).trans h.h1
 refine ⟨_,_,CO h.h0 rfl hl h1,uK k1 rfl,Fr.set (by omega),?_⟩
 have k0:((st.set 0 (.cells .rw cs)).set 1 (.cells .rw [i64 x,i64 y]))[0]?=some (.cells .rw cs):=(bK (by decide)).trans (bO h.h0)
 rw[CN k0 hl]
 simp only[ab]
 rw[ux (bO k1) rfl]
 have F:Fr st ((st.set 0 (.cells .rw cs)).set 1 (.cells .rw [i64 x,i64 y])) (fun j=>j<2):=(Fr.set (S:=fun j=>j<2) (by omega)).trans (Fr.set (S:=fun j=>j<2) (by omega)) fun _ _ h=>h
 refine ⟨tE t x y,?_,Az,hQ⟩
 exact ⟨_,rfl,_,_,rfl,⟨_,rfl,hd _ F⟩,_,_,rfl,bu (v:=.agg [i64 x,i64 y]) _ rfl,rfl⟩
theorem pI {S:aa} {f:Nat}:dps S (rkC (.mk f [] [] [])) [i64 f,.nils,.nils,.nils]:=by
 simp only[rkC,dj,List.map_nil,aR]
 exact ⟨_,_,rfl,rfl,_,_,rfl,.inr (.inr ⟨.inr rfl,rfl,rfl⟩),_,_,rfl,.inr (.inr ⟨.inr rfl,rfl,rfl⟩),_,_,rfl,.inr (.inr ⟨.inr rfl,rfl,rfl⟩),rfl⟩
theorem WIn.Jp (h:WIn st) {f:Nat} {x y:Int} (hQ:Q (tE (.mk f [] [] []) x y)) :
  bd2 (lmk (stV st 4 (.ptr 0 0) (.agg [i64 f,.nils,.nils,.nils]))) fun _v6 st7=>bd2 (lmk (stV st7 2 (.ptr 1 0) (.agg [i64 x,i64 y]))) fun _v8 st9=>bd (ldA st9 (.ptr 0 0) 4) fun v10=>bd (ldA st9 (.ptr 1 0) 2) fun v11=>Dp Q (LV.tup [v10,v11]) st9:=by
 obtain ⟨S1,S2,e1,e2,_,h3⟩:=h.out (cs:=[i64 f,.nils,.nils,.nils]) rfl rfl (fun S _=>pI) hQ
 rw[e1]
 simp only[aA,af]
 rw[e2]
 exact h3
theorem Ll:bh (aB (aF [(0,1),(1,1),(2,1),(3,1)]) [i64 0,LV.nils,LV.nils,LV.nils] [])=some (.agg [i64 (0:Nat),.nils,.nils,.nils]):=rfl
theorem RA {k:Nat}:bh (aB (aF [(0,1),(1,1),(2,1),(3,1)]) [i64 0,LV.nils,LV.nils,LV.nils] [(0,i64 k)])=some (.agg [i64 k,.nils,.nils,.nils]):=rfl
theorem Lm (ih:nu d (D+1)) (hs:s.length≤4096) (hD:D<2 ^ 20) (h:WIn st) (hw:st[2]?=some (.cells .rw (bQ.map .str))) {k:Nat} {w:Tx} (hk:bQ[k]?=some w) (hle:a+w.length≤s.length)
  (hp:pT (d+1) (s.drop a)=if k<5 then some (.mk k [] [] [],s.drop (a+w.length)) else match ub d (s.drop (a+w.length)) with
   | none=>none
   | some (x,r)=>some (.mk k [x] [] [],r)) {x9:Int} :
  pA (.str s) (i64 a) (i64 D) (.ptr 0 0) (.ptr 1 0) (.sl 2 0 7 (.ex 7)) (i64 x9) (i64 k) (i64 w.length) (.bool false) (Dp (TyQ s (pT (d+1) (s.drop a)))) st:=by
 refine yd _ _ _ _ _ _ _ _ _ _ ?_
 have hk7:=(kM hk).1
 have e1:bn 1 (.sl 2 0 7 (.ex 7)) (i64 k)=some (.ptr 2 k):=by rw[kF (by omega) (by omega)];simp
 have e2:ld1 st (.ptr 2 k)=some (.str w):=by rw[bx hw];simp[hk]
 have e3:IntKind.i64.wrap ((a:Int)+(w.length:Int))=((a+w.length:Nat):Int):=by rw[wrap_i64 (by omega) (by omega)];omega
 have c1:¬ ((w.length:Int)<(w.length:Int)):=by omega
 simp only[r9,ae,kP,ab,e1,e2,bF,ad,au,c1,a8,RA,Ll,aH,e3,mk2]
 rw[aL]
 refine ⟨fun h5=>?_,fun h5=>?_⟩
 ·rw[if_pos (by omega)] at hp
  rw[hp]
  exact h.Jp ⟨a+w.length,hle,rfl,rfl⟩
 rw[if_neg (by omega)] at hp
 refine (gG (a+w.length)).call ?_
 have e5:(atB s (a+w.length) != 40) = !(decide (s[a+w.length]?=some 40)):=by rw[← jh];rfl
 have e6:IntKind.i64.wrap (((a+w.length:Nat):Int)+1)=((a+w.length+1:Nat):Int):=aK (by omega)
 have e7:IntKind.i64.wrap ((D:Int)+1)=((D+1:Nat):Int):=aK (by omega)
 simp only[ad,bJ,e5,ab]
 by_cases hc:s[a+w.length]?=some 40
 ·have hlt:=(List.getElem?_eq_some_iff.1 hc).1
  simp only[hc,aZ,bM,ae,e6,e7]
  have hone:ub d (s.drop (a+w.length))=match pT d (s.drop (a+w.length+1)) with
    | none=>none
    | some (x,r)=>match r with
     | []=>none
     | c::r=>if c=41 then some (x,r) else none:=by
   rw[drop_cons hc,ub];simp only[ne_eq,not_true,if_false];rfl
  rw[hone] at hp
  refine (ih hs (a+w.length+1) (by omega)).call fun v hv=>?_
  unfold TyQ at hv
  have go:∀ {t:KT} {x y:Int} {K:LV→LV→aa→Prop},(∀ o1 o2 s2,WIn s2→2<o1→2<o2→o2<s2.length→s2[o1]?=some (.cells .rw (rkC t))→s2[o2]?=some (.cells .rw [i64 x,i64 y])→K (.ptr o1 0) (.ptr o2 0) s2)→
    nw st [i64 0,LV.nils,LV.nils,LV.nils] fun v89 st90=>nw st90 [i64 0,i64 0] fun v91 st92=>bd2 (lmk (stV st92 4 v89 (.agg (rkC t)))) fun _v93 st94=>bd2 (lmk (stV st94 2 v91 (.agg [i64 x,i64 y]))) fun _v95 st96=>K v89 v91 st96:=by
   intro t x y K hK
   simp only[cv]
   have l0:=cA hw
   have g1:(st++[ar.cells .rw [i64 0,LV.nils,LV.nils,LV.nils]]++[ar.cells .rw [i64 0,i64 0]])[st.length]?=some (.cells .rw [i64 0,.nils,.nils,.nils]):=cb ay
   have g2:(st++[ar.cells .rw [i64 0,LV.nils,LV.nils,LV.nils]]++[ar.cells .rw [i64 0,i64 0]])[(st++[ar.cells .rw [i64 0,LV.nils,LV.nils,LV.nils]]).length]?=some (.cells .rw [i64 0,i64 0]):=ay
   rw[CO g1 rfl dT pG]
   simp only[aA,af]
   have hne:(st++[ar.cells .rw [i64 0,LV.nils,LV.nils,LV.nils]]).length≠st.length:=by simp
   have g3:=(bK (y:=ar.cells .rw (rkC t)) (Ne.symm hne)).trans g2
   rw[uK g3 rfl]
   simp only[aA,af]
   have F:Fr st (((st++[ar.cells .rw [i64 0,LV.nils,LV.nils,LV.nils]]++[ar.cells .rw [i64 0,i64 0]]).set st.length (.cells .rw (rkC t))).set (st++[ar.cells .rw [i64 0,LV.nils,LV.nils,LV.nils]]).length (.cells .rw [i64 x,i64 y])) (fun j=>2≤j):=by
    refine ⟨by simp,fun j hj _=>?_⟩
    rw[bK (by simp;omega),bK (by omega),bW (by simp;omega),bW hj]
   refine hK _ _ _ (h.fr F) (by omega) (by simp;omega) (by simp) ?_ (bO g3)
   rw[bK hne];exact bO g1
  cases hpt:pT d (s.drop (a+w.length+1)) with
  | none=>
   rw[hpt] at hv hp
   obtain ⟨t,x,y,hy,rfl⟩:=hv
   simp only at hp
   rw[hp]
   simp only[tE,av,aN,aO,ab]
   refine go fun o1 o2 s2 hM ho1 ho2 hl2 g1 g2=>?_
   have l1:ld1 s2 (.ptr o2 1)=some (i64 y):=by rw[bx g2];rfl
   have e4:(y != 0)=true:=by simpa using hy
   simp only[ao,aj,ab,l1,ad,bJ,e4,ah,ux g2 rfl]
   obtain ⟨S1,S2,q1,q2,F,h3⟩:=hM.out (Q:=TyQ s none) (cs:=[i64 (0:Nat),.nils,.nils,.nils]) (x:=x) (y:=y) rfl rfl (fun S _=>pI) ⟨_,_,_,hy,rfl⟩
   rw[q1]
   simp only[aA,af]
   refine ⟨ux (F.get g2 (by omega)) rfl,?_⟩
   rw[q2]
   exact K6 _ _ h3
  | some p=>
   obtain ⟨t,r⟩:=p
   rw[hpt] at hv hp
   obtain ⟨a1,ha1,hr1,rfl⟩:=hv
   simp only at hr1 hp
   subst hr1
   simp only[tE,av,aN,aO,ab]
   refine go fun o1 o2 s2 hM ho1 ho2 hl2 g1 g2=>?_
   have l1:ld1 s2 (.ptr o2 1)=some (i64 0):=by rw[bx g2];rfl
   have l2:ld1 s2 (.ptr o2 0)=some (i64 a1):=by rw[bx g2];rfl
   simp only[ao,aj,ab,l1,l2,ad,bJ,bne_self_eq_false,ae]
   refine (gG a1).call ?_
   have e8:(atB s a1 != 41) = !(decide (s[a1]?=some 41)):=by rw[← jh];rfl
   simp only[ad,bJ,e8,ab]
   by_cases hc2:s[a1]?=some 41
   ·have hlt2:=(List.getElem?_eq_some_iff.1 hc2).1
    have e9:IntKind.i64.wrap ((a1:Int)+1)=((a1+1:Nat):Int):=aK (by omega)
    have hp2:pT (d+1) (s.drop a)=some (.mk k [t] [] [],s.drop (a1+1)):=by rw[hp,drop_cons hc2];simp
    rw[hp2]
    have ef:aB (fun i=>some (i*4,4)) (List.replicate 1 [i64 0,LV.nils,LV.nils,LV.nils]).flatten [(0,.agg (rkC t))]=some (rkC t):=by cases t;rfl
    simp only[hc2,aZ,bM,ae,CN g1 dT,ab,l2,ad,aH,e9,mk2,ef,bE,af]
    have l3:ld1 (s2++[ar.cells .rw (rkC t)]) (.ptr o2 0)=some (i64 a1):=by rw[bx (cb g2)];rfl
    have eg:bh (aB (aF [(0,1),(1,1),(2,1),(3,1)]) [i64 0,LV.nils,LV.nils,LV.nils] [(0,i64 k),(1,.sl s2.length 0 1 (.ex 1))])=some (.agg [i64 k,.sl s2.length 0 1 (.ex 1),.nils,.nils]):=rfl
    refine ⟨l3,?_⟩
    rw[eg]
    simp only[ab]
    obtain ⟨S1,S2,q1,q2,F,h3⟩:=(hM.fr (Fr.app (S:=fun j=>2≤j))).out (Q:=TyQ s (some (.mk k [t] [] [],s.drop (a1+1)))) (st:=s2++[ar.cells .rw (rkC t)]) (cs:=[i64 k,.sl s2.length 0 1 (.ex 1),.nils,.nils]) (t:=.mk k [t] [] []) (x:=((a1+1:Nat):Int)) (y:=0) rfl rfl
     (fun S hF=>by
      have gS:=hF.get (o:=s2.length) ay (by omega)
      simp only[rkC,List.map_nil,aR]
      refine ⟨_,_,rfl,rfl,_,_,rfl,.inl ⟨s2.length,0,.ex 1,.rw,rkC t,rfl,gS,rfl,by simp[dj,dT],?_⟩,_,_,rfl,.inr (.inr ⟨.inr rfl,rfl,rfl⟩),_,_,rfl,.inr (.inr ⟨.inr rfl,rfl,rfl⟩),rfl⟩
      have:((rkC t).drop 0).take (dj [t]).length=dj [t]:=by simp[dj]
      rw[this];exact bU _ kW) ⟨a1+1,by omega,rfl,rfl⟩
    rw[q1]
    simp only[aA,af]
    have l4:ld1 S1 (.ptr o2 0)=some (i64 a1):=by rw[bx (F.get (cb g2) (by omega))];rfl
    refine ⟨l4,?_⟩
    rw[q2]
    exact La _ _ h3
   ·have hp2:pT (d+1) (s.drop a)=none:=by
     rw[hp]
     cases hd:s.drop a1 with
     | nil=>rfl
     | cons c r=>
      have hx:s[a1]?=some c:=by rw[← cx,hd];rfl
      have n1:¬ c=41:=fun e=>hc2 (by rw[hx,e])
      simp only[n1,if_false]
    rw[hp2]
    simp only[hc2,a8,bL,ah,l2,ab,mk2]
    obtain ⟨S1,S2,q1,q2,F,h3⟩:=hM.out (Q:=TyQ s none) (cs:=[i64 (0:Nat),.nils,.nils,.nils]) (x:=(a1:Int)) (y:=4) rfl rfl (fun S _=>pI) ⟨_,_,_,by decide,rfl⟩
    rw[q1]
    simp only[aA,af]
    have l4:ld1 S1 (.ptr o2 0)=some (i64 a1):=by rw[bx (F.get g2 (by omega))];rfl
    refine ⟨l4,?_⟩
    rw[q2]
    exact K8 _ _ h3
 ·have hp2:pT (d+1) (s.drop a)=none:=by
   rw[hp]
   cases hd:s.drop (a+w.length) with
   | nil=>rfl
   | cons c r=>
    have hx:s[a+w.length]?=some c:=by rw[← cx,hd];rfl
    have n1:c≠40:=fun e=>hc (by rw[hx,e])
    simp only[ub,n1,ne_eq,not_false_eq_true,if_true]
  rw[hp2]
  simp only[hc,a8,bL,ah]
  exact h.Jp ⟨_,_,_,by decide,rfl⟩
theorem Jq {st:aa} {x9:Int} {k:Nat} {w:Tx} {R:LV→aa→Prop} (hs:s.length≤4096) (ha:a≤s.length) (hw:st[2]?=some (.cells .rw (bQ.map .str))) (hk:bQ[k]?=some w)
  (hno:w.isPrefixOf (s.drop a)=false→∀ (y:Int) (z:LV),uu (.str s) (i64 a) (i64 D) (.ptr 0 0) (.ptr 1 0) (.sl 2 0 7 (.ex 7)) (i64 y) (i64 (k+1:Nat)) z R st)
  (hyes:w.isPrefixOf (s.drop a)=true→pA (.str s) (i64 a) (i64 D) (.ptr 0 0) (.ptr 1 0) (.sl 2 0 7 (.ex 7)) (i64 x9) (i64 k) (i64 w.length) (.bool false) R st) :
  ∀ (m n:Nat),n+m=w.length→(∀ (j:Nat) (c:UInt8),j<n→w[j]?=some c→s[a+j]?=some c)→r8 (.str s) (i64 a) (i64 D) (.ptr 0 0) (.ptr 1 0) (.sl 2 0 7 (.ex 7)) (i64 x9) (i64 k) (i64 n) R st
 | 0,n,hn,hm=>by
  have hk7:=(kM hk).1
  have e1:bn 1 (.sl 2 0 7 (.ex 7)) (i64 k)=some (.ptr 2 k):=by rw[kF (by omega) (by omega)];simp
  have e2:ld1 st (.ptr 2 k)=some (.str w):=by rw[bx hw];simp[hk]
  refine EG _ _ _ _ _ _ _ _ _ ?_
  have hn:n=w.length:=by omega
  subst hn
  have c1:¬ ((w.length:Int)<(w.length:Int)):=by omega
  simp only[yc,e1,e2,ab,bF,ad,au,c1,a8,ae]
  refine hyes ?_
  rw[List.isPrefixOf_iff_prefix,List.prefix_iff_eq_take]
  apply List.ext_getElem?
  intro j
  rw[List.getElem?_take]
  by_cases hj:j<w.length
  ·rw[if_pos hj,List.getElem?_drop,hm j w[j] hj (bg hj),bg hj]
  ·rw[if_neg hj,List.getElem?_eq_none (by omega)]
 | m+1,n,hn,hm=>by
  have hk7:=(kM hk).1
  have e1:bn 1 (.sl 2 0 7 (.ex 7)) (i64 k)=some (.ptr 2 k):=by rw[kF (by omega) (by omega)];simp
  have e2:ld1 st (.ptr 2 k)=some (.str w):=by rw[bx hw];simp[hk]
  have hwl:w.length≤5:=by
   have:w ∈ bQ:=cr hk
   simp only[bQ,List.mem_cons,List.not_mem_nil,or_false] at this
   rcases this with rfl|rfl|rfl|rfl|rfl|rfl|rfl<;>decide
  refine EG _ _ _ _ _ _ _ _ _ ?_
  have c1:((n:Int)<(w.length:Int)):=by omega
  have hx:w[n]?=some (w[n]'(by omega)):=bg _
  generalize w[n]'(by omega)=c at hx
  have e3:IntKind.i64.wrap ((a:Int)+(n:Int))=((a+n:Nat):Int):=by rw[wrap_i64 (by omega) (by omega)];omega
  have e4:gR IntKind.i64 (u8 c)=some (i64 ((c.toNat:Nat):Int)):=by
   have:=c.toNat_lt
   simp only[mw]
   rw[wrap_i64 (by omega) (by omega)]
  simp only[yc,e1,e2,ab,bF,ad,au,c1,aZ,ah,aH,e3,dB hx,e4]
  refine (gG (a+n)).call ?_
  refine ⟨e2,?_⟩
  simp only[ad,bj,jh,ab]
  by_cases hc:s[a+n]?=some c
  ·simp only[hc,aZ]
   refine yd _ _ _ _ _ _ _ _ _ _ ?_
   simp only[r9,ah,ad,aH,aK (show n<2 ^ 40 by omega),ab]
   refine Jq hs ha hw hk hno hyes m (n+1) (by omega) fun j c' hj hc'=>?_
   rcases Nat.lt_or_ge j n with h|h
   ·exact hm j c' h hc'
   ·have:j=n:=by omega
    subst this;rw[hx] at hc';cases hc';exact hc
  ·simp only[hc,a8]
   refine yd _ _ _ _ _ _ _ _ _ _ ?_
   simp only[r9,ae,kP,ab,e1,e2,bF,ad,au,c1,aZ,ah,aH,aK (show k<2 ^ 40 by omega)]
   refine hno ?_ _ _
   rw[Bool.eq_false_iff]
   intro hpre
   have h1:=List.isPrefixOf_iff_prefix.1 hpre
   obtain ⟨z,hz⟩:=h1
   have:(s.drop a)[n]?=some c:=by rw[← hz,bW (by omega)];exact hx
   rw[List.getElem?_drop] at this
   exact hc this
theorem AA (ih:nu d (D+1)) (hs:s.length≤4096) (hD:D<2 ^ 20) (ha:a≤s.length) (h:WIn st) (hw:st[2]?=some (.cells .rw (bQ.map .str))) (h1:s[a]?≠some 91) (h2:s[a]?≠some 123) :
  ∀ (m k:Nat) (y:Int) (z:LV),k+m=7→gh (s.drop a) bQ 0=gh (s.drop a) (bQ.drop k) k→uu (.str s) (i64 a) (i64 D) (.ptr 0 0) (.ptr 1 0) (.sl 2 0 7 (.ex 7)) (i64 y) (i64 k) z (Dp (TyQ s (pT (d+1) (s.drop a)))) st
 | 0,k,y,z,hk,hp=>by
  refine Jg _ _ _ _ _ _ _ _ _ ?_
  have c1:¬ ((k:Int)<(7:Nat)):=by omega
  have e:bQ.drop k=[]:=bR (by show 7≤k;omega)
  have hn:pT (d+1) (s.drop a)=none:=by rw[xL h1 h2,hp,e];rfl
  rw[hn]
  simp only[CK,zb,ab,ad,au,c1,a8,ae,Ll,aH,mk2]
  exact h.Jp ⟨_,_,_,by decide,rfl⟩
 | m+1,k,y,z,hk,hp=>by
  refine Jg _ _ _ _ _ _ _ _ _ ?_
  have c1:((k:Int)<(7:Nat)):=by omega
  have hx:bQ[k]?=some (bQ[k]'(by show k<7;omega)):=bg _
  have hd:bQ.drop k=bQ[k]'(by show k<7;omega)::bQ.drop (k+1):=b6 _
  generalize bQ[k]'(by show k<7;omega)=w at hx hd
  simp only[CK,zb,ab,ad,au,c1,aZ,ah]
  refine Jq hs ha hw hx (fun hno y z=>AA ih hs hD ha h hw h1 h2 m (k+1) y z (by omega) ?_) (fun hyes=>?_) w.length 0 (by omega) fun j c hj=>by omega
  ·rw[hp,hd,gh,if_neg (by rw[hno];simp)]
  ·have hle:a+w.length≤s.length:=by
    have:=(List.isPrefixOf_iff_prefix.1 hyes).length_le
    rw[List.length_drop] at this;omega
   refine Lm ih hs hD h hw hx hle ?_
   rw[xL h1 h2,hp,hd,gh,if_pos hyes,List.drop_drop];rfl
theorem Ln (hd:D+(d+1)=8) (ih:nu d (D+1)):nu (d+1) D:=by
 intro s hs i hi
 refine Pb.of (c196 _ _ _ ?_) rfl
 have c8:¬ ((D:Int)≥8):=by omega
 have hW:WIn [ar.cells .rw [i64 0,LV.nils,LV.nils,LV.nils],.cells .rw [i64 0,i64 0]]:=⟨rfl,rfl⟩
 have a1:(atB s i==91)=decide (s[i]?=some 91):=jh (c:=91)
 have a2:(atB s i==123)=decide (s[i]?=some 123):=jh (c:=123)
 -- what a list or an object answers
 have fin:∀ {v:LV} {res:Option (KT × Tx)},TyQ s res v→bd (ai v 0) fun v21=>bd (ai v 1) fun v22=>
   bd2 (lmk (stV [ar.cells .rw [i64 0,LV.nils,LV.nils,LV.nils],.cells .rw [i64 0,i64 0]] 4 (.ptr 0 0) v21)) fun _v23 st24=>
   bd2 (lmk (stV st24 2 (.ptr 1 0) v22)) fun _v25 st26=>bd (ldA st26 (.ptr 0 0) 4) fun v27=>bd (ldA st26 (.ptr 1 0) 2) fun v28=>Dp (TyQ s res) (LV.tup [v27,v28]) st26:=by
  intro v res hv
  obtain ⟨t,x,y,rfl⟩:∃ t x y,v=tE t x y:=by
   unfold TyQ at hv
   cases res with
   | none=>obtain ⟨t,x,y,_,rfl⟩:=hv;exact ⟨_,_,_,rfl⟩
   | some p=>obtain ⟨a',_,_,rfl⟩:=hv;exact ⟨_,_,_,rfl⟩
  simp only[tE,av,aN,aO,ab]
  obtain ⟨S1,S2,e1,e2,_,h3⟩:=hW.out (Q:=TyQ s res) (cs:=rkC t) (t:=t) (x:=x) (y:=y) dT pG (fun S _=>bU _ fJ) hv
  rw[e1]
  simp only[aA,af]
  rw[e2]
  exact h3
 simp only[Ov,cv,bD,List.cons_append,aR,aW,aj,ad,dN,ab,c8,a8,ae]
 refine (gG i).call ?_
 simp only[ad,bj,a1,ab]
 by_cases hc:s[i]?=some 91
 ·have hlt:=(List.getElem?_eq_some_iff.1 hc).1
  simp only[hc,aZ,ah]
  refine (gG i).call ?_
  have a3:decide (s[i]?=some 123)=false:=by rw[hc];rfl
  simp only[ad,bj,a2,a3,ab]
  refine (vG ih hs (by omega) hlt false).call fun v hv=>?_
  have hp:pT (d+1) (s.drop i)=match oY d (s.drop (i+1)) with
    | none=>none
    | some (l,r)=>some (.mk 7 l [] [],r):=by
   rw[drop_cons hc]
   simp only[pT,oY,if_true]
   split
   ·rfl
   ·rfl
  rw[hp]
  exact fin hv
 ·simp only[hc,a8,ae]
  refine (gG i).call ?_
  simp only[ad,bj,a2,ab]
  by_cases hc2:s[i]?=some 123
  ·have hlt:=(List.getElem?_eq_some_iff.1 hc2).1
   simp only[hc2,aZ,ah]
   refine (gG i).call ?_
   have a3:decide (s[i]?=some 123)=true:=by rw[hc2];rfl
   simp only[ad,bj,a2,a3,ab]
   refine (vG ih hs (by omega) hlt true).call fun v hv=>?_
   have hp:pT (d+1) (s.drop i)=match o7 d (s.drop (i+1)) with
     | none=>none
     | some (l,r)=>some (kO l,r):=by
    rw[drop_cons hc2]
    have n1:¬ (123:UInt8)=91:=by decide
    simp only[pT,o7,n1,if_true,if_false]
    split
    ·rfl
    ·rfl
   rw[hp]
   exact fin hv
  ·have ef:aB (fun i=>some (i*1,1)) (List.replicate 7 [LV.str []]).flatten [(0,LV.str [97,110,121]),(1,LV.str [98,111,111,108]),(2,LV.str [105,110,116]),(3,LV.str [112,111,105,110,116]),(4,LV.str [116,101,120,116]),(5,LV.str [108,105,115,116]),(6,LV.str [109,97,112])]=some (bQ.map .str):=rfl
   simp only[hc2,a8,ae,ef,bE,af,aW,aR,List.cons_append,bD,aj]
   exact AA ih hs (by omega) hi ⟨rfl,rfl⟩ rfl hc hc2 7 0 0 _ rfl rfl
theorem Lo (hd:D=8):nu 0 D:=by
 intro s hs i hi
 refine Pb.of (c196 _ _ _ ?_) rfl
 have c8:((D:Int)≥8):=by omega
 have hW:WIn [ar.cells .rw [i64 0,LV.nils,LV.nils,LV.nils],.cells .rw [i64 0,i64 0]]:=⟨rfl,rfl⟩
 simp only[Ov,cv,bD,List.cons_append,aR,aW,aj,ad,dN,ab,c8,aZ,ah,Ll,mk2]
 exact hW.Jp ⟨_,_,_,by decide,rfl⟩
theorem MM:∀ (d D:Nat),D+d=8→nu d D
 | 0,D,h=>Lo (by omega)
 | d+1,D,h=>Ln h (MM d (D+1) (by omega))
def iu (s:Tx) (v:LV):Prop:=match ew s with
 | some t=>∃ a:Int,v=tE t a 0
 | none=>∃ (t:KT) (a e:Int),e≠0∧v=tE t a e
theorem Gg (s:Tx):Pb Tryz.prog 161 [.str s] (iu s):=by
 refine Pb.of (Ru _ ?_) rfl
 have hW:WIn [ar.cells .rw [i64 0,LV.nils,LV.nils,LV.nils],.cells .rw [i64 0,i64 0]]:=⟨rfl,rfl⟩
 simp only[Qq,cv,bD,List.cons_append,aR,aW,aj,bF,ab,ad,cT,Ll,mk2]
 rw[aL]
 refine ⟨fun hl=>hW.Jp ?_,fun hl=>?_⟩
 ·unfold iu ew
  rw[if_pos (by omega)]
  exact ⟨_,_,_,by decide,rfl⟩
 have hs:s.length≤4096:=by omega
 have hpt:ew s=match pT 8 s with
   | some (t,[])=>some t
   | _=>none:=by unfold ew;rw[if_neg (by omega)];rfl
 refine (MM 8 0 rfl hs 0 (by omega)).call fun v hv=>?_
 rw[List.drop_zero] at hv
 obtain ⟨t,x,y,rfl⟩:∃ t x y,v=tE t x y:=by
  unfold TyQ at hv
  cases hr:pT 8 s with
  | none=>rw[hr] at hv;obtain ⟨t,x,y,_,rfl⟩:=hv;exact ⟨_,_,_,rfl⟩
  | some p=>rw[hr] at hv;obtain ⟨a',_,_,rfl⟩:=hv;exact ⟨_,_,_,rfl⟩
 have p4:stV [ar.cells .rw [i64 0,LV.nils,LV.nils,LV.nils],.cells .rw [i64 0,i64 0],.cells .rw [i64 0,LV.nils,LV.nils,LV.nils],.cells .rw [i64 0,i64 0]] 4 (.ptr 2 0) (.agg (rkC t)) =
   some [ar.cells .rw [i64 0,LV.nils,LV.nils,LV.nils],.cells .rw [i64 0,i64 0],.cells .rw (rkC t),.cells .rw [i64 0,i64 0]]:=by cases t;rfl
 have p2:stV [ar.cells .rw [i64 0,LV.nils,LV.nils,LV.nils],.cells .rw [i64 0,i64 0],.cells .rw (rkC t),.cells .rw [i64 0,i64 0]] 2 (.ptr 3 0) (.agg [i64 x,i64 y]) =
   some [ar.cells .rw [i64 0,LV.nils,LV.nils,LV.nils],.cells .rw [i64 0,i64 0],.cells .rw (rkC t),.cells .rw [i64 x,i64 y]]:=rfl
 simp only[tE,av,aN,aO,ab,bD,List.cons_append,aR,aW,aj,p4,p2,aA,af,ao]
 have g2:([ar.cells .rw [i64 0,LV.nils,LV.nils,LV.nils],.cells .rw [i64 0,i64 0],.cells .rw (rkC t),.cells .rw [i64 x,i64 y]]:aa)[2]?=some (.cells .rw (rkC t)):=rfl
 have g3:([ar.cells .rw [i64 0,LV.nils,LV.nils,LV.nils],.cells .rw [i64 0,i64 0],.cells .rw (rkC t),.cells .rw [i64 x,i64 y]]:aa)[3]?=some (.cells .rw [i64 x,i64 y]):=rfl
 have hM:WIn [ar.cells .rw [i64 0,LV.nils,LV.nils,LV.nils],.cells .rw [i64 0,i64 0],.cells .rw (rkC t),.cells .rw [i64 x,i64 y]]:=⟨rfl,rfl⟩
 generalize [ar.cells .rw [i64 0,LV.nils,LV.nils,LV.nils],.cells .rw [i64 0,i64 0],.cells .rw (rkC t),.cells .rw [i64 x,i64 y]]=S at g2 g3 hM
 have l1:ld1 S (.ptr 3 1)=some (i64 y):=by rw[bx g3];rfl
 have l0:ld1 S (.ptr 3 0)=some (i64 x):=by rw[bx g3];rfl
 simp only[l1,l0,ab,ad,bj,au,CN g2 dT,ux g3 rfl,mk2]
 -- what was read,as it is
 have asis:iu s (tE t x y)→bd2 (lmk (stV S 4 (.ptr 0 0) (.agg (rkC t)))) fun _v43 st44=>ldA st44 (.ptr 3 0) 2=some (.agg [i64 x,i64 y])∧bd2 (lmk (stV st44 2 (.ptr 1 0) (.agg [i64 x,i64 y]))) fun _v45 st46=>yb (.ptr 0 0) (.ptr 1 0) (Dp (iu s)) st46:=by
  intro hq
  obtain ⟨S1,S2,q1,q2,F,h3⟩:=hM.out (Q:=iu s) (cs:=rkC t) (t:=t) (x:=x) (y:=y) dT pG (fun S _=>bU _ fJ) hq
  rw[q1]
  simp only[aA,af]
  refine ⟨ux (F.get g3 (by omega)) rfl,?_⟩
  rw[q2]
  exact Ou _ _ h3
 unfold TyQ at hv
 cases hr:pT 8 s with
 | none=>
  rw[hr] at hv hpt
  obtain ⟨t',x',y',hy,he⟩:=hv
  simp only[tE,LV.tup.injEq,List.cons.injEq,LV.agg.injEq,LV.int.injEq,true_and,and_true] at he
  have hy:y≠0:=by rw[he.2.2];exact hy
  have e4:(y==0)=false:=by simpa using hy
  simp only[e4,ae]
  refine asis ?_
  unfold iu
  rw[hpt];exact ⟨_,_,_,hy,rfl⟩
 | some p=>
  rw[hr] at hv hpt
  obtain ⟨a',ha',hp2,he⟩:=hv
  obtain ⟨t',r⟩:=p
  simp only at hp2
  subst hp2
  have hq:iu s (tE t' a' 0)→iu s (tE t x y):=fun h=>by rw[he];exact h
  have hxy:x=a'∧y=0:=by
   simp only[tE,LV.tup.injEq,List.cons.injEq,LV.agg.injEq,LV.int.injEq,true_and,and_true] at he
   exact he.2
  obtain ⟨rfl,rfl⟩:=hxy
  simp only[beq_self_eq_true,ah]
  rw[aL]
  refine ⟨fun hlt=>?_,fun hlt=>asis (hq ?_)⟩
  ·have hn:ew s=none:=by
    rw[hpt]
    have hx:s[a']?=some (s[a']'(by omega)):=bg (by omega)
    rw[drop_cons hx]
   obtain ⟨S1,S2,q1,q2,F,h3⟩:=hM.out (Q:=iu s) (cs:=[i64 (0:Nat),.nils,.nils,.nils]) (x:=(a':Int)) (y:=4) rfl rfl (fun S _=>pI) (by unfold iu;rw[hn];exact ⟨_,_,_,by decide,rfl⟩)
   rw[q1]
   simp only[aA,af]
   have l4:ld1 S1 (.ptr 3 0)=some (i64 a'):=by rw[bx (F.get g3 (by omega))];rfl
   refine ⟨l4,?_⟩
   rw[q2]
   exact Oq _ _ h3
  ·unfold iu
   rw[hpt,bR (by omega)]
   exact ⟨_,rfl⟩
end
def glue (w:Tx):List Tx→List Tx
 | []=>[w]
 | p::ps=>(w++p)::ps
theorem mg {l:List Tx} (h:l≠[]):glue [] l=l:=by cases l with
 | nil=>exact absurd rfl h
 | cons p ps=>rfl
theorem qF {c b:UInt8} {w:Tx} {l:Tx} (h:b≠c):glue w (splitB c (b::l))=glue (w++[b]) (splitB c l):=by
 rw[dF,if_neg h]
 cases hs:splitB c l with
 | nil=>exact absurd hs dd
 | cons p ps=>simp[glue]
section
variable {st st':aa} {R:LV→aa→Prop}
theorem CR {s:Tx} (hs:s.length≤2 ^ 29):∀ (d i a:Nat) (f:Option Nat) (acc:List Tx) (st:aa),i+d=s.length→a≤i→acc.length≤i→ca .rw st f 1 acc.length (acc.map .str)→splitB 32 s=acc++glue ((s.drop a).take (i-a)) (splitB 32 (s.drop i))→
  nQ (.str s) (osl f 1 acc.length) (i64 a) (i64 i) (fun r s'=>dp s' (sL (splitB 32 s)) r) st:=by
 intro d
 induction d with
 | zero=>
  intro i a f acc st hi ha hacc ho hsp
  refine B2 _ _ _ _ ?_
  have c1:((i:Int)≤s.length):=by omega
  have c2:((i:Int)==(s.length:Int))=true:=by rw[beq_iff_eq];omega
  have hw1:=aK (show i<2 ^ 40 by omega)
  have ef:∀ w:Tx,aB (fun i=>some (i*1,1)) (List.replicate 1 [LV.str []]).flatten [(0,.str w)]=some [.str w]:=fun _=>rfl
  simp only[xr,bF,ad,eo,bj,ab,c1,aZ,c2,ah,eO ha (show i≤s.length by omega),ef,bE,af]
  obtain ⟨st2,f2,q1,q2,-,-⟩:=mN ho (new:=[.str ((s.drop a).take (i-a))]) rfl rfl (by omega) (b:=16)
  rw[q1]
  simp only[af,aH,ab,hw1]
  refine B2 _ _ _ _ ?_
  have c3:¬ (((i+1:Nat):Int)≤s.length):=by omega
  simp only[xr,bF,ad,eo,ab,c3,a8,ae]
  have e:splitB 32 s=acc++[(s.drop a).take (i-a)]:=by
   rw[hsp,bR (by omega:s.length≤i)]
   simp[splitB,glue]
  rw[e]
  have k:ca .rw st2 f2 1 (acc++[(s.drop a).take (i-a)]).length ((acc++[(s.drop a).take (i-a)]).map .str):=by simpa using q2
  have hl:acc.length+1=(acc++[(s.drop a).take (i-a)]).length:=by simp
  rw[hl]
  exact eL k rfl (bU _ (bV (f:=LV.str) fun _ _=>rfl))
 | succ d ih=>
  intro i a f acc st hi ha hacc ho hsp
  refine B2 _ _ _ _ ?_
  have hlt:i<s.length:=by omega
  have c1:((i:Int)≤s.length):=by omega
  have c2:((i:Int)==(s.length:Int))=false:=by
   rw[Bool.eq_false_iff];intro h;rw[beq_iff_eq] at h;omega
  have hw1:=aK (show i<2 ^ 40 by omega)
  have ef:∀ w:Tx,aB (fun i=>some (i*1,1)) (List.replicate 1 [LV.str []]).flatten [(0,.str w)]=some [.str w]:=fun _=>rfl
  have hx:s[i]?=some s[i]:=bg hlt
  have hdr:s.drop i=s[i]::s.drop (i+1):=b6 hlt
  have htk:(s.drop a).take (i+1-a)=(s.drop a).take (i-a)++[s[i]]:=by
   rw[show i+1-a=(i-a)+1 by omega,List.take_add_one,List.getElem?_drop,show a+(i-a)=i by omega,hx];rfl
  generalize s[i]=c at hx hdr htk
  have ei:dJ (.str s) (i64 i)=some (.int .u8 c.toNat):=dB hx
  rw[hdr] at hsp
  simp only[xr,bF,ad,eo,bj,ab,c1,aZ,c2,ah,ae,ei]
  have e32:((c.toNat:Int)==32)=decide (c=32):=by
   by_cases h:c=32
   ·subst h;rfl
   ·have:¬ c.toNat=32:=fun e=>h (UInt8.toNat_inj.1 e)
    simp only[h,a8,beq_eq_false_iff_ne,ne_eq];omega
  rw[e32,aL]
  refine ⟨fun h=>?_,fun h=>?_⟩
  ·subst h
   rw[eO ha (show i≤s.length by omega)]
   simp only[ab,ef,bE,af]
   obtain ⟨st2,f2,q1,q2,-,-⟩:=mN ho (new:=[.str ((s.drop a).take (i-a))]) rfl rfl (by omega) (b:=16)
   rw[q1]
   simp only[af,aH,ab,hw1]
   have hl:acc.length+1=(acc++[(s.drop a).take (i-a)]).length:=by simp
   rw[hl]
   refine ih (i+1) (i+1) f2 (acc++[(s.drop a).take (i-a)]) st2 (by omega) (Nat.le_refl _) (by simp;omega) (by simpa using q2) ?_
   rw[hsp,dF,if_pos rfl]
   simp only[Nat.sub_self,List.take_zero]
   rw[mg dd]
   simp[glue]
  ·simp only[aH,ab,hw1]
   refine ih (i+1) a f acc st (by omega) (by omega) (by omega) ho ?_
   rw[hsp,qF h,htk]
theorem Jr {s:Tx} (hs:s.length≤2 ^ 29):Pu Tryz.prog 160 [.str s] (sL (splitB 32 s)):=by
 refine Pu.of (c160 _ ?_) rfl (by simp only[LV.plain];exact bV (f:=LV.str) fun _ _=>rfl)
 show nQ (.str s) (osl none 1 ([]:List Tx).length) (i64 (0:Nat)) (i64 (0:Nat)) _ _
 refine CR hs s.length 0 0 none [] _ (by omega) (Nat.le_refl _) (by simp) ca.nil ?_
 simp only[Nat.sub_self,List.take_zero,List.drop_zero,bD]
 rw[mg dd]
end
abbrev bX (nm tx:Tx) (t0 t1 t2 t3:LV) (m o h n:Bool):List LV:=[.str nm,.str tx,t0,t1,t2,t3,.bool m,.bool o,.bool h,.bool n]
def mk4 (m o h n:Bool):Tx:=(if m then 32::de else [])++((if o then 32::eG else [])++((if h then 32::dh else [])++(if n then 32::eH else [])))
def pJ (nm tx:Tx) (m o h n:Bool):Tx:=jx++32::(nm++32::(tx++mk4 m o h n))
theorem Js {a:AT}:pJ a.nm (kpr a.ty) a.must a.own a.hide a.new=nr a:=rfl
section
variable {st st':aa} {R:LV→aa→Prop}
theorem Lp {nm tx:Tx} {t0 t1 t2 t3:LV} {m o h n:Bool} (hp:LV.aG [t0,t1,t2,t3]=true) (hn:nm.length≤2 ^ 32) (ht:tx.length≤2 ^ 32) :
  Pu Tryz.prog 162 [.agg (bX nm tx t0 t1 t2 t3 m o h n)] (.str (pJ nm tx m o h n)):=by
 refine Pu.of (c162 _ ?_) (by simp only[LV.aG,LV.plain,bp] at hp ⊢;simp[hp]) rfl
 have g:∀ k:Nat,ld1 ([]++[ar.cells .rw (bX nm tx t0 t1 t2 t3 m o h n)]) (.ptr 0 k)=(bX nm tx t0 t1 t2 t3 m o h n)[k]?:=fun k=>bx rfl
 simp only[PT,pq,af,aR,ao,aj,ab,g,aN,aO]
 rw[kc (by simp only[aW,aR];omega),ab,kc (by simp only[b8,aW,aR];omega),ab,kc (by simp only[b8,aW,aR];omega),ab]
 have fin:∀ {x y:Tx},x=y→dp ([]++[ar.cells .rw (bX nm tx t0 t1 t2 t3 m o h n)]) (.str y) (.str x):=fun e=>by subst e;exact rfl
 cases m<;>cases o<;>cases h<;>cases n<;>simp only[ah,ae]<;>(repeat rw[kc (by simp only[b8,aW,aR];omega),ab,])<;>(refine fin ?_)<;>simp[pJ,mk4,jx,de,eG,dh,eH]
theorem Lq {s:Tx} (hs:s.length<2 ^ 40):Pu Tryz.prog 19 [.str s] (.bool (named s)):=by
 refine Pu.of (c19 _ ?_) rfl rfl
 refine (Qw hs (i:=0) (by omega)).call fun v hv=>?_
 have parts:∃ a e:Int,v=.agg [i64 a,i64 e]∧((e==0)&&(a==(s.length:Int)))=named s:=by
  unfold NmQ at hv
  rw[List.drop_zero] at hv
  have hpre:=ju s
  have heq:dQ s=s↔(dQ s).length=s.length:=by
   constructor
   ·intro h;rw[h]
   ·intro h
    rw[h,List.drop_length,List.append_nil] at hpre
    exact hpre.symm
  unfold iz at hv
  split at hv
  ·rename_i p e
   split at e
   ·cases e
   ·rename_i hc
    cases e
    refine ⟨_,_,hv,?_⟩
    unfold named
    simp only[aj,beq_self_eq_true,Bool.true_and]
    by_cases h:dQ s=s
    ·have h1:s≠[]:=fun e=>hc (.inl (by rw[h];exact e))
     have h2:s.length≤20:=by
      refine Nat.le_of_not_lt fun e=>hc (.inr (by rw[h];exact e))
     simp[h,h1,h2]
    ·have:¬ ((dQ s).length:Int)=s.length:=fun e=>h (heq.2 (by omega))
     simp[h,this]
  ·rename_i e
   split at e
   ·rename_i hc
    obtain ⟨a,e',he,rfl⟩:=hv
    refine ⟨a,e',rfl,?_⟩
    have:(e' == 0)=false:=by simpa using he
    rw[this,Bool.false_and]
    symm
    unfold named
    rcases hc with hc|hc
    ·by_cases h:dQ s=s
     ·rw[h] at hc;simp[hc]
     ·simp[h]
    ·have:¬ s.length≤20:=by
      have h1:=congrArg List.length hpre
      rw[b8] at h1
      omega
     simp[this]
   ·cases e
 obtain ⟨a,e,rfl,he⟩:=parts
 have hp:stV [ar.cells .rw [i64 0,i64 0]] 2 (.ptr 0 0) (.agg [i64 a,i64 e])=some [ar.cells .rw [i64 a,i64 e]]:=rfl
 have g0:ld1 [ar.cells .rw [i64 a,i64 e]] (.ptr 0 0)=some (i64 a):=rfl
 have g1:ld1 [ar.cells .rw [i64 a,i64 e]] (.ptr 0 1)=some (i64 e):=rfl
 simp only[cv,bD,aR,hp,aA,af,ao,aj,ab,g1,ad,bj]
 rw[← he]
 cases e==0 with
 | false=>exact rfl
 | true=>
  simp only[ah,g0,ab,bF,ad,bj]
  exact rfl
end
end Go.Proofs.YtknegckgmklnhaaGreatDoor
