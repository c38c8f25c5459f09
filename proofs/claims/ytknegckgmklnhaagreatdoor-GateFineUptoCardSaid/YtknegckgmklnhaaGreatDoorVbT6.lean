/- Parts of the proof. -/
import Derived.Test.YtknegckgmklnhaaGreatDoorVbT4
import Derived.Test.YtknegckgmklnhaaGreatDoorVbN10
namespace Go.Proofs.YtknegckgmklnhaaGreatDoor
open Go Go.CP
set_option maxRecDepth 100000
section
variable {st st' st0:aa} {s:Tx} {a d D n:Nat} {Q:LV→Prop}
structure WIn (st:aa):Prop where
 h0:st[0]?=some (.cells .rw [i64 0,.nils,.nils,.nils])
 h1:st[1]?=some (.cells .rw [i64 0,i64 0])
theorem WIn.fr (h:WIn st) (F:Fr st st' (fun j=>2≤j)):WIn st':=⟨F.get h.h0 (by omega),F.get h.h1 (by omega)⟩
theorem WIn.out (h:WIn st) {cs:List LV} (hl:cs.length=4) (h1:cs.all LV.one=true) {t:KT} {x y:Int} (hd:∀ S,Fr st S (fun j=>j<2)→dps S (rkC t) cs) (hQ:Q (tE t x y)) :
  ∃ S1 S2,stV st 4 (.ptr 0 0) (.agg cs)=some S1∧stV S1 2 (.ptr 1 0) (.agg [i64 x,i64 y])=some S2∧Fr st S1 (fun j=>j<2)∧(bd (ldA S2 (.ptr 0 0) 4) fun v10=>bd (ldA S2 (.ptr 1 0) 2) fun v11=>Dp Q (LV.tup [v10,v11]) S2):=by
 have k1:(st.set 0 (.cells .rw cs))[1]?=some (.cells .rw [i64 0,i64 0]):=(bq (by decide)).trans h.h1
 refine ⟨_,_,Bz h.h0 rfl hl h1,tD k1 rfl,Fr.set (by omega),?_⟩
 have k0:((st.set 0 (.cells .rw cs)).set 1 (.cells .rw [i64 x,i64 y]))[0]?=some (.cells .rw cs):=(bq (by decide)).trans (bx h.h0)
 rw[Bx k0 hl]
 simp only[ab]
 rw[th (bx k1) rfl]
 have F:Fr st ((st.set 0 (.cells .rw cs)).set 1 (.cells .rw [i64 x,i64 y])) (fun j=>j<2):=(Fr.set (S:=fun j=>j<2) (by omega)).trans (Fr.set (S:=fun j=>j<2) (by omega)) fun _ _ h=>h
 refine ⟨tE t x y,?_,za,hQ⟩
 exact ⟨_,rfl,_,_,rfl,⟨_,rfl,hd _ F⟩,_,_,rfl,bj (v:=.agg [i64 x,i64 y]) _ rfl,rfl⟩
theorem ox {S:aa} {f:Nat}:dps S (rkC (.mk f [] [] [])) [i64 f,.nils,.nils,.nils]:=by
 simp only[rkC,dB,List.map_nil,List.length_nil]
 exact ⟨_,_,rfl,rfl,_,_,rfl,.inr (.inr ⟨.inr rfl,rfl,rfl⟩),_,_,rfl,.inr (.inr ⟨.inr rfl,rfl,rfl⟩),_,_,rfl,.inr (.inr ⟨.inr rfl,rfl,rfl⟩),rfl⟩
theorem WIn.HQ (h:WIn st) {f:Nat} {x y:Int} (hQ:Q (tE (.mk f [] [] []) x y)) :
  bd2 (lmk (stV st 4 (.ptr 0 0) (.agg [i64 f,.nils,.nils,.nils]))) fun _v6 st7=>bd2 (lmk (stV st7 2 (.ptr 1 0) (.agg [i64 x,i64 y]))) fun _v8 st9=>bd (ldA st9 (.ptr 0 0) 4) fun v10=>bd (ldA st9 (.ptr 1 0) 2) fun v11=>Dp Q (LV.tup [v10,v11]) st9:=by
 obtain ⟨S1,S2,e1,e2,_,h3⟩:=h.out (cs:=[i64 f,.nils,.nils,.nils]) rfl rfl (fun S _=>ox) hQ
 rw[e1]
 simp only[az,ag]
 rw[e2]
 exact h3
theorem JP:aL (ao (ay [(0,1),(1,1),(2,1),(3,1)]) [i64 0,LV.nils,LV.nils,LV.nils] [])=some (.agg [i64 (0:Nat),.nils,.nils,.nils]):=rfl
theorem Pq {k:Nat}:aL (ao (ay [(0,1),(1,1),(2,1),(3,1)]) [i64 0,LV.nils,LV.nils,LV.nils] [(0,i64 k)])=some (.agg [i64 k,.nils,.nils,.nils]):=rfl
theorem JQ (ih:my d (D+1)) (hs:s.length≤4096) (hD:D<2 ^ 20) (h:WIn st) (hw:st[2]?=some (.cells .rw (bu.map .str))) {k:Nat} {w:Tx} (hk:bu[k]?=some w) (hle:a+w.length≤s.length)
  (hp:pT (d+1) (s.drop a)=if k<5 then some (.mk k [] [] [],s.drop (a+w.length)) else match sJ d (s.drop (a+w.length)) with
   | none=>none
   | some (x,r)=>some (.mk k [x] [] [],r)) {x9:Int} :
  oo (.str s) (i64 a) (i64 D) (.ptr 0 0) (.ptr 1 0) (.sl 2 0 7 (.ex 7)) (i64 x9) (i64 k) (i64 w.length) (.bool false) (Dp (TyQ s (pT (d+1) (s.drop a)))) st:=by
 refine wM _ _ _ _ _ _ _ _ _ _ ?_
 have hk7:=(jV hk).1
 have e1:aR 1 (.sl 2 0 7 (.ex 7)) (i64 k)=some (.ptr 2 k):=by rw[jR (by omega) (by omega)];simp
 have e2:ld1 st (.ptr 2 k)=some (.str w):=by rw[aU hw];simp[hk]
 have e3:IntKind.i64.wrap ((a:Int)+(w.length:Int))=((a+w.length:Nat):Int):=by rw[wrap_i64 (by omega) (by omega)];omega
 have c1:¬ ((w.length:Int)<(w.length:Int)):=by omega
 simp only[qP,af,jW,ab,e1,e2,a7,ae,aA,c1,decide_false,Pq,JP,aH,e3,mk2]
 rw[aM]
 refine ⟨fun h5=>?_,fun h5=>?_⟩
 ·rw[if_pos (by omega)] at hp
  rw[hp]
  exact h.HQ ⟨a+w.length,hle,rfl,rfl⟩
 rw[if_neg (by omega)] at hp
 refine (fT (a+w.length)).call ?_
 have e5:(atB s (a+w.length) != 40) = !(decide (s[a+w.length]?=some 40)):=by rw[← iE];rfl
 have e6:IntKind.i64.wrap (((a+w.length:Nat):Int)+1)=((a+w.length+1:Nat):Int):=aI (by omega)
 have e7:IntKind.i64.wrap ((D:Int)+1)=((D+1:Nat):Int):=aI (by omega)
 simp only[ae,bz,e5,ab]
 by_cases hc:s[a+w.length]?=some 40
 ·have hlt:=(List.getElem?_eq_some_iff.1 hc).1
  simp only[hc,decide_true,Bool.not_true,af,e6,e7]
  have hone:sJ d (s.drop (a+w.length))=match pT d (s.drop (a+w.length+1)) with
    | none=>none
    | some (x,r)=>match r with
     | []=>none
     | c::r=>if c=41 then some (x,r) else none:=by
   rw[drop_cons hc,sJ];simp only[ne_eq,not_true,if_false];rfl
  rw[hone] at hp
  refine (ih hs (a+w.length+1) (by omega)).call fun v hv=>?_
  unfold TyQ at hv
  have go:∀ {t:KT} {x y:Int} {K:LV→LV→aa→Prop},(∀ o1 o2 s2,WIn s2→2<o1→2<o2→o2<s2.length→s2[o1]?=some (.cells .rw (rkC t))→s2[o2]?=some (.cells .rw [i64 x,i64 y])→K (.ptr o1 0) (.ptr o2 0) s2)→
    nw st [i64 0,LV.nils,LV.nils,LV.nils] fun v89 st90=>nw st90 [i64 0,i64 0] fun v91 st92=>bd2 (lmk (stV st92 4 v89 (.agg (rkC t)))) fun _v93 st94=>bd2 (lmk (stV st94 2 v91 (.agg [i64 x,i64 y]))) fun _v95 st96=>K v89 v91 st96:=by
   intro t x y K hK
   simp only[bQ]
   have l0:=bM hw
   have g1:(st++[aq.cells .rw [i64 0,LV.nils,LV.nils,LV.nils]]++[aq.cells .rw [i64 0,i64 0]])[st.length]?=some (.cells .rw [i64 0,.nils,.nils,.nils]):=bH au
   have g2:(st++[aq.cells .rw [i64 0,LV.nils,LV.nils,LV.nils]]++[aq.cells .rw [i64 0,i64 0]])[(st++[aq.cells .rw [i64 0,LV.nils,LV.nils,LV.nils]]).length]?=some (.cells .rw [i64 0,i64 0]):=au
   rw[Bz g1 rfl dL ov]
   simp only[az,ag]
   have hne:(st++[aq.cells .rw [i64 0,LV.nils,LV.nils,LV.nils]]).length≠st.length:=by simp
   have g3:=(bq (y:=aq.cells .rw (rkC t)) (Ne.symm hne)).trans g2
   rw[tD g3 rfl]
   simp only[az,ag]
   have F:Fr st (((st++[aq.cells .rw [i64 0,LV.nils,LV.nils,LV.nils]]++[aq.cells .rw [i64 0,i64 0]]).set st.length (.cells .rw (rkC t))).set (st++[aq.cells .rw [i64 0,LV.nils,LV.nils,LV.nils]]).length (.cells .rw [i64 x,i64 y])) (fun j=>2≤j):=by
    refine ⟨by simp,fun j hj _=>?_⟩
    rw[bq (by simp;omega),bq (by omega),List.getElem?_append_left (by simp;omega),List.getElem?_append_left hj]
   refine hK _ _ _ (h.fr F) (by omega) (by simp;omega) (by simp) ?_ (bx g3)
   rw[bq hne];exact bx g1
  cases hpt:pT d (s.drop (a+w.length+1)) with
  | none=>
   rw[hpt] at hv hp
   obtain ⟨t,x,y,hy,rfl⟩:=hv
   simp only at hp
   rw[hp]
   simp only[tE,aw,List.getElem?_cons_zero,List.getElem?_cons_succ,ab]
   refine go fun o1 o2 s2 hM ho1 ho2 hl2 g1 g2=>?_
   have l1:ld1 s2 (.ptr o2 1)=some (i64 y):=by rw[aU g2];rfl
   have e4:(y != 0)=true:=by simpa using hy
   simp only[av,Nat.zero_add,ab,l1,ae,bz,e4,ah,th g2 rfl]
   obtain ⟨S1,S2,q1,q2,F,h3⟩:=hM.out (Q:=TyQ s none) (cs:=[i64 (0:Nat),.nils,.nils,.nils]) (x:=x) (y:=y) rfl rfl (fun S _=>ox) ⟨_,_,_,hy,rfl⟩
   rw[q1]
   simp only[az,ag]
   refine ⟨th (F.get g2 (by omega)) rfl,?_⟩
   rw[q2]
   exact JB _ _ h3
  | some p=>
   obtain ⟨t,r⟩:=p
   rw[hpt] at hv hp
   obtain ⟨a1,ha1,hr1,rfl⟩:=hv
   simp only at hr1 hp
   subst hr1
   simp only[tE,aw,List.getElem?_cons_zero,List.getElem?_cons_succ,ab]
   refine go fun o1 o2 s2 hM ho1 ho2 hl2 g1 g2=>?_
   have l1:ld1 s2 (.ptr o2 1)=some (i64 0):=by rw[aU g2];rfl
   have l2:ld1 s2 (.ptr o2 0)=some (i64 a1):=by rw[aU g2];rfl
   simp only[av,Nat.zero_add,ab,l1,l2,ae,bz,bne_self_eq_false,af]
   refine (fT a1).call ?_
   have e8:(atB s a1 != 41) = !(decide (s[a1]?=some 41)):=by rw[← iE];rfl
   simp only[ae,bz,e8,ab]
   by_cases hc2:s[a1]?=some 41
   ·have hlt2:=(List.getElem?_eq_some_iff.1 hc2).1
    have e9:IntKind.i64.wrap ((a1:Int)+1)=((a1+1:Nat):Int):=aI (by omega)
    have hp2:pT (d+1) (s.drop a)=some (.mk k [t] [] [],s.drop (a1+1)):=by rw[hp,drop_cons hc2];simp
    rw[hp2]
    have ef:ao (fun i=>some (i*4,4)) (List.replicate 1 [i64 0,LV.nils,LV.nils,LV.nils]).flatten [(0,.agg (rkC t))]=some (rkC t):=by cases t;rfl
    simp only[hc2,decide_true,Bool.not_true,af,Bx g1 dL,ab,l2,ae,aH,e9,mk2,ef,bw,ag]
    have l3:ld1 (s2++[aq.cells .rw (rkC t)]) (.ptr o2 0)=some (i64 a1):=by rw[aU (bH g2)];rfl
    have eg:aL (ao (ay [(0,1),(1,1),(2,1),(3,1)]) [i64 0,LV.nils,LV.nils,LV.nils] [(0,i64 k),(1,.sl s2.length 0 1 (.ex 1))])=some (.agg [i64 k,.sl s2.length 0 1 (.ex 1),.nils,.nils]):=rfl
    refine ⟨l3,?_⟩
    rw[eg]
    simp only[ab]
    obtain ⟨S1,S2,q1,q2,F,h3⟩:=(hM.fr (Fr.app (S:=fun j=>2≤j))).out (Q:=TyQ s (some (.mk k [t] [] [],s.drop (a1+1)))) (st:=s2++[aq.cells .rw (rkC t)]) (cs:=[i64 k,.sl s2.length 0 1 (.ex 1),.nils,.nils]) (t:=.mk k [t] [] []) (x:=((a1+1:Nat):Int)) (y:=0) rfl rfl
     (fun S hF=>by
      have gS:=hF.get (o:=s2.length) au (by omega)
      simp only[rkC,List.map_nil,List.length_nil]
      refine ⟨_,_,rfl,rfl,_,_,rfl,.inl ⟨s2.length,0,.ex 1,.rw,rkC t,rfl,gS,rfl,by simp[dB,dL],?_⟩,_,_,rfl,.inr (.inr ⟨.inr rfl,rfl,rfl⟩),_,_,rfl,.inr (.inr ⟨.inr rfl,rfl,rfl⟩),rfl⟩
      have:((rkC t).drop 0).take (dB [t]).length=dB [t]:=by simp[dB]
      rw[this];exact bA _ kc) ⟨a1+1,by omega,rfl,rfl⟩
    rw[q1]
    simp only[az,ag]
    have l4:ld1 S1 (.ptr o2 0)=some (i64 a1):=by rw[aU (F.get (bH g2) (by omega))];rfl
    refine ⟨l4,?_⟩
    rw[q2]
    exact JF _ _ h3
   ·have hp2:pT (d+1) (s.drop a)=none:=by
     rw[hp]
     cases hd:s.drop a1 with
     | nil=>rfl
     | cons c r=>
      have hx:s[a1]?=some c:=by rw[← bT,hd];rfl
      have n1:¬ c=41:=fun e=>hc2 (by rw[hx,e])
      simp only[n1,if_false]
    rw[hp2]
    simp only[hc2,decide_false,Bool.not_false,ah,l2,ab,mk2]
    obtain ⟨S1,S2,q1,q2,F,h3⟩:=hM.out (Q:=TyQ s none) (cs:=[i64 (0:Nat),.nils,.nils,.nils]) (x:=(a1:Int)) (y:=4) rfl rfl (fun S _=>ox) ⟨_,_,_,by decide,rfl⟩
    rw[q1]
    simp only[az,ag]
    have l4:ld1 S1 (.ptr o2 0)=some (i64 a1):=by rw[aU (F.get g2 (by omega))];rfl
    refine ⟨l4,?_⟩
    rw[q2]
    exact JD _ _ h3
 ·have hp2:pT (d+1) (s.drop a)=none:=by
   rw[hp]
   cases hd:s.drop (a+w.length) with
   | nil=>rfl
   | cons c r=>
    have hx:s[a+w.length]?=some c:=by rw[← bT,hd];rfl
    have n1:c≠40:=fun e=>hc (by rw[hx,e])
    simp only[sJ,n1,ne_eq,not_false_eq_true,if_true]
  rw[hp2]
  simp only[hc,decide_false,Bool.not_false,ah]
  exact h.HQ ⟨_,_,_,by decide,rfl⟩
theorem HR {st:aa} {x9:Int} {k:Nat} {w:Tx} {R:LV→aa→Prop} (hs:s.length≤4096) (ha:a≤s.length) (hw:st[2]?=some (.cells .rw (bu.map .str))) (hk:bu[k]?=some w)
  (hno:w.isPrefixOf (s.drop a)=false→∀ (y:Int) (z:LV),td (.str s) (i64 a) (i64 D) (.ptr 0 0) (.ptr 1 0) (.sl 2 0 7 (.ex 7)) (i64 y) (i64 (k+1:Nat)) z R st)
  (hyes:w.isPrefixOf (s.drop a)=true→oo (.str s) (i64 a) (i64 D) (.ptr 0 0) (.ptr 1 0) (.sl 2 0 7 (.ex 7)) (i64 x9) (i64 k) (i64 w.length) (.bool false) R st) :
  ∀ (m n:Nat),n+m=w.length→(∀ (j:Nat) (c:UInt8),j<n→w[j]?=some c→s[a+j]?=some c)→qO (.str s) (i64 a) (i64 D) (.ptr 0 0) (.ptr 1 0) (.sl 2 0 7 (.ex 7)) (i64 x9) (i64 k) (i64 n) R st
 | 0,n,hn,hm=>by
  have hk7:=(jV hk).1
  have e1:aR 1 (.sl 2 0 7 (.ex 7)) (i64 k)=some (.ptr 2 k):=by rw[jR (by omega) (by omega)];simp
  have e2:ld1 st (.ptr 2 k)=some (.str w):=by rw[aU hw];simp[hk]
  refine Dj _ _ _ _ _ _ _ _ _ ?_
  have hn:n=w.length:=by omega
  subst hn
  have c1:¬ ((w.length:Int)<(w.length:Int)):=by omega
  simp only[wL,e1,e2,ab,a7,ae,aA,c1,decide_false,af]
  refine hyes ?_
  rw[List.isPrefixOf_iff_prefix,List.prefix_iff_eq_take]
  apply List.ext_getElem?
  intro j
  rw[List.getElem?_take]
  by_cases hj:j<w.length
  ·rw[if_pos hj,List.getElem?_drop,hm j w[j] hj (List.getElem?_eq_getElem hj),List.getElem?_eq_getElem hj]
  ·rw[if_neg hj,List.getElem?_eq_none (by omega)]
 | m+1,n,hn,hm=>by
  have hk7:=(jV hk).1
  have e1:aR 1 (.sl 2 0 7 (.ex 7)) (i64 k)=some (.ptr 2 k):=by rw[jR (by omega) (by omega)];simp
  have e2:ld1 st (.ptr 2 k)=some (.str w):=by rw[aU hw];simp[hk]
  have hwl:w.length≤5:=by
   have:w ∈ bu:=List.mem_of_getElem? hk
   simp only[bu,List.mem_cons,List.not_mem_nil,or_false] at this
   rcases this with rfl|rfl|rfl|rfl|rfl|rfl|rfl<;>decide
  refine Dj _ _ _ _ _ _ _ _ _ ?_
  have c1:((n:Int)<(w.length:Int)):=by omega
  have hx:w[n]?=some (w[n]'(by omega)):=List.getElem?_eq_getElem _
  generalize w[n]'(by omega)=c at hx
  have e3:IntKind.i64.wrap ((a:Int)+(n:Int))=((a+n:Nat):Int):=by rw[wrap_i64 (by omega) (by omega)];omega
  have e4:gg IntKind.i64 (u8 c)=some (i64 ((c.toNat:Nat):Int)):=by
   have:=c.toNat_lt
   simp only[lK]
   rw[wrap_i64 (by omega) (by omega)]
  simp only[wL,e1,e2,ab,a7,ae,aA,c1,decide_true,ah,aH,e3,cM hx,e4]
  refine (fT (a+n)).call ?_
  refine ⟨e2,?_⟩
  simp only[ae,aW,iE,ab]
  by_cases hc:s[a+n]?=some c
  ·simp only[hc,decide_true]
   refine wM _ _ _ _ _ _ _ _ _ _ ?_
   simp only[qP,ah,ae,aH,aI (show n<2 ^ 40 by omega),ab]
   refine HR hs ha hw hk hno hyes m (n+1) (by omega) fun j c' hj hc'=>?_
   rcases Nat.lt_or_ge j n with h|h
   ·exact hm j c' h hc'
   ·have:j=n:=by omega
    subst this;rw[hx] at hc';cases hc';exact hc
  ·simp only[hc,decide_false]
   refine wM _ _ _ _ _ _ _ _ _ _ ?_
   simp only[qP,af,jW,ab,e1,e2,a7,ae,aA,c1,decide_true,ah,aH,aI (show k<2 ^ 40 by omega)]
   refine hno ?_ _ _
   rw[Bool.eq_false_iff]
   intro hpre
   have h1:=List.isPrefixOf_iff_prefix.1 hpre
   obtain ⟨z,hz⟩:=h1
   have:(s.drop a)[n]?=some c:=by rw[← hz,List.getElem?_append_left (by omega)];exact hx
   rw[List.getElem?_drop] at this
   exact hc this
theorem zb (ih:my d (D+1)) (hs:s.length≤4096) (hD:D<2 ^ 20) (ha:a≤s.length) (h:WIn st) (hw:st[2]?=some (.cells .rw (bu.map .str))) (h1:s[a]?≠some 91) (h2:s[a]?≠some 123) :
  ∀ (m k:Nat) (y:Int) (z:LV),k+m=7→fB (s.drop a) bu 0=fB (s.drop a) (bu.drop k) k→td (.str s) (i64 a) (i64 D) (.ptr 0 0) (.ptr 1 0) (.sl 2 0 7 (.ex 7)) (i64 y) (i64 k) z (Dp (TyQ s (pT (d+1) (s.drop a)))) st
 | 0,k,y,z,hk,hp=>by
  refine HJ _ _ _ _ _ _ _ _ _ ?_
  have c1:¬ ((k:Int)<(7:Nat)):=by omega
  have e:bu.drop k=[]:=List.drop_eq_nil_of_le (by show 7≤k;omega)
  have hn:pT (d+1) (s.drop a)=none:=by rw[wm h1 h2,hp,e];rfl
  rw[hn]
  simp only[Bv,xH,ab,ae,aA,c1,decide_false,af,JP,aH,mk2]
  exact h.HQ ⟨_,_,_,by decide,rfl⟩
 | m+1,k,y,z,hk,hp=>by
  refine HJ _ _ _ _ _ _ _ _ _ ?_
  have c1:((k:Int)<(7:Nat)):=by omega
  have hx:bu[k]?=some (bu[k]'(by show k<7;omega)):=List.getElem?_eq_getElem _
  have hd:bu.drop k=bu[k]'(by show k<7;omega)::bu.drop (k+1):=List.drop_eq_getElem_cons _
  generalize bu[k]'(by show k<7;omega)=w at hx hd
  simp only[Bv,xH,ab,ae,aA,c1,decide_true,ah]
  refine HR hs ha hw hx (fun hno y z=>zb ih hs hD ha h hw h1 h2 m (k+1) y z (by omega) ?_) (fun hyes=>?_) w.length 0 (by omega) fun j c hj=>by omega
  ·rw[hp,hd,fB,if_neg (by rw[hno];simp)]
  ·have hle:a+w.length≤s.length:=by
    have:=(List.isPrefixOf_iff_prefix.1 hyes).length_le
    rw[List.length_drop] at this;omega
   refine JQ ih hs hD h hw hx hle ?_
   rw[wm h1 h2,hp,hd,fB,if_pos hyes,List.drop_drop];rfl
theorem JR (hd:D+(d+1)=8) (ih:my d (D+1)):my (d+1) D:=by
 intro s hs i hi
 refine Pb.of (c196 _ _ _ ?_) rfl
 have c8:¬ ((D:Int)≥8):=by omega
 have hW:WIn [aq.cells .rw [i64 0,LV.nils,LV.nils,LV.nils],.cells .rw [i64 0,i64 0]]:=⟨rfl,rfl⟩
 have a1:(atB s i==91)=decide (s[i]?=some 91):=iE (c:=91)
 have a2:(atB s i==123)=decide (s[i]?=some 123):=iE (c:=123)
 -- what a list or an object answers
 have fin:∀ {v:LV} {res:Option (KT × Tx)},TyQ s res v→bd (ai v 0) fun v21=>bd (ai v 1) fun v22=>
   bd2 (lmk (stV [aq.cells .rw [i64 0,LV.nils,LV.nils,LV.nils],.cells .rw [i64 0,i64 0]] 4 (.ptr 0 0) v21)) fun _v23 st24=>
   bd2 (lmk (stV st24 2 (.ptr 1 0) v22)) fun _v25 st26=>bd (ldA st26 (.ptr 0 0) 4) fun v27=>bd (ldA st26 (.ptr 1 0) 2) fun v28=>Dp (TyQ s res) (LV.tup [v27,v28]) st26:=by
  intro v res hv
  obtain ⟨t,x,y,rfl⟩:∃ t x y,v=tE t x y:=by
   unfold TyQ at hv
   cases res with
   | none=>obtain ⟨t,x,y,_,rfl⟩:=hv;exact ⟨_,_,_,rfl⟩
   | some p=>obtain ⟨a',_,_,rfl⟩:=hv;exact ⟨_,_,_,rfl⟩
  simp only[tE,aw,List.getElem?_cons_zero,List.getElem?_cons_succ,ab]
  obtain ⟨S1,S2,e1,e2,_,h3⟩:=hW.out (Q:=TyQ s res) (cs:=rkC t) (t:=t) (x:=x) (y:=y) dL ov (fun S _=>bA _ hZ) hv
  rw[e1]
  simp only[az,ag]
  rw[e2]
  exact h3
 simp only[MH,bQ,List.nil_append,List.cons_append,List.length_nil,List.length_cons,Nat.zero_add,ae,cY,ab,c8,decide_false,af]
 refine (fT i).call ?_
 simp only[ae,aW,a1,ab]
 by_cases hc:s[i]?=some 91
 ·have hlt:=(List.getElem?_eq_some_iff.1 hc).1
  simp only[hc,decide_true,ah]
  refine (fT i).call ?_
  have a3:decide (s[i]?=some 123)=false:=by rw[hc];rfl
  simp only[ae,aW,a2,a3,ab]
  refine (uH ih hs (by omega) hlt false).call fun v hv=>?_
  have hp:pT (d+1) (s.drop i)=match nS d (s.drop (i+1)) with
    | none=>none
    | some (l,r)=>some (.mk 7 l [] [],r):=by
   rw[drop_cons hc]
   simp only[pT,nS,if_true]
   split
   ·rfl
   ·rfl
  rw[hp]
  exact fin hv
 ·simp only[hc,decide_false,af]
  refine (fT i).call ?_
  simp only[ae,aW,a2,ab]
  by_cases hc2:s[i]?=some 123
  ·have hlt:=(List.getElem?_eq_some_iff.1 hc2).1
   simp only[hc2,decide_true,ah]
   refine (fT i).call ?_
   have a3:decide (s[i]?=some 123)=true:=by rw[hc2];rfl
   simp only[ae,aW,a2,a3,ab]
   refine (uH ih hs (by omega) hlt true).call fun v hv=>?_
   have hp:pT (d+1) (s.drop i)=match nV d (s.drop (i+1)) with
     | none=>none
     | some (l,r)=>some (kO l,r):=by
    rw[drop_cons hc2]
    have n1:¬ (123:UInt8)=91:=by decide
    simp only[pT,nV,n1,if_true,if_false]
    split
    ·rfl
    ·rfl
   rw[hp]
   exact fin hv
  ·have ef:ao (fun i=>some (i*1,1)) (List.replicate 7 [LV.str []]).flatten [(0,LV.str [97,110,121]),(1,LV.str [98,111,111,108]),(2,LV.str [105,110,116]),(3,LV.str [112,111,105,110,116]),(4,LV.str [116,101,120,116]),(5,LV.str [108,105,115,116]),(6,LV.str [109,97,112])]=some (bu.map .str):=rfl
   simp only[hc2,decide_false,af,ef,bw,ag,List.length_cons,List.length_nil,List.cons_append,List.nil_append,Nat.zero_add]
   exact zb ih hs (by omega) hi ⟨rfl,rfl⟩ rfl hc hc2 7 0 0 _ rfl rfl
theorem JS (hd:D=8):my 0 D:=by
 intro s hs i hi
 refine Pb.of (c196 _ _ _ ?_) rfl
 have c8:((D:Int)≥8):=by omega
 have hW:WIn [aq.cells .rw [i64 0,LV.nils,LV.nils,LV.nils],.cells .rw [i64 0,i64 0]]:=⟨rfl,rfl⟩
 simp only[MH,bQ,List.nil_append,List.cons_append,List.length_nil,List.length_cons,Nat.zero_add,ae,cY,ab,c8,decide_true,ah,JP,mk2]
 exact hW.HQ ⟨_,_,_,by decide,rfl⟩
theorem KS:∀ (d D:Nat),D+d=8→my d D
 | 0,D,h=>JS (by omega)
 | d+1,D,h=>JR h (KS d (D+1) (by omega))
def gG (s:Tx) (v:LV):Prop:=match dI s with
 | some t=>∃ a:Int,v=tE t a 0
 | none=>∃ (t:KT) (a e:Int),e≠0∧v=tE t a e
theorem EF (s:Tx):Pb Tryz.prog 161 [.str s] (gG s):=by
 refine Pb.of (Pn _ ?_) rfl
 have hW:WIn [aq.cells .rw [i64 0,LV.nils,LV.nils,LV.nils],.cells .rw [i64 0,i64 0]]:=⟨rfl,rfl⟩
 simp only[Oi,bQ,List.nil_append,List.cons_append,List.length_nil,List.length_cons,Nat.zero_add,a7,ab,ae,cx,JP,mk2]
 rw[aM]
 refine ⟨fun hl=>hW.HQ ?_,fun hl=>?_⟩
 ·unfold gG dI
  rw[if_pos (by omega)]
  exact ⟨_,_,_,by decide,rfl⟩
 have hs:s.length≤4096:=by omega
 have hpt:dI s=match pT 8 s with
   | some (t,[])=>some t
   | _=>none:=by unfold dI;rw[if_neg (by omega)];rfl
 refine (KS 8 0 rfl hs 0 (by omega)).call fun v hv=>?_
 rw[List.drop_zero] at hv
 obtain ⟨t,x,y,rfl⟩:∃ t x y,v=tE t x y:=by
  unfold TyQ at hv
  cases hr:pT 8 s with
  | none=>rw[hr] at hv;obtain ⟨t,x,y,_,rfl⟩:=hv;exact ⟨_,_,_,rfl⟩
  | some p=>rw[hr] at hv;obtain ⟨a',_,_,rfl⟩:=hv;exact ⟨_,_,_,rfl⟩
 have p4:stV [aq.cells .rw [i64 0,LV.nils,LV.nils,LV.nils],.cells .rw [i64 0,i64 0],.cells .rw [i64 0,LV.nils,LV.nils,LV.nils],.cells .rw [i64 0,i64 0]] 4 (.ptr 2 0) (.agg (rkC t)) =
   some [aq.cells .rw [i64 0,LV.nils,LV.nils,LV.nils],.cells .rw [i64 0,i64 0],.cells .rw (rkC t),.cells .rw [i64 0,i64 0]]:=by cases t;rfl
 have p2:stV [aq.cells .rw [i64 0,LV.nils,LV.nils,LV.nils],.cells .rw [i64 0,i64 0],.cells .rw (rkC t),.cells .rw [i64 0,i64 0]] 2 (.ptr 3 0) (.agg [i64 x,i64 y]) =
   some [aq.cells .rw [i64 0,LV.nils,LV.nils,LV.nils],.cells .rw [i64 0,i64 0],.cells .rw (rkC t),.cells .rw [i64 x,i64 y]]:=rfl
 simp only[tE,aw,List.getElem?_cons_zero,List.getElem?_cons_succ,ab,List.nil_append,List.cons_append,List.length_nil,List.length_cons,Nat.zero_add,p4,p2,az,ag,av]
 have g2:([aq.cells .rw [i64 0,LV.nils,LV.nils,LV.nils],.cells .rw [i64 0,i64 0],.cells .rw (rkC t),.cells .rw [i64 x,i64 y]]:aa)[2]?=some (.cells .rw (rkC t)):=rfl
 have g3:([aq.cells .rw [i64 0,LV.nils,LV.nils,LV.nils],.cells .rw [i64 0,i64 0],.cells .rw (rkC t),.cells .rw [i64 x,i64 y]]:aa)[3]?=some (.cells .rw [i64 x,i64 y]):=rfl
 have hM:WIn [aq.cells .rw [i64 0,LV.nils,LV.nils,LV.nils],.cells .rw [i64 0,i64 0],.cells .rw (rkC t),.cells .rw [i64 x,i64 y]]:=⟨rfl,rfl⟩
 generalize [aq.cells .rw [i64 0,LV.nils,LV.nils,LV.nils],.cells .rw [i64 0,i64 0],.cells .rw (rkC t),.cells .rw [i64 x,i64 y]]=S at g2 g3 hM
 have l1:ld1 S (.ptr 3 1)=some (i64 y):=by rw[aU g3];rfl
 have l0:ld1 S (.ptr 3 0)=some (i64 x):=by rw[aU g3];rfl
 simp only[l1,l0,ab,ae,aW,aA,Bx g2 dL,th g3 rfl,mk2]
 -- what was read,as it is
 have asis:gG s (tE t x y)→bd2 (lmk (stV S 4 (.ptr 0 0) (.agg (rkC t)))) fun _v43 st44=>ldA st44 (.ptr 3 0) 2=some (.agg [i64 x,i64 y])∧bd2 (lmk (stV st44 2 (.ptr 1 0) (.agg [i64 x,i64 y]))) fun _v45 st46=>wK (.ptr 0 0) (.ptr 1 0) (Dp (gG s)) st46:=by
  intro hq
  obtain ⟨S1,S2,q1,q2,F,h3⟩:=hM.out (Q:=gG s) (cs:=rkC t) (t:=t) (x:=x) (y:=y) dL ov (fun S _=>bA _ hZ) hq
  rw[q1]
  simp only[az,ag]
  refine ⟨th (F.get g3 (by omega)) rfl,?_⟩
  rw[q2]
  exact MG _ _ h3
 unfold TyQ at hv
 cases hr:pT 8 s with
 | none=>
  rw[hr] at hv hpt
  obtain ⟨t',x',y',hy,he⟩:=hv
  simp only[tE,LV.tup.injEq,List.cons.injEq,LV.agg.injEq,LV.int.injEq,true_and,and_true] at he
  have hy:y≠0:=by rw[he.2.2];exact hy
  have e4:(y==0)=false:=by simpa using hy
  simp only[e4,af]
  refine asis ?_
  unfold gG
  rw[hpt];exact ⟨_,_,_,hy,rfl⟩
 | some p=>
  rw[hr] at hv hpt
  obtain ⟨a',ha',hp2,he⟩:=hv
  obtain ⟨t',r⟩:=p
  simp only at hp2
  subst hp2
  have hq:gG s (tE t' a' 0)→gG s (tE t x y):=fun h=>by rw[he];exact h
  have hxy:x=a'∧y=0:=by
   simp only[tE,LV.tup.injEq,List.cons.injEq,LV.agg.injEq,LV.int.injEq,true_and,and_true] at he
   exact he.2
  obtain ⟨rfl,rfl⟩:=hxy
  simp only[beq_self_eq_true,ah]
  rw[aM]
  refine ⟨fun hlt=>?_,fun hlt=>asis (hq ?_)⟩
  ·have hn:dI s=none:=by
    rw[hpt]
    have hx:s[a']?=some (s[a']'(by omega)):=List.getElem?_eq_getElem (by omega)
    rw[drop_cons hx]
   obtain ⟨S1,S2,q1,q2,F,h3⟩:=hM.out (Q:=gG s) (cs:=[i64 (0:Nat),.nils,.nils,.nils]) (x:=(a':Int)) (y:=4) rfl rfl (fun S _=>ox) (by unfold gG;rw[hn];exact ⟨_,_,_,by decide,rfl⟩)
   rw[q1]
   simp only[az,ag]
   have l4:ld1 S1 (.ptr 3 0)=some (i64 a'):=by rw[aU (F.get g3 (by omega))];rfl
   refine ⟨l4,?_⟩
   rw[q2]
   exact ME _ _ h3
  ·unfold gG
   rw[hpt,List.drop_eq_nil_of_le (by omega)]
   exact ⟨_,rfl⟩
end
def glue (w:Tx):List Tx→List Tx
 | []=>[w]
 | p::ps=>(w++p)::ps
theorem lA {l:List Tx} (h:l≠[]):glue [] l=l:=by cases l with
 | nil=>exact absurd rfl h
 | cons p ps=>rfl
theorem pH {c b:UInt8} {w:Tx} {l:Tx} (h:b≠c):glue w (splitB c (b::l))=glue (w++[b]) (splitB c l):=by
 rw[cR,if_neg h]
 cases hs:splitB c l with
 | nil=>exact absurd hs cA
 | cons p ps=>simp[glue]
section
variable {st st':aa} {R:LV→aa→Prop}
theorem BB {s:Tx} (hs:s.length≤2 ^ 29):∀ (d i a:Nat) (f:Option Nat) (acc:List Tx) (st:aa),i+d=s.length→a≤i→acc.length≤i→bD .rw st f 1 acc.length (acc.map .str)→splitB 32 s=acc++glue ((s.drop a).take (i-a)) (splitB 32 (s.drop i))→
  mU (.str s) (osl f 1 acc.length) (i64 a) (i64 i) (fun r s'=>dp s' (sL (splitB 32 s)) r) st:=by
 intro d
 induction d with
 | zero=>
  intro i a f acc st hi ha hacc ho hsp
  refine AB _ _ _ _ ?_
  have c1:((i:Int)≤s.length):=by omega
  have c2:((i:Int)==(s.length:Int))=true:=by rw[beq_iff_eq];omega
  have hw1:=aI (show i<2 ^ 40 by omega)
  have ef:∀ w:Tx,ao (fun i=>some (i*1,1)) (List.replicate 1 [LV.str []]).flatten [(0,.str w)]=some [.str w]:=fun _=>rfl
  simp only[vQ,a7,ae,dF,aW,ab,c1,decide_true,c2,ah,ej ha (show i≤s.length by omega),ef,bw,ag]
  obtain ⟨st2,f2,q1,q2,-,-⟩:=lW ho (new:=[.str ((s.drop a).take (i-a))]) rfl rfl (by omega) (b:=16)
  rw[q1]
  simp only[ag,aH,ab,hw1]
  refine AB _ _ _ _ ?_
  have c3:¬ (((i+1:Nat):Int)≤s.length):=by omega
  simp only[vQ,a7,ae,dF,ab,c3,decide_false,af]
  have e:splitB 32 s=acc++[(s.drop a).take (i-a)]:=by
   rw[hsp,List.drop_eq_nil_of_le (by omega:s.length≤i)]
   simp[splitB,glue]
  rw[e]
  have k:bD .rw st2 f2 1 (acc++[(s.drop a).take (i-a)]).length ((acc++[(s.drop a).take (i-a)]).map .str):=by simpa using q2
  have hl:acc.length+1=(acc++[(s.drop a).take (i-a)]).length:=by simp
  rw[hl]
  exact dZ k rfl (bA _ (bB (f:=LV.str) fun _ _=>rfl))
 | succ d ih=>
  intro i a f acc st hi ha hacc ho hsp
  refine AB _ _ _ _ ?_
  have hlt:i<s.length:=by omega
  have c1:((i:Int)≤s.length):=by omega
  have c2:((i:Int)==(s.length:Int))=false:=by
   rw[Bool.eq_false_iff];intro h;rw[beq_iff_eq] at h;omega
  have hw1:=aI (show i<2 ^ 40 by omega)
  have ef:∀ w:Tx,ao (fun i=>some (i*1,1)) (List.replicate 1 [LV.str []]).flatten [(0,.str w)]=some [.str w]:=fun _=>rfl
  have hx:s[i]?=some s[i]:=List.getElem?_eq_getElem hlt
  have hdr:s.drop i=s[i]::s.drop (i+1):=List.drop_eq_getElem_cons hlt
  have htk:(s.drop a).take (i+1-a)=(s.drop a).take (i-a)++[s[i]]:=by
   rw[show i+1-a=(i-a)+1 by omega,List.take_add_one,List.getElem?_drop,show a+(i-a)=i by omega,hx];rfl
  generalize s[i]=c at hx hdr htk
  have ei:cv (.str s) (i64 i)=some (.int .u8 c.toNat):=cM hx
  rw[hdr] at hsp
  simp only[vQ,a7,ae,dF,aW,ab,c1,decide_true,c2,ah,af,ei]
  have e32:((c.toNat:Int)==32)=decide (c=32):=by
   by_cases h:c=32
   ·subst h;rfl
   ·have:¬ c.toNat=32:=fun e=>h (UInt8.toNat_inj.1 e)
    simp only[h,decide_false,beq_eq_false_iff_ne,ne_eq];omega
  rw[e32,aM]
  refine ⟨fun h=>?_,fun h=>?_⟩
  ·subst h
   rw[ej ha (show i≤s.length by omega)]
   simp only[ab,ef,bw,ag]
   obtain ⟨st2,f2,q1,q2,-,-⟩:=lW ho (new:=[.str ((s.drop a).take (i-a))]) rfl rfl (by omega) (b:=16)
   rw[q1]
   simp only[ag,aH,ab,hw1]
   have hl:acc.length+1=(acc++[(s.drop a).take (i-a)]).length:=by simp
   rw[hl]
   refine ih (i+1) (i+1) f2 (acc++[(s.drop a).take (i-a)]) st2 (by omega) (Nat.le_refl _) (by simp;omega) (by simpa using q2) ?_
   rw[hsp,cR,if_pos rfl]
   simp only[Nat.sub_self,List.take_zero]
   rw[lA cA]
   simp[glue]
  ·simp only[aH,ab,hw1]
   refine ih (i+1) a f acc st (by omega) (by omega) (by omega) ho ?_
   rw[hsp,pH h,htk]
theorem HS {s:Tx} (hs:s.length≤2 ^ 29):Pu Tryz.prog 160 [.str s] (sL (splitB 32 s)):=by
 refine Pu.of (c160 _ ?_) rfl (by simp only[LV.plain];exact bB (f:=LV.str) fun _ _=>rfl)
 show mU (.str s) (osl none 1 ([]:List Tx).length) (i64 (0:Nat)) (i64 (0:Nat)) _ _
 refine BB hs s.length 0 0 none [] _ (by omega) (Nat.le_refl _) (by simp) bD.nil ?_
 simp only[Nat.sub_self,List.take_zero,List.drop_zero,List.nil_append]
 rw[lA cA]
end
abbrev bX (nm tx:Tx) (t0 t1 t2 t3:LV) (m o h n:Bool):List LV:=[.str nm,.str tx,t0,t1,t2,t3,.bool m,.bool o,.bool h,.bool n]
def mk4 (m o h n:Bool):Tx:=(if m then 32::cB else [])++((if o then 32::dU else [])++((if h then 32::cC else [])++(if n then 32::dV else [])))
def oy (nm tx:Tx) (m o h n:Bool):Tx:=iV++32::(nm++32::(tx++mk4 m o h n))
theorem HT {a:AT}:oy a.nm (kpr a.ty) a.must a.own a.hide a.new=mw a:=rfl
section
variable {st st':aa} {R:LV→aa→Prop}
theorem JT {nm tx:Tx} {t0 t1 t2 t3:LV} {m o h n:Bool} (hp:LV.aB [t0,t1,t2,t3]=true) (hn:nm.length≤2 ^ 32) (ht:tx.length≤2 ^ 32) :
  Pu Tryz.prog 162 [.agg (bX nm tx t0 t1 t2 t3 m o h n)] (.str (oy nm tx m o h n)):=by
 refine Pu.of (c162 _ ?_) (by simp only[LV.aB,LV.plain,Bool.and_eq_true] at hp ⊢;simp[hp]) rfl
 have g:∀ k:Nat,ld1 ([]++[aq.cells .rw (bX nm tx t0 t1 t2 t3 m o h n)]) (.ptr 0 k)=(bX nm tx t0 t1 t2 t3 m o h n)[k]?:=fun k=>aU rfl
 simp only[NS,jE,ag,List.length_nil,av,Nat.zero_add,ab,g,List.getElem?_cons_zero,List.getElem?_cons_succ]
 rw[jC (by simp only[List.length_cons,List.length_nil];omega),ab,jC (by simp only[List.length_append,List.length_cons,List.length_nil];omega),ab,jC (by simp only[List.length_append,List.length_cons,List.length_nil];omega),ab]
 have fin:∀ {x y:Tx},x=y→dp ([]++[aq.cells .rw (bX nm tx t0 t1 t2 t3 m o h n)]) (.str y) (.str x):=fun e=>by subst e;exact rfl
 cases m<;>cases o<;>cases h<;>cases n<;>simp only[ah,af]<;>(repeat rw[jC (by simp only[List.length_append,List.length_cons,List.length_nil];omega),ab,])<;>(refine fin ?_)<;>simp[oy,mk4,iV,cB,dU,cC,dV]
theorem JU {s:Tx} (hs:s.length<2 ^ 40):Pu Tryz.prog 19 [.str s] (.bool (named s)):=by
 refine Pu.of (c19 _ ?_) rfl rfl
 refine (On hs (i:=0) (by omega)).call fun v hv=>?_
 have parts:∃ a e:Int,v=.agg [i64 a,i64 e]∧((e==0)&&(a==(s.length:Int)))=named s:=by
  unfold NmQ at hv
  rw[List.drop_zero] at hv
  have hpre:=iR s
  have heq:da s=s↔(da s).length=s.length:=by
   constructor
   ·intro h;rw[h]
   ·intro h
    rw[h,List.drop_length,List.append_nil] at hpre
    exact hpre.symm
  unfold gJ at hv
  split at hv
  ·rename_i p e
   split at e
   ·cases e
   ·rename_i hc
    cases e
    refine ⟨_,_,hv,?_⟩
    unfold named
    simp only[Nat.zero_add,beq_self_eq_true,Bool.true_and]
    by_cases h:da s=s
    ·have h1:s≠[]:=fun e=>hc (.inl (by rw[h];exact e))
     have h2:s.length≤20:=by
      refine Nat.le_of_not_lt fun e=>hc (.inr (by rw[h];exact e))
     simp[h,h1,h2]
    ·have:¬ ((da s).length:Int)=s.length:=fun e=>h (heq.2 (by omega))
     simp[h,this]
  ·rename_i e
   split at e
   ·rename_i hc
    obtain ⟨a,e',he,rfl⟩:=hv
    refine ⟨a,e',rfl,?_⟩
    have:(e' == 0)=false:=by simpa using he
    rw[this,Bool.false_and]
    symm
    unfold named
    rcases hc with hc|hc
    ·by_cases h:da s=s
     ·rw[h] at hc;simp[hc]
     ·simp[h]
    ·have:¬ s.length≤20:=by
      have h1:=congrArg List.length hpre
      rw[List.length_append] at h1
      omega
     simp[this]
   ·cases e
 obtain ⟨a,e,rfl,he⟩:=parts
 have hp:stV [aq.cells .rw [i64 0,i64 0]] 2 (.ptr 0 0) (.agg [i64 a,i64 e])=some [aq.cells .rw [i64 a,i64 e]]:=rfl
 have g0:ld1 [aq.cells .rw [i64 a,i64 e]] (.ptr 0 0)=some (i64 a):=rfl
 have g1:ld1 [aq.cells .rw [i64 a,i64 e]] (.ptr 0 1)=some (i64 e):=rfl
 simp only[bQ,List.nil_append,List.length_nil,hp,az,ag,av,Nat.zero_add,ab,g1,ae,aW]
 rw[← he]
 cases e==0 with
 | false=>exact rfl
 | true=>
  simp only[ah,g0,ab,a7,ae,aW]
  exact rfl
end
end Go.Proofs.YtknegckgmklnhaaGreatDoor
