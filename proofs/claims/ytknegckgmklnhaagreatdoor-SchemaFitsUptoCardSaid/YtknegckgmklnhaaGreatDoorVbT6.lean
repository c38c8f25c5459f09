/- Parts of the proof. -/
import Derived.Test.YtknegckgmklnhaaGreatDoorVbT4
import Derived.Test.YtknegckgmklnhaaGreatDoorVbN11
namespace Go.Proofs.YtknegckgmklnhaaGreatDoor
open Go Go.CP
set_option maxRecDepth 100000
section
variable {st st' st0:aa} {s:Tx} {a d D n:Nat} {Q:LV→Prop}
structure WIn (st:aa):Prop where
 h0:st[0]?=some (.cells .rw [i64 0,.nils,.nils,.nils])
 h1:st[1]?=some (.cells .rw [i64 0,i64 0])
theorem WIn.fr (h:WIn st) (F:Fr st st' (fun j=>2≤j)):WIn st':=⟨F.get h.h0 (by omega),F.get h.h1 (by omega)⟩
theorem WIn.out (h:WIn st) {cs:List LV} (hl:cs.length=4) (h1:cs.all LV.one=true) {t:KT} {x y:Int} (hd:∀ S,Fr st S (fun j=>j<2)→dps S (rkC t) cs) (hQ:Q (tE t x y)) :
  ∃ S1 S2,stV st 4 (.ptr 0 0) (.agg cs)=some S1∧stV S1 2 (.ptr 1 0) (.agg [i64 x,i64 y])=some S2∧Fr st S1 (fun j=>j<2)∧(bd (ldA S2 (.ptr 0 0) 4) fun v10=>bd (ldA S2 (.ptr 1 0) 2) fun v11=>Dp Q (LV.tup [v10,v11]) S2):=by
 have k1:(st.set 0 (.cells .rw cs))[1]?=some (.cells .rw [i64 0,i64 0]):=(br (by decide)).trans h.h1
 refine ⟨_,_,Bb h.h0 rfl hl h1,s9 k1 rfl,Fr.set (by omega),?_⟩
 have k0:((st.set 0 (.cells .rw cs)).set 1 (.cells .rw [i64 x,i64 y]))[0]?=some (.cells .rw cs):=(br (by decide)).trans (bq h.h0)
 rw[Ba k0 hl]
 simp only[ab]
 rw[sG (bq k1) rfl]
 have F:Fr st ((st.set 0 (.cells .rw cs)).set 1 (.cells .rw [i64 x,i64 y])) (fun j=>j<2):=(Fr.set (S:=fun j=>j<2) (by omega)).trans (Fr.set (S:=fun j=>j<2) (by omega)) fun _ _ h=>h
 refine ⟨tE t x y,?_,yJ,hQ⟩
 exact ⟨_,rfl,_,_,rfl,⟨_,rfl,hd _ F⟩,_,_,rfl,bn (v:=.agg [i64 x,i64 y]) _ rfl,rfl⟩
theorem ou {S:aa} {f:Nat}:dps S (rkC (.mk f [] [] [])) [i64 f,.nils,.nils,.nils]:=by
 simp only[rkC,cH,List.map_nil,List.length_nil]
 exact ⟨_,_,rfl,rfl,_,_,rfl,.inr (.inr ⟨.inr rfl,rfl,rfl⟩),_,_,rfl,.inr (.inr ⟨.inr rfl,rfl,rfl⟩),_,_,rfl,.inr (.inr ⟨.inr rfl,rfl,rfl⟩),rfl⟩
theorem WIn.Hz (h:WIn st) {f:Nat} {x y:Int} (hQ:Q (tE (.mk f [] [] []) x y)) :
  bd2 (lmk (stV st 4 (.ptr 0 0) (.agg [i64 f,.nils,.nils,.nils]))) fun _v6 st7=>bd2 (lmk (stV st7 2 (.ptr 1 0) (.agg [i64 x,i64 y]))) fun _v8 st9=>bd (ldA st9 (.ptr 0 0) 4) fun v10=>bd (ldA st9 (.ptr 1 0) 2) fun v11=>Dp Q (LV.tup [v10,v11]) st9:=by
 obtain ⟨S1,S2,e1,e2,_,h3⟩:=h.out (cs:=[i64 f,.nils,.nils,.nils]) rfl rfl (fun S _=>ou) hQ
 rw[e1]
 simp only[ay,ag]
 rw[e2]
 exact h3
theorem Jk:aP (ao (aA [(0,1),(1,1),(2,1),(3,1)]) [i64 0,LV.nils,LV.nils,LV.nils] [])=some (.agg [i64 (0:Nat),.nils,.nils,.nils]):=rfl
theorem OQ {k:Nat}:aP (ao (aA [(0,1),(1,1),(2,1),(3,1)]) [i64 0,LV.nils,LV.nils,LV.nils] [(0,i64 k)])=some (.agg [i64 k,.nils,.nils,.nils]):=rfl
theorem Jl (ih:mj d (D+1)) (hs:s.length≤4096) (hD:D<2 ^ 20) (h:WIn st) (hw:st[2]?=some (.cells .rw (bw.map .str))) {k:Nat} {w:Tx} (hk:bw[k]?=some w) (hle:a+w.length≤s.length)
  (hp:pT (d+1) (s.drop a)=if k<5 then some (.mk k [] [] [],s.drop (a+w.length)) else match sj d (s.drop (a+w.length)) with
   | none=>none
   | some (x,r)=>some (.mk k [x] [] [],r)) {x9:Int} :
  oe (.str s) (i64 a) (i64 D) (.ptr 0 0) (.ptr 1 0) (.sl 2 0 7 (.ex 7)) (i64 x9) (i64 k) (i64 w.length) (.bool false) (Dp (TyQ s (pT (d+1) (s.drop a)))) st:=by
 refine wb _ _ _ _ _ _ _ _ _ _ ?_
 have hk7:=(jO hk).1
 have e1:aK 1 (.sl 2 0 7 (.ex 7)) (i64 k)=some (.ptr 2 k):=by rw[jK (by omega) (by omega)];simp
 have e2:ld1 st (.ptr 2 k)=some (.str w):=by rw[a7 hw];simp[hk]
 have e3:IntKind.i64.wrap ((a:Int)+(w.length:Int))=((a+w.length:Nat):Int):=by rw[wrap_i64 (by omega) (by omega)];omega
 have c1:¬ ((w.length:Int)<(w.length:Int)):=by omega
 simp only[qL,af,jQ,ab,e1,e2,bh,ae,ax,c1,decide_false,OQ,Jk,aG,e3,mk2]
 rw[aI]
 refine ⟨fun h5=>?_,fun h5=>?_⟩
 ·rw[if_pos (by omega)] at hp
  rw[hp]
  exact h.Hz ⟨a+w.length,hle,rfl,rfl⟩
 rw[if_neg (by omega)] at hp
 refine (fO (a+w.length)).call ?_
 have e5:(atB s (a+w.length) != 40) = !(decide (s[a+w.length]?=some 40)):=by rw[← iz];rfl
 have e6:IntKind.i64.wrap (((a+w.length:Nat):Int)+1)=((a+w.length+1:Nat):Int):=aH (by omega)
 have e7:IntKind.i64.wrap ((D:Int)+1)=((D+1:Nat):Int):=aH (by omega)
 simp only[ae,bx,e5,ab]
 by_cases hc:s[a+w.length]?=some 40
 ·have hlt:=(List.getElem?_eq_some_iff.1 hc).1
  simp only[hc,decide_true,Bool.not_true,af,e6,e7]
  have hone:sj d (s.drop (a+w.length))=match pT d (s.drop (a+w.length+1)) with
    | none=>none
    | some (x,r)=>match r with
     | []=>none
     | c::r=>if c=41 then some (x,r) else none:=by
   rw[drop_cons hc,sj];simp only[ne_eq,not_true,if_false];rfl
  rw[hone] at hp
  refine (ih hs (a+w.length+1) (by omega)).call fun v hv=>?_
  unfold TyQ at hv
  have go:∀ {t:KT} {x y:Int} {K:LV→LV→aa→Prop},(∀ o1 o2 s2,WIn s2→2<o1→2<o2→o2<s2.length→s2[o1]?=some (.cells .rw (rkC t))→s2[o2]?=some (.cells .rw [i64 x,i64 y])→K (.ptr o1 0) (.ptr o2 0) s2)→
    nw st [i64 0,LV.nils,LV.nils,LV.nils] fun v89 st90=>nw st90 [i64 0,i64 0] fun v91 st92=>bd2 (lmk (stV st92 4 v89 (.agg (rkC t)))) fun _v93 st94=>bd2 (lmk (stV st94 2 v91 (.agg [i64 x,i64 y]))) fun _v95 st96=>K v89 v91 st96:=by
   intro t x y K hK
   simp only[b6]
   have l0:=bL hw
   have g1:(st++[av.cells .rw [i64 0,LV.nils,LV.nils,LV.nils]]++[av.cells .rw [i64 0,i64 0]])[st.length]?=some (.cells .rw [i64 0,.nils,.nils,.nils]):=bT aw
   have g2:(st++[av.cells .rw [i64 0,LV.nils,LV.nils,LV.nils]]++[av.cells .rw [i64 0,i64 0]])[(st++[av.cells .rw [i64 0,LV.nils,LV.nils,LV.nils]]).length]?=some (.cells .rw [i64 0,i64 0]):=aw
   rw[Bb g1 rfl dd oq]
   simp only[ay,ag]
   have hne:(st++[av.cells .rw [i64 0,LV.nils,LV.nils,LV.nils]]).length≠st.length:=by simp
   have g3:=(br (y:=av.cells .rw (rkC t)) (Ne.symm hne)).trans g2
   rw[s9 g3 rfl]
   simp only[ay,ag]
   have F:Fr st (((st++[av.cells .rw [i64 0,LV.nils,LV.nils,LV.nils]]++[av.cells .rw [i64 0,i64 0]]).set st.length (.cells .rw (rkC t))).set (st++[av.cells .rw [i64 0,LV.nils,LV.nils,LV.nils]]).length (.cells .rw [i64 x,i64 y])) (fun j=>2≤j):=by
    refine ⟨by simp,fun j hj _=>?_⟩
    rw[br (by simp;omega),br (by omega),List.getElem?_append_left (by simp;omega),List.getElem?_append_left hj]
   refine hK _ _ _ (h.fr F) (by omega) (by simp;omega) (by simp) ?_ (bq g3)
   rw[br hne];exact bq g1
  cases hpt:pT d (s.drop (a+w.length+1)) with
  | none=>
   rw[hpt] at hv hp
   obtain ⟨t,x,y,hy,rfl⟩:=hv
   simp only at hp
   rw[hp]
   simp only[tE,au,List.getElem?_cons_zero,List.getElem?_cons_succ,ab]
   refine go fun o1 o2 s2 hM ho1 ho2 hl2 g1 g2=>?_
   have l1:ld1 s2 (.ptr o2 1)=some (i64 y):=by rw[a7 g2];rfl
   have e4:(y != 0)=true:=by simpa using hy
   simp only[aq,Nat.zero_add,ab,l1,ae,bx,e4,ai,sG g2 rfl]
   obtain ⟨S1,S2,q1,q2,F,h3⟩:=hM.out (Q:=TyQ s none) (cs:=[i64 (0:Nat),.nils,.nils,.nils]) (x:=x) (y:=y) rfl rfl (fun S _=>ou) ⟨_,_,_,hy,rfl⟩
   rw[q1]
   simp only[ay,ag]
   refine ⟨sG (F.get g2 (by omega)) rfl,?_⟩
   rw[q2]
   exact I6 _ _ h3
  | some p=>
   obtain ⟨t,r⟩:=p
   rw[hpt] at hv hp
   obtain ⟨a1,ha1,hr1,rfl⟩:=hv
   simp only at hr1 hp
   subst hr1
   simp only[tE,au,List.getElem?_cons_zero,List.getElem?_cons_succ,ab]
   refine go fun o1 o2 s2 hM ho1 ho2 hl2 g1 g2=>?_
   have l1:ld1 s2 (.ptr o2 1)=some (i64 0):=by rw[a7 g2];rfl
   have l2:ld1 s2 (.ptr o2 0)=some (i64 a1):=by rw[a7 g2];rfl
   simp only[aq,Nat.zero_add,ab,l1,l2,ae,bx,bne_self_eq_false,af]
   refine (fO a1).call ?_
   have e8:(atB s a1 != 41) = !(decide (s[a1]?=some 41)):=by rw[← iz];rfl
   simp only[ae,bx,e8,ab]
   by_cases hc2:s[a1]?=some 41
   ·have hlt2:=(List.getElem?_eq_some_iff.1 hc2).1
    have e9:IntKind.i64.wrap ((a1:Int)+1)=((a1+1:Nat):Int):=aH (by omega)
    have hp2:pT (d+1) (s.drop a)=some (.mk k [t] [] [],s.drop (a1+1)):=by rw[hp,drop_cons hc2];simp
    rw[hp2]
    have ef:ao (fun i=>some (i*4,4)) (List.replicate 1 [i64 0,LV.nils,LV.nils,LV.nils]).flatten [(0,.agg (rkC t))]=some (rkC t):=by cases t;rfl
    simp only[hc2,decide_true,Bool.not_true,af,Ba g1 dd,ab,l2,ae,aG,e9,mk2,ef,aY,ag]
    have l3:ld1 (s2++[av.cells .rw (rkC t)]) (.ptr o2 0)=some (i64 a1):=by rw[a7 (bT g2)];rfl
    have eg:aP (ao (aA [(0,1),(1,1),(2,1),(3,1)]) [i64 0,LV.nils,LV.nils,LV.nils] [(0,i64 k),(1,.sl s2.length 0 1 (.ex 1))])=some (.agg [i64 k,.sl s2.length 0 1 (.ex 1),.nils,.nils]):=rfl
    refine ⟨l3,?_⟩
    rw[eg]
    simp only[ab]
    obtain ⟨S1,S2,q1,q2,F,h3⟩:=(hM.fr (Fr.app (S:=fun j=>2≤j))).out (Q:=TyQ s (some (.mk k [t] [] [],s.drop (a1+1)))) (st:=s2++[av.cells .rw (rkC t)]) (cs:=[i64 k,.sl s2.length 0 1 (.ex 1),.nils,.nils]) (t:=.mk k [t] [] []) (x:=((a1+1:Nat):Int)) (y:=0) rfl rfl
     (fun S hF=>by
      have gS:=hF.get (o:=s2.length) aw (by omega)
      simp only[rkC,List.map_nil,List.length_nil]
      refine ⟨_,_,rfl,rfl,_,_,rfl,.inl ⟨s2.length,0,.ex 1,.rw,rkC t,rfl,gS,rfl,by simp[cH,dd],?_⟩,_,_,rfl,.inr (.inr ⟨.inr rfl,rfl,rfl⟩),_,_,rfl,.inr (.inr ⟨.inr rfl,rfl,rfl⟩),rfl⟩
      have:((rkC t).drop 0).take (cH [t]).length=cH [t]:=by simp[cH]
      rw[this];exact bA _ jY) ⟨a1+1,by omega,rfl,rfl⟩
    rw[q1]
    simp only[ay,ag]
    have l4:ld1 S1 (.ptr o2 0)=some (i64 a1):=by rw[a7 (F.get (bT g2) (by omega))];rfl
    refine ⟨l4,?_⟩
    rw[q2]
    exact Ja _ _ h3
   ·have hp2:pT (d+1) (s.drop a)=none:=by
     rw[hp]
     cases hd:s.drop a1 with
     | nil=>rfl
     | cons c r=>
      have hx:s[a1]?=some c:=by rw[← bQ,hd];rfl
      have n1:¬ c=41:=fun e=>hc2 (by rw[hx,e])
      simp only[n1,if_false]
    rw[hp2]
    simp only[hc2,decide_false,Bool.not_false,ai,l2,ab,mk2]
    obtain ⟨S1,S2,q1,q2,F,h3⟩:=hM.out (Q:=TyQ s none) (cs:=[i64 (0:Nat),.nils,.nils,.nils]) (x:=(a1:Int)) (y:=4) rfl rfl (fun S _=>ou) ⟨_,_,_,by decide,rfl⟩
    rw[q1]
    simp only[ay,ag]
    have l4:ld1 S1 (.ptr o2 0)=some (i64 a1):=by rw[a7 (F.get g2 (by omega))];rfl
    refine ⟨l4,?_⟩
    rw[q2]
    exact I8 _ _ h3
 ·have hp2:pT (d+1) (s.drop a)=none:=by
   rw[hp]
   cases hd:s.drop (a+w.length) with
   | nil=>rfl
   | cons c r=>
    have hx:s[a+w.length]?=some c:=by rw[← bQ,hd];rfl
    have n1:c≠40:=fun e=>hc (by rw[hx,e])
    simp only[sj,n1,ne_eq,not_false_eq_true,if_true]
  rw[hp2]
  simp only[hc,decide_false,Bool.not_false,ai]
  exact h.Hz ⟨_,_,_,by decide,rfl⟩
theorem HA {st:aa} {x9:Int} {k:Nat} {w:Tx} {R:LV→aa→Prop} (hs:s.length≤4096) (ha:a≤s.length) (hw:st[2]?=some (.cells .rw (bw.map .str))) (hk:bw[k]?=some w)
  (hno:w.isPrefixOf (s.drop a)=false→∀ (y:Int) (z:LV),sD (.str s) (i64 a) (i64 D) (.ptr 0 0) (.ptr 1 0) (.sl 2 0 7 (.ex 7)) (i64 y) (i64 (k+1:Nat)) z R st)
  (hyes:w.isPrefixOf (s.drop a)=true→oe (.str s) (i64 a) (i64 D) (.ptr 0 0) (.ptr 1 0) (.sl 2 0 7 (.ex 7)) (i64 x9) (i64 k) (i64 w.length) (.bool false) R st) :
  ∀ (m n:Nat),n+m=w.length→(∀ (j:Nat) (c:UInt8),j<n→w[j]?=some c→s[a+j]?=some c)→qK (.str s) (i64 a) (i64 D) (.ptr 0 0) (.ptr 1 0) (.sl 2 0 7 (.ex 7)) (i64 x9) (i64 k) (i64 n) R st
 | 0,n,hn,hm=>by
  have hk7:=(jO hk).1
  have e1:aK 1 (.sl 2 0 7 (.ex 7)) (i64 k)=some (.ptr 2 k):=by rw[jK (by omega) (by omega)];simp
  have e2:ld1 st (.ptr 2 k)=some (.str w):=by rw[a7 hw];simp[hk]
  refine CY _ _ _ _ _ _ _ _ _ ?_
  have hn:n=w.length:=by omega
  subst hn
  have c1:¬ ((w.length:Int)<(w.length:Int)):=by omega
  simp only[wa,e1,e2,ab,bh,ae,ax,c1,decide_false,af]
  refine hyes ?_
  rw[List.isPrefixOf_iff_prefix,List.prefix_iff_eq_take]
  apply List.ext_getElem?
  intro j
  rw[List.getElem?_take]
  by_cases hj:j<w.length
  ·rw[if_pos hj,List.getElem?_drop,hm j w[j] hj (List.getElem?_eq_getElem hj),List.getElem?_eq_getElem hj]
  ·rw[if_neg hj,List.getElem?_eq_none (by omega)]
 | m+1,n,hn,hm=>by
  have hk7:=(jO hk).1
  have e1:aK 1 (.sl 2 0 7 (.ex 7)) (i64 k)=some (.ptr 2 k):=by rw[jK (by omega) (by omega)];simp
  have e2:ld1 st (.ptr 2 k)=some (.str w):=by rw[a7 hw];simp[hk]
  have hwl:w.length≤5:=by
   have:w ∈ bw:=List.mem_of_getElem? hk
   simp only[bw,List.mem_cons,List.not_mem_nil,or_false] at this
   rcases this with rfl|rfl|rfl|rfl|rfl|rfl|rfl<;>decide
  refine CY _ _ _ _ _ _ _ _ _ ?_
  have c1:((n:Int)<(w.length:Int)):=by omega
  have hx:w[n]?=some (w[n]'(by omega)):=List.getElem?_eq_getElem _
  generalize w[n]'(by omega)=c at hx
  have e3:IntKind.i64.wrap ((a:Int)+(n:Int))=((a+n:Nat):Int):=by rw[wrap_i64 (by omega) (by omega)];omega
  have e4:fY IntKind.i64 (u8 c)=some (i64 ((c.toNat:Nat):Int)):=by
   have:=c.toNat_lt
   simp only[lG]
   rw[wrap_i64 (by omega) (by omega)]
  simp only[wa,e1,e2,ab,bh,ae,ax,c1,decide_true,ai,aG,e3,cO hx,e4]
  refine (fO (a+n)).call ?_
  refine ⟨e2,?_⟩
  simp only[ae,aQ,iz,ab]
  by_cases hc:s[a+n]?=some c
  ·simp only[hc,decide_true]
   refine wb _ _ _ _ _ _ _ _ _ _ ?_
   simp only[qL,ai,ae,aG,aH (show n<2 ^ 40 by omega),ab]
   refine HA hs ha hw hk hno hyes m (n+1) (by omega) fun j c' hj hc'=>?_
   rcases Nat.lt_or_ge j n with h|h
   ·exact hm j c' h hc'
   ·have:j=n:=by omega
    subst this;rw[hx] at hc';cases hc';exact hc
  ·simp only[hc,decide_false]
   refine wb _ _ _ _ _ _ _ _ _ _ ?_
   simp only[qL,af,jQ,ab,e1,e2,bh,ae,ax,c1,decide_true,ai,aG,aH (show k<2 ^ 40 by omega)]
   refine hno ?_ _ _
   rw[Bool.eq_false_iff]
   intro hpre
   have h1:=List.isPrefixOf_iff_prefix.1 hpre
   obtain ⟨z,hz⟩:=h1
   have:(s.drop a)[n]?=some c:=by rw[← hz,List.getElem?_append_left (by omega)];exact hx
   rw[List.getElem?_drop] at this
   exact hc this
theorem yK (ih:mj d (D+1)) (hs:s.length≤4096) (hD:D<2 ^ 20) (ha:a≤s.length) (h:WIn st) (hw:st[2]?=some (.cells .rw (bw.map .str))) (h1:s[a]?≠some 91) (h2:s[a]?≠some 123) :
  ∀ (m k:Nat) (y:Int) (z:LV),k+m=7→fu (s.drop a) bw 0=fu (s.drop a) (bw.drop k) k→sD (.str s) (i64 a) (i64 D) (.ptr 0 0) (.ptr 1 0) (.sl 2 0 7 (.ex 7)) (i64 y) (i64 k) z (Dp (TyQ s (pT (d+1) (s.drop a)))) st
 | 0,k,y,z,hk,hp=>by
  refine Hq _ _ _ _ _ _ _ _ _ ?_
  have c1:¬ ((k:Int)<(7:Nat)):=by omega
  have e:bw.drop k=[]:=List.drop_eq_nil_of_le (by show 7≤k;omega)
  have hn:pT (d+1) (s.drop a)=none:=by rw[vH h1 h2,hp,e];rfl
  rw[hn]
  simp only[A8,xg,ab,ae,ax,c1,decide_false,af,Jk,aG,mk2]
  exact h.Hz ⟨_,_,_,by decide,rfl⟩
 | m+1,k,y,z,hk,hp=>by
  refine Hq _ _ _ _ _ _ _ _ _ ?_
  have c1:((k:Int)<(7:Nat)):=by omega
  have hx:bw[k]?=some (bw[k]'(by show k<7;omega)):=List.getElem?_eq_getElem _
  have hd:bw.drop k=bw[k]'(by show k<7;omega)::bw.drop (k+1):=List.drop_eq_getElem_cons _
  generalize bw[k]'(by show k<7;omega)=w at hx hd
  simp only[A8,xg,ab,ae,ax,c1,decide_true,ai]
  refine HA hs ha hw hx (fun hno y z=>yK ih hs hD ha h hw h1 h2 m (k+1) y z (by omega) ?_) (fun hyes=>?_) w.length 0 (by omega) fun j c hj=>by omega
  ·rw[hp,hd,fu,if_neg (by rw[hno];simp)]
  ·have hle:a+w.length≤s.length:=by
    have:=(List.isPrefixOf_iff_prefix.1 hyes).length_le
    rw[List.length_drop] at this;omega
   refine Jl ih hs hD h hw hx hle ?_
   rw[vH h1 h2,hp,hd,fu,if_pos hyes,List.drop_drop];rfl
theorem Jm (hd:D+(d+1)=8) (ih:mj d (D+1)):mj (d+1) D:=by
 intro s hs i hi
 refine Pb.of (c196 _ _ _ ?_) rfl
 have c8:¬ ((D:Int)≥8):=by omega
 have hW:WIn [av.cells .rw [i64 0,LV.nils,LV.nils,LV.nils],.cells .rw [i64 0,i64 0]]:=⟨rfl,rfl⟩
 have a1:(atB s i==91)=decide (s[i]?=some 91):=iz (c:=91)
 have a2:(atB s i==123)=decide (s[i]?=some 123):=iz (c:=123)
 -- what a list or an object answers
 have fin:∀ {v:LV} {res:Option (KT × Tx)},TyQ s res v→bd (aj v 0) fun v21=>bd (aj v 1) fun v22=>
   bd2 (lmk (stV [av.cells .rw [i64 0,LV.nils,LV.nils,LV.nils],.cells .rw [i64 0,i64 0]] 4 (.ptr 0 0) v21)) fun _v23 st24=>
   bd2 (lmk (stV st24 2 (.ptr 1 0) v22)) fun _v25 st26=>bd (ldA st26 (.ptr 0 0) 4) fun v27=>bd (ldA st26 (.ptr 1 0) 2) fun v28=>Dp (TyQ s res) (LV.tup [v27,v28]) st26:=by
  intro v res hv
  obtain ⟨t,x,y,rfl⟩:∃ t x y,v=tE t x y:=by
   unfold TyQ at hv
   cases res with
   | none=>obtain ⟨t,x,y,_,rfl⟩:=hv;exact ⟨_,_,_,rfl⟩
   | some p=>obtain ⟨a',_,_,rfl⟩:=hv;exact ⟨_,_,_,rfl⟩
  simp only[tE,au,List.getElem?_cons_zero,List.getElem?_cons_succ,ab]
  obtain ⟨S1,S2,e1,e2,_,h3⟩:=hW.out (Q:=TyQ s res) (cs:=rkC t) (t:=t) (x:=x) (y:=y) dd oq (fun S _=>bA _ eU) hv
  rw[e1]
  simp only[ay,ag]
  rw[e2]
  exact h3
 simp only[L3,b6,List.nil_append,List.cons_append,List.length_nil,List.length_cons,Nat.zero_add,ae,dt,ab,c8,decide_false,af]
 refine (fO i).call ?_
 simp only[ae,aQ,a1,ab]
 by_cases hc:s[i]?=some 91
 ·have hlt:=(List.getElem?_eq_some_iff.1 hc).1
  simp only[hc,decide_true,ai]
  refine (fO i).call ?_
  have a3:decide (s[i]?=some 123)=false:=by rw[hc];rfl
  simp only[ae,aQ,a2,a3,ab]
  refine (ue ih hs (by omega) hlt false).call fun v hv=>?_
  have hp:pT (d+1) (s.drop i)=match nQ d (s.drop (i+1)) with
    | none=>none
    | some (l,r)=>some (.mk 7 l [] [],r):=by
   rw[drop_cons hc]
   simp only[pT,nQ,if_true]
   split
   ·rfl
   ·rfl
  rw[hp]
  exact fin hv
 ·simp only[hc,decide_false,af]
  refine (fO i).call ?_
  simp only[ae,aQ,a2,ab]
  by_cases hc2:s[i]?=some 123
  ·have hlt:=(List.getElem?_eq_some_iff.1 hc2).1
   simp only[hc2,decide_true,ai]
   refine (fO i).call ?_
   have a3:decide (s[i]?=some 123)=true:=by rw[hc2];rfl
   simp only[ae,aQ,a2,a3,ab]
   refine (ue ih hs (by omega) hlt true).call fun v hv=>?_
   have hp:pT (d+1) (s.drop i)=match nT d (s.drop (i+1)) with
     | none=>none
     | some (l,r)=>some (kO l,r):=by
    rw[drop_cons hc2]
    have n1:¬ (123:UInt8)=91:=by decide
    simp only[pT,nT,n1,if_true,if_false]
    split
    ·rfl
    ·rfl
   rw[hp]
   exact fin hv
  ·have ef:ao (fun i=>some (i*1,1)) (List.replicate 7 [LV.str []]).flatten [(0,LV.str [97,110,121]),(1,LV.str [98,111,111,108]),(2,LV.str [105,110,116]),(3,LV.str [112,111,105,110,116]),(4,LV.str [116,101,120,116]),(5,LV.str [108,105,115,116]),(6,LV.str [109,97,112])]=some (bw.map .str):=rfl
   simp only[hc2,decide_false,af,ef,aY,ag,List.length_cons,List.length_nil,List.cons_append,List.nil_append,Nat.zero_add]
   exact yK ih hs (by omega) hi ⟨rfl,rfl⟩ rfl hc hc2 7 0 0 _ rfl rfl
theorem Jn (hd:D=8):mj 0 D:=by
 intro s hs i hi
 refine Pb.of (c196 _ _ _ ?_) rfl
 have c8:((D:Int)≥8):=by omega
 have hW:WIn [av.cells .rw [i64 0,LV.nils,LV.nils,LV.nils],.cells .rw [i64 0,i64 0]]:=⟨rfl,rfl⟩
 simp only[L3,b6,List.nil_append,List.cons_append,List.length_nil,List.length_cons,Nat.zero_add,ae,dt,ab,c8,decide_true,ai,Jk,mk2]
 exact hW.Hz ⟨_,_,_,by decide,rfl⟩
theorem Ku:∀ (d D:Nat),D+d=8→mj d D
 | 0,D,h=>Jn (by omega)
 | d+1,D,h=>Jm h (Ku d (D+1) (by omega))
def gD (s:Tx) (v:LV):Prop:=match dy s with
 | some t=>∃ a:Int,v=tE t a 0
 | none=>∃ (t:KT) (a e:Int),e≠0∧v=tE t a e
theorem Ef (s:Tx):Pb Tryz.prog 161 [.str s] (gD s):=by
 refine Pb.of (OL _ ?_) rfl
 have hW:WIn [av.cells .rw [i64 0,LV.nils,LV.nils,LV.nils],.cells .rw [i64 0,i64 0]]:=⟨rfl,rfl⟩
 simp only[NL,b6,List.nil_append,List.cons_append,List.length_nil,List.length_cons,Nat.zero_add,bh,ab,ae,cq,Jk,mk2]
 rw[aI]
 refine ⟨fun hl=>hW.Hz ?_,fun hl=>?_⟩
 ·unfold gD dy
  rw[if_pos (by omega)]
  exact ⟨_,_,_,by decide,rfl⟩
 have hs:s.length≤4096:=by omega
 have hpt:dy s=match pT 8 s with
   | some (t,[])=>some t
   | _=>none:=by unfold dy;rw[if_neg (by omega)];rfl
 refine (Ku 8 0 rfl hs 0 (by omega)).call fun v hv=>?_
 rw[List.drop_zero] at hv
 obtain ⟨t,x,y,rfl⟩:∃ t x y,v=tE t x y:=by
  unfold TyQ at hv
  cases hr:pT 8 s with
  | none=>rw[hr] at hv;obtain ⟨t,x,y,_,rfl⟩:=hv;exact ⟨_,_,_,rfl⟩
  | some p=>rw[hr] at hv;obtain ⟨a',_,_,rfl⟩:=hv;exact ⟨_,_,_,rfl⟩
 have p4:stV [av.cells .rw [i64 0,LV.nils,LV.nils,LV.nils],.cells .rw [i64 0,i64 0],.cells .rw [i64 0,LV.nils,LV.nils,LV.nils],.cells .rw [i64 0,i64 0]] 4 (.ptr 2 0) (.agg (rkC t)) =
   some [av.cells .rw [i64 0,LV.nils,LV.nils,LV.nils],.cells .rw [i64 0,i64 0],.cells .rw (rkC t),.cells .rw [i64 0,i64 0]]:=by cases t;rfl
 have p2:stV [av.cells .rw [i64 0,LV.nils,LV.nils,LV.nils],.cells .rw [i64 0,i64 0],.cells .rw (rkC t),.cells .rw [i64 0,i64 0]] 2 (.ptr 3 0) (.agg [i64 x,i64 y]) =
   some [av.cells .rw [i64 0,LV.nils,LV.nils,LV.nils],.cells .rw [i64 0,i64 0],.cells .rw (rkC t),.cells .rw [i64 x,i64 y]]:=rfl
 simp only[tE,au,List.getElem?_cons_zero,List.getElem?_cons_succ,ab,List.nil_append,List.cons_append,List.length_nil,List.length_cons,Nat.zero_add,p4,p2,ay,ag,aq]
 have g2:([av.cells .rw [i64 0,LV.nils,LV.nils,LV.nils],.cells .rw [i64 0,i64 0],.cells .rw (rkC t),.cells .rw [i64 x,i64 y]]:aa)[2]?=some (.cells .rw (rkC t)):=rfl
 have g3:([av.cells .rw [i64 0,LV.nils,LV.nils,LV.nils],.cells .rw [i64 0,i64 0],.cells .rw (rkC t),.cells .rw [i64 x,i64 y]]:aa)[3]?=some (.cells .rw [i64 x,i64 y]):=rfl
 have hM:WIn [av.cells .rw [i64 0,LV.nils,LV.nils,LV.nils],.cells .rw [i64 0,i64 0],.cells .rw (rkC t),.cells .rw [i64 x,i64 y]]:=⟨rfl,rfl⟩
 generalize [av.cells .rw [i64 0,LV.nils,LV.nils,LV.nils],.cells .rw [i64 0,i64 0],.cells .rw (rkC t),.cells .rw [i64 x,i64 y]]=S at g2 g3 hM
 have l1:ld1 S (.ptr 3 1)=some (i64 y):=by rw[a7 g3];rfl
 have l0:ld1 S (.ptr 3 0)=some (i64 x):=by rw[a7 g3];rfl
 simp only[l1,l0,ab,ae,aQ,ax,Ba g2 dd,sG g3 rfl,mk2]
 -- what was read,as it is
 have asis:gD s (tE t x y)→bd2 (lmk (stV S 4 (.ptr 0 0) (.agg (rkC t)))) fun _v43 st44=>ldA st44 (.ptr 3 0) 2=some (.agg [i64 x,i64 y])∧bd2 (lmk (stV st44 2 (.ptr 1 0) (.agg [i64 x,i64 y]))) fun _v45 st46=>vZ (.ptr 0 0) (.ptr 1 0) (Dp (gD s)) st46:=by
  intro hq
  obtain ⟨S1,S2,q1,q2,F,h3⟩:=hM.out (Q:=gD s) (cs:=rkC t) (t:=t) (x:=x) (y:=y) dd oq (fun S _=>bA _ eU) hq
  rw[q1]
  simp only[ay,ag]
  refine ⟨sG (F.get g3 (by omega)) rfl,?_⟩
  rw[q2]
  exact L2 _ _ h3
 unfold TyQ at hv
 cases hr:pT 8 s with
 | none=>
  rw[hr] at hv hpt
  obtain ⟨t',x',y',hy,he⟩:=hv
  simp only[tE,LV.tup.injEq,List.cons.injEq,LV.agg.injEq,LV.int.injEq,true_and,and_true] at he
  have hy:y≠0:=by rw[he.2.2];exact hy
  have e4:(y==0)=false:=by simpa using hy
  simp only[e4,af]
  refine asis ?_
  unfold gD
  rw[hpt];exact ⟨_,_,_,hy,rfl⟩
 | some p=>
  rw[hr] at hv hpt
  obtain ⟨a',ha',hp2,he⟩:=hv
  obtain ⟨t',r⟩:=p
  simp only at hp2
  subst hp2
  have hq:gD s (tE t' a' 0)→gD s (tE t x y):=fun h=>by rw[he];exact h
  have hxy:x=a'∧y=0:=by
   simp only[tE,LV.tup.injEq,List.cons.injEq,LV.agg.injEq,LV.int.injEq,true_and,and_true] at he
   exact he.2
  obtain ⟨rfl,rfl⟩:=hxy
  simp only[beq_self_eq_true,ai]
  rw[aI]
  refine ⟨fun hlt=>?_,fun hlt=>asis (hq ?_)⟩
  ·have hn:dy s=none:=by
    rw[hpt]
    have hx:s[a']?=some (s[a']'(by omega)):=List.getElem?_eq_getElem (by omega)
    rw[drop_cons hx]
   obtain ⟨S1,S2,q1,q2,F,h3⟩:=hM.out (Q:=gD s) (cs:=[i64 (0:Nat),.nils,.nils,.nils]) (x:=(a':Int)) (y:=4) rfl rfl (fun S _=>ou) (by unfold gD;rw[hn];exact ⟨_,_,_,by decide,rfl⟩)
   rw[q1]
   simp only[ay,ag]
   have l4:ld1 S1 (.ptr 3 0)=some (i64 a'):=by rw[a7 (F.get g3 (by omega))];rfl
   refine ⟨l4,?_⟩
   rw[q2]
   exact LY _ _ h3
  ·unfold gD
   rw[hpt,List.drop_eq_nil_of_le (by omega)]
   exact ⟨_,rfl⟩
end
def glue (w:Tx):List Tx→List Tx
 | []=>[w]
 | p::ps=>(w++p)::ps
theorem lu {l:List Tx} (h:l≠[]):glue [] l=l:=by cases l with
 | nil=>exact absurd rfl h
 | cons p ps=>rfl
theorem pB {c b:UInt8} {w:Tx} {l:Tx} (h:b≠c):glue w (splitB c (b::l))=glue (w++[b]) (splitB c l):=by
 rw[cT,if_neg h]
 cases hs:splitB c l with
 | nil=>exact absurd hs cC
 | cons p ps=>simp[glue]
section
variable {st st':aa} {R:LV→aa→Prop}
theorem Bd {s:Tx} (hs:s.length≤2 ^ 29):∀ (d i a:Nat) (f:Option Nat) (acc:List Tx) (st:aa),i+d=s.length→a≤i→acc.length≤i→bB .rw st f 1 acc.length (acc.map .str)→splitB 32 s=acc++glue ((s.drop a).take (i-a)) (splitB 32 (s.drop i))→
  mM (.str s) (osl f 1 acc.length) (i64 a) (i64 i) (fun r s'=>dp s' (sL (splitB 32 s)) r) st:=by
 intro d
 induction d with
 | zero=>
  intro i a f acc st hi ha hacc ho hsp
  refine Ag _ _ _ _ ?_
  have c1:((i:Int)≤s.length):=by omega
  have c2:((i:Int)==(s.length:Int))=true:=by rw[beq_iff_eq];omega
  have hw1:=aH (show i<2 ^ 40 by omega)
  have ef:∀ w:Tx,ao (fun i=>some (i*1,1)) (List.replicate 1 [LV.str []]).flatten [(0,.str w)]=some [.str w]:=fun _=>rfl
  simp only[vl,bh,ae,dr,aQ,ab,c1,decide_true,c2,ai,dT ha (show i≤s.length by omega),ef,aY,ag]
  obtain ⟨st2,f2,q1,q2,-,-⟩:=iQ ho (new:=[.str ((s.drop a).take (i-a))]) rfl rfl (by omega) (b:=16)
  rw[q1]
  simp only[ag,aG,ab,hw1]
  refine Ag _ _ _ _ ?_
  have c3:¬ (((i+1:Nat):Int)≤s.length):=by omega
  simp only[vl,bh,ae,dr,ab,c3,decide_false,af]
  have e:splitB 32 s=acc++[(s.drop a).take (i-a)]:=by
   rw[hsp,List.drop_eq_nil_of_le (by omega:s.length≤i)]
   simp[splitB,glue]
  rw[e]
  have k:bB .rw st2 f2 1 (acc++[(s.drop a).take (i-a)]).length ((acc++[(s.drop a).take (i-a)]).map .str):=by simpa using q2
  have hl:acc.length+1=(acc++[(s.drop a).take (i-a)]).length:=by simp
  rw[hl]
  exact dA k rfl (bA _ (bD (f:=LV.str) fun _ _=>rfl))
 | succ d ih=>
  intro i a f acc st hi ha hacc ho hsp
  refine Ag _ _ _ _ ?_
  have hlt:i<s.length:=by omega
  have c1:((i:Int)≤s.length):=by omega
  have c2:((i:Int)==(s.length:Int))=false:=by
   rw[Bool.eq_false_iff];intro h;rw[beq_iff_eq] at h;omega
  have hw1:=aH (show i<2 ^ 40 by omega)
  have ef:∀ w:Tx,ao (fun i=>some (i*1,1)) (List.replicate 1 [LV.str []]).flatten [(0,.str w)]=some [.str w]:=fun _=>rfl
  have hx:s[i]?=some s[i]:=List.getElem?_eq_getElem hlt
  have hdr:s.drop i=s[i]::s.drop (i+1):=List.drop_eq_getElem_cons hlt
  have htk:(s.drop a).take (i+1-a)=(s.drop a).take (i-a)++[s[i]]:=by
   rw[show i+1-a=(i-a)+1 by omega,List.take_add_one,List.getElem?_drop,show a+(i-a)=i by omega,hx];rfl
  generalize s[i]=c at hx hdr htk
  have ei:cA (.str s) (i64 i)=some (.int .u8 c.toNat):=cO hx
  rw[hdr] at hsp
  simp only[vl,bh,ae,dr,aQ,ab,c1,decide_true,c2,ai,af,ei]
  have e32:((c.toNat:Int)==32)=decide (c=32):=by
   by_cases h:c=32
   ·subst h;rfl
   ·have:¬ c.toNat=32:=fun e=>h (UInt8.toNat_inj.1 e)
    simp only[h,decide_false,beq_eq_false_iff_ne,ne_eq];omega
  rw[e32,aI]
  refine ⟨fun h=>?_,fun h=>?_⟩
  ·subst h
   rw[dT ha (show i≤s.length by omega)]
   simp only[ab,ef,aY,ag]
   obtain ⟨st2,f2,q1,q2,-,-⟩:=iQ ho (new:=[.str ((s.drop a).take (i-a))]) rfl rfl (by omega) (b:=16)
   rw[q1]
   simp only[ag,aG,ab,hw1]
   have hl:acc.length+1=(acc++[(s.drop a).take (i-a)]).length:=by simp
   rw[hl]
   refine ih (i+1) (i+1) f2 (acc++[(s.drop a).take (i-a)]) st2 (by omega) (Nat.le_refl _) (by simp;omega) (by simpa using q2) ?_
   rw[hsp,cT,if_pos rfl]
   simp only[Nat.sub_self,List.take_zero]
   rw[lu cC]
   simp[glue]
  ·simp only[aG,ab,hw1]
   refine ih (i+1) a f acc st (by omega) (by omega) (by omega) ho ?_
   rw[hsp,pB h,htk]
theorem HB {s:Tx} (hs:s.length≤2 ^ 29):Pu Tryz.prog 160 [.str s] (sL (splitB 32 s)):=by
 refine Pu.of (c160 _ ?_) rfl (by simp only[LV.plain];exact bD (f:=LV.str) fun _ _=>rfl)
 show mM (.str s) (osl none 1 ([]:List Tx).length) (i64 (0:Nat)) (i64 (0:Nat)) _ _
 refine Bd hs s.length 0 0 none [] _ (by omega) (Nat.le_refl _) (by simp) bB.nil ?_
 simp only[Nat.sub_self,List.take_zero,List.drop_zero,List.nil_append]
 rw[lu cC]
end
abbrev bX (nm tx:Tx) (t0 t1 t2 t3:LV) (m o h n:Bool):List LV:=[.str nm,.str tx,t0,t1,t2,t3,.bool m,.bool o,.bool h,.bool n]
def mk4 (m o h n:Bool):Tx:=(if m then 32::cF else [])++((if o then 32::dL else [])++((if h then 32::cG else [])++(if n then 32::dM else [])))
def ov (nm tx:Tx) (m o h n:Bool):Tx:=iP++32::(nm++32::(tx++mk4 m o h n))
theorem HC {a:AT}:ov a.nm (kpr a.ty) a.must a.own a.hide a.new=mh a:=rfl
section
variable {st st':aa} {R:LV→aa→Prop}
theorem Jo {nm tx:Tx} {t0 t1 t2 t3:LV} {m o h n:Bool} (hp:LV.aB [t0,t1,t2,t3]=true) (hn:nm.length≤2 ^ 32) (ht:tx.length≤2 ^ 32) :
  Pu Tryz.prog 162 [.agg (bX nm tx t0 t1 t2 t3 m o h n)] (.str (ov nm tx m o h n)):=by
 refine Pu.of (c162 _ ?_) (by simp only[LV.aB,LV.plain,Bool.and_eq_true] at hp ⊢;simp[hp]) rfl
 have g:∀ k:Nat,ld1 ([]++[av.cells .rw (bX nm tx t0 t1 t2 t3 m o h n)]) (.ptr 0 k)=(bX nm tx t0 t1 t2 t3 m o h n)[k]?:=fun k=>a7 rfl
 simp only[No,oa,ag,List.length_nil,aq,Nat.zero_add,ab,g,List.getElem?_cons_zero,List.getElem?_cons_succ]
 rw[jv (by simp only[List.length_cons,List.length_nil];omega),ab,jv (by simp only[List.length_append,List.length_cons,List.length_nil];omega),ab,jv (by simp only[List.length_append,List.length_cons,List.length_nil];omega),ab]
 have fin:∀ {x y:Tx},x=y→dp ([]++[av.cells .rw (bX nm tx t0 t1 t2 t3 m o h n)]) (.str y) (.str x):=fun e=>by subst e;exact rfl
 cases m<;>cases o<;>cases h<;>cases n<;>simp only[ai,af]<;>(repeat rw[jv (by simp only[List.length_append,List.length_cons,List.length_nil];omega),ab,])<;>(refine fin ?_)<;>simp[ov,mk4,iP,cF,dL,cG,dM]
theorem Jp {s:Tx} (hs:s.length<2 ^ 40):Pu Tryz.prog 19 [.str s] (.bool (named s)):=by
 refine Pu.of (c19 _ ?_) rfl rfl
 refine (NR hs (i:=0) (by omega)).call fun v hv=>?_
 have parts:∃ a e:Int,v=.agg [i64 a,i64 e]∧((e==0)&&(a==(s.length:Int)))=named s:=by
  unfold NmQ at hv
  rw[List.drop_zero] at hv
  have hpre:=iL s
  have heq:da s=s↔(da s).length=s.length:=by
   constructor
   ·intro h;rw[h]
   ·intro h
    rw[h,List.drop_length,List.append_nil] at hpre
    exact hpre.symm
  unfold gG at hv
  split at hv
  ·rename_i p e
   split at e
   ·cases e
   ·rename_i hc
    cases e
    refine ⟨_,_,hv,?_⟩
    unfold named
    simp only[Nat.zero_add,beq_self_eq_true,Bool.true_and]
    by_cases h:da s=s
    ·have h1:s≠[]:=fun e=>hc (.inl (by rw[h];exact e))
     have h2:s.length≤20:=by
      refine Nat.le_of_not_lt fun e=>hc (.inr (by rw[h];exact e))
     simp[h,h1,h2]
    ·have:¬ ((da s).length:Int)=s.length:=fun e=>h (heq.2 (by omega))
     simp[h,this]
  ·rename_i e
   split at e
   ·rename_i hc
    obtain ⟨a,e',he,rfl⟩:=hv
    refine ⟨a,e',rfl,?_⟩
    have:(e' == 0)=false:=by simpa using he
    rw[this,Bool.false_and]
    symm
    unfold named
    rcases hc with hc|hc
    ·by_cases h:da s=s
     ·rw[h] at hc;simp[hc]
     ·simp[h]
    ·have:¬ s.length≤20:=by
      have h1:=congrArg List.length hpre
      rw[List.length_append] at h1
      omega
     simp[this]
   ·cases e
 obtain ⟨a,e,rfl,he⟩:=parts
 have hp:stV [av.cells .rw [i64 0,i64 0]] 2 (.ptr 0 0) (.agg [i64 a,i64 e])=some [av.cells .rw [i64 a,i64 e]]:=rfl
 have g0:ld1 [av.cells .rw [i64 a,i64 e]] (.ptr 0 0)=some (i64 a):=rfl
 have g1:ld1 [av.cells .rw [i64 a,i64 e]] (.ptr 0 1)=some (i64 e):=rfl
 simp only[b6,List.nil_append,List.length_nil,hp,ay,ag,aq,Nat.zero_add,ab,g1,ae,aQ]
 rw[← he]
 cases e==0 with
 | false=>exact rfl
 | true=>
  simp only[ai,g0,ab,bh,ae,aQ]
  exact rfl
end
end Go.Proofs.YtknegckgmklnhaaGreatDoor
