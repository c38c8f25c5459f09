/- Parts of the proof. -/
import Derived.Test.YtknegckgmklnhaaGreatDoorVbO3
import Derived.Test.YtknegckgmklnhaaGreatDoorRows
namespace Go.Proofs.YtknegckgmklnhaaGreatDoor
open Go Go.CP
set_option maxRecDepth 100000
section
variable {R:LV→aa→Prop}
theorem CT {s:Tx} (hs:s.length≤2 ^ 29) {v:Int} (res:List AT ⊕ Int × Int)
  (hK1:∀ l f st,res=.inl l→ca .rw st f 10 l.length (bCs l)→R (.tup [.agg [i64 v,osl f 10 l.length],i64 0,i64 0]) st)
  (hK2:∀ n e st,res=.inr (n,e)→R (.tup [.agg [i64 0,.nils],i64 n,i64 e]) st) :
  ∀ (d i a ln:Nat) (l:List AT) (f:Option Nat) (st:aa) (x9 x10 x11:LV),i+d=s.length→a≤i→1≤ln→ln≤i→RSt st v l f→l.length≤16→dS l ((ln+1:Nat):Int) (glue ((s.drop a).take (i-a)) (splitB 10 (s.drop i)))=res→
   iy (.str s) (.ptr 0 0) (.ptr 1 0) (i64 a) (i64 ln) (i64 i) x9 x10 x11 R st:=by
 intro d
 have zag:bh (aB (aF [(0,1),(1,1)]) [i64 0,LV.nils] [])=some (.agg [i64 0,.nils]):=rfl
 induction d with
 | zero=>
  intro i a ln l f st x9 x10 x11 hi ha h1 hln hr hl hp
  refine DT _ _ _ _ _ _ _ _ _ ?_
  obtain ⟨y0,y1,ea⟩:=hr.a
  have c1:¬ ((i:Int)<s.length):=by omega
  have hw:=aK (show ln<2 ^ 40 by omega)
  rw[bR (by omega:s.length≤i)] at hp
  simp only[zI,kK,mA,mB,mD,mF,bF,ad,au,aH,ab,c1,a8,ae,zag,hw,ko ea (show [i64 0,LV.nils].all LV.one=true from rfl),aA,af]
  have e0:splitB 10 ([]:Tx)=[[]]:=rfl
  rw[e0] at hp
  simp only[glue,List.append_nil,dS] at hp
  by_cases hlt:a<s.length
  ·have c2:((a:Int)<s.length):=by omega
   have hne:(s.drop a).take (i-a)≠[]:=by
    intro e
    have:=congrArg List.length e
    simp at this;omega
   rw[if_neg hne] at hp
   have g:ldA (st.set 0 (.cells .rw [i64 0,.nils])) (.ptr 0 0) 2=some (.agg [i64 0,.nils]):=by rw[du (bO ea) (by simp)];rfl
   simp only[c2,aZ,ah,g,ab]
   exact hK2 _ _ _ hp.symm
  ·have c2:¬ ((a:Int)<s.length):=by omega
   have he:(s.drop a).take (i-a)=[]:=by rw[bR (by omega),List.take_nil]
   rw[if_pos he] at hp
   have c3:((ln:Int)==0)=false:=by
    rw[Bool.eq_false_iff];intro h;rw[beq_iff_eq] at h;omega
   have g:ldA st (.ptr 1 0) 2=some (.agg [i64 v,osl f 10 l.length]):=by rw[du hr.b (by simp)];rfl
   have hone:[i64 v,osl f 10 l.length].all LV.one=true:=by cases f<;>rfl
   have g2:ldA (st.set 0 (.cells .rw [i64 v,osl f 10 l.length])) (.ptr 0 0) 2=some (.agg [i64 v,osl f 10 l.length]):=by rw[du (bO ea) (by simp)];rfl
   simp only[c2,a8,ae,bj,c3,g,ab,ko ea hone,aA,af,g2]
   have fr:Fr st (st.set 0 (.cells .rw [i64 v,osl f 10 l.length])) (fun j=>j=0):=Fr.set rfl
   exact hK1 l f _ hp.symm (hr.o.fr fr fun o e e'=>by have:=hr.n o e;omega)
 | succ d ih=>
  intro i a ln l f st x9 x10 x11 hi ha h1 hln hr hl hp
  refine DT _ _ _ _ _ _ _ _ _ ?_
  have hlt:i<s.length:=by omega
  have c1:((i:Int)<s.length):=by omega
  have hw1:=aK (show i<2 ^ 40 by omega)
  have hw:=aK (show ln<2 ^ 40 by omega)
  have hx:s[i]?=some s[i]:=bg hlt
  have hdr:s.drop i=s[i]::s.drop (i+1):=b6 hlt
  have htk:(s.drop a).take (i+1-a)=(s.drop a).take (i-a)++[s[i]]:=by
   rw[show i+1-a=(i-a)+1 by omega,List.take_add_one,List.getElem?_drop,show a+(i-a)=i by omega,hx];rfl
  generalize s[i]=c at hx hdr htk
  rw[hdr] at hp
  have e10:((c.toNat:Int) != 10)=decide (c≠10):=by
   by_cases h:c=10
   ·subst h;rfl
   ·have:¬ c.toNat=10:=fun e=>h (UInt8.toNat_inj.1 e)
    simp only[h,ne_eq,not_false_eq_true,aZ,bne_iff_ne];omega
  have cl1:(((ln+1:Nat):Int)==1)=false:=by
   rw[Bool.eq_false_iff];intro h;rw[beq_iff_eq] at h;omega
  have hwl:((s.drop a).take (i-a)).length≤2 ^ 29:=by simp;omega
  simp only[zI,kK,mA,mB,mD,mF,bF,ad,au,ab,c1,aZ,ah,dB hx,bJ,e10,aL]
  refine ⟨fun h=>?_,fun h=>?_⟩
  ·simp only[aH,ab,hw1]
   refine ih (i+1) a ln l f st _ _ _ (by omega) (by omega) h1 (by omega) hr hl ?_
   rw[htk,← qF h];exact hp
  ·have h10:c=10:=Classical.byContradiction h
   subst h10
   rw[dF,if_pos rfl] at hp
   simp only[glue,List.append_nil] at hp
   simp only[eO ha (show i≤s.length by omega),aH,hw1,hw,ab,ad,bj,cl1,ae]
   generalize hown:(s.drop a).take (i-a)=own at hp hwl
   obtain ⟨q,r,hqr⟩:∃ q r,splitB 10 (s.drop (i+1))=q::r:=by
    cases hq:splitB 10 (s.drop (i+1)) with
    | nil=>exact absurd hq dd
    | cons q r=>exact ⟨q,r,rfl⟩
   rw[hqr] at hp
   simp only[dS] at hp
   refine (Jt hwl).call fun w hq=>?_
   have put:∀ cs:List LV,cs.length=10→cs.all LV.one=true→stV (st++[ar.cells .rw [LV.str [],LV.str [],i64 0,LV.nils,LV.nils,LV.nils,LV.bool false,LV.bool false,LV.bool false,LV.bool false]]) 10 (.ptr st.length 0) (.agg cs)=some (st++[.cells .rw cs]):=fun cs h1 h2=>by
    rw[MN ay rfl h1 h2];simp
   obtain ⟨y0,y1,ea⟩:=hr.a
   have er:∀ (S:aa) (e:Int),S[0]?=some (.cells .rw [y0,y1])→res=.inr (((ln+1:Nat):Int),e)→(bd (bh (aB (aF [(0,1),(1,1)]) [i64 0,LV.nils] [])) fun v18=>bd2 (lmk (stV S 2 (LV.ptr 0 0) v18)) fun _v19 st20=>bd (ldA st20 (LV.ptr 0 0) 2) fun v21=>R (LV.tup [v21,i64 ((ln+1:Nat):Int),i64 e]) st20):=by
    intro S e hS hres
    rw[zag,ab,ko hS rfl]
    simp only[aA,af]
    rw[du (bO hS) (by simp)]
    exact hK2 _ _ _ hres
   cases hpa:fp own with
   | none=>
    rw[hpa] at hp
    unfold BtQ at hq
    rw[hpa] at hq
    obtain ⟨cs,rfl,q1,q2,q3⟩:=hq
    simp only[av,aN,aO,ab,cv,put cs q1 q3,aA,af,bw,bL,ah]
    exact er _ 4 (jg ea) hp.symm
   | some at1=>
    rw[hpa] at hp
    unfold BtQ at hq
    rw[hpa] at hq
    simp only at hq hp
    subst hq
    have hS:=hr.app (y:=.cells .rw (bC at1))
    have gl:ld1 (st++[ar.cells .rw (bC at1)]) (.ptr 1 1)=some (osl f 10 l.length):=by rw[bx hS.b];rfl
    have gn:ld1 (st++[ar.cells .rw (bC at1)]) (.ptr st.length 0)=some (.str at1.nm):=by rw[bx ay];rfl
    have g6:ld1 (st++[ar.cells .rw (bC at1)]) (.ptr st.length 6)=some (.bool at1.must):=by rw[bx ay];unfold bC;rw[gd];rfl
    have g7:ld1 (st++[ar.cells .rw (bC at1)]) (.ptr st.length 7)=some (.bool at1.own):=by rw[bx ay];unfold bC;rw[gd];rfl
    have gA:ldA (st++[ar.cells .rw (bC at1)]) (.ptr st.length 0) 10=some (.agg (bC at1)):=Qz ay jH
    have hnm:at1.nm.length<2 ^ 40:=by have:=Au hpa;omega
    have k16:((l.length:Int)==16)=decide (l.length=16):=by by_cases h:l.length=16<;>simp[h];omega
    simp only[av,aN,aO,ab,cv,put _ jH JB,aA,af,bw,bM,ae,ao,aj,gl,hr.o.bB,ad,bj,k16,aL]
    have hmw:gD l at1=if l.length=16 then 3 else jc (gC l) at1:=rfl
    refine ⟨fun h=>?_,fun h=>?_⟩
    ·rw[hmw,if_pos h,if_neg (by decide)] at hp
     exact er _ 3 (jg ea) hp.symm
    ·rw[hmw,if_neg h] at hp
     rw[gn,ab]
     refine (Lq hnm).call ?_
     have ef:aB (fun i=>some (i*10,10)) (List.replicate 1 [LV.str [],LV.str [],i64 0,LV.nils,LV.nils,LV.nils,LV.bool false,LV.bool false,LV.bool false,LV.bool false]).flatten [(0,.agg (bC at1))]=some (bC at1):=by unfold bC;rw[gd];rfl
     obtain ⟨st2,f2,m1,st3,m2,m3⟩:=(hr.app (y:=.cells .rw (bC at1))).more (a:=at1) hl
     simp only[bw,ab,gl,gn,g6,g7,gA,ef,bE,af,m1,cT,dM]
     have err:∀ e:Int,e≠0→jc (gC l) at1=e→(bd (bh (aB (aF [(0,1),(1,1)]) [i64 0,LV.nils] [])) fun v18=>bd2 (lmk (stV (st++[ar.cells .rw (bC at1)]) 2 (LV.ptr 0 0) v18)) fun _v19 st20=>bd (ldA st20 (LV.ptr 0 0) 2) fun v21=>R (LV.tup [v21,i64 ((ln+1:Nat):Int),i64 e]) st20):=by
      intro e he hW
      rw[hW,if_neg he] at hp
      exact er _ e (jg ea) hp.symm
     have app:jc (gC l) at1=0→bd2 (lmk (stV st2 1 (LV.ptr 1 1) (osl f2 10 (l.length+1)))) fun _v83 st84=>iy (LV.str s) (LV.ptr 0 0) (LV.ptr 1 0) (i64 ((i+1:Nat):Int)) (i64 ((ln+1:Nat):Int)) (i64 ((i+1:Nat):Int)) (LV.str own) x10 x11 R st84:=by
      intro hW
      rw[hW,if_pos rfl] at hp
      rw[m2]
      simp only[aA,af]
      refine ih (i+1) (i+1) (ln+1) (l++[at1]) f2 st3 _ _ _ (by omega) (Nat.le_refl _) (by omega) (by omega) m3 (by simp;omega) ?_
      rw[Nat.sub_self,List.take_zero,mg dd,hqr]
      exact hp
     have tail:(jc (gC l) at1=if at1.must&&at1.own then 1 else 0)→aq (LV.bool at1.must) (aq (LV.bool at1.own) (bd (bh (aB (aF [(0,1),(1,1)]) [i64 0,LV.nils] [])) fun v18=>bd2 (lmk (stV (st++[ar.cells .rw (bC at1)]) 2 (LV.ptr 0 0) v18)) fun _v19 st20=>bd (ldA st20 (LV.ptr 0 0) 2) fun v21=>R (LV.tup [v21,i64 ((ln+1:Nat):Int),i64 1]) st20) (bd2 (lmk (stV st2 1 (LV.ptr 1 1) (osl f2 10 (l.length+1)))) fun _v83 st84=>iy (LV.str s) (LV.ptr 0 0) (LV.ptr 1 0) (i64 ((i+1:Nat):Int)) (i64 ((ln+1:Nat):Int)) (i64 ((i+1:Nat):Int)) (LV.str own) x10 x11 R st84)) (bd2 (lmk (stV st2 1 (LV.ptr 1 1) (osl f2 10 (l.length+1)))) fun _v83 st84=>iy (LV.str s) (LV.ptr 0 0) (LV.ptr 1 0) (i64 ((i+1:Nat):Int)) (i64 ((ln+1:Nat):Int)) (i64 ((i+1:Nat):Int)) (LV.str own) x10 x11 R st84):=by
      intro hW
      cases hm:at1.must<;>cases ho:at1.own<;>rw[hm,ho] at hW<;>first|exact app hW|exact err 1 (by decide) hW
     have hW0:jc (gC l) at1=if named at1.nm=false then 7 else if at1.nm=gC l then 9 else if Op.bytesLess at1.nm (gC l)=true then 4 else if at1.must&&at1.own then 1 else 0:=rfl
     cases hnam:named at1.nm with
     | false=>
      rw[hnam,if_pos rfl] at hW0
      exact err 7 (by decide) hW0
     | true=>
      rw[hnam,if_neg (by simp)] at hW0
      rw[bM,ae]
      cases hg:l.getLast? with
      | none=>
       have hl0:gC l=[]:=by unfold gC;rw[hg]
       rw[List.getLast?_eq_none_iff] at hg
       have hz:l.length=0:=by rw[hg];rfl
       rw[hl0,if_neg (I4 hnam),if_neg (by cases at1.nm<;>simp[Op.bytesLess])] at hW0
       have c0:decide ((l.length:Int) > 0)=false:=by rw[hz];rfl
       rw[c0,ae,ae]
       exact tail (by rw[hl0];exact hW0)
      | some b=>
       have hl0:gC l=b.nm:=by unfold gC;rw[hg]
       have hpos:0<l.length:=by cases l with
        | nil=>simp at hg
        | cons x y=>simp
       have c0:decide ((l.length:Int) > 0)=true:=decide_eq_true (by omega)
       have hwr:IntKind.i64.wrap ((l.length:Int)-1)=((l.length-1:Nat):Int):=by rw[wrap_i64 (by omega) (by omega)];omega
       obtain ⟨o,hfo,hix⟩:=hr.o.ix (i:=((l.length-1:Nat):Int)) (kk:=.i64) (by omega) (by omega)
       have hld:ld1 (st++[ar.cells .rw (bC at1)]) (.ptr o ((l.length-1)*10))=some (.str b.nm):=by
        have hso:=hS.o
        rw[hfo] at hso
        exact hso.ld (JC hg)
       rw[Int.toNat_natCast] at hix
       rw[hl0] at hW0
       have hnx:(at1.nm==b.nm)=decide (at1.nm=b.nm):=by by_cases h:at1.nm=b.nm<;>simp[h]
       rw[c0,ah,ah,hwr,hix]
       simp only[ab,ao,Nat.add_zero,hld,ct,da,pg,hnx]
       rw[aL]
       refine ⟨fun h=>?_,fun h=>?_⟩
       ·rw[if_pos h] at hW0
        exact err 9 (by decide) (by rw[hl0];exact hW0)
       ·rw[if_neg h] at hW0
        cases hb:Op.bytesLess at1.nm b.nm with
        | true=>
         rw[hb,if_pos rfl] at hW0
         exact err 4 (by decide) (by rw[hl0];exact hW0)
        | false=>
         rw[hb,if_neg (by simp)] at hW0
         exact tail (by rw[hl0];exact hW0)
end
def bS (v:Int) (l:List AT):LV:=.agg [i64 v,.isl (bCs l) l.length none]
def bZ:LV:=.agg [i64 0,.nils]
def AB (s:Tx) (w:LV):Prop:=match splitB 10 s with
 | p::q::r=>(∃ n:Nat,n≤1000∧p=cO++Lib.decDigits n∧(match dS [] 2 (q::r) with
   | .inl l=>w=.tup [bS n l,i64 0,i64 0]
   | .inr (k,e)=>w=.tup [bZ,i64 k,i64 e]))∨((∀ n,n≤1000→p≠cO++Lib.decDigits n)∧∃ e:Int,e≠0∧w=.tup [bZ,i64 1,i64 e])
 | _=>w=.tup [bZ,i64 1,i64 4]
theorem pL {v:Int} {l:List AT}:(bS v l).plain=true:=by unfold bS;simp only[LV.plain,LV.aG,qG];rfl
theorem dpq {Q:LV→Prop} {st:aa} {k e:Int} (h:Q (.tup [bZ,i64 k,i64 e])):Dp Q (.tup [.agg [i64 0,.nils],i64 k,i64 e]) st:=⟨_,bu (v:=.tup [bZ,i64 k,i64 e]) _ rfl,rfl,h⟩
theorem CU {s:Tx} (hs:s.length≤2 ^ 29):∀ (d i:Nat) (x9 x10 x11:LV),i+d=s.length→splitB 10 s=glue (s.take i) (splitB 10 (s.drop i))→
  iy (.str s) (.ptr 0 0) (.ptr 1 0) (i64 (0:Nat)) (i64 (0:Nat)) (i64 i) x9 x10 x11 (Dp (AB s)) [A35,A35]:=by
 intro d
 have zag:bh (aB (aF [(0,1),(1,1)]) [i64 0,LV.nils] [])=some (.agg [i64 0,.nils]):=rfl
 have pz:stV [A35,A35] 2 (.ptr 0 0) (.agg [i64 0,.nils])=some [A35,A35]:=rfl
 have gz:ldA [A35,A35] (.ptr 0 0) 2=some (.agg [i64 0,.nils]):=rfl
 induction d with
 | zero=>
  intro i x9 x10 x11 hi hsp
  refine DT _ _ _ _ _ _ _ _ _ ?_
  have c1:¬ ((i:Int)<s.length):=by omega
  rw[bR (by omega:s.length≤i)] at hsp
  have hq:AB s (.tup [bZ,i64 1,i64 4]):=by
   unfold AB
   rw[hsp];rfl
  simp only[zI,kK,mA,mB,mD,mF,bF,ad,au,ab,c1,a8,ae,zag,aL]
  refine ⟨fun _=>?_,fun _=>?_⟩
  ·exact dpq hq
  ·exact dpq hq
 | succ d ih=>
  intro i x9 x10 x11 hi hsp
  refine DT _ _ _ _ _ _ _ _ _ ?_
  have hlt:i<s.length:=by omega
  have c1:((i:Int)<s.length):=by omega
  have hw1:=aK (show i<2 ^ 40 by omega)
  have hx:s[i]?=some s[i]:=bg hlt
  have hdr:s.drop i=s[i]::s.drop (i+1):=b6 hlt
  have htk:s.take (i+1)=s.take i++[s[i]]:=by rw[List.take_add_one,hx];rfl
  generalize s[i]=c at hx hdr htk
  rw[hdr] at hsp
  have e10:((c.toNat:Int) != 10)=decide (c≠10):=by
   by_cases h:c=10
   ·subst h;rfl
   ·have:¬ c.toNat=10:=fun e=>h (UInt8.toNat_inj.1 e)
    simp only[h,ne_eq,not_false_eq_true,aZ,bne_iff_ne];omega
  have hw0:IntKind.i64.wrap (((0:Nat):Int)+1)=((1:Nat):Int):=rfl
  have c11:(((1:Nat):Int)==1)=true:=rfl
  simp only[zI,kK,mA,mB,mD,mF,bF,ad,au,ab,c1,aZ,ah,dB hx,bJ,e10,aL]
  refine ⟨fun h=>?_,fun h=>?_⟩
  ·simp only[aH,ab,hw1]
   refine ih (i+1) _ _ _ (by omega) ?_
   rw[htk,← qF h];exact hsp
  ·have h10:c=10:=Classical.byContradiction h
   subst h10
   rw[dF,if_pos rfl] at hsp
   simp only[glue,List.append_nil] at hsp
   have ps:=eO (s:=s) (Nat.zero_le i) (show i≤s.length by omega)
   rw[List.drop_zero,Nat.sub_zero] at ps
   rw[ps]
   simp only[aH,hw1,hw0,ab,ad,bj,c11,ah]
   obtain ⟨q,r,hqr⟩:∃ q r,splitB 10 (s.drop (i+1))=q::r:=by
    cases hq:splitB 10 (s.drop (i+1)) with
    | nil=>exact absurd hq dd
    | cons q r=>exact ⟨q,r,rfl⟩
   rw[hqr] at hsp
   have hQ:∀ w,((∃ n:Nat,n≤1000∧s.take i=cO++Lib.decDigits n∧(match dS [] 2 (q::r) with
     | .inl l=>w=.tup [bS n l,i64 0,i64 0]
     | .inr (k,e)=>w=.tup [bZ,i64 k,i64 e]))∨((∀ n,n≤1000→s.take i≠cO++Lib.decDigits n)∧∃ e:Int,e≠0∧w=.tup [bZ,i64 1,i64 e]))→AB s w:=by
    intro w h
    unfold AB
    rw[hsp]
    exact h
   refine Jz (x7:=i64 (1:Nat)) (i:=i) (by simp;omega) (by omega) (fun n k hn hp=>?_) (fun hn e he=>?_) 1001 0 (by omega) (fun n h=>by omega)
   ·refine CT hs (v:=n) (dS [] 2 (q::r)) (fun l f st hres ho=>?_) (fun k e st hres=>?_) (s.length-(i+1)) (i+1) (i+1) 1 [] none _ _ _ _ (by omega) (Nat.le_refl _) (Nat.le_refl _) (by omega) ⟨⟨_,_,rfl⟩,rfl,ca.nil,fun _ h=>by cases h⟩ (by simp) ?_
    ·refine ⟨.tup [bS n l,i64 0,i64 0],⟨_,rfl,_,_,rfl,⟨_,rfl,_,_,rfl,rfl,_,_,rfl,eL ho rfl (bU _ qG),rfl⟩,_,_,rfl,rfl,_,_,rfl,rfl,rfl⟩,by simp only[LV.plain,LV.aG,pL];rfl,hQ _ (.inl ⟨n,hn,hp,by rw[hres]⟩)⟩
    ·exact dpq (hQ _ (.inl ⟨n,hn,hp,by rw[hres]⟩))
    ·rw[Nat.sub_self,List.take_zero,mg dd,hqr];rfl
   ·exact dpq (hQ _ (.inr ⟨hn,e,he,rfl⟩))
theorem Gj {s:Tx} (hs:s.length≤2 ^ 29):Pb Tryz.prog 35 [.str s] (AB s):=by
 refine Pb.of (c35 _ ?_) rfl
 show iy (.str s) (.ptr 0 0) (.ptr 1 0) (i64 (0:Nat)) (i64 (0:Nat)) (i64 (0:Nat)) _ _ _ _ [A35,A35]
 refine CU hs s.length 0 _ _ _ (by omega) ?_
 rw[List.take_zero,List.drop_zero,mg dd]
theorem qH:∀ {ps:List Tx} {l:List AT} {n k e:Int},dS l n ps=.inr (k,e)→e≠0
 | [],l,n,k,e,h=>by simp[dS] at h
 | [p],l,n,k,e,h=>by
  simp only[dS] at h
  split at h
  ·cases h
  ·simp only[Sum.inr.injEq,Prod.mk.injEq] at h;omega
 | p::q::r,l,n,k,e,h=>by
  simp only[dS] at h
  split at h
  ·simp only[Sum.inr.injEq,Prod.mk.injEq] at h;omega
  ·split at h
   ·exact qH h
   ·rename_i hm
    simp only[Sum.inr.injEq,Prod.mk.injEq] at h
    rw[← h.2];exact hm
theorem CV {s:Tx} {w:LV} (h:AB s w):∃ x y k e,w=.tup [.agg [x,y],i64 k,i64 e]∧[x,y].all LV.one=true∧(e=0→∃ n p q r l,splitB 10 s=p::q::r∧dS [] 2 (q::r)=.inl l∧LV.agg [x,y]=bS n l∧p=cO++Lib.decDigits n.toNat∧n.toNat≤1000∧0≤n):=by
 unfold AB at h
 split at h
 ·rename_i p q r hsp
  rcases h with ⟨n,hn,hp,hm⟩ | ⟨_,e,he,rfl⟩
  ·split at hm
   ·rename_i l hl
    exact ⟨_,_,0,0,hm,rfl,fun _=>⟨(n:Int),p,q,r,l,hsp,hl,rfl,by simpa using hp,by simpa using hn,by omega⟩⟩
   ·rename_i k e hl
    exact ⟨_,_,k,e,hm,rfl,fun h=>absurd h (qH hl)⟩
  ·exact ⟨_,_,1,e,rfl,rfl,fun h=>absurd h he⟩
 ·exact ⟨_,_,1,4,h,rfl,fun h=>by cases h⟩
section
variable {st st':aa} {R:LV→aa→Prop}
theorem RB (g:GlS st) {s:Tx} (h1:∀ st' x y,[x,y].all LV.one=true→Fr st st' (fun _=>False)→R (.tup [.nilp,.agg [x,y],i64 1]) st') (h2:∀ st' S n,fw s=.inl S→Fr st st' (fun _=>False)→s.length≤600→R (.tup [sV S,bS n S.l,i64 0]) st'):aw Tryz.prog 26 [.str s] st R:=by
 refine c26 _ ?_
 have zag:bh (aB (aF [(0,1),(1,1)]) [i64 0,LV.nils] [])=some (.agg [i64 0,.nils]):=rfl
 have f0:Fr st (st++[ar.cells .rw [i64 0,LV.nils]]) (fun _=>False):=Fr.app
 have b0:(st++[ar.cells .rw [i64 0,LV.nils]])[st.length]?=some (.cells .rw [i64 0,LV.nils]):=ay
 have setF:∀ (S:aa) (y:ar),Fr st S (fun _=>False)→Fr st (S.set st.length y) (fun _=>False):=fun S y h=>⟨by have:=h.len;simp;omega,fun j hj hn=>by rw[bK (by omega)];exact h.same j hj hn⟩
 have ld2:∀ (S:aa) (o:Nat) (x y:LV),S[o]?=some (.cells .rw [x,y])→ldA S (.ptr o 0) 2=some (.agg [x,y]):=fun S o x y h=>by rw[du h (by simp)];rfl
 simp only[w26,cv,bF,ad,cT,ab,aL]
 refine ⟨fun _=>?_,fun hl=>?_⟩
 ·rw[zag,ab,ko b0 rfl]
  simp only[aA,af]
  rw[ld2 _ _ _ _ (bO b0),ab]
  exact h1 _ _ _ rfl (setF _ _ f0)
 ·have hl':s.length≤600:=by omega
  refine (Gj (s:=s) (by omega)).call fun w hw=>?_
  obtain ⟨x,y,k,e,rfl,hone,hgood⟩:=CV hw
  simp only[av,aN,aO,ab]
  generalize hS0:st++[ar.cells .rw [i64 0,LV.nils]]=S0 at b0 f0
  have pS:stV (S0++[ar.cells .rw [i64 0,LV.nils]]) 2 (.ptr S0.length 0) (.agg [x,y])=some (S0++[.cells .rw [x,y]]):=by
   rw[ko ay hone];simp
  have f1:Fr st (S0++[ar.cells .rw [x,y]]) (fun _=>False):=f0.trans Fr.app fun _ _ h=>h
  have b1:(S0++[ar.cells .rw [x,y]])[st.length]?=some (.cells .rw [i64 0,LV.nils]):=by rw[bW (cA b0)];exact b0
  have m1:=ld2 (S0++[ar.cells .rw [x,y]]) S0.length x y ay
  rw[pS]
  simp only[aA,af]
  have g1:GlS (S0++[ar.cells .rw [x,y]]):=g.fr f1 id id id
  have ne0:∀ z:Int,(z != 0)=decide (z≠0):=fun z=>by by_cases h:z=0<;>simp[h]
  have bad:(bd (ldA (S0++[ar.cells .rw [x,y]]) (.ptr S0.length 0) 2) fun v23=>bd2 (lmk (stV (S0++[ar.cells .rw [x,y]]) 2 (.ptr st.length 0) v23)) fun _v24 st25=>bd (ldA st25 (.ptr st.length 0) 2) fun v26=>R (LV.tup [LV.nilp,v26,i64 1]) st25):=by
   rw[m1,ab,ko b1 hone]
   simp only[aA,af]
   rw[ld2 _ _ _ _ (bO b1),ab]
   exact h1 _ _ _ hone (setF _ _ f1)
  refine Av g1 (by omega) (fun S hS=>?_) fun n e' hS=>?_
  ·simp only[av,aN,aO,ab,ad,bJ,ne0,aL]
   refine ⟨fun _=>bad,fun he=>⟨fun h=>absurd rfl h,fun _=>?_⟩⟩
   have he0:e=0:=Classical.byContradiction he
   obtain ⟨n,p,q,r,l,hsp,hpl,hb,_⟩:=hgood he0
   have hSl:S.l=l:=by
    unfold fw at hS
    rw[hsp] at hS
    simp only at hS
    split at hS
    ·cases hS
    ·split at hS
     ·cases hS
     ·rw[hpl] at hS
      simp only[Sum.inl.injEq] at hS
      rw[← hS]
   rw[m1,ab,ko b1 hone]
   simp only[aA,af]
   rw[ld2 _ _ _ _ (bO b1),ab,hb,← hSl]
   exact h2 _ S n hS (setF _ _ f1) hl'
  ·simp only[av,aN,aO,ab,ad,bJ,ne0,aL]
   refine ⟨fun _=>bad,fun _=>⟨fun _=>bad,fun h=>?_⟩⟩
   exfalso
   refine h ?_
   unfold fw at hS
   split at hS
   ·split at hS
    ·simp only[Sum.inr.injEq,Prod.mk.injEq] at hS;omega
    ·split at hS
     ·simp only[Sum.inr.injEq,Prod.mk.injEq] at hS;omega
     ·split at hS
      ·cases hS
      ·rename_i z hz
       simp only[Sum.inr.injEq] at hS
       subst hS
       exact qH hz
   ·simp only[Sum.inr.injEq,Prod.mk.injEq] at hS;omega
end
theorem pM:∀ {l:List AT} {i:Nat} {a:AT},l[i]?=some a→(bCs l)[i*10]?=some (.str a.nm)
 | b::l,0,a,h=>by
  simp only[aN,aM] at h
  subst h;rfl
 | b::l,i+1,a,h=>by
  simp only[aO] at h
  rw[bCs,show (i+1)*10=(bC b).length+i*10 by rw[jH];omega,List.getElem?_append_right (by omega),Nat.add_sub_cancel_left]
  exact pM h
theorem T.pN {v:T} {k:Tx} (h:v.ok):(cG v k).ok:=by
 unfold cG
 cases hf:v.at k with
 | none=>simp[T.ok]
 | some w=>
  cases v<;>simp only[T.at] at hf<;>try (simp at hf;done)
  exact T.dY h w (List.mem_map.2 ⟨(k,w),T.tK hf,rfl⟩)
structure LSt (st:aa) (A B C:Nat) (n:Int) (l:List AT) (v x:T):Prop where
 a:st[A]?=some (.cells .rw [i64 n,.isl (bCs l) l.length none])
 b:st[B]?=some (.cells .rw [lvT v])
 c:st[C]?=some (.cells .rw [lvT x])
section
variable {R:LV→aa→Prop} {st:aa}
theorem gX {o:Nat} {v:T} (h:st[o]?=some (.cells .rw [lvT v])):ldA st (.ptr o 0) 1=some (vT v):=by rw[du h (by simp)];rfl
end
end Go.Proofs.YtknegckgmklnhaaGreatDoor
namespace Go.Proofs.YtknegckgmklnhaaGreatDoor
open Go Go.CP Go.ChangeShapes
set_option maxRecDepth 100000
theorem QA:Tryz.prog.cellsOf 49=7:=by kernel_rfl
theorem ce3:Tryz.prog.cellsOf 3=1:=by kernel_rfl
theorem ce4:Tryz.prog.cellsOf 4=1:=by kernel_rfl
theorem ce9:Tryz.prog.cellsOf 9=1:=by kernel_rfl
theorem RC:Tryz.prog.cellsOf 47=1:=by kernel_rfl
theorem RD:Tryz.prog.cellsOf 26=1:=by kernel_rfl
section
variable {H:Type}
theorem JD {d:DataW H}:1≤Rows.uptoBulk d:=by
 cases d with
 | lit l=>cases l<;>simp[Rows.uptoBulk]
 | _=>simp[Rows.uptoBulk]
theorem uy:∀ {l:List (DataW H)},l.length≤Rows.uptoBulkAll l
 | []=>by simp
 | x::r=>by have:=uy (l:=r);have:=JD (d:=x);simp only[Rows.uptoBulkAll,aW];omega
theorem CW {n:Nat} {xs:List LV} {d:DataW H} (h:cJ Tryz.prog n 3 xs d):∃ k:Int,xs=[i64 k]∧-9223372036854775808≤k∧k<9223372036854775808:=by
 cases n with
 | zero=>exact h.elim
 | succ n=>
  unfold cJ at h
  rw[Tryz.underlying3] at h
  obtain ⟨m,rfl,hw⟩:=h
  have h1:IntKind.min .i64 = -9223372036854775808:=rfl
  have h2:IntKind.max .i64=9223372036854775807:=rfl
  simp only[Lit.wf,bp,decide_eq_true_eq,h1,h2] at hw
  exact ⟨m,rfl,hw.1,by omega⟩
theorem Ls {n:Nat} {xs:List LV} {d:DataW H} (h:cJ Tryz.prog n 4 xs d):∃ b,xs=[.bool b]:=by
 cases n with
 | zero=>exact h.elim
 | succ n=>unfold cJ at h;rw[Tryz.underlying4] at h;exact h
theorem CX {n:Nat} {xs:List LV} {d:DataW H} (h:cJ Tryz.prog n 9 xs d):∃ s:List UInt8,xs=[.str s]∧s.length≤Rows.uptoBulk d:=by
 cases n with
 | zero=>exact h.elim
 | succ n=>
  unfold cJ at h;rw[Tryz.underlying9] at h
  obtain ⟨s,rfl,_,rfl⟩:=h
  exact ⟨s,rfl,by simp[Rows.uptoBulk]⟩
theorem AD {n N:Nat}:∀ {rows:List (List LV)} {elems:List (DataW H)},elems.length=rows.length→(∀ (i:Nat) (r:List LV) (di:DataW H),rows[i]?=some r→elems[i]?=some di→r.length=1∧cJ Tryz.prog n 9 r di)→
  Rows.uptoBulkAll elems≤N→∃ l:List (List UInt8),rows.flatten=l.map .str∧l.length=rows.length∧∀ x ∈ l,x.length≤N
 | [],_,_,_,_=>⟨[],rfl,rfl,fun _ h=>(by cases h)⟩
 | r::rows,[],h,_,_=>by simp at h
 | r::rows,d::elems,h,hr,hb=>by
  simp only[Rows.uptoBulkAll] at hb
  obtain ⟨s,rfl,hs⟩:=CX (hr 0 r d rfl rfl).2
  obtain ⟨l,h1,h2,h3⟩:=AD (n:=n) (N:=N) (rows:=rows) (elems:=elems) (by simpa using h) (fun i r di a b=>hr (i+1) r di (by simpa using a) (by simpa using b)) (by omega)
  refine ⟨s::l,by simp[h1],by simp[h2],fun x hx=>?_⟩
  rcases List.mem_cons.1 hx with rfl|hx
  ·omega
  ·exact h3 x hx
theorem Lu {n:Nat} {xs:List LV} {d:DataW H} (h:cJ Tryz.prog n 26 xs d):∃ l:List (List UInt8),xs=[sI l]∧l.length≤Rows.uptoBulk d∧∀ x ∈ l,x.length≤Rows.uptoBulk d:=by
 cases n with
 | zero=>exact h.elim
 | succ n=>
  unfold cJ at h;rw[Tryz.underlying26] at h
  obtain ⟨rows,elems,rfl,hl,hd,hr⟩:=h
  rcases hd with rfl|⟨rest,rfl⟩
  ·exact ⟨[],rfl,by simp,fun _ h=>(by cases h)⟩
  ·rw[ce9] at hr
   obtain ⟨l,h1,h2,h3⟩:=AD hl hr (Nat.le_refl _)
   have h4:=uy (l:=elems)
   refine ⟨l,by rw[h1,← h2],by simp only[Rows.uptoBulk];omega,fun x hx=>?_⟩
   have:=h3 x hx
   simp only[Rows.uptoBulk];omega
theorem ER {n N:Nat} (ih:∀ {xs:List LV} {d:DataW H},cJ Tryz.prog n 49 xs d→Rows.uptoBulk d≤N→∃ r,xs=rc r∧r.ok):∀ {rows:List (List LV)} {elems:List (DataW H)},elems.length=rows.length→
  (∀ (i:Nat) (r:List LV) (di:DataW H),rows[i]?=some r→elems[i]?=some di→r.length=7∧cJ Tryz.prog n 49 r di)→Rows.uptoBulkAll elems≤N→∃ l:List RV,rows.flatten=rcs l∧l.length=rows.length∧∀ x ∈ l,x.ok
 | [],_,_,_,_=>⟨[],rfl,rfl,fun _ h=>(by cases h)⟩
 | r::rows,[],h,_,_=>by simp at h
 | r::rows,d::elems,h,hr,hb=>by
  simp only[Rows.uptoBulkAll] at hb
  obtain ⟨s,rfl,hs⟩:=ih (hr 0 r d rfl rfl).2 (by omega)
  obtain ⟨l,h1,h2,h3⟩:=ER ih (rows:=rows) (elems:=elems) (by simpa using h) (fun i r di a b=>hr (i+1) r di (by simpa using a) (by simpa using b)) (by omega)
  refine ⟨s::l,by simp[h1,rcs],by simp[h2],fun x hx=>?_⟩
  rcases List.mem_cons.1 hx with rfl|hx
  ·exact hs
  ·exact h3 x hx
theorem uz {N:Nat} (hN:N≤big):∀ (n:Nat) {xs:List LV} {d:DataW H},cJ Tryz.prog n 49 xs d→Rows.uptoBulk d≤N→∃ r,xs=rc r∧r.ok
 | 0,_,_,h,_=>h.elim
 | n+1,xs,d,h,hb=>by
  unfold cJ at h;rw[Tryz.underlying49] at h
  obtain ⟨hlen,parts,rfl,hp,hf⟩:=h
  rw[QA] at hlen
  simp only[Rows.uptoBulk] at hb
  obtain ⟨x0,x1,x2,x3,x4,x5,x6,rfl⟩:∃ x0 x1 x2 x3 x4 x5 x6,xs=[x0,x1,x2,x3,x4,x5,x6]:=by
   match xs,hlen with
   | [x0,x1,x2,x3,x4,x5,x6],_=>exact ⟨x0,x1,x2,x3,x4,x5,x6,rfl⟩
  obtain ⟨p0,p1,p2,p3,p4,p5,p6,rfl⟩:∃ x0 x1 x2 x3 x4 x5 x6,parts=[x0,x1,x2,x3,x4,x5,x6]:=by
   match parts,hp with
   | [x0,x1,x2,x3,x4,x5,x6],_=>exact ⟨x0,x1,x2,x3,x4,x5,x6,rfl⟩
  simp only[Rows.uptoBulkAll] at hb
  have f0:cJ Tryz.prog n 3 (([x0,x1,x2,x3,x4,x5,x6].drop 0).take (Tryz.prog.cellsOf 3)) p0:=hf 0 _ _ rfl rfl
  have f1:cJ Tryz.prog n 4 (([x0,x1,x2,x3,x4,x5,x6].drop 1).take (Tryz.prog.cellsOf 4)) p1:=hf 1 _ _ rfl rfl
  have f2:cJ Tryz.prog n 3 (([x0,x1,x2,x3,x4,x5,x6].drop 2).take (Tryz.prog.cellsOf 3)) p2:=hf 2 _ _ rfl rfl
  have f3:cJ Tryz.prog n 3 (([x0,x1,x2,x3,x4,x5,x6].drop 3).take (Tryz.prog.cellsOf 3)) p3:=hf 3 _ _ rfl rfl
  have f4:cJ Tryz.prog n 9 (([x0,x1,x2,x3,x4,x5,x6].drop 4).take (Tryz.prog.cellsOf 9)) p4:=hf 4 _ _ rfl rfl
  have f5:cJ Tryz.prog n 47 (([x0,x1,x2,x3,x4,x5,x6].drop 5).take (Tryz.prog.cellsOf 47)) p5:=hf 5 _ _ rfl rfl
  have f6:cJ Tryz.prog n 26 (([x0,x1,x2,x3,x4,x5,x6].drop 6).take (Tryz.prog.cellsOf 26)) p6:=hf 6 _ _ rfl rfl
  rw[ce3] at f0 f2 f3
  rw[ce4] at f1
  rw[ce9] at f4
  rw[RC] at f5
  rw[RD] at f6
  simp only[List.drop_zero,List.drop_succ_cons,List.take_succ_cons,List.take_zero] at f0 f1 f2 f3 f4 f5 f6
  obtain ⟨k,e0,k0⟩:=CW f0
  obtain ⟨b,e1⟩:=Ls f1
  obtain ⟨a,e2,k2⟩:=CW f2
  obtain ⟨m,e3,k3⟩:=CW f3
  obtain ⟨s,e4,k4⟩:=CX f4
  obtain ⟨ks,e6,k6,k7⟩:=Lu f6
  cases n with
  | zero=>exact f0.elim
  | succ n=>
   unfold cJ at f5;rw[Tryz.underlying47] at f5
   obtain ⟨rows,elems,e5,hl,hd,hr⟩:=f5
   rw[QA] at hr
   obtain ⟨l,h1,h2,h3⟩:∃ l:List RV,rows.flatten=rcs l∧l.length=rows.length∧(∀ x ∈ l,x.ok)∧l.length≤N:=by
    rcases hd with rfl|⟨rest,rfl⟩
    ·exact ⟨[],rfl,rfl,(fun _ h=>by cases h),by simp⟩
    ·simp only[Rows.uptoBulk] at hb
     obtain ⟨l,g1,g2,g3⟩:=ER (n:=n) (N:=N) (fun a b=>uz hN n a b) hl hr (by omega)
     have:=uy (l:=elems)
     exact ⟨l,g1,g2,g3,by omega⟩
   simp only[List.cons.injEq,and_true] at e0 e1 e2 e3 e4 e5 e6
   subst e0 e1 e2 e3 e4 e5 e6
   refine ⟨.mk k b a m s l ks,by rw[rc,← h1,← h2],⟨k0,k2,k3⟩,by omega,by omega,⟨by omega,fun x hx=>by have:=k7 x hx;omega⟩,RV.kL.2 h3.1⟩
end
theorem JE {es:List (List UInt8 × T)} {k:List UInt8} {t:T} {q:List UInt8 × T→Prop} (h:∀ e ∈ es,q e) (hk:q (k,t)):∀ e ∈ ins es k t,q e:=by
 unfold ins
 split
 ·exact h
 ·intro e he
  rcases List.mem_append.1 he with he|he
  ·exact h e (List.mem_of_mem_take he)
  ·rcases List.mem_cons.1 he with rfl|he
   ·exact hk
   ·exact h e (List.mem_of_mem_drop he)
theorem JF {es:List (List UInt8 × T)} {k:List UInt8} {t:T} (h:(es.map (·.1)).Pairwise ltB):((ins es k t).map (·.1)).Pairwise ltB:=by
 unfold ins
 split
 ·exact h
 rename_i hne
 have hsp:es=es.take (pos es k)++es.drop (pos es k):=(List.take_append_drop _ _).symm
 rw[List.map_append,List.map_cons,List.pairwise_append]
 rw[hsp,List.map_append,List.pairwise_append] at h
 obtain ⟨h1,h2,h3⟩:=h
 have lo:∀ a ∈ (es.take (pos es k)).map (·.1),ltB a k:=by
  intro a ha
  obtain ⟨e,he,rfl⟩:=List.mem_map.1 ha
  obtain ⟨j,hj⟩:=List.getElem?_of_mem he
  rw[List.getElem?_take] at hj
  split at hj
  ·rename_i hlt
   exact jF (q:=fun e:List UInt8 × T=>Op.bytesLess e.1 k) hlt hj
  ·cases hj
 have hi:∀ a ∈ (es.drop (pos es k)).map (·.1),ltB k a:=by
  intro a ha
  cases hd:es.drop (pos es k) with
  | nil=>rw[hd] at ha;simp at ha
  | cons e rest=>
   have he:es[pos es k]?=some e:=by
    have:(es.drop (pos es k))[0]?=some e:=by rw[hd];rfl
    rw[List.getElem?_drop] at this;simpa using this
   have hs:Op.bytesLess e.1 k=false:=je (q:=fun e:List UInt8 × T=>Op.bytesLess e.1 k) he
   have hke:ltB k e.1:=by
    rcases hb:Op.bytesLess k e.1 with _|_
    ·exact absurd (by rw[he];exact congrArg some (tJ hs hb)) hne
    ·exact hb
   rw[hd] at ha h2
   simp only[List.map_cons,List.mem_cons] at ha
   rcases ha with rfl|ha
   ·exact hke
   ·simp only[List.map_cons,List.pairwise_cons] at h2
    exact jS hke (h2.1 a ha)
 refine ⟨h1,List.pairwise_cons.2 ⟨hi,h2⟩,fun a ha b hb=>?_⟩
 rcases List.mem_cons.1 hb with rfl|hb
 ·exact lo a ha
 ·exact h3 a ha b hb
theorem Gk {l:List (List UInt8 × T)} {q:List UInt8 × T→Prop} (h:∀ e ∈ l,q e):(∀ e ∈ fZ l,q e)∧((fZ l).map (·.1)).Pairwise ltB:=by
 have go:∀ (l es:List (List UInt8 × T)),(∀ e ∈ l,q e)→(∀ e ∈ es,q e)→(es.map (·.1)).Pairwise ltB→(∀ e ∈ l.foldl (fun es e=>ins es e.1 e.2) es,q e)∧((l.foldl (fun es e=>ins es e.1 e.2) es).map (·.1)).Pairwise ltB:=by
  intro l
  induction l with
  | nil=>intro es _ h2 h3;exact ⟨h2,h3⟩
  | cons e l ih=>
   intro es h1 h2 h3
   exact ih _ (fun x hx=>h1 x (List.mem_cons_of_mem _ hx)) (JE h2 (h1 e (by simp))) (JF h3)
 exact go l [] h (by simp) (by simp)
theorem AE {x:Int} : -9007199254740992≤uc x∧uc x≤9007199254740992:=by
 unfold uc;omega
theorem JG:∀ {r:RV},r.ok→(cln r).ok:=fun {r}=>by
 refine RV.ind (p:=fun r=>r.ok→(cln r).ok) ?_ _ r (Nat.lt_succ_self _)
 intro r ih hr
 have hl:=RV.xF hr
 have hk:=RV.Qg hr
 have hn : -9223372036854775808≤r.n∧r.n<9223372036854775808:=by cases r;exact hr.1.2.1
 have hs:r.s.length≤big:=by cases r;exact hr.2.1
 rw[Iu]
 split
 ·trivial
 split
 ·trivial
 split
 ·exact hn
 split
 ·exact ⟨AE,AE⟩
 split
 ·exact hs
 split
 ·refine ⟨by simpa using hl.1,T.kL.2 fun t ht=>?_⟩
  obtain ⟨x,hx,rfl⟩:=List.mem_map.1 ht
  exact ih x hx (hl.2 x hx)
 split
 ·have h:=Gk (l:=r.ks.zip (r.l.map cln)) (q:=fun e=>e.1.length≤big∧e.2.ok) (by
   intro e he
   obtain ⟨k,t⟩:=e
   have h1:=(List.of_mem_zip he).1
   have h2:=(List.of_mem_zip he).2
   obtain ⟨x,hx,rfl⟩:=List.mem_map.1 h2
   exact ⟨hk.2 k h1,ih x hx (hl.2 x hx)⟩)
  refine ⟨?_,T.oT.2 h.1,h.2⟩
  have:=ud (l:=r.ks.zip (r.l.map cln))
  simp at this;omega
 ·trivial
end Go.Proofs.YtknegckgmklnhaaGreatDoor
