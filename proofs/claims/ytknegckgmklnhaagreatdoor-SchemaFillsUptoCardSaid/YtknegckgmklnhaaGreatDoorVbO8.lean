/- The document's schemas: the lines' loop. -/
import Derived.Test.YtknegckgmklnhaaGreatDoorVbO3
import Derived.Test.YtknegckgmklnhaaGreatDoorProg
import Derived.Test.YtknegckgmklnhaaGreatDoorVbW
namespace Go.Proofs.YtknegckgmklnhaaGreatDoor
open Go Go.CP
set_option maxRecDepth 100000
section
variable {R:LV→aa→Prop}
theorem yl {s:Tx} (hs:s.length≤2 ^ 29) {v:Int} (res:List AT ⊕ Int × Int)
  (hK1:∀ l f st,res=.inl l→bD .rw st f 10 l.length (bCs l)→R (.tup [.agg [i64 v,osl f 10 l.length],i64 0,i64 0]) st)
  (hK2:∀ n e st,res=.inr (n,e)→R (.tup [.agg [i64 0,.nils],i64 n,i64 e]) st) :
  ∀ (d i a ln:Nat) (l:List AT) (f:Option Nat) (st:aa) (x9 x10 x11:LV),i+d=s.length→a≤i→1≤ln→ln≤i→RSt st v l f→l.length≤16→cT l ((ln+1:Nat):Int) (glue ((s.drop a).take (i-a)) (splitB 10 (s.drop i)))=res→
   P35_5 (.str s) (.ptr 0 0) (.ptr 1 0) (i64 a) (i64 ln) (i64 i) x9 x10 x11 R st:=by
 intro d
 have zag:aP (ao (az [(0,1),(1,1)]) [i64 0,LV.nils] [])=some (.agg [i64 0,.nils]):=rfl
 induction d with
 | zero=>
  intro i a ln l f st x9 x10 x11 hi ha h1 hln hr hl hp
  refine p35_5 _ _ _ _ _ _ _ _ _ ?_
  obtain ⟨y0,y1,ea⟩:=hr.a
  have c1:¬ ((i:Int)<s.length):=by omega
  have hw:=aI (show ln<2 ^ 40 by omega)
  rw[List.drop_eq_nil_of_le (by omega:s.length≤i)] at hp
  simp only[w35_5,aU,ae,aA,aH,ab,c1,decide_false,af,zag,hw,nB ea (show [i64 0,LV.nils].all LV.one=true from rfl),ay,ag]
  have e0:splitB 10 ([]:Tx)=[[]]:=rfl
  rw[e0] at hp
  simp only[glue,List.append_nil,cT] at hp
  by_cases hlt:a<s.length
  ·have c2:((a:Int)<s.length):=by omega
   have hne:(s.drop a).take (i-a)≠[]:=by
    intro e
    have:=congrArg List.length e
    simp at this;omega
   rw[if_neg hne] at hp
   have g:ldA (st.set 0 (.cells .rw [i64 0,.nils])) (.ptr 0 0) 2=some (.agg [i64 0,.nils]):=by rw[cA (bu ea) (by simp)];rfl
   simp only[c2,decide_true,ai,g,ab]
   exact hK2 _ _ _ hp.symm
  ·have c2:¬ ((a:Int)<s.length):=by omega
   have he:(s.drop a).take (i-a)=[]:=by rw[List.drop_eq_nil_of_le (by omega),List.take_nil]
   rw[if_pos he] at hp
   have c3:((ln:Int)==0)=false:=by
    rw[Bool.eq_false_iff];intro h;rw[beq_iff_eq] at h;omega
   have g:ldA st (.ptr 1 0) 2=some (.agg [i64 v,osl f 10 l.length]):=by rw[cA hr.b (by simp)];rfl
   have hone:[i64 v,osl f 10 l.length].all LV.one=true:=by cases f<;>rfl
   have g2:ldA (st.set 0 (.cells .rw [i64 v,osl f 10 l.length])) (.ptr 0 0) 2=some (.agg [i64 v,osl f 10 l.length]):=by rw[cA (bu ea) (by simp)];rfl
   simp only[c2,decide_false,af,aR,c3,g,ab,nB ea hone,ay,ag,g2]
   have fr:Fr st (st.set 0 (.cells .rw [i64 v,osl f 10 l.length])) (fun j=>j=0):=Fr.set rfl
   exact hK1 l f _ hp.symm (hr.o.fr fr fun o e e'=>by have:=hr.n o e;omega)
 | succ d ih=>
  intro i a ln l f st x9 x10 x11 hi ha h1 hln hr hl hp
  refine p35_5 _ _ _ _ _ _ _ _ _ ?_
  have hlt:i<s.length:=by omega
  have c1:((i:Int)<s.length):=by omega
  have hw1:=aI (show i<2 ^ 40 by omega)
  have hw:=aI (show ln<2 ^ 40 by omega)
  have hx:s[i]?=some s[i]:=List.getElem?_eq_getElem hlt
  have hdr:s.drop i=s[i]::s.drop (i+1):=List.drop_eq_getElem_cons hlt
  have htk:(s.drop a).take (i+1-a)=(s.drop a).take (i-a)++[s[i]]:=by
   rw[show i+1-a=(i-a)+1 by omega,List.take_add_one,List.getElem?_drop,show a+(i-a)=i by omega,hx];rfl
  generalize s[i]=c at hx hdr htk
  rw[hdr] at hp
  have e10:((c.toNat:Int) != 10)=decide (c≠10):=by
   by_cases h:c=10
   ·subst h;rfl
   ·have:¬ c.toNat=10:=fun e=>h (UInt8.toNat_inj.1 e)
    simp only[h,ne_eq,not_false_eq_true,decide_true,bne_iff_ne];omega
  have cl1:(((ln+1:Nat):Int)==1)=false:=by
   rw[Bool.eq_false_iff];intro h;rw[beq_iff_eq] at h;omega
  have hwl:((s.drop a).take (i-a)).length≤2 ^ 29:=by simp;omega
  simp only[w35_5,aU,ae,aA,ab,c1,decide_true,ai,cF hx,bE,e10,aL]
  refine ⟨fun h=>?_,fun h=>?_⟩
  ·simp only[aH,ab,hw1]
   refine ih (i+1) a ln l f st _ _ _ (by omega) (by omega) h1 (by omega) hr hl ?_
   rw[htk,← oC h];exact hp
  ·have h10:c=10:=Classical.byContradiction h
   subst h10
   rw[cJ,if_pos rfl] at hp
   simp only[glue,List.append_nil] at hp
   simp only[dQ ha (show i≤s.length by omega),aH,hw1,hw,ab,ae,aR,cl1,af]
   generalize hown:(s.drop a).take (i-a)=own at hp hwl
   obtain ⟨q,r,hqr⟩:∃ q r,splitB 10 (s.drop (i+1))=q::r:=by
    cases hq:splitB 10 (s.drop (i+1)) with
    | nil=>exact absurd hq cr
    | cons q r=>exact ⟨q,r,rfl⟩
   rw[hqr] at hp
   simp only[cT] at hp
   refine (CV hwl).call fun w hq=>?_
   have put:∀ cs:List LV,cs.length=10→cs.all LV.one=true→stV (st++[av.cells .rw [LV.str [],LV.str [],i64 0,LV.nils,LV.nils,LV.nils,LV.bool false,LV.bool false,LV.bool false,LV.bool false]]) 10 (.ptr st.length 0) (.agg cs)=some (st++[.cells .rw cs]):=fun cs h1 h2=>by
    rw[EP au rfl h1 h2];simp
   obtain ⟨y0,y1,ea⟩:=hr.a
   have er:∀ (S:aa) (e:Int),S[0]?=some (.cells .rw [y0,y1])→res=.inr (((ln+1:Nat):Int),e)→(bd (aP (ao (az [(0,1),(1,1)]) [i64 0,LV.nils] [])) fun v18=>bd2 (lmk (stV S 2 (LV.ptr 0 0) v18)) fun _v19 st20=>bd (ldA st20 (LV.ptr 0 0) 2) fun v21=>R (LV.tup [v21,i64 ((ln+1:Nat):Int),i64 e]) st20):=by
    intro S e hS hres
    rw[zag,ab,nB hS rfl]
    simp only[ay,ag]
    rw[cA (bu hS) (by simp)]
    exact hK2 _ _ _ hres
   cases hpa:eu own with
   | none=>
    rw[hpa] at hp
    unfold BtQ at hq
    rw[hpa] at hq
    obtain ⟨cs,rfl,q1,q2,q3⟩:=hq
    simp only[ax,List.getElem?_cons_zero,List.getElem?_cons_succ,ab,bV,put cs q1 q3,ay,ag,bx,Bool.not_false,ai]
    exact er _ 4 (jF ea) hp.symm
   | some at1=>
    rw[hpa] at hp
    unfold BtQ at hq
    rw[hpa] at hq
    simp only at hq hp
    subst hq
    have hS:=hr.app (y:=.cells .rw (bC at1))
    have gl:ld1 (st++[av.cells .rw (bC at1)]) (.ptr 1 1)=some (osl f 10 l.length):=by rw[aZ hS.b];rfl
    have gn:ld1 (st++[av.cells .rw (bC at1)]) (.ptr st.length 0)=some (.str at1.nm):=by rw[aZ au];rfl
    have g6:ld1 (st++[av.cells .rw (bC at1)]) (.ptr st.length 6)=some (.bool at1.must):=by rw[aZ au];unfold bC;rw[mj];rfl
    have g7:ld1 (st++[av.cells .rw (bC at1)]) (.ptr st.length 7)=some (.bool at1.own):=by rw[aZ au];unfold bC;rw[mj];rfl
    have gA:ldA (st++[av.cells .rw (bC at1)]) (.ptr st.length 0) 10=some (.agg (bC at1)):=G7 au rq
    have hnm:at1.nm.length<2 ^ 40:=by have:=wk hpa;omega
    have k16:((l.length:Int)==16)=decide (l.length=16):=by by_cases h:l.length=16<;>simp[h];omega
    simp only[ax,List.getElem?_cons_zero,List.getElem?_cons_succ,ab,bV,put _ rq C3,ay,ag,bx,Bool.not_true,af,ar,Nat.zero_add,gl,hr.o.bq,ae,aR,k16,aL]
    have hmw:fy l at1=if l.length=16 then 3 else gU (fx l) at1:=rfl
    refine ⟨fun h=>?_,fun h=>?_⟩
    ·rw[hmw,if_pos h,if_neg (by decide)] at hp
     exact er _ 3 (jF ea) hp.symm
    ·rw[hmw,if_neg h] at hp
     rw[gn,ab]
     refine (D8 hnm).call ?_
     have ef:ao (fun i=>some (i*10,10)) (List.replicate 1 [LV.str [],LV.str [],i64 0,LV.nils,LV.nils,LV.nils,LV.bool false,LV.bool false,LV.bool false,LV.bool false]).flatten [(0,.agg (bC at1))]=some (bC at1):=by unfold bC;rw[mj];rfl
     obtain ⟨st2,f2,m1,st3,m2,m3⟩:=(hr.app (y:=.cells .rw (bC at1))).more (a:=at1) hl
     simp only[bx,ab,gl,gn,g6,g7,gA,ef,bw,ag,m1,cy,cO]
     have err:∀ e:Int,e≠0→gU (fx l) at1=e→(bd (aP (ao (az [(0,1),(1,1)]) [i64 0,LV.nils] [])) fun v18=>bd2 (lmk (stV (st++[av.cells .rw (bC at1)]) 2 (LV.ptr 0 0) v18)) fun _v19 st20=>bd (ldA st20 (LV.ptr 0 0) 2) fun v21=>R (LV.tup [v21,i64 ((ln+1:Nat):Int),i64 e]) st20):=by
      intro e he hW
      rw[hW,if_neg he] at hp
      exact er _ e (jF ea) hp.symm
     have app:gU (fx l) at1=0→bd2 (lmk (stV st2 1 (LV.ptr 1 1) (osl f2 10 (l.length+1)))) fun _v83 st84=>P35_5 (LV.str s) (LV.ptr 0 0) (LV.ptr 1 0) (i64 ((i+1:Nat):Int)) (i64 ((ln+1:Nat):Int)) (i64 ((i+1:Nat):Int)) (LV.str own) x10 x11 R st84:=by
      intro hW
      rw[hW,if_pos rfl] at hp
      rw[m2]
      simp only[ay,ag]
      refine ih (i+1) (i+1) (ln+1) (l++[at1]) f2 st3 _ _ _ (by omega) (Nat.le_refl _) (by omega) (by omega) m3 (by simp;omega) ?_
      rw[Nat.sub_self,List.take_zero,kF cr,hqr]
      exact hp
     have tail:(gU (fx l) at1=if at1.must&&at1.own then 1 else 0)→aq (LV.bool at1.must) (aq (LV.bool at1.own) (bd (aP (ao (az [(0,1),(1,1)]) [i64 0,LV.nils] [])) fun v18=>bd2 (lmk (stV (st++[av.cells .rw (bC at1)]) 2 (LV.ptr 0 0) v18)) fun _v19 st20=>bd (ldA st20 (LV.ptr 0 0) 2) fun v21=>R (LV.tup [v21,i64 ((ln+1:Nat):Int),i64 1]) st20) (bd2 (lmk (stV st2 1 (LV.ptr 1 1) (osl f2 10 (l.length+1)))) fun _v83 st84=>P35_5 (LV.str s) (LV.ptr 0 0) (LV.ptr 1 0) (i64 ((i+1:Nat):Int)) (i64 ((ln+1:Nat):Int)) (i64 ((i+1:Nat):Int)) (LV.str own) x10 x11 R st84)) (bd2 (lmk (stV st2 1 (LV.ptr 1 1) (osl f2 10 (l.length+1)))) fun _v83 st84=>P35_5 (LV.str s) (LV.ptr 0 0) (LV.ptr 1 0) (i64 ((i+1:Nat):Int)) (i64 ((ln+1:Nat):Int)) (i64 ((i+1:Nat):Int)) (LV.str own) x10 x11 R st84):=by
      intro hW
      cases hm:at1.must<;>cases ho:at1.own<;>rw[hm,ho] at hW<;>first|exact app hW|exact err 1 (by decide) hW
     have hW0:gU (fx l) at1=if named at1.nm=false then 7 else if at1.nm=fx l then 9 else if Op.bytesLess at1.nm (fx l)=true then 4 else if at1.must&&at1.own then 1 else 0:=rfl
     cases hnam:named at1.nm with
     | false=>
      rw[hnam,if_pos rfl] at hW0
      exact err 7 (by decide) hW0
     | true=>
      rw[hnam,if_neg (by simp)] at hW0
      rw[Bool.not_true,af]
      cases hg:l.getLast? with
      | none=>
       have hl0:fx l=[]:=by unfold fx;rw[hg]
       rw[List.getLast?_eq_none_iff] at hg
       have hz:l.length=0:=by rw[hg];rfl
       rw[hl0,if_neg (Cv hnam),if_neg (by cases at1.nm<;>simp[Op.bytesLess])] at hW0
       have c0:decide ((l.length:Int) > 0)=false:=by rw[hz];rfl
       rw[c0,af,af]
       exact tail (by rw[hl0];exact hW0)
      | some b=>
       have hl0:fx l=b.nm:=by unfold fx;rw[hg]
       have hpos:0<l.length:=by cases l with
        | nil=>simp at hg
        | cons x y=>simp
       have c0:decide ((l.length:Int) > 0)=true:=decide_eq_true (by omega)
       have hwr:IntKind.i64.wrap ((l.length:Int)-1)=((l.length-1:Nat):Int):=by rw[wrap_i64 (by omega) (by omega)];omega
       obtain ⟨o,hfo,hix⟩:=hr.o.ix (i:=((l.length-1:Nat):Int)) (kk:=.i64) (by omega) (by omega)
       have hld:ld1 (st++[av.cells .rw (bC at1)]) (.ptr o ((l.length-1)*10))=some (.str b.nm):=by
        have hso:=hS.o
        rw[hfo] at hso
        exact hso.ld (C4 hg)
       rw[Int.toNat_natCast] at hix
       rw[hl0] at hW0
       have hnx:(at1.nm==b.nm)=decide (at1.nm=b.nm):=by by_cases h:at1.nm=b.nm<;>simp[h]
       rw[c0,ai,ai,hwr,hix]
       simp only[ab,ar,Nat.add_zero,hld,bW,cZ,ni,hnx]
       rw[aL]
       refine ⟨fun h=>?_,fun h=>?_⟩
       ·rw[if_pos h] at hW0
        exact err 9 (by decide) (by rw[hl0];exact hW0)
       ·rw[if_neg h] at hW0
        cases hb:Op.bytesLess at1.nm b.nm with
        | true=>
         rw[hb,if_pos rfl] at hW0
         exact err 4 (by decide) (by rw[hl0];exact hW0)
        | false=>
         rw[hb,if_neg (by simp)] at hW0
         exact tail (by rw[hl0];exact hW0)
end
def bS (v:Int) (l:List AT):LV:=.agg [i64 v,.isl (bCs l) l.length none]
def bZ:LV:=.agg [i64 0,.nils]
def wv (s:Tx) (w:LV):Prop:=match splitB 10 s with
 | p::q::r=>(∃ n:Nat,n≤1000∧p=cb++Lib.decDigits n∧(match cT [] 2 (q::r) with
   | .inl l=>w=.tup [bS n l,i64 0,i64 0]
   | .inr (k,e)=>w=.tup [bZ,i64 k,i64 e]))∨((∀ n,n≤1000→p≠cb++Lib.decDigits n)∧∃ e:Int,e≠0∧w=.tup [bZ,i64 1,i64 e])
 | _=>w=.tup [bZ,i64 1,i64 4]
theorem C5 {v:Int} {l:List AT}:(bS v l).plain=true:=by unfold bS;simp only[LV.plain,LV.aB,oD];rfl
theorem dpq {Q:LV→Prop} {st:aa} {k e:Int} (h:Q (.tup [bZ,i64 k,i64 e])):Dp Q (.tup [.agg [i64 0,.nils],i64 k,i64 e]) st:=⟨_,bp (v:=.tup [bZ,i64 k,i64 e]) _ rfl,rfl,h⟩
theorem ym {s:Tx} (hs:s.length≤2 ^ 29):∀ (d i:Nat) (x9 x10 x11:LV),i+d=s.length→splitB 10 s=glue (s.take i) (splitB 10 (s.drop i))→
  P35_5 (.str s) (.ptr 0 0) (.ptr 1 0) (i64 (0:Nat)) (i64 (0:Nat)) (i64 i) x9 x10 x11 (Dp (wv s)) [A35,A35]:=by
 intro d
 have zag:aP (ao (az [(0,1),(1,1)]) [i64 0,LV.nils] [])=some (.agg [i64 0,.nils]):=rfl
 have pz:stV [A35,A35] 2 (.ptr 0 0) (.agg [i64 0,.nils])=some [A35,A35]:=rfl
 have gz:ldA [A35,A35] (.ptr 0 0) 2=some (.agg [i64 0,.nils]):=rfl
 induction d with
 | zero=>
  intro i x9 x10 x11 hi hsp
  refine p35_5 _ _ _ _ _ _ _ _ _ ?_
  have c1:¬ ((i:Int)<s.length):=by omega
  rw[List.drop_eq_nil_of_le (by omega:s.length≤i)] at hsp
  have hq:wv s (.tup [bZ,i64 1,i64 4]):=by
   unfold wv
   rw[hsp];rfl
  simp only[w35_5,aU,ae,aA,ab,c1,decide_false,af,zag,aL]
  refine ⟨fun _=>?_,fun _=>?_⟩
  ·exact dpq hq
  ·exact dpq hq
 | succ d ih=>
  intro i x9 x10 x11 hi hsp
  refine p35_5 _ _ _ _ _ _ _ _ _ ?_
  have hlt:i<s.length:=by omega
  have c1:((i:Int)<s.length):=by omega
  have hw1:=aI (show i<2 ^ 40 by omega)
  have hx:s[i]?=some s[i]:=List.getElem?_eq_getElem hlt
  have hdr:s.drop i=s[i]::s.drop (i+1):=List.drop_eq_getElem_cons hlt
  have htk:s.take (i+1)=s.take i++[s[i]]:=by rw[List.take_add_one,hx];rfl
  generalize s[i]=c at hx hdr htk
  rw[hdr] at hsp
  have e10:((c.toNat:Int) != 10)=decide (c≠10):=by
   by_cases h:c=10
   ·subst h;rfl
   ·have:¬ c.toNat=10:=fun e=>h (UInt8.toNat_inj.1 e)
    simp only[h,ne_eq,not_false_eq_true,decide_true,bne_iff_ne];omega
  have hw0:IntKind.i64.wrap (((0:Nat):Int)+1)=((1:Nat):Int):=rfl
  have c11:(((1:Nat):Int)==1)=true:=rfl
  simp only[w35_5,aU,ae,aA,ab,c1,decide_true,ai,cF hx,bE,e10,aL]
  refine ⟨fun h=>?_,fun h=>?_⟩
  ·simp only[aH,ab,hw1]
   refine ih (i+1) _ _ _ (by omega) ?_
   rw[htk,← oC h];exact hsp
  ·have h10:c=10:=Classical.byContradiction h
   subst h10
   rw[cJ,if_pos rfl] at hsp
   simp only[glue,List.append_nil] at hsp
   have ps:=dQ (s:=s) (Nat.zero_le i) (show i≤s.length by omega)
   rw[List.drop_zero,Nat.sub_zero] at ps
   rw[ps]
   simp only[aH,hw1,hw0,ab,ae,aR,c11,ai]
   obtain ⟨q,r,hqr⟩:∃ q r,splitB 10 (s.drop (i+1))=q::r:=by
    cases hq:splitB 10 (s.drop (i+1)) with
    | nil=>exact absurd hq cr
    | cons q r=>exact ⟨q,r,rfl⟩
   rw[hqr] at hsp
   have hQ:∀ w,((∃ n:Nat,n≤1000∧s.take i=cb++Lib.decDigits n∧(match cT [] 2 (q::r) with
     | .inl l=>w=.tup [bS n l,i64 0,i64 0]
     | .inr (k,e)=>w=.tup [bZ,i64 k,i64 e]))∨((∀ n,n≤1000→s.take i≠cb++Lib.decDigits n)∧∃ e:Int,e≠0∧w=.tup [bZ,i64 1,i64 e]))→wv s w:=by
    intro w h
    unfold wv
    rw[hsp]
    exact h
   refine C1 (x7:=i64 (1:Nat)) (i:=i) (by simp;omega) (by omega) (fun n k hn hp=>?_) (fun hn e he=>?_) 1001 0 (by omega) (fun n h=>by omega)
   ·refine yl hs (v:=n) (cT [] 2 (q::r)) (fun l f st hres ho=>?_) (fun k e st hres=>?_) (s.length-(i+1)) (i+1) (i+1) 1 [] none _ _ _ _ (by omega) (Nat.le_refl _) (Nat.le_refl _) (by omega) ⟨⟨_,_,rfl⟩,rfl,bD.nil,fun _ h=>by cases h⟩ (by simp) ?_
    ·refine ⟨.tup [bS n l,i64 0,i64 0],⟨_,rfl,_,_,rfl,⟨_,rfl,_,_,rfl,rfl,_,_,rfl,dM ho rfl (bz _ oD),rfl⟩,_,_,rfl,rfl,_,_,rfl,rfl,rfl⟩,by simp only[LV.plain,LV.aB,C5];rfl,hQ _ (.inl ⟨n,hn,hp,by rw[hres]⟩)⟩
    ·exact dpq (hQ _ (.inl ⟨n,hn,hp,by rw[hres]⟩))
    ·rw[Nat.sub_self,List.take_zero,kF cr,hqr];rfl
   ·exact dpq (hQ _ (.inr ⟨hn,e,he,rfl⟩))
theorem AK {s:Tx} (hs:s.length≤2 ^ 29):Pb Tryz.prog 35 [.str s] (wv s):=by
 refine Pb.of (c35 _ ?_) rfl
 show P35_5 (.str s) (.ptr 0 0) (.ptr 1 0) (i64 (0:Nat)) (i64 (0:Nat)) (i64 (0:Nat)) _ _ _ _ [A35,A35]
 refine ym hs s.length 0 _ _ _ (by omega) ?_
 rw[List.take_zero,List.drop_zero,kF cr]
theorem oE:∀ {ps:List Tx} {l:List AT} {n k e:Int},cT l n ps=.inr (k,e)→e≠0
 | [],l,n,k,e,h=>by simp[cT] at h
 | [p],l,n,k,e,h=>by
  simp only[cT] at h
  split at h
  ·cases h
  ·simp only[Sum.inr.injEq,Prod.mk.injEq] at h;omega
 | p::q::r,l,n,k,e,h=>by
  simp only[cT] at h
  split at h
  ·simp only[Sum.inr.injEq,Prod.mk.injEq] at h;omega
  ·split at h
   ·exact oE h
   ·rename_i hm
    simp only[Sum.inr.injEq,Prod.mk.injEq] at h
    rw[← h.2];exact hm
theorem yn {s:Tx} {w:LV} (h:wv s w):∃ x y k e,w=.tup [.agg [x,y],i64 k,i64 e]∧[x,y].all LV.one=true∧(e=0→∃ n p q r l,splitB 10 s=p::q::r∧cT [] 2 (q::r)=.inl l∧LV.agg [x,y]=bS n l∧p=cb++Lib.decDigits n.toNat∧n.toNat≤1000∧0≤n):=by
 unfold wv at h
 split at h
 ·rename_i p q r hsp
  rcases h with ⟨n,hn,hp,hm⟩ | ⟨_,e,he,rfl⟩
  ·split at hm
   ·rename_i l hl
    exact ⟨_,_,0,0,hm,rfl,fun _=>⟨(n:Int),p,q,r,l,hsp,hl,rfl,by simpa using hp,by simpa using hn,by omega⟩⟩
   ·rename_i k e hl
    exact ⟨_,_,k,e,hm,rfl,fun h=>absurd h (oE hl)⟩
  ·exact ⟨_,_,1,e,rfl,rfl,fun h=>absurd h he⟩
 ·exact ⟨_,_,1,4,h,rfl,fun h=>by cases h⟩
section
variable {st st':aa} {R:LV→aa→Prop}
theorem Hg (g:GlS st) {s:Tx} (h1:∀ st' x y,[x,y].all LV.one=true→Fr st st' (fun _=>False)→R (.tup [.nilp,.agg [x,y],i64 1]) st') (h2:∀ st' S n,ez s=.inl S→Fr st st' (fun _=>False)→s.length≤600→R (.tup [sV S,bS n S.l,i64 0]) st'):aw Tryz.prog 26 [.str s] st R:=by
 refine c26 _ ?_
 have zag:aP (ao (az [(0,1),(1,1)]) [i64 0,LV.nils] [])=some (.agg [i64 0,.nils]):=rfl
 have f0:Fr st (st++[av.cells .rw [i64 0,LV.nils]]) (fun _=>False):=Fr.app
 have b0:(st++[av.cells .rw [i64 0,LV.nils]])[st.length]?=some (.cells .rw [i64 0,LV.nils]):=au
 have setF:∀ (S:aa) (y:av),Fr st S (fun _=>False)→Fr st (S.set st.length y) (fun _=>False):=fun S y h=>⟨by have:=h.len;simp;omega,fun j hj hn=>by rw[bj (by omega)];exact h.same j hj hn⟩
 have ld2:∀ (S:aa) (o:Nat) (x y:LV),S[o]?=some (.cells .rw [x,y])→ldA S (.ptr o 0) 2=some (.agg [x,y]):=fun S o x y h=>by rw[cA h (by simp)];rfl
 simp only[w26,bV,aU,ae,cy,ab,aL]
 refine ⟨fun _=>?_,fun hl=>?_⟩
 ·rw[zag,ab,nB b0 rfl]
  simp only[ay,ag]
  rw[ld2 _ _ _ _ (bu b0),ab]
  exact h1 _ _ _ rfl (setF _ _ f0)
 ·have hl':s.length≤600:=by omega
  refine (AK (s:=s) (by omega)).call fun w hw=>?_
  obtain ⟨x,y,k,e,rfl,hone,hgood⟩:=yn hw
  simp only[ax,List.getElem?_cons_zero,List.getElem?_cons_succ,ab]
  generalize hS0:st++[av.cells .rw [i64 0,LV.nils]]=S0 at b0 f0
  have pS:stV (S0++[av.cells .rw [i64 0,LV.nils]]) 2 (.ptr S0.length 0) (.agg [x,y])=some (S0++[.cells .rw [x,y]]):=by
   rw[nB au hone];simp
  have f1:Fr st (S0++[av.cells .rw [x,y]]) (fun _=>False):=f0.trans Fr.app fun _ _ h=>h
  have b1:(S0++[av.cells .rw [x,y]])[st.length]?=some (.cells .rw [i64 0,LV.nils]):=by rw[List.getElem?_append_left (bK b0)];exact b0
  have m1:=ld2 (S0++[av.cells .rw [x,y]]) S0.length x y au
  rw[pS]
  simp only[ay,ag]
  have g1:GlS (S0++[av.cells .rw [x,y]]):=g.fr f1 id id id
  have ne0:∀ z:Int,(z != 0)=decide (z≠0):=fun z=>by by_cases h:z=0<;>simp[h]
  have bad:(bd (ldA (S0++[av.cells .rw [x,y]]) (.ptr S0.length 0) 2) fun v23=>bd2 (lmk (stV (S0++[av.cells .rw [x,y]]) 2 (.ptr st.length 0) v23)) fun _v24 st25=>bd (ldA st25 (.ptr st.length 0) 2) fun v26=>R (LV.tup [LV.nilp,v26,i64 1]) st25):=by
   rw[m1,ab,nB b1 hone]
   simp only[ay,ag]
   rw[ld2 _ _ _ _ (bu b1),ab]
   exact h1 _ _ _ hone (setF _ _ f1)
  refine wm g1 (by omega) (fun S hS=>?_) fun n e' hS=>?_
  ·simp only[ax,List.getElem?_cons_zero,List.getElem?_cons_succ,ab,ae,bE,ne0,aL]
   refine ⟨fun _=>bad,fun he=>⟨fun h=>absurd rfl h,fun _=>?_⟩⟩
   have he0:e=0:=Classical.byContradiction he
   obtain ⟨n,p,q,r,l,hsp,hpl,hb,_⟩:=hgood he0
   have hSl:S.l=l:=by
    unfold ez at hS
    rw[hsp] at hS
    simp only at hS
    split at hS
    ·cases hS
    ·split at hS
     ·cases hS
     ·rw[hpl] at hS
      simp only[Sum.inl.injEq] at hS
      rw[← hS]
   rw[m1,ab,nB b1 hone]
   simp only[ay,ag]
   rw[ld2 _ _ _ _ (bu b1),ab,hb,← hSl]
   exact h2 _ S n hS (setF _ _ f1) hl'
  ·simp only[ax,List.getElem?_cons_zero,List.getElem?_cons_succ,ab,ae,bE,ne0,aL]
   refine ⟨fun _=>bad,fun _=>⟨fun _=>bad,fun h=>?_⟩⟩
   exfalso
   refine h ?_
   unfold ez at hS
   split at hS
   ·split at hS
    ·simp only[Sum.inr.injEq,Prod.mk.injEq] at hS;omega
    ·split at hS
     ·simp only[Sum.inr.injEq,Prod.mk.injEq] at hS;omega
     ·split at hS
      ·cases hS
      ·rename_i z hz
       simp only[Sum.inr.injEq] at hS
       subst hS
       exact oE hz
   ·simp only[Sum.inr.injEq,Prod.mk.injEq] at hS;omega
end
def P9_10 (x5 x6 x8 x9 x54:LV) (R:LV.RT) (st:aa):Prop:=LTg Tryz.prog (kindOf false) [.tmp 4] (bg Tryz.f9 10) [] R (LV.jk 5 (x5::x6::.aM::x8::x9::(LV.jk 44 (x54::(LV.jk 55 []))))) st
def P9_14 (x5 x6 x8 x9 x11:LV) (R:LV.RT) (st:aa):Prop:=LTg Tryz.prog (kindOf false) [.tmp 4] (bg Tryz.f9 14) [] R (LV.jk 5 (x5::x6::.aM::x8::x9::.aM::x11::(LV.jk 98 []))) st
def P9_17 (x5 x6 x8 x9 x11 x12:LV) (R:LV.RT) (st:aa):Prop:=LTg Tryz.prog (kindOf false) [.tmp 4] (bg Tryz.f9 17) [] R (LV.jk 5 (x5::x6::.aM::x8::x9::.aM::x11::x12::(LV.jk 97 []))) st
def P9_18 (x5 x6 x8 x9 x11 x12 x14 x15:LV) (R:LV.RT) (st:aa):Prop:=LTg Tryz.prog (kindOf false) [.tmp 4] (bg Tryz.f9 18) [] R (LV.jk 5 (x5::x6::.aM::x8::x9::.aM::x11::x12::.aM::x14::x15::(LV.jk 94 []))) st
def gl9:List Nat:=(LV.gx 0 110 [5,6,8,9,11])
def rc9:List (Nat × List Nat):=[(10,(LV.gx 0 110 [5,6,8,9,54])),(15,(LV.gx 0 110 [5,6,8,9,11,12])),(16,(LV.gx 0 110 [5,6,8,9,11,12,14,15]))]
def w9 (a0 a1:LV) (R:LV.RT) (st:aa):Prop:=
 bd2 (cL st a1) fun v0 st1=>bd (ldA st1 v0 7) fun v2=>LZ 24 [v2] st1 fun v3 st4=>bd (al BinOp.gtr v3 (i64 0)) fun v5=>aq v5 (LZ 17 [] st4 fun v6 st7=>R v6 st7)
 (LZ 17 [] st4 fun v8 st9=>bd (lun UnOp.not v8) fun v10=>aq v10 (LZ 17 [] st9 fun v11 st12=>R v11 st12)
 (LZ 26 [a0] st9 fun v13 st14=>bd (aj v13 0) fun v15=>bd (aj v13 1) fun v16=>bd (aj v13 2) fun v17=>nw st14 [i64 0,LV.nils] fun v18 st19=>bd2 (lmk (stV st19 2 v18 v16)) fun _v20 st21=>bd (ldA st21 v0 7) fun v22=>LZ 27 [v22] st21 fun v23 st24=>LZ 29 [v23] st24 fun v25 st26=>nw st26 [LV.nili] fun v27 st28=>bd2 (lmk (stV st28 1 v27 v25)) fun _v29 st30=>bd (al BinOp.gtr v17 (i64 0)) fun v31=>aq v31 (R (LV.bool true) st30)
 (bd (ldA st30 v27 1) fun v32=>LZ 42 [v15,v32] st30 fun v33 st34=>bd (aj v33 0) fun v35=>bd (aj v33 1) fun v36=>nw st34 [LV.nili] fun v37 st38=>bd2 (lmk (stV st38 1 v37 v35)) fun _v39 st40=>bd (al BinOp.neq v36 (i64 0)) fun v41=>aq v41
 (bd (ldA st40 v37 1) fun v42=>LZ 46 [v42] st40 fun v43 st44=>bd (al BinOp.eql v43 (i64 0)) fun v45=>R v45 st44)
 (bd (ldA st40 v37 1) fun v46=>bd (ad 1 v18) fun v47=>bd (ld1 st40 v47) fun v48=>bd (bq v48) fun v49=>LZ 49 [v46] st40 fun v50 st51=>ld1 st51 v47=some v48∧bd (bq v50) fun v52=>bd (al BinOp.neq v52 v49) fun v53=>P9_10 v15 v18 v27 v37 v53 R st51))))
theorem c9 (a0 a1:LV) {R:LV.RT} {st:aa} (h:w9 a0 a1 R st):LZ 9 [a0,a1] st R:=
 cz gl9 rc9 [.tmp 4] Tryz.func9 h
def w9_10 (x5 x6 x8 x9 x54:LV) (R:LV.RT) (st:aa):Prop:=
 aq x54 (R (LV.bool false) st) (P9_14 x5 x6 x8 x9 (i64 0) R st)
theorem p9_10 (x5 x6 x8 x9 x54:LV) {R:LV.RT} {st:aa} (h:w9_10 x5 x6 x8 x9 x54 R st):P9_10 x5 x6 x8 x9 x54 R st:=
 pz gl9 rc9 h
def w9_14 (x5 x6 x8 x9 x11:LV) (R:LV.RT) (st:aa):Prop:=
 bd (ad 1 x6) fun v0=>bd (ld1 st v0) fun v1=>bd (bq v1) fun v2=>bd (al BinOp.lss x11 v2) fun v3=>aq v3
 (bd (ldA st x8 1) fun v4=>bd (ad 1 x6) fun v5=>bd (ld1 st v5) fun v6=>bd (aW 10 v6 x11) fun v7=>bd (ad 0 v7) fun v8=>bd (ld1 st v8) fun v9=>(nw st [LV.nili] fun v10 st11=>ld1 st11 v8=some v9∧
 ld1 st11 v5=some v6∧
 ldA st11 x8 1=some v4∧
 LZ 50 [v4,v9] st11 fun v12 st13=>bd (aj v12 0) fun v14=>bd (aj v12 1) fun _v15=>bd2 (lmk (stV st13 1 v10 v14)) fun _v16 st17=>P9_17 x5 x6 x8 x9 x11 v10 R st17)∧
 LZ 50 [v4,v9] st fun v18 st19=>bd (aj v18 0) fun v20=>bd (aj v18 1) fun _v21=>nw st19 [LV.nili] fun v22 st23=>ld1 st23 v8=some v9∧ld1 st23 v5=some v6∧ldA st23 x8 1=some v4∧bd2 (lmk (stV st23 1 v22 v20)) fun _v24 st25=>P9_17 x5 x6 x8 x9 x11 v22 R st25)
 (bd (ldA st x9 1) fun v26=>LZ 42 [x5,v26] st fun v27 st28=>bd (aj v27 0) fun v29=>bd (aj v27 1) fun v30=>nw st28 [LV.nili] fun v31 st32=>bd2 (lmk (stV st32 1 v31 v29)) fun _v33 st34=>bd (al BinOp.eql v30 (i64 0)) fun v35=>aq v35 (bd (ldA st34 x9 1) fun v36=>bd (ldA st34 v31 1) fun v37=>LZ 48 [v36,v37] st34 fun v38 st39=>R v38 st39) (R (LV.bool false) st34))
theorem p9_14 (x5 x6 x8 x9 x11:LV) {R:LV.RT} {st:aa} (h:w9_14 x5 x6 x8 x9 x11 R st):P9_14 x5 x6 x8 x9 x11 R st:=
 pz gl9 rc9 h
def w9_17 (x5 x6 x8 x9 x11 x12:LV) (R:LV.RT) (st:aa):Prop:=
 bd (ldA st x9 1) fun v0=>bd (ad 1 x6) fun v1=>bd (ld1 st v1) fun v2=>bd (aW 10 v2 x11) fun v3=>bd (ad 0 v3) fun v4=>bd (ld1 st v4) fun v5=>(nw st [LV.nili] fun v6 st7=>ld1 st7 v4=some v5∧
 ld1 st7 v1=some v2∧
 ldA st7 x9 1=some v0∧
 LZ 50 [v0,v5] st7 fun v8 st9=>bd (aj v8 0) fun v10=>bd (aj v8 1) fun v11=>bd2 (lmk (stV st9 1 v6 v10)) fun _v12 st13=>P9_18 x5 x6 x8 x9 x11 x12 v6 v11 R st13)∧
 LZ 50 [v0,v5] st fun v14 st15=>bd (aj v14 0) fun v16=>bd (aj v14 1) fun v17=>nw st15 [LV.nili] fun v18 st19=>ld1 st19 v4=some v5∧ld1 st19 v1=some v2∧ldA st19 x9 1=some v0∧bd2 (lmk (stV st19 1 v18 v16)) fun _v20 st21=>P9_18 x5 x6 x8 x9 x11 x12 v18 v17 R st21
theorem p9_17 (x5 x6 x8 x9 x11 x12:LV) {R:LV.RT} {st:aa} (h:w9_17 x5 x6 x8 x9 x11 x12 R st):P9_17 x5 x6 x8 x9 x11 x12 R st:=
 pz gl9 rc9 h
def w9_18 (x5 x6 x8 x9 x11 x12 x14 x15:LV) (R:LV.RT) (st:aa):Prop:=
 bd (lun UnOp.not x15) fun v0=>aq v0 (R (LV.bool false) st)
 (bd (ldA st x12 1) fun v1=>LZ 46 [v1] st fun v2 st3=>bd (al BinOp.neq v2 (i64 0)) fun v4=>aq v4
 (bd (ldA st3 x12 1) fun v5=>bd (ldA st3 x14 1) fun v6=>LZ 48 [v5,v6] st3 fun v7 st8=>bd (lun UnOp.not v7) fun v9=>aq v9 (R (LV.bool false) st8) (bd (al BinOp.add x11 (i64 1)) fun v10=>P9_14 x5 x6 x8 x9 v10 R st8))
 (bd (al BinOp.add x11 (i64 1)) fun v11=>P9_14 x5 x6 x8 x9 v11 R st3))
theorem p9_18 (x5 x6 x8 x9 x11 x12 x14 x15:LV) {R:LV.RT} {st:aa} (h:w9_18 x5 x6 x8 x9 x11 x12 x14 x15 R st):P9_18 x5 x6 x8 x9 x11 x12 x14 x15 R st:=
 pz gl9 rc9 h
end Go.Proofs.YtknegckgmklnhaaGreatDoor
