/- Parts of the proof. -/
import Derived.Test.YtknegckgmklnhaaGreatDoorVbO2
import Derived.Lib.ItoaLen
namespace Go.Proofs.YtknegckgmklnhaaGreatDoor
open Go Go.CP
set_option maxRecDepth 100000
section
variable {R:LV→aa→Prop}
theorem vO {s:Tx} (hs:s.length≤2 ^ 29) {v:Int} (res:List AT ⊕ Int × Int)
  (hK1:∀ l f st,res=.inl l→br .rw st f 10 l.length (bCs l)→R (.tup [.agg [i64 v,osl f 10 l.length],i64 0,i64 0]) st)
  (hK2:∀ n e st,res=.inr (n,e)→R (.tup [.agg [i64 0,.nils],i64 n,i64 e]) st) :
  ∀ (d i a ln:Nat) (l:List AT) (f:Option Nat) (st:aa) (x9 x10 x11:LV),i+d=s.length→a≤i→1≤ln→ln≤i→RSt st v l f→l.length≤16→bW l ((ln+1:Nat):Int) (glue ((s.drop a).take (i-a)) (splitB 10 (s.drop i)))=res→
   P35_5 (.str s) (.ptr 0 0) (.ptr 1 0) (i64 a) (i64 ln) (i64 i) x9 x10 x11 R st:=by
 intro d
 have zag:aN (av (ax [(0,1),(1,1)]) [i64 0,LV.nils] [])=some (.agg [i64 0,.nils]):=rfl
 induction d with
 | zero=>
  intro i a ln l f st x9 x10 x11 hi ha h1 hln hr hl hp
  refine p35_5 _ _ _ _ _ _ _ _ _ ?_
  obtain ⟨y0,y1,ea⟩:=hr.a
  have c1:¬ ((i:Int)<s.length):=by omega
  have hw:=aJ (show ln<2 ^ 40 by omega)
  rw[List.drop_eq_nil_of_le (by omega:s.length≤i)] at hp
  simp only[w35_5,aL,ag,aG,aK,ab,c1,decide_false,ae,zag,hw,uk ea (show [i64 0,LV.nils].all LV.one=true from rfl),ay,ai]
  have e0:splitB 10 ([]:Tx)=[[]]:=rfl
  rw[e0] at hp
  simp only[glue,List.append_nil,bW] at hp
  by_cases hlt:a<s.length
  ·have c2:((a:Int)<s.length):=by omega
   have hne:(s.drop a).take (i-a)≠[]:=by
    intro e
    have:=congrArg List.length e
    simp at this;omega
   rw[if_neg hne] at hp
   have g:ldA (st.set 0 (.cells .rw [i64 0,.nils])) (.ptr 0 0) 2=some (.agg [i64 0,.nils]):=by rw[eS (bu ea) (by simp)];rfl
   simp only[c2,decide_true,ah,g,ab]
   exact hK2 _ _ _ hp.symm
  ·have c2:¬ ((a:Int)<s.length):=by omega
   have he:(s.drop a).take (i-a)=[]:=by rw[List.drop_eq_nil_of_le (by omega),List.take_nil]
   rw[if_pos he] at hp
   have c3:((ln:Int)==0)=false:=by
    rw[Bool.eq_false_iff];intro h;rw[beq_iff_eq] at h;omega
   have g:ldA st (.ptr 1 0) 2=some (.agg [i64 v,osl f 10 l.length]):=by rw[eS hr.b (by simp)];rfl
   have hone:[i64 v,osl f 10 l.length].all LV.one=true:=by cases f<;>rfl
   have g2:ldA (st.set 0 (.cells .rw [i64 v,osl f 10 l.length])) (.ptr 0 0) 2=some (.agg [i64 v,osl f 10 l.length]):=by rw[eS (bu ea) (by simp)];rfl
   simp only[c2,decide_false,ae,aR,c3,g,ab,uk ea hone,ay,ai,g2]
   have fr:Fr st (st.set 0 (.cells .rw [i64 v,osl f 10 l.length])) (fun j=>j=0):=Fr.set rfl
   exact hK1 l f _ hp.symm (hr.o.fr fr fun o e e'=>by have:=hr.n o e;omega)
 | succ d ih=>
  intro i a ln l f st x9 x10 x11 hi ha h1 hln hr hl hp
  refine p35_5 _ _ _ _ _ _ _ _ _ ?_
  have hlt:i<s.length:=by omega
  have c1:((i:Int)<s.length):=by omega
  have hw1:=aJ (show i<2 ^ 40 by omega)
  have hw:=aJ (show ln<2 ^ 40 by omega)
  have hx:s[i]?=some s[i]:=List.getElem?_eq_getElem hlt
  have hdr:s.drop i=s[i]::s.drop (i+1):=List.drop_eq_getElem_cons hlt
  have htk:(s.drop a).take (i+1-a)=(s.drop a).take (i-a)++[s[i]]:=by
   rw[show i+1-a=(i-a)+1 by omega,List.take_add_one,List.getElem?_drop,show a+(i-a)=i by omega,hx];rfl
  generalize s[i]=c at hx hdr htk
  rw[hdr] at hp
  have e10:((c.toNat:Int) != 10)=decide (c≠10):=by
   by_cases h:c=10
   ·subst h;rfl
   ·have:¬ c.toNat=10:=fun e=>h (UInt8.toNat_inj.1 e)
    simp only[h,ne_eq,not_false_eq_true,decide_true,bne_iff_ne];omega
  have cl1:(((ln+1:Nat):Int)==1)=false:=by
   rw[Bool.eq_false_iff];intro h;rw[beq_iff_eq] at h;omega
  have hwl:((s.drop a).take (i-a)).length≤2 ^ 29:=by simp;omega
  simp only[w35_5,aL,ag,aG,ab,c1,decide_true,ah,cA hx,bw,e10,bj]
  refine ⟨fun h=>?_,fun h=>?_⟩
  ·simp only[aK,ab,hw1]
   refine ih (i+1) a ln l f st _ _ _ (by omega) (by omega) h1 (by omega) hr hl ?_
   rw[htk,← mS h];exact hp
  ·have h10:c=10:=Classical.byContradiction h
   subst h10
   rw[cv,if_pos rfl] at hp
   simp only[glue,List.append_nil] at hp
   simp only[dE ha (show i≤s.length by omega),aK,hw1,hw,ab,ag,aR,cl1,ae]
   generalize hown:(s.drop a).take (i-a)=own at hp hwl
   obtain ⟨q,r,hqr⟩:∃ q r,splitB 10 (s.drop (i+1))=q::r:=by
    cases hq:splitB 10 (s.drop (i+1)) with
    | nil=>exact absurd hq cb
    | cons q r=>exact ⟨q,r,rfl⟩
   rw[hqr] at hp
   simp only[bW] at hp
   refine (zO hwl).call fun w hq=>?_
   have put:∀ cs:List LV,cs.length=10→cs.all LV.one=true→stV (st++[al.cells .rw [LV.str [],LV.str [],i64 0,LV.nils,LV.nils,LV.nils,LV.bool false,LV.bool false,LV.bool false,LV.bool false]]) 10 (.ptr st.length 0) (.agg cs)=some (st++[.cells .rw cs]):=fun cs h1 h2=>by
    rw[zN aA rfl h1 h2];simp
   obtain ⟨y0,y1,ea⟩:=hr.a
   have er:∀ (S:aa) (e:Int),S[0]?=some (.cells .rw [y0,y1])→res=.inr (((ln+1:Nat):Int),e)→(bd (aN (av (ax [(0,1),(1,1)]) [i64 0,LV.nils] [])) fun v18=>bd2 (lmk (stV S 2 (LV.ptr 0 0) v18)) fun _v19 st20=>bd (ldA st20 (LV.ptr 0 0) 2) fun v21=>R (LV.tup [v21,i64 ((ln+1:Nat):Int),i64 e]) st20):=by
    intro S e hS hres
    rw[zag,ab,uk hS rfl]
    simp only[ay,ai]
    rw[eS (bu hS) (by simp)]
    exact hK2 _ _ _ hres
   cases hpa:dd own with
   | none=>
    rw[hpa] at hp
    unfold BtQ at hq
    rw[hpa] at hq
    obtain ⟨cs,rfl,q1,q2,q3⟩:=hq
    simp only[az,List.getElem?_cons_zero,List.getElem?_cons_succ,ab,cY,put cs q1 q3,ay,ai,bq,Bool.not_false,ah]
    exact er _ 4 (wT ea) hp.symm
   | some at1=>
    rw[hpa] at hp
    unfold BtQ at hq
    rw[hpa] at hq
    simp only at hq hp
    subst hq
    have hS:=hr.app (y:=.cells .rw (bC at1))
    have gl:ld1 (st++[al.cells .rw (bC at1)]) (.ptr 1 1)=some (osl f 10 l.length):=by rw[aM hS.b];rfl
    have gn:ld1 (st++[al.cells .rw (bC at1)]) (.ptr st.length 0)=some (.str at1.nm):=by rw[aM aA];rfl
    have g6:ld1 (st++[al.cells .rw (bC at1)]) (.ptr st.length 6)=some (.bool at1.must):=by rw[aM aA];unfold bC;rw[dU];rfl
    have g7:ld1 (st++[al.cells .rw (bC at1)]) (.ptr st.length 7)=some (.bool at1.own):=by rw[aM aA];unfold bC;rw[dU];rfl
    have gA:ldA (st++[al.cells .rw (bC at1)]) (.ptr st.length 0) 10=some (.agg (bC at1)):=C9 aA fO
    have hnm:at1.nm.length<2 ^ 40:=by have:=uf hpa;omega
    have k16:((l.length:Int)==16)=decide (l.length=16):=by by_cases h:l.length=16<;>simp[h];omega
    simp only[az,List.getElem?_cons_zero,List.getElem?_cons_succ,ab,cY,put _ fO vN,ay,ai,bq,Bool.not_true,ae,ao,Nat.zero_add,gl,hr.o.bD,ag,aR,k16,bj]
    have hmw:dK l at1=if l.length=16 then 3 else fM (dT l) at1:=rfl
    refine ⟨fun h=>?_,fun h=>?_⟩
    ·rw[hmw,if_pos h,if_neg (by decide)] at hp
     exact er _ 3 (wT ea) hp.symm
    ·rw[hmw,if_neg h] at hp
     rw[gn,ab]
     refine (wV hnm).call ?_
     have ef:av (fun i=>some (i*10,10)) (List.replicate 1 [LV.str [],LV.str [],i64 0,LV.nils,LV.nils,LV.nils,LV.bool false,LV.bool false,LV.bool false,LV.bool false]).flatten [(0,.agg (bC at1))]=some (bC at1):=by unfold bC;rw[dU];rfl
     obtain ⟨st2,f2,m1,st3,m2,m3⟩:=(hr.app (y:=.cells .rw (bC at1))).more (a:=at1) hl
     simp only[bq,ab,gl,gn,g6,g7,gA,ef,bz,ai,m1,cy,dR]
     have err:∀ e:Int,e≠0→fM (dT l) at1=e→(bd (aN (av (ax [(0,1),(1,1)]) [i64 0,LV.nils] [])) fun v18=>bd2 (lmk (stV (st++[al.cells .rw (bC at1)]) 2 (LV.ptr 0 0) v18)) fun _v19 st20=>bd (ldA st20 (LV.ptr 0 0) 2) fun v21=>R (LV.tup [v21,i64 ((ln+1:Nat):Int),i64 e]) st20):=by
      intro e he hW
      rw[hW,if_neg he] at hp
      exact er _ e (wT ea) hp.symm
     have app:fM (dT l) at1=0→bd2 (lmk (stV st2 1 (LV.ptr 1 1) (osl f2 10 (l.length+1)))) fun _v83 st84=>P35_5 (LV.str s) (LV.ptr 0 0) (LV.ptr 1 0) (i64 ((i+1:Nat):Int)) (i64 ((ln+1:Nat):Int)) (i64 ((i+1:Nat):Int)) (LV.str own) x10 x11 R st84:=by
      intro hW
      rw[hW,if_pos rfl] at hp
      rw[m2]
      simp only[ay,ai]
      refine ih (i+1) (i+1) (ln+1) (l++[at1]) f2 st3 _ _ _ (by omega) (Nat.le_refl _) (by omega) (by omega) m3 (by simp;omega) ?_
      rw[Nat.sub_self,List.take_zero,jU cb,hqr]
      exact hp
     have tail:(fM (dT l) at1=if at1.must&&at1.own then 1 else 0)→ak (LV.bool at1.must) (ak (LV.bool at1.own) (bd (aN (av (ax [(0,1),(1,1)]) [i64 0,LV.nils] [])) fun v18=>bd2 (lmk (stV (st++[al.cells .rw (bC at1)]) 2 (LV.ptr 0 0) v18)) fun _v19 st20=>bd (ldA st20 (LV.ptr 0 0) 2) fun v21=>R (LV.tup [v21,i64 ((ln+1:Nat):Int),i64 1]) st20) (bd2 (lmk (stV st2 1 (LV.ptr 1 1) (osl f2 10 (l.length+1)))) fun _v83 st84=>P35_5 (LV.str s) (LV.ptr 0 0) (LV.ptr 1 0) (i64 ((i+1:Nat):Int)) (i64 ((ln+1:Nat):Int)) (i64 ((i+1:Nat):Int)) (LV.str own) x10 x11 R st84)) (bd2 (lmk (stV st2 1 (LV.ptr 1 1) (osl f2 10 (l.length+1)))) fun _v83 st84=>P35_5 (LV.str s) (LV.ptr 0 0) (LV.ptr 1 0) (i64 ((i+1:Nat):Int)) (i64 ((ln+1:Nat):Int)) (i64 ((i+1:Nat):Int)) (LV.str own) x10 x11 R st84):=by
      intro hW
      cases hm:at1.must<;>cases ho:at1.own<;>rw[hm,ho] at hW<;>first|exact app hW|exact err 1 (by decide) hW
     have hW0:fM (dT l) at1=if named at1.nm=false then 7 else if at1.nm=dT l then 9 else if Op.bytesLess at1.nm (dT l)=true then 4 else if at1.must&&at1.own then 1 else 0:=rfl
     cases hnam:named at1.nm with
     | false=>
      rw[hnam,if_pos rfl] at hW0
      exact err 7 (by decide) hW0
     | true=>
      rw[hnam,if_neg (by simp)] at hW0
      rw[Bool.not_true,ae]
      cases hg:l.getLast? with
      | none=>
       have hl0:dT l=[]:=by unfold dT;rw[hg]
       rw[List.getLast?_eq_none_iff] at hg
       have hz:l.length=0:=by rw[hg];rfl
       rw[hl0,if_neg (zv hnam),if_neg (by cases at1.nm<;>simp[Op.bytesLess])] at hW0
       have c0:decide ((l.length:Int) > 0)=false:=by rw[hz];rfl
       rw[c0,ae,ae]
       exact tail (by rw[hl0];exact hW0)
      | some b=>
       have hl0:dT l=b.nm:=by unfold dT;rw[hg]
       have hpos:0<l.length:=by cases l with
        | nil=>simp at hg
        | cons x y=>simp
       have c0:decide ((l.length:Int) > 0)=true:=decide_eq_true (by omega)
       have hwr:IntKind.i64.wrap ((l.length:Int)-1)=((l.length-1:Nat):Int):=by rw[wrap_i64 (by omega) (by omega)];omega
       obtain ⟨o,hfo,hix⟩:=hr.o.ix (i:=((l.length-1:Nat):Int)) (kk:=.i64) (by omega) (by omega)
       have hld:ld1 (st++[al.cells .rw (bC at1)]) (.ptr o ((l.length-1)*10))=some (.str b.nm):=by
        have hso:=hS.o
        rw[hfo] at hso
        exact hso.ld (zU hg)
       rw[Int.toNat_natCast] at hix
       rw[hl0] at hW0
       have hnx:(at1.nm==b.nm)=decide (at1.nm=b.nm):=by by_cases h:at1.nm=b.nm<;>simp[h]
       rw[c0,ah,ah,hwr,hix]
       simp only[ab,ao,Nat.add_zero,hld,bA,ct,pS,hnx]
       rw[bj]
       refine ⟨fun h=>?_,fun h=>?_⟩
       ·rw[if_pos h] at hW0
        exact err 9 (by decide) (by rw[hl0];exact hW0)
       ·rw[if_neg h] at hW0
        cases hb:Op.bytesLess at1.nm b.nm with
        | true=>
         rw[hb,if_pos rfl] at hW0
         exact err 4 (by decide) (by rw[hl0];exact hW0)
        | false=>
         rw[hb,if_neg (by simp)] at hW0
         exact tail (by rw[hl0];exact hW0)
end
def bS (v:Int) (l:List AT):LV:=.agg [i64 v,.isl (bCs l) l.length none]
def bZ:LV:=.agg [i64 0,.nils]
theorem um {v:Int} {l:List AT}:(bS v l).plain=true:=by unfold bS;simp only[LV.plain,LV.aF,mU];rfl
theorem dpq {Q:LV→Prop} {st:aa} {k e:Int} (h:Q (.tup [bZ,i64 k,i64 e])):Dp Q (.tup [.agg [i64 0,.nils],i64 k,i64 e]) st:=⟨_,bH (v:=.tup [bZ,i64 k,i64 e]) _ rfl,rfl,h⟩
theorem rh:∀ {ps:List Tx} {l:List AT} {n k e:Int},bW l n ps=.inr (k,e)→e≠0
 | [],l,n,k,e,h=>by simp[bW] at h
 | [p],l,n,k,e,h=>by
  simp only[bW] at h
  split at h
  ·cases h
  ·simp only[Sum.inr.injEq,Prod.mk.injEq] at h;omega
 | p::q::r,l,n,k,e,h=>by
  simp only[bW] at h
  split at h
  ·simp only[Sum.inr.injEq,Prod.mk.injEq] at h;omega
  ·split at h
   ·exact rh h
   ·rename_i hm
    simp only[Sum.inr.injEq,Prod.mk.injEq] at h
    rw[← h.2];exact hm
section
variable {st st':aa} {R:LV→aa→Prop}
end
end Go.Proofs.YtknegckgmklnhaaGreatDoor
namespace Go.Proofs.YtknegckgmklnhaaGreatDoor
open Go Go.CP
def gF (a:AT):Tx:=dc a++[10]
def gG (S:ST):Tx:=(aY++Lib.itoa S.ver)++[10]++(S.l.map gF).flatten
def noB (s:Tx):Prop:=∀ c ∈ s,c≠10∧c≠32
theorem fV {a b:Tx} (ha:noB a) (hb:noB b):noB (a++b):=fun c h=>(List.mem_append.1 h).elim (ha c) (hb c)
theorem fA {c:UInt8} {b:Tx} (h1:c≠10∧c≠32) (hb:noB b):noB (c::b):=fun x h=>(List.mem_cons.1 h).elim (fun e=>e ▸ h1) (hb x)
theorem kj:noB []:=fun _ h=>by cases h
theorem uo {c:UInt8} (h:fT c=true):c≠10∧c≠32:=by
 constructor<;>(rintro rfl;revert h;decide)
theorem vP {c:UInt8} (h:isLet c=true):fT c=true:=by unfold fT;rw[h];rfl
theorem ri {s:Tx} (h:named s=true):noB s:=by
 unfold named at h
 simp only[Bool.and_eq_true,decide_eq_true_eq] at h
 obtain ⟨⟨h1,h2⟩,_⟩:=h
 cases s with
 | nil=>exact kj
 | cons c s=>
  rw[eT] at h1
  split at h1
  ·rename_i hl
   simp only[List.cons.injEq,true_and] at h1
   refine fA (uo (vP hl)) fun x hx=>?_
   rw[← h1] at hx
   have:=List.all_takeWhile (p:=fT) (l:=s)
   exact uo (List.all_eq_true.1 this x hx)
  ·cases h1
theorem mV:∀ {l:List Tx},(∀ s ∈ l,noB s)→noB (eG l)
 | [],_=>kj
 | [a],h=>h a (by simp)
 | a::b::l,h=>by
  unfold eG
  exact fV (h a (by simp)) (fA (by decide) (mV fun s hs=>h s (List.mem_cons_of_mem _ hs)))
theorem nS:∀ {ns:List Tx} {ls:List Bool} {ts:List Tx},(∀ s ∈ ns,noB s)→(∀ s ∈ ts,noB s)→∀ s ∈ bL ns ls ts,noB s
 | n::ns,l::ls,t::ts,h1,h2,s,hs=>by
  unfold bL at hs
  rcases List.mem_cons.1 hs with rfl|hs
  ·unfold eB
   refine fV (h1 n (by simp)) (fV ?_ (h2 t (by simp)))
   cases l
   ·exact fA (by decide) kj
   ·exact fA (by decide) (fA (by decide) kj)
  ·exact nS (fun s h=>h1 s (List.mem_cons_of_mem _ h)) (fun s h=>h2 s (List.mem_cons_of_mem _ h)) s hs
 | [],_,ts,_,h2,s,hs=>h2 s (by unfold bL at hs;exact hs)
 | _::_,[],ts,_,h2,s,hs=>h2 s (by unfold bL at hs;exact hs)
 | _::_,_::_,[],_,h2,s,hs=>h2 s (by unfold bL at hs;exact hs)
theorem qd {l:List Tx} (h:∀ s ∈ l,noB s) (i:Nat):noB (l.getD i []):=by
 rw[List.getD_eq_getElem?_getD]
 cases hx:l[i]? with
 | none=>exact kj
 | some s=>exact h s (List.mem_of_getElem? hx)
theorem vQ:∀ s ∈ aU,noB s:=by
 have:aU.all (fun s=>s.all fun c=>c != 10&&c != 32)=true:=by decide
 intro s hs c hc
 have h:=List.all_eq_true.1 (List.all_eq_true.1 this s hs) c hc
 simpa using h
theorem A2:∀ {d:Nat} {t:KT},t.wf d→noB (kpr t):=by
 intro d
 induction d with
 | zero=>intro t h;cases t;simp only[KT.wf] at h
 | succ d ih=>
  intro t h
  obtain ⟨f,l,ns,ls⟩:=t
  simp only[KT.wf] at h
  obtain ⟨_,_,_,_,_,_,_,hn,hl⟩:=h
  have hts:∀ s ∈ xL l,noB s:=fun s hs=>by
   rw[lO] at hs
   obtain ⟨t,ht,rfl⟩:=List.mem_map.1 hs
   exact ih (KT.lP.1 hl t ht)
  have hns:∀ s ∈ ns,noB s:=fun s hs=>ri (hn s hs)
  have one:∀ {c:UInt8},c≠10∧c≠32→noB [c]:=fun h=>fA h kj
  unfold kpr nM
  split
  ·exact fV (by unfold noB;decide) (fV (qd hts 0) (one (by decide)))
  split
  ·exact fV (by unfold noB;decide) (fV (qd hts 0) (one (by decide)))
  split
  ·exact fA (by decide) (fV (mV hts) (one (by decide)))
  split
  ·exact fA (by decide) (fV (mV (nS hns hts)) (one (by decide)))
  ·exact qd vQ f
theorem gH {c:UInt8}:∀ {x y:Tx},c ∉ x→splitB c (x++c::y)=x::splitB c y
 | [],y,_=>by rw[List.nil_append,splitB,if_pos rfl]
 | a::x,y,h=>by
  rw[List.cons_append,splitB,if_neg (fun e=>h (by rw[e];simp)),gH (fun h'=>h (List.mem_cons_of_mem _ h'))]
theorem rj {c:UInt8}:∀ {x:Tx},c ∉ x→splitB c x=[x]
 | [],_=>rfl
 | a::x,h=>by
  rw[splitB,if_neg (fun e=>h (by rw[e];simp)),rj (fun h'=>h (List.mem_cons_of_mem _ h'))]
def mks (a:AT):List Tx:=(if a.must then [cd] else [])++((if a.own then [dm] else [])++((if a.hide then [cf] else [])++(if a.new then [dn] else [])))
theorem uq {k:Tx} (hk:noB k) (a:AT):splitB 32 (k++fJ a)=k::mks a:=by
 have h32:(32:UInt8) ∉ k:=fun h=>(hk _ h).2 rfl
 obtain ⟨nm,ty,m,o,h,n⟩:=a
 have e:∀ y:Tx,splitB 32 (k++32::y)=k::splitB 32 y:=fun y=>gH h32
 cases m<;>cases o<;>cases h<;>cases n<;>unfold fJ mks<;>simp only[if_true,if_false,Bool.false_eq_true,List.nil_append,List.append_nil,List.cons_append,e]<;>first|exact rj h32|rfl
theorem A3 (a:AT):(mks a).contains cd=a.must∧(mks a).contains dm=a.own∧(mks a).contains cf=a.hide∧(mks a).contains dn=a.new:=by
 obtain ⟨nm,ty,m,o,h,n⟩:=a
 cases m<;>cases o<;>cases h<;>cases n<;>exact ⟨rfl,rfl,rfl,rfl⟩
theorem ur {a:AT} (hn:noB a.nm) (hk:noB (kpr a.ty)) (ht:bV (kpr a.ty)=some a.ty):dd (dc a)=some a:=by
 have e:splitB 32 (dc a)=fy::a.nm::kpr a.ty::mks a:=by
  unfold dc
  rw[qc,gH (fun h=>(hn _ h).2 rfl),uq hk]
 obtain ⟨h1,h2,h3,h4⟩:=A3 a
 unfold dd
 rw[e]
 simp only[ne_eq,not_true_eq_false,if_false,ht,h1,h2,h3,h4]
 exact if_pos trivial
theorem fg:∀ (u:Nat),∀ c ∈ Lib.decDigits u,48≤c.toNat∧c.toNat≤57:=by
 intro u
 induction u using Nat.strongRecOn with
 | _ u ih=>
  intro c hc
  rw[dq] at hc
  split at hc
  ·simp only[List.mem_singleton] at hc
   subst hc
   rw[eC];omega
  ·rcases List.mem_append.1 hc with h|h
   ·exact ih (u / 10) (by omega) c h
   ·simp only[List.mem_singleton] at h
    subst h
    rw[eC];omega
theorem zV:∀ (u:Nat),u<9223372036854775809→∀ r,Lib.parseUint10 0 (Lib.decDigits u++r)=Lib.parseUint10 u r:=by
 intro u
 induction u using Nat.strongRecOn with
 | _ u ih=>
  intro hu r
  rw[dq]
  split
  ·rename_i h
   rw[List.singleton_append,Lib.parseUint10,eC,if_pos (by omega),if_neg (by omega),if_neg (by omega)]
   congr 1;omega
  ·rename_i h
   rw[List.append_assoc,ih (u / 10) (by omega) (by omega),List.singleton_append,Lib.parseUint10,eC,if_pos (by omega),if_neg (by omega),if_neg (by omega)]
   congr 1;omega
theorem mi {u:Nat}:Lib.decDigits u≠[]:=by rw[dq];split<;>simp
theorem uu {u:Nat} (hu:u<9223372036854775808):Lib.atoiAll (Lib.decDigits u)=.ok (u:Int):=by
 have hp:=zV u (by omega) []
 rw[List.append_nil,Lib.parseUint10] at hp
 have hd:=fg u
 have hne:=mi (u:=u)
 generalize Lib.decDigits u=l at hp hd hne
 cases l with
 | nil=>exact absurd rfl hne
 | cons c r=>
  have hc:=hd c (by simp)
  have h1:¬ c.toNat=43:=by omega
  have h2:¬ c.toNat=45:=by omega
  simp only[Lib.atoiAll,h1,or_false,if_false,Lib.parseMag,hne,hp,h2,not_false_eq_true,true_and,false_and]
  rw[if_neg (by omega)]
theorem uv {n:Nat} (hn:n≤1000):fU (aY++Lib.decDigits n)=some (n:Int):=by
 have e1:aY.isPrefixOf (aY++Lib.decDigits n)=true:=by simp
 have e2:(aY++Lib.decDigits n).drop 8=Lib.decDigits n:=rfl
 unfold fU
 rw[e1,e2,uu (by omega)]
 simp only[if_true,Lib.itoa_nonneg]
theorem yb {v:Int} (h:0≤v∧v≤1000):fU (aY++Lib.itoa v)=some v:=by
 obtain ⟨n,rfl⟩:∃ n:Nat,v=n:=⟨v.toNat,by omega⟩
 rw[Lib.itoa_nonneg]
 exact uv (by omega)
theorem zW {v:Int} (h:0≤v):noB (Lib.itoa v):=by
 obtain ⟨n,rfl⟩:∃ n:Nat,v=n:=⟨v.toNat,by omega⟩
 rw[Lib.itoa_nonneg]
 intro c hc
 have:=fg n c hc
 constructor<;>(rintro rfl;revert this;decide)
theorem so {v:Int} {l:List AT} {a:AT} {r:List AT} (h:ST.ok ⟨v,l++a::r⟩):dK l a=0:=by
 have hl:=h.len
 have hr:=h.rise
 simp only[List.length_append,List.length_cons] at hl
 rw[List.map_append,List.map_cons] at hr
 have hm:a ∈ l++a::r:=by simp
 have h1:=h.nm a hm
 have h4:=h.mo a hm
 have hlast:ltB (dT l) a.nm:=by
  unfold dT
  cases hg:l.getLast? with
  | none=>
   have hne:a.nm≠[]:=by
    unfold named at h1
    simp only[Bool.and_eq_true,decide_eq_true_eq] at h1
    exact h1.1.2
   show Op.bytesLess [] a.nm=true
   cases hx:a.nm with
   | nil=>exact absurd hx hne
   | cons c s=>rfl
  | some b=>exact (List.pairwise_append.1 hr).2.2 b.nm (List.mem_map.2 ⟨b,List.mem_of_getLast? hg,rfl⟩) a.nm (by simp)
 unfold dK fM
 rw[if_neg (by omega),h1,if_neg (by simp),if_neg (fun e=>vp hlast e.symm),if_neg (by rw[lN hlast];simp),h4,if_neg (by simp)]
theorem mj {v:Int}:∀ {r l:List AT} {n:Int},ST.ok ⟨v,l++r⟩→(∀ a ∈ r,dd (dc a)=some a)→bW l n (r.map dc++[[]])=.inl (l++r)
 | [],l,n,_,_=>by simp[bW]
 | a::r,l,n,h,ht=>by
  have hm:=so h
  have ha:=ht a (by simp)
  have ih:=mj (r:=r) (l:=l++[a]) (n:=n+1) (by simpa using h) fun b hb=>ht b (List.mem_cons_of_mem _ hb)
  have e:∃ q t,r.map dc++[[]]=q::t:=by cases r<;>exact ⟨_,_,rfl⟩
  obtain ⟨q,t,hq⟩:=e
  rw[hq] at ih
  rw[List.map_cons,List.cons_append,hq]
  simp only[bW,ha,hm,if_true,ih]
  simp
theorem zX {a:AT} (hn:noB a.nm) (hk:noB (kpr a.ty)):(10:UInt8) ∉ dc a:=by
 have hm:(10:UInt8) ∉ fJ a:=by
  obtain ⟨nm,ty,m,o,h,n⟩:=a
  cases m<;>cases o<;>cases h<;>cases n<;>unfold fJ<;>simp only[if_true,if_false,Bool.false_eq_true,List.nil_append,List.append_nil]<;>decide
 unfold dc
 intro h
 rcases List.mem_append.1 h with h|h
 ·revert h;decide
 rcases List.mem_cons.1 h with h|h
 ·revert h;decide
 rcases List.mem_append.1 h with h|h
 ·exact (hn _ h).1 rfl
 rcases List.mem_cons.1 h with h|h
 ·revert h;decide
 rcases List.mem_append.1 h with h|h
 ·exact (hk _ h).1 rfl
 ·exact hm h
theorem nT:∀ {l:List AT},(∀ a ∈ l,(10:UInt8) ∉ dc a)→splitB 10 (l.map gF).flatten=l.map dc++[[]]
 | [],_=>rfl
 | a::l,h=>by
  rw[List.map_cons,List.flatten_cons,gF,List.append_assoc,List.singleton_append,gH (h a (by simp)),nT fun b hb=>h b (List.mem_cons_of_mem _ hb)]
  rfl
theorem qu {S:ST} (hS:S.ok) (ht:∀ a ∈ S.l,bV (kpr a.ty)=some a.ty):cU (gG S)=.inl S:=by
 have hno:∀ a ∈ S.l,noB a.nm∧noB (kpr a.ty):=fun a ha=>⟨ri (hS.nm a ha),A2 (hS.ty a ha)⟩
 have hv:(10:UInt8) ∉ aY++Lib.itoa S.ver:=fun h=>(List.mem_append.1 h).elim (by decide) fun h=>(zW hS.ver.1 _ h).1 rfl
 have e:splitB 10 (gG S)=(aY++Lib.itoa S.ver)::(S.l.map dc++[[]]):=by
  unfold gG
  rw[List.append_assoc,List.singleton_append,gH hv,nT fun a ha=>zX (hno a ha).1 (hno a ha).2]
 have hp:=mj (v:=S.ver) (r:=S.l) (l:=[]) (n:=2) hS fun a ha=>ur (hno a ha).1 (hno a ha).2 (ht a ha)
 have eq:∃ q t,S.l.map dc++[[]]=q::t:=by cases S.l<;>exact ⟨_,_,rfl⟩
 obtain ⟨q,t,hq⟩:=eq
 rw[hq] at hp e
 unfold cU
 rw[e]
 simp only[yb hS.ver]
 rw[if_neg (by have:=hS.ver;omega),hp]
 rfl
theorem mW {c:UInt8}:∀ {s a b:Tx} {l:List Tx},splitB c s=a::b::l→s=a++c::s.drop (a.length+1)
 | [],a,b,l,h=>by simp[splitB] at h
 | x::s,a,b,l,h=>by
  rw[cv] at h
  split at h
  ·rename_i e
   simp only[List.cons.injEq] at h
   obtain ⟨rfl,h⟩:=h
   subst e;rfl
  ·split at h
   ·simp at h
   ·rename_i p ps e
    simp only[List.cons.injEq] at h
    obtain ⟨rfl,h⟩:=h
    rw[List.length_cons,List.drop_succ_cons,List.cons_append]
    congr 1
    exact mW (by rw[e,h])
theorem vS {s:Tx} {a:AT} (h:dd s=some a):dc a=s:=by
 unfold dd at h
 split at h
 ·split at h
  ·cases h
  ·split at h
   ·cases h
   ·split at h
    ·rename_i e
     cases h
     exact e
    ·cases h
 ·cases h
theorem nU:∀ {ps:List Tx} {s:Tx} {l l':List AT} {n:Int},splitB 10 s=ps→bW l n ps=.inl l'→∃ k,l'=l++k∧s=(k.map gF).flatten
 | [],s,_,_,_,h,_=>absurd h cb
 | [p],s,l,l',n,h,e=>by
  simp only[bW] at e
  split at e
  ·rename_i hp
   simp only[Sum.inl.injEq] at e
   subst hp;subst e
   exact ⟨[],by simp,(iV h).symm⟩
  ·cases e
 | p::q::r,s,l,l',n,h,e=>by
  simp only[bW] at e
  split at e
  ·cases e
  ·rename_i a ha
   split at e
   ·obtain ⟨k,h1,h2⟩:=nU (gC h) e
    refine ⟨a::k,by rw[h1];simp,?_⟩
    rw[List.map_cons,List.flatten_cons,gF,vS ha,← h2,List.append_assoc,List.singleton_append]
    exact mW h
   ·cases e
theorem mX {p:Tx} {v:Int} (h:fU p=some v):p=aY++Lib.itoa v:=by
 unfold fU at h
 split at h
 ·rename_i hp
  split at h
  ·split at h
   ·rename_i hi
    cases h
    rw[hi]
    obtain ⟨t,rfl⟩:=List.isPrefixOf_iff_prefix.1 hp
    rfl
   ·cases h
  ·cases h
 ·cases h
theorem qv {s:Tx} {S:ST} (h:cU s=.inl S):gG S=s:=by
 unfold cU at h
 split at h
 ·rename_i p q r hsp
  split at h
  ·cases h
  ·rename_i v hv
   split at h
   ·cases h
   ·split at h
    ·rename_i l hl
     cases h
     obtain ⟨k,h1,h2⟩:=nU (gC hsp) hl
     rw[List.nil_append] at h1
     subst h1
     unfold gG
     rw[← h2,← mX hv,List.append_assoc,List.singleton_append]
     exact (mW hsp).symm
    ·cases h
 ·cases h
end Go.Proofs.YtknegckgmklnhaaGreatDoor
namespace Go.Proofs.YtknegckgmklnhaaGreatDoor
open Go Go.CP
set_option maxRecDepth 100000
section
variable {st st':aa} {R:LV→aa→Prop}
theorem yg {a:AT} (hw:a.ty.wf 8) (hn:a.nm.length≤20):(gF a).length≤2 ^ 41*100:=by
 have hk:=oi hw
 have hp:100*32 ^ 8≤109951162777600:=by decide
 have hm:(fJ a).length≤20:=by unfold fJ;cases a.must<;>cases a.own<;>cases a.hide<;>cases a.new<;>decide
 have ht:fy.length=4:=rfl
 unfold gF dc
 simp only[List.length_append,List.length_cons,List.length_nil,ht]
 omega
theorem vW {S:ST} (hS:S.ok) {st0:aa} {pre:Tx} (hp:pre.length≤100) (hR:∀ st,Fr st0 st (fun _=>False)→R (.str (pre++(S.l.map gF).flatten)) st) :
  ∀ (d i:Nat) (acc:Tx) (st:aa),i+d=S.l.length→Fr st0 st (fun _=>False)→acc.length≤100+i*(2 ^ 41*100)→acc++((S.l.drop i).map gF).flatten=pre++(S.l.map gF).flatten→
   P22_6 (.str acc) (.isl (atC S.l) S.l.length none) (i64 S.l.length) (i64 i) R st:=by
 have h16:=hS.len
 intro d
 induction d with
 | zero=>
  intro i acc st hi hf hl hw
  refine p22_6 _ _ _ _ ?_
  have c1:¬ ((i:Int)<S.l.length):=by omega
  rw[List.drop_eq_nil_of_le (by omega)] at hw
  simp only[List.map_nil,List.flatten_nil,List.append_nil] at hw
  simp only[w22_6,ag,aG,ab,c1,decide_false,ae]
  rw[hw]
  exact hR st hf
 | succ d ih=>
  intro i acc st hi hf hl hw
  refine p22_6 _ _ _ _ ?_
  have hlt:i<S.l.length:=by omega
  have c1:((i:Int)<S.l.length):=by omega
  have hx:S.l[i]?=some S.l[i]:=List.getElem?_eq_getElem hlt
  have hdr:S.l.drop i=S.l[i]::S.l.drop (i+1):=List.drop_eq_getElem_cons hlt
  have hm:=List.getElem_mem hlt
  generalize S.l[i]=a at hx hdr hm
  have e1:bh 6 (.isl (atC S.l) S.l.length none) (i64 i)=some (.iptr (atC S.l) (i*6)):=gr hlt
  have hw1:=aJ (show i<2 ^ 40 by omega)
  have hnl:=iy (hS.nm a hm)
  have hal:=yg (hS.ty a hm) hnl
  have g:ldA (st++[al.cells .rw (aC a)]) (.ptr st.length 0) 6=some (aV a):=by rw[eS aA (by simp[aC])];rfl
  simp only[w22_6,ag,aG,ab,c1,decide_true,ah,e1,wS hx,cY,zB (show (aC a).length=6 from rfl) (show (aC a).all LV.one=true from rfl),ay,ai,g]
  refine (zq (hS.ty a hm) (by omega)).call ?_
  have hi16:i*(2 ^ 41*100)≤16*(2 ^ 41*100):=Nat.mul_le_mul_right _ (by omega)
  rw[gy (by show acc.length+(gF a).length≤_;omega),ab]
  simp only[aK,hw1,ab]
  refine ih (i+1) _ _ (by omega) (hf.trans Fr.app fun _ _ h=>h) ?_ ?_
  ·show (acc++gF a).length≤_
   rw[List.length_append,Nat.add_mul];omega
  ·rw[← hw,hdr,List.map_cons,List.flatten_cons,List.append_assoc];rfl
theorem ot (g:GlS st) {S:ST} (hS:S.ok) (hR:R (.str (gG S)) st):au Tryz.prog 22 [sV S] st R:=by
 refine au.tG ?_
 refine c22 _ ?_
 have ep:cV true (sV S) .nilp=some false:=rfl
 have hv:=hS.ver
 have hil:=Lib.itoa_length_le S.ver (by omega) (by omega)
 have htv:aY.length=8:=rfl
 simp only[w22,ep,cP,cw,ab,ae]
 show bd (af (.iptr (sC S) 0)) _
 simp only[cu,ab,cx,Nat.zero_add,BJ]
 refine qV g.p (by omega) (by omega) ?_
 show bd (bg .add (.str aY) (.str (Lib.itoa S.ver))) _
 rw[gy (by omega),ab,gy (by simp only[List.length_append,List.length_cons,List.length_nil];omega),ab]
 show bd (af (.iptr (sC S) 0)) _
 simp only[cu,ab,cx,Nat.zero_add,zA,ca]
 exact vW (st0:=st) hS (pre:=(aY++Lib.itoa S.ver)++[10]) (by simp only[List.length_append,List.length_cons,List.length_nil];omega)
  (fun st2 hf=>⟨.str (gG S),hf,bH _ rfl,rfl,hR⟩) S.l.length 0 _ st (by omega) Fr.refl (by simp only[List.length_append,List.length_cons,List.length_nil];omega) rfl
theorem Aa (g:GlS st) {S S':ST} (hS:S.ok) (hS':S'.ok) (hR:R (.bool (gG S==gG S')) st):au Tryz.prog 23 [sV S,sV S'] st R:=by
 refine c23 _ _ ?_
 have ep:∀ S:ST,cV true (sV S) .nilp=some false:=fun _=>rfl
 have eb:je .eql (.bool false) (.bool false)=some (.bool true):=rfl
 simp only[w23,ep,cP,cw,ab,eb,ah]
 refine ot g hS ?_
 refine ot g hS' ?_
 simp only[bA,ct,ab]
 exact hR
theorem yh {S:ST}:Pu Tryz.prog 37 [sV S] (i64 S.ver):=by
 refine Pu.of (c37 _ ?_) (by simp only[LV.aF,jT,Bool.and_true]) rfl
 have ep:cV true (sV S) .nilp=some false:=rfl
 simp only[w37,ep,cP,cw,ab,ae]
 show bd (af (.iptr (sC S) 0)) _
 simp only[cu,ab,cx,Nat.zero_add,BJ]
 exact rfl
theorem yi {v:Int} {l:List Row} {f:Option Nat} (hl:∀ r ∈ l,r.ok) (hn:l.length≤2 ^ 30) (ho:br .rw st f 6 l.length (db l)) (hf:0<l.length∨f=none)
  (h1:∀ e,e≠0→mkW v l=e→R (.tup [.nilp,i64 e]) st)
  (h2:mkW v l=0→(l.map (·.nm)).Pairwise ltB→∃ ats:List AT,l=ats.map ed∧R (.tup [sV ⟨v,ats⟩,i64 0]) st) :
  au Tryz.prog 20 [i64 v,osl f 6 l.length] st R:=by
 refine au.tG ?_
 refine mQ hl hn ho hf (fun e st' he hm hfr=>⟨_,hfr,bH _ rfl,rfl,h1 e he hm⟩) fun st' B M f' hm hfr hB hM hf' hne g1 g2 g3 g4=>?_
 obtain ⟨ats,rfl,hR⟩:=h2 hm g4
 have e:(ats.map ed).map (·.nm)=ats.map (·.nm):=by rw[List.map_map];rfl
 rw[List.length_map] at g1 g2 g3 hne
 have hsch:Sch st' st.length v ats B f' M:=⟨g1,g2,g3,hB,hM,hf',hne,by rw[← e];exact g4⟩
 exact ⟨.tup [sV ⟨v,ats⟩,i64 0],hfr,AV (zy hsch) rfl,by simp only[LV.plain,LV.aF,jT];rfl,hR⟩
end
end Go.Proofs.YtknegckgmklnhaaGreatDoor
