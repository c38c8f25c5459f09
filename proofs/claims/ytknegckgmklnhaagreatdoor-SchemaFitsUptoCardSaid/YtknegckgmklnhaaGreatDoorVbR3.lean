/- Parts of the proof. -/
import Derived.Test.YtknegckgmklnhaaGreatDoorVbR
namespace Go.Proofs.YtknegckgmklnhaaGreatDoor
open Go Go.CP
set_option maxRecDepth 100000
mutual
def kC:KT→List LV
 | .mk f l ns ls=>[i64 f,.isl (kVs l) l.length none,.isl (ns.map .str) ns.length none,.isl (ls.map .bool) ls.length none]
def kVs:List KT→List LV
 | []=>[]
 | t::ts=>.iptr (kC t) 0::kVs ts
end
abbrev kV (t:KT):LV:=.iptr (kC t) 0
theorem vC:∀ {l:List KT},kVs l=l.map kV
 | []=>rfl
 | t::ts=>by simp[kVs,vC (l:=ts)]
theorem iO {l:List KT}:(kVs l).length=l.length:=by rw[vC];simp
theorem CB {a b:List KT}:kVs (a++b)=kVs a++kVs b:=by simp[vC]
theorem sh {t:KT}:kC t=[i64 t.f,.isl (kVs t.l) t.l.length none,.isl (t.ns.map .str) t.ns.length none,.isl (t.ls.map .bool) t.ls.length none]:=by cases t;rfl
mutual
theorem eC:∀ {t:KT},LV.aB (kC t)=true
 | .mk f l ns ls=>by
  simp only[kC,LV.aB,LV.plain,Bool.true_and,Bool.and_true,Bool.and_eq_true]
  exact ⟨pf,bD fun _ _=>rfl,bD fun _ _=>rfl⟩
theorem pf:∀ {l:List KT},LV.aB (kVs l)=true
 | []=>rfl
 | t::ts=>by simp only[kVs,LV.aB,LV.plain,Bool.and_eq_true];exact ⟨eC,pf⟩
end
theorem dw {t:KT}:(kV t).plain=true:=by simp only[LV.plain];exact eC
def fI (d D:Nat):Prop:=∀ {s:Tx},s.length≤4096→∀ {st:aa} {o a:Nat} {R:LV→aa→Prop},a≤s.length→Rd st o s a 0 D→
 (∀ t a',a'≤s.length→pT d (s.drop a)=some (t,s.drop a')→R (kV t) (st.set o (rdO s a' 0 D)))→
 (pT d (s.drop a)=none→∀ v a' e',v.plain=true→v.one=true→e'≠0→a'≤s.length→R v (st.set o (rdO s a' e' D)))→az Tryz.prog 74 [.ptr o 0] st R
section
variable {st st' st0:aa} {o b:Nat} {s:Tx} {a d D n:Nat} {e:Int} {R:LV→aa→Prop}
theorem si (h:Rd st o s a e D) (he:e≠0) (hR:R .nilp st):az Tryz.prog 74 [.ptr o 0] st R:=by
 refine az.Fa ?_
 refine c74 _ ?_
 have e1:ca st (.ptr o 0)=some (.ptr st.length 0,st++[.cells .rw [.ptr o 0]]):=rfl
 have e2:ld1 (st++[.cells .rw [.ptr o 0]]) (.ptr st.length 0)=some (.ptr o 0):=by rw[a7 aw];rfl
 have e3:(e != 0)=true:=by simpa using he
 simp only[w74,e1,ag,e2,ab,aF,aq,Nat.zero_add]
 refine et h.app ?_
 simp only[e3,ai]
 exact ⟨.nilp,Fr.app,rfl,rfl,hR⟩
structure TIn (st0:aa) (o b:Nat) (st:aa) (f:Option Nat) (acc:List LV):Prop where
 fr:Fr st0 st (fun j=>j=o)
 nb:st0.length≤b
 hb:st[b]?=some (.cells .rw [i64 7,osl f 1 acc.length,.nils,.nils])
 own:bB .rw st f 1 acc.length acc
 nf:∀ j,f=some j→st0.length≤j∧j≠b
 pl:LV.aB acc=true
theorem TIn.rd {f:Option Nat} {acc:List LV} (h:TIn st0 o b st f acc) (ho:o<st0.length) {y:av}:TIn st0 o b (st.set o y) f acc:=by
 have F:Fr st (st.set o y) (fun j=>j=o):=Fr.set rfl
 exact ⟨h.fr.trans F fun _ _ h=>h,h.nb,F.get h.hb (by have:=h.nb;omega),h.own.fr F fun j e=>by have:=(h.nf j e).1;omega,h.nf,h.pl⟩
theorem TIn.more {f:Option Nat} {acc:List LV} (h:TIn st0 o b st f acc) (ho:o<st0.length) (hl:acc.length<2 ^ 20) {v:LV} (hv:v.plain=true) (h1:v.one=true) {K:aa→Prop}
  (hK:∀ st2 f2,TIn st0 o b st2 f2 (acc++[v])→st2[o]?=st[o]?→K st2) :
  ld1 st (.ptr b 1)=some (osl f 1 acc.length)∧bd2 (aN st 1 (ao (fun i=>some (i*1,1)) (List.replicate 1 [LV.nilp]).flatten [(0,v)])) fun v23 st24=>
   ld1 st24 (.ptr b 1)=some (osl f 1 acc.length)∧bd2 (ar st24 1 8 Md.rw (osl f 1 acc.length) v23) fun v25 st26=>bd2 (lmk (stV st26 1 (.ptr b 1) v25)) fun _v29 st30=>K st30:=by
 have hl1:ld1 st (.ptr b 1)=some (osl f 1 acc.length):=by rw[a7 h.hb];rfl
 have ef:ao (fun i=>some (i*1,1)) (List.replicate 1 [LV.nilp]).flatten [(0,v)]=some [v]:=by
  cases v<;>first|rfl|cases h1
 rw[ef]
 simp only[aY,ag]
 have hb1:(st++[av.cells .rw [v]])[b]?=some (.cells .rw [i64 7,osl f 1 acc.length,.nils,.nils]):=bT h.hb
 have hl2:ld1 (st++[av.cells .rw [v]]) (.ptr b 1)=some (osl f 1 acc.length):=by rw[a7 hb1];rfl
 refine ⟨hl1,hl2,?_⟩
 have ho1:=h.own.fr (st':=st++[.cells .rw [v]]) (S:=fun _=>False) Fr.app (fun _ _ h=>h)
 obtain ⟨st2,f2,q1,q2,q3,q4,_⟩:=ho1.append (x:=.sl st.length 0 1 (.ex 1)) (k:=1) (new:=[v]) (bytes:=8) (by simp[dz]) (by omega) rfl (by simp[h1]) (db (by omega) (by omega))
 rw[q1]
 simp only[ag]
 have hbl:b<st.length:=bL h.hb
 have hb2:=q3.get hb1 (fun e=>(h.nf _ e).2 rfl)
 have e1:stV st2 1 (.ptr b 1) (osl f2 1 (acc.length+1))=some (st2.set b (.cells .rw [i64 7,osl f2 1 (acc.length+1),.nils,.nils])):=by
  rw[cY hb2 (by simp) (by cases f2<;>rfl)];rfl
 rw[e1]
 simp only[ay,ag]
 have F:Fr st2 (st2.set b (.cells .rw [i64 7,osl f2 1 (acc.length+1),.nils,.nils])) (fun j=>j=b):=Fr.set rfl
 have fr1:Fr st0 (st++[av.cells .rw [v]]) (fun j=>j=o):=h.fr.trans (Fr.app (S:=fun j=>j=o)) fun _ _ h=>h
 have fr2:Fr st0 st2 (fun j=>j=o):=fr1.trans q3 fun j hj e=>by have:=(h.nf j e).1;omega
 have nf2:∀ j,f2=some j→st0.length≤j∧j≠b:=fun j e=>by
  rcases q4 j e with e|e
  ·exact h.nf j e
  ·have:=h.fr.len
   simp only[List.length_append,List.length_cons,List.length_nil] at e
   exact ⟨by omega,by omega⟩
 refine hK _ f2 ⟨fr2.trans F fun j hj e=>by have:=h.nb;omega,h.nb,?_,?_,nf2,?_⟩ ?_
 ·rw[List.length_append];exact bq hb2
 ·rw[List.length_append]
  exact q2.fr F fun j e=>(nf2 j e).2
 ·rw[cZ,h.pl];simp[LV.aB,hv]
 ·have hol:o<st.length:=Nat.lt_of_lt_of_le ho h.fr.len
  rw[br (by have:=h.nb;omega),q3.same o (by simp;omega) fun e=>by have:=(h.nf o e).1;omega,List.getElem?_append_left hol]
def TQ (st0:aa) (o:Nat) (R:LV→aa→Prop) (r:LV) (st':aa):Prop:=
 ∃ v y,Fr st0 st' (fun j=>j=o)∧st'[o]?=some y∧y.lt st0.length=true∧dp (eW st0.length st') v r∧v.plain=true∧R v (st0.set o y)
theorem pg:(rdO s a e D).lt n=true:=rfl
theorem TIn.fin {f:Option Nat} {acc:List LV} (h:TIn st0 o b st f acc) (hr:Rd st o s a e D) (hR:R (.iptr [i64 7,.isl acc acc.length none,.isl [] 0 none,.isl [] 0 none] 0) (st0.set o (rdO s a e D))):TQ st0 o R (.ptr b 0) st:=by
 refine ⟨_,_,h.fr,hr,pg,?_,by simp[LV.plain,LV.aB,h.pl],hR⟩
 refine .inl ⟨b,.rw,_,rfl,(fR h.nb).trans h.hb,rfl,by simp,?_⟩
 simp only[List.length_cons,List.length_nil,List.take_succ_cons,List.take_zero]
 exact ⟨_,_,rfl,rfl,_,_,rfl,dA (h.own.eW fun j e=>(h.nf j e).1) rfl (bA _ h.pl),_,_,rfl,.inr (.inr ⟨.inr rfl,rfl,rfl⟩),_,_,rfl,.inr (.inr ⟨.inr rfl,rfl,rfl⟩),rfl⟩
def nQ (d:Nat) (r:Tx):Option (List KT × Tx):=if r.head?=some 93 then some ([],r.tail) else dS (pT d) 16 r
theorem drop_cons {c:UInt8} (h:s[a]?=some c):s.drop a=c::s.drop (a+1):=by
 obtain ⟨h1,h2⟩:=List.getElem?_eq_some_iff.1 h
 rw[List.drop_eq_getElem_cons h1,h2]
theorem bQ:(s.drop a).head?=s[a]?:=by rw[List.head?_drop]
theorem lg {f:Option Nat} {acc:List LV} (h:TIn st0 o b st f acc) (hr:Rd st o s a e D) (he:e≠0) (hR:∀ v a' e',v.plain=true→v.one=true→e'≠0→a'≤s.length→R v (st0.set o (rdO s a' e' D))) (ha:a≤s.length) :
  rP (.ptr o 0) (.ptr b 0) (TQ st0 o R) st:=by
 refine zU _ _ ?_
 simp only[u3,aF,ab,aq,Nat.zero_add]
 refine et hr ?_
 have e3:(e != 0)=true:=by simpa using he
 simp only[e3,bF,ab,Bool.not_true,af]
 exact h.fin hr (hR _ _ _ (by simp[LV.plain,LV.aB,h.pl]) rfl he ha)
theorem Az (ih:fI d D) (hs:s.length≤4096) (ho:o<st0.length) {res:Option (List KT × Tx)}
  (h1:∀ l a',a'≤s.length→res=some (l,s.drop a')→R (kV (.mk 7 l [] [])) (st0.set o (rdO s a' 0 D)))
  (h2:res=none→∀ v a' e',v.plain=true→v.one=true→e'≠0→a'≤s.length→R v (st0.set o (rdO s a' e' D))) :
  ∀ (k:Nat) (acc:List KT) (f:Option Nat) (st:aa) (a:Nat),acc.length+k=16→a≤s.length→TIn st0 o b st f (kVs acc)→Rd st o s a 0 D→
   (res=match dS (pT d) k (s.drop a) with
    | none=>none
    | some (l,r)=>some (acc++l,r))→rP (.ptr o 0) (.ptr b 0) (TQ st0 o R) st:=by
 intro k
 induction k with
 | zero=>
  intro acc f st a hk ha h hr hres
  have hres:res=none:=hres
  refine zU _ _ ?_
  simp only[u3,aF,ab,aq,Nat.zero_add]
  refine et hr ?_
  have hl:ld1 st (.ptr b 1)=some (osl f 1 (kVs acc).length):=by rw[a7 h.hb];rfl
  have c1:(((kVs acc).length:Int)==16)=true:=by
   have:(kVs acc).length=16:=by rw[iO];omega
   rw[this];rfl
  simp only[bne_self_eq_false,bF,ab,Bool.not_false,ai,hl,h.own.bg,ae,aQ,c1,hr.l1]
  refine fU hr ?_
  have h':=h.rd ho (y:=rdO s a 3 D)
  have hr':Rd (st.set o (rdO s a 3 D)) o s a 3 D:=hr.set
  have hl':ld1 (st.set o (rdO s a 3 D)) (.ptr b 1)=some (osl f 1 (kVs acc).length):=by rw[a7 h'.hb];rfl
  simp only[hl',ab]
  refine si hr' (by decide) ?_
  refine h'.more ho (by rw[iO];omega) rfl rfl fun st2 f2 h2' ho2=>?_
  have hr2:Rd st2 o s a 3 D:=ho2.trans hr'
  refine u4 _ _ ?_
  simp only[qD,aF,ab,aq,Nat.zero_add]
  refine iq (c:=93) hr2 (.inl (by decide)) ?_
  simp only[af]
  refine ir (c:=44) hr2 (by decide) ?_
  exact lg h2' hr2 (by decide) (h2 hres) ha
 | succ k ihk=>
  intro acc f st a hk ha h hr hres
  refine zU _ _ ?_
  simp only[u3,aF,ab,aq,Nat.zero_add]
  refine et hr ?_
  have hl:ld1 st (.ptr b 1)=some (osl f 1 (kVs acc).length):=by rw[a7 h.hb];rfl
  have c1:(((kVs acc).length:Int)==16)=false:=by
   have:(kVs acc).length≠16:=by rw[iO];omega
   have:((kVs acc).length:Int)≠16:=by omega
   simpa using this
  simp only[bne_self_eq_false,bF,ab,Bool.not_false,ai,hl,h.own.bg,ae,aQ,c1,af]
  refine ih hs ha hr (fun t a1 ha1 hp=>?_) fun hp v a1 e1 hv hv1 he1 ha1=>?_
  ·have h':=h.rd ho (y:=rdO s a1 0 D)
   have hr':Rd (st.set o (rdO s a1 0 D)) o s a1 0 D:=hr.set
   refine h'.more ho (by rw[iO];omega) dw rfl fun st2 f2 h2' ho2=>?_
   have hr2:Rd st2 o s a1 0 D:=ho2.trans hr'
   have h3:TIn st0 o b st2 f2 (kVs (acc++[t])):=by rw[CB];exact h2'
   rw[dS,hp] at hres
   refine u4 _ _ ?_
   simp only[qD,aF,ab,aq,Nat.zero_add]
   by_cases hc:s[a1]?=some 93
   ·refine kZ hr2 hc (by omega) ?_
    simp only[ai]
    have hlt:=(List.getElem?_eq_some_iff.1 hc).1
    rw[drop_cons hc] at hres
    have h4:=h3.rd ho (y:=rdO s (a1+1) 0 D)
    refine h4.fin hr2.set ?_
    have:=h1 (acc++[t]) (a1+1) (by omega) (by simpa using hres)
    simp only[kV,kC,List.map_nil,List.length_nil] at this
    rw[iO];exact this
   ·refine iq hr2 (.inr hc) ?_
    simp only[af]
    by_cases hc2:s[a1]?=some 44
    ·refine k9 hr2 hc2 (by omega) ?_
     have hlt:=(List.getElem?_eq_some_iff.1 hc2).1
     have h4:=h3.rd ho (y:=rdO s (a1+1) 0 D)
     refine ihk (acc++[t]) f2 _ (a1+1) (by simp;omega) (by omega) h4 hr2.set ?_
     rw[hres,drop_cons hc2]
     have n1:¬ (44:UInt8)=93:=by decide
     simp only[n1,if_false,if_true]
     cases dS (pT d) k (s.drop (a1+1)) with
     | none=>rfl
     | some p=>simp
    ·refine nO hr2 hc2 ?_
     have h4:=h3.rd ho (y:=rdO s a1 4 D)
     refine lg h4 hr2.set (by decide) (h2 ?_) ha1
     rw[hres]
     cases hd:s.drop a1 with
     | nil=>rfl
     | cons c r=>
      have hx:s[a1]?=some c:=by rw[← bQ,hd];rfl
      have n1:¬ c=93:=fun e=>hc (by rw[hx,e])
      have n2:¬ c=44:=fun e=>hc2 (by rw[hx,e])
      simp only[n1,n2,if_false]
  ·have h':=h.rd ho (y:=rdO s a1 e1 D)
   have hr':Rd (st.set o (rdO s a1 e1 D)) o s a1 e1 D:=hr.set
   refine h'.more ho (by rw[iO];omega) hv hv1 fun st2 f2 h2' ho2=>?_
   have hr2:Rd st2 o s a1 e1 D:=ho2.trans hr'
   refine u4 _ _ ?_
   simp only[qD,aF,ab,aq,Nat.zero_add]
   refine iq (c:=93) hr2 (.inl he1) ?_
   simp only[af]
   refine ir (c:=44) hr2 he1 ?_
   refine lg h2' hr2 he1 (h2 ?_) ha1
   rw[hres,dS,hp]
theorem AA (ih:fI d D) (hs:s.length≤4096) (ha:a≤s.length) (hr:Rd st o s a 0 D)
  (h1:∀ l a',a'≤s.length→nQ d (s.drop a)=some (l,s.drop a')→R (kV (.mk 7 l [] [])) (st.set o (rdO s a' 0 D)))
  (h2:nQ d (s.drop a)=none→∀ v a' e',v.plain=true→v.one=true→e'≠0→a'≤s.length→R v (st.set o (rdO s a' e' D))):az Tryz.prog 138 [.ptr o 0] st R:=by
 refine az.xK hr.lt ?_
 refine c138 _ ?_
 have e1:aP (ao (aA [(0,1),(1,1),(2,1),(3,1)]) [i64 0,LV.nils,LV.nils,LV.nils] [(0,i64 7)])=some (.agg [i64 7,.nils,.nils,.nils]):=rfl
 have e2:ca st (.agg [i64 7,.nils,.nils,.nils])=some (.ptr st.length 0,st++[.cells .rw [i64 7,.nils,.nils,.nils]]):=rfl
 simp only[MX,e1,ab,e2,ag,aF,aq,Nat.zero_add]
 have hr':Rd (st++[av.cells .rw [i64 7,.nils,.nils,.nils]]) o s a 0 D:=hr.app
 have hT:TIn st o st.length (st++[av.cells .rw [i64 7,.nils,.nils,.nils]]) none (kVs []):=⟨Fr.app,Nat.le_refl _,aw,bB.nil,(fun _ h=>by cases h),rfl⟩
 by_cases hc:s[a]?=some 93
 ·refine kZ hr' hc (by omega) ?_
  simp only[ai]
  have hlt:=(List.getElem?_eq_some_iff.1 hc).1
  refine (hT.rd hr.lt (y:=rdO s (a+1) 0 D)).fin hr'.set ?_
  exact h1 [] (a+1) (by omega) (by unfold nQ;rw[bQ,if_pos hc,drop_cons hc];rfl)
 ·refine iq hr' (.inr hc) ?_
  simp only[af]
  have hp:nQ d (s.drop a)=dS (pT d) 16 (s.drop a):=by unfold nQ;rw[bQ,if_neg hc]
  refine Az ih hs hr.lt h1 h2 16 [] none _ a rfl ha hT hr' ?_
  rw[hp]
  cases dS (pT d) 16 (s.drop a)<;>rfl
end
section
variable {st st' st0:aa} {o b:Nat} {s:Tx} {a d D n:Nat} {e:Int} {R:LV→aa→Prop}
theorem nR {f:Option Nat} {acc:List LV} {X x:LV} {bytes:Nat} (h:bB .rw st f 1 acc.length acc) (hX:dz st 1 X=some (1,[x])) (h1:x.one=true) (hl:acc.length<2 ^ 20) (hb:bytes≤256) :
  ∃ st2 f2,ar st 1 bytes .rw (osl f 1 acc.length) X=some (osl f2 1 (acc++[x]).length,st2)∧bB .rw st2 f2 1 (acc++[x]).length (acc++[x])∧Fr st st2 (fun j=>f=some j)∧(∀ j,f2=some j→f=some j∨st.length≤j):=by
 obtain ⟨st2,f2,q1,q2,q3,q4,_⟩:=h.append (bytes:=bytes) hX (by omega) rfl (by simp[h1]) (db (by omega) hb)
 rw[List.length_append]
 exact ⟨st2,f2,q1,q2,q3,q4⟩
structure Two (st st3:aa) (fn fb fn2 fb2:Option Nat) (A B:List LV):Prop where
 fr:Fr st st3 (fun j=>fn=some j∨fb=some j)
 oA:bB .rw st3 fn2 1 A.length A
 oB:bB .rw st3 fb2 1 B.length B
 gA:∀ j,fn2=some j→fn=some j∨st.length≤j
 gB:∀ j,fb2=some j→fb=some j∨st.length≤j
 ne:∀ j,fn2=some j→fb2≠some j
theorem gC {f:Option Nat} {k:Nat} {acc:List LV} {j:Nat} (h:bB .rw st f 1 k acc) (e:f=some j):j<st.length:=by subst e;exact h.lt
theorem vD {st1:aa} {fn fb:Option Nat} {A B:List LV} {X x:LV} (hA:bB .rw st fn 1 A.length A) (hB:bB .rw st fb 1 B.length B) (hd:∀ j,fn=some j→fb≠some j) (hlA:A.length<2 ^ 20) (hlB:B.length<2 ^ 20)
  (F1:Fr st st1 (fun _=>False)) (hX:dz st1 1 X=some (1,[x])) (x1:x.one=true) :
  ∃ st2 fn2,ar st1 1 16 .rw (osl fn 1 A.length) X=some (osl fn2 1 (A++[x]).length,st2)∧Fr st1 st2 (fun j=>fn=some j)∧
   ∀ st3 Y y,Fr st2 st3 (fun _=>False)→dz st3 1 Y=some (1,[y])→y.one=true→∃ st4 fb2,ar st3 1 1 .rw (osl fb 1 B.length) Y=some (osl fb2 1 (B++[y]).length,st4)∧Two st st4 fn fb fn2 fb2 (A++[x]) (B++[y]):=by
 obtain ⟨st2,fn2,q1,q2,q3,q4⟩:=nR (bytes:=16) (hA.fr F1 fun _ _ h=>h) hX x1 hlA (by omega)
 refine ⟨st2,fn2,q1,q3,fun st3 Y y F3 hY y1=>?_⟩
 have hB1:=(hB.fr F1 fun _ _ h=>h).fr q3 fun j e e2=>hd j e2 e
 obtain ⟨st4,fb2,p1,p2,p3,p4⟩:=nR (bytes:=1) (hB1.fr F3 fun _ _ h=>h) hY y1 hlB (by omega)
 have l1:=F1.len
 have l2:=q3.len
 have l3:=F3.len
 have nn:∀ j,fn2=some j→fb≠some j:=fun j e e2=>by
  rcases q4 j e with h|h
  ·exact hd j h e2
  ·have:=gC hB e2;omega
 refine ⟨st4,fb2,p1,?_,(q2.fr F3 fun _ _ h=>h).fr p3 fun j e e2=>nn j e e2,p2,fun j e=>?_,fun j e=>?_,fun j e e2=>?_⟩
 ·have f12:Fr st st2 (fun j=>fn=some j∨fb=some j):=(F1.mono (S':=fun j=>fn=some j∨fb=some j) fun _ _ h=>h.elim).trans q3 fun j _ h=>.inl h
  exact f12.trans ((F3.mono (S':=fun j=>fb=some j) fun _ _ h=>h.elim).trans p3 fun j _ h=>h) fun j _ h=>.inr h
 ·rcases q4 j e with h|h
  ·exact .inl h
  ·exact .inr (by omega)
 ·rcases p4 j e with h|h
  ·exact .inl h
  ·exact .inr (by omega)
 ·rcases p4 j e2 with h|h
  ·exact nn j e h
  ·have:=gC q2 e;omega
end
structure OIn (st0:aa) (o b:Nat) (st:aa) (fl fn fb:Option Nat) (L:List LV) (ns:List Tx) (ls:List Bool):Prop where
 fr:Fr st0 st (fun j=>j=o)
 nb:st0.length≤b
 hb:st[b]?=some (.cells .rw [i64 8,osl fl 1 L.length,osl fn 1 (ns.map LV.str).length,osl fb 1 (ls.map LV.bool).length])
 ol:bB .rw st fl 1 L.length L
 on:bB .rw st fn 1 (ns.map LV.str).length (ns.map .str)
 ob:bB .rw st fb 1 (ls.map LV.bool).length (ls.map .bool)
 gl:∀ j,fl=some j→st0.length≤j∧j≠b
 gn:∀ j,fn=some j→st0.length≤j∧j≠b
 gb:∀ j,fb=some j→st0.length≤j∧j≠b
 d1:∀ j,fl=some j→fn≠some j∧fb≠some j
 d2:∀ j,fn=some j→fb≠some j
 pl:LV.aB L=true
section
variable {st st' st0:aa} {o b:Nat} {s:Tx} {a d D n:Nat} {e:Int} {R:LV→aa→Prop} {fl fn fb:Option Nat} {L:List LV} {ns:List Tx} {ls:List Bool}
theorem OIn.rd (h:OIn st0 o b st fl fn fb L ns ls) (ho:o<st0.length) {y:av}:OIn st0 o b (st.set o y) fl fn fb L ns ls:=by
 have F:Fr st (st.set o y) (fun j=>j=o):=Fr.set rfl
 have q:∀ {f:Option Nat},(∀ j,f=some j→st0.length≤j∧j≠b)→∀ j,f=some j→¬ (j=o):=fun g j e=>by have:=(g j e).1;omega
 exact ⟨h.fr.trans F fun _ _ h=>h,h.nb,F.get h.hb (by have:=h.nb;omega),h.ol.fr F (q h.gl),h.on.fr F (q h.gn),h.ob.fr F (q h.gb),h.gl,h.gn,h.gb,h.d1,h.d2,h.pl⟩
theorem OIn.two {fn2 fb2:Option Nat} {w:Tx} {g:Bool} {st4:aa} (h:OIn st0 o b st fl fn fb L ns ls) (ho:o<st0.length) (t:Two st st4 fn fb fn2 fb2 (ns.map LV.str++[LV.str w]) (ls.map LV.bool++[LV.bool g])) :
  ∃ st5 st6,stV st4 1 (.ptr b 2) (osl fn2 1 (ns.map LV.str++[LV.str w]).length)=some st5∧stV st5 1 (.ptr b 3) (osl fb2 1 (ls.map LV.bool++[LV.bool g]).length)=some st6∧
   OIn st0 o b st6 fl fn2 fb2 L (ns++[w]) (ls++[g])∧st6[o]?=st[o]?:=by
 have hbl:=bL h.hb
 have l0:=h.fr.len
 have hb4:=t.fr.get h.hb (by rintro (e|e);exact (h.gn _ e).2 rfl;exact (h.gb _ e).2 rfl)
 have e5:stV st4 1 (.ptr b 2) (osl fn2 1 (ns.map LV.str++[LV.str w]).length)=some (st4.set b (.cells .rw [i64 8,osl fl 1 L.length,osl fn2 1 (ns.map LV.str++[LV.str w]).length,osl fb 1 (ls.map LV.bool).length])):=by
  rw[cY hb4 (by simp) (by cases fn2<;>rfl)];rfl
 have hb5:=bq (y:=.cells .rw [i64 8,osl fl 1 L.length,osl fn2 1 (ns.map LV.str++[LV.str w]).length,osl fb 1 (ls.map LV.bool).length]) hb4
 have e6:stV (st4.set b (.cells .rw [i64 8,osl fl 1 L.length,osl fn2 1 (ns.map LV.str++[LV.str w]).length,osl fb 1 (ls.map LV.bool).length])) 1 (.ptr b 3) (osl fb2 1 (ls.map LV.bool++[LV.bool g]).length) =
   some (st4.set b (.cells .rw [i64 8,osl fl 1 L.length,osl fn2 1 (ns.map LV.str++[LV.str w]).length,osl fb2 1 (ls.map LV.bool++[LV.bool g]).length])):=by
  rw[cY hb5 (by simp) (by cases fb2<;>rfl),List.set_set];rfl
 have F:Fr st4 (st4.set b (.cells .rw [i64 8,osl fl 1 L.length,osl fn2 1 (ns.map LV.str++[LV.str w]).length,osl fb2 1 (ls.map LV.bool++[LV.bool g]).length])) (fun j=>j=b):=Fr.set rfl
 have gn2:∀ j,fn2=some j→st0.length≤j∧j≠b:=fun j e=>by
  rcases t.gA j e with h1|h1
  ·exact h.gn j h1
  ·exact ⟨by omega,by omega⟩
 have gb2:∀ j,fb2=some j→st0.length≤j∧j≠b:=fun j e=>by
  rcases t.gB j e with h1|h1
  ·exact h.gb j h1
  ·exact ⟨by omega,by omega⟩
 refine ⟨_,_,e5,e6,⟨?_,h.nb,?_,?_,?_,?_,h.gl,gn2,gb2,fun j e=>⟨fun e2=>?_,fun e2=>?_⟩,t.ne,h.pl⟩,?_⟩
 ·exact (h.fr.trans t.fr fun j hj e=>by rcases e with e|e;(have:=(h.gn j e).1;omega);(have:=(h.gb j e).1;omega)).trans F fun j hj e=>by have:=h.nb;omega
 ·rw[List.map_append,List.map_append];exact bq hb4
 ·refine (h.ol.fr t.fr fun j e=>?_).fr F fun j e=>(h.gl j e).2
  rintro (e2|e2)
  ·exact (h.d1 j e).1 e2
  ·exact (h.d1 j e).2 e2
 ·rw[List.map_append];exact t.oA.fr F fun j e=>(gn2 j e).2
 ·rw[List.map_append];exact t.oB.fr F fun j e=>(gb2 j e).2
 ·rcases t.gA j e2 with h1|h1
  ·exact (h.d1 j e).1 h1
  ·have:=gC h.ol e;omega
 ·rcases t.gB j e2 with h1|h1
  ·exact (h.d1 j e).2 h1
  ·have:=gC h.ol e;omega
 ·have hol:o<st.length:=Nat.lt_of_lt_of_le ho l0
  rw[br (by have:=h.nb;omega),t.fr.same o hol]
  rintro (e|e)
  ·have:=(h.gn o e).1;omega
  ·have:=(h.gb o e).1;omega
theorem jq {x:LV} {k:Nat}:dz (st++[av.cells .rw [x]]) 1 (.sl st.length 0 1 (.ex k))=some (1,[x]):=by simp[dz]
theorem OIn.pair {w:Tx} {g:Bool} (h:OIn st0 o b st fl fn fb L ns ls) (ho:o<st0.length) (hln:ns.length<2 ^ 20) (hlb:ls.length<2 ^ 20)
  (hK:∀ st2 fn2 fb2,OIn st0 o b st2 fl fn2 fb2 L (ns++[w]) (ls++[g])→st2[o]?=st[o]?→iJ (.ptr o 0) (.ptr b 0) R st2):qE (.ptr o 0) (.ptr b 0) (.str w) (.bool g) R st:=by
 refine Il _ _ _ _ ?_
 have hlA:(ns.map LV.str).length<2 ^ 20:=by simpa using hln
 have hlB:(ls.map LV.bool).length<2 ^ 20:=by simpa using hlb
 have l2:∀ {s2:aa} {c:LV} {k:Nat},s2[b]?=st[b]?→([i64 8,osl fl 1 L.length,osl fn 1 (ns.map LV.str).length,osl fb 1 (ls.map LV.bool).length]:List LV)[k]?=some c→ld1 s2 (.ptr b k)=some c:=fun h1 h2=>by
  rw[a7 (h1.trans h.hb)];exact h2
 have efb:ao (fun i=>some (i*1,1)) (List.replicate 1 [LV.bool false]).flatten [(0,.bool g)]=some [.bool g]:=rfl
 have efs:ao (fun i=>some (i*1,1)) (List.replicate 1 [LV.str []]).flatten [(0,.str w)]=some [.str w]:=rfl
 have hbl:=bL h.hb
 have nbn:¬ fn=some b:=fun e=>(h.gn _ e).2 rfl
 have nbb:¬ fb=some b:=fun e=>(h.gb _ e).2 rfl
 have same:∀ {s2:aa} {S:Nat→Prop},Fr st s2 S→¬ S b→s2[b]?=st[b]?:=fun F hn=>F.same b hbl hn
 have fin:∀ {st4:aa} {fn2 fb2:Option Nat},Two st st4 fn fb fn2 fb2 (ns.map LV.str++[LV.str w]) (ls.map LV.bool++[LV.bool g])→
   bd2 (lmk (stV st4 1 (.ptr b 2) (osl fn2 1 (ns.map LV.str++[LV.str w]).length))) fun _v16 st17=>bd2 (lmk (stV st17 1 (.ptr b 3) (osl fb2 1 (ls.map LV.bool++[LV.bool g]).length))) fun _v20 st21=>iJ (.ptr o 0) (.ptr b 0) R st21:=by
  intro st4 fn2 fb2 t
  obtain ⟨st5,st6,e5,e6,h6,h7⟩:=h.two ho t
  rw[e5]
  simp only[ay,ag]
  rw[e6]
  simp only[ay,ag]
  exact hK _ _ _ h6 h7
 have F1:∀ {x:av},Fr st (st++[x]) (fun _=>False):=Fr.app
 have F2:∀ {x y:av},Fr st (st++[x]++[y]) (fun _=>False):=F1.trans Fr.app fun _ _ h=>h
 have a2:=l2 (s2:=st) (k:=2) rfl rfl
 have a3:=l2 (s2:=st) (k:=3) rfl rfl
 simp only[Ca,aF,ab,aq,Nat.zero_add,a2,a3,efb,efs,aY,ag]
 refine ⟨⟨l2 (same F1 id) rfl,l2 (same F1 id) rfl,l2 (same F2 id) rfl,l2 (same F2 id) rfl,?_⟩,l2 (same F1 id) rfl,l2 (same F1 id) rfl,⟨l2 (same F2 id) rfl,l2 (same F2 id) rfl,?_⟩,?_⟩
 ·obtain ⟨s2,fn2,e1,Fq,hq⟩:=vD (x:=.str w) h.on h.ob h.d2 hlA hlB F2 jq rfl
  rw[e1]
  simp only[ag]
  obtain ⟨s4,fb2,e2,t⟩:=hq s2 (.sl st.length 0 1 (.ex 1)) (.bool g) Fr.refl (by
   have hg:s2[st.length]?=some (.cells .rw [.bool g]):=by
    rw[Fq.same _ (by simp) (fun e=>by have:=gC h.on e;omega)]
    exact bT aw
   simp[dz,hg]) rfl
  refine ⟨l2 (((F2.mono (S':=fun j=>fn=some j) fun _ _ h=>h.elim).trans Fq fun _ _ h=>h).same b hbl nbn) rfl,?_⟩
  rw[e2]
  exact fin t
 ·obtain ⟨s2,fn2,e1,Fq,hq⟩:=vD (x:=.str w) (X:=.sl st.length 0 1 (.ex 1)) h.on h.ob h.d2 hlA hlB (F2 (x:=.cells .rw [.str w]) (y:=.cells .rw [.bool g])) (by
   have hg:(st++[av.cells .rw [.str w]]++[.cells .rw [.bool g]])[st.length]?=some (.cells .rw [.str w]):=bT aw
   simp only[dz,hg];simp) rfl
  rw[e1]
  simp only[ag]
  obtain ⟨s4,fb2,e2,t⟩:=hq s2 (.sl (st++[av.cells .rw [.str w]]).length 0 1 (.ex 1)) (.bool g) Fr.refl (by
   have hg:s2[(st++[av.cells .rw [.str w]]).length]?=some (.cells .rw [.bool g]):=by
    rw[Fq.same _ (by simp) (fun e=>by have:=gC h.on e;simp at this;omega)]
    exact aw
   simp only[dz,hg];simp) rfl
  refine ⟨l2 (((F2.mono (S':=fun j=>fn=some j) fun _ _ h=>h.elim).trans Fq fun _ _ h=>h).same b hbl nbn) rfl,?_⟩
  rw[e2]
  exact fin t
 ·obtain ⟨s2,fn2,e1,Fq,hq⟩:=vD (x:=.str w) h.on h.ob h.d2 hlA hlB F1 jq rfl
  rw[e1]
  simp only[ag]
  have F3:Fr st s2 (fun j=>fn=some j):=(F1.mono (S':=fun j=>fn=some j) fun _ _ h=>h.elim).trans Fq fun _ _ h=>h
  have F4:Fr st (s2++[.cells .rw [.bool g]]) (fun j=>fn=some j):=F3.trans Fr.app fun _ _ h=>h
  obtain ⟨s4,fb2,e2,t⟩:=hq (s2++[.cells .rw [.bool g]]) (.sl s2.length 0 1 (.ex 1)) (.bool g) Fr.app jq rfl
  refine ⟨l2 (F3.same b hbl nbn) rfl,l2 (F4.same b hbl nbn) rfl,?_⟩
  have:ld1 (s2++[av.cells .rw [.bool g]]) (.ptr b 2)=some (osl fn 1 (ns.map LV.str).length):=l2 (F4.same b hbl nbn) rfl
  refine ⟨this,?_⟩
  rw[e2]
  exact fin t
end
end Go.Proofs.YtknegckgmklnhaaGreatDoor
