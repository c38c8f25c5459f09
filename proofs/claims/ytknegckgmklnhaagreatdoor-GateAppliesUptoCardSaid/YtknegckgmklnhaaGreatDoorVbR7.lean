/- Parts of the proof. -/
import Derived.Test.YtknegckgmklnhaaGreatDoorVbR5
namespace Go.Proofs.YtknegckgmklnhaaGreatDoor
open Go Go.CP
set_option maxRecDepth 100000
section
variable {st st' st0:aa} {o b:Nat} {s:Tx} {a d D n:Nat} {e:Int} {R:LV→aa→Prop} {fl fn fb:Option Nat} {L:List LV} {ns:List Tx} {ls:List Bool}
theorem OIn.fin (h:OIn st0 o b st fl fn fb L ns ls) (hr:Rd st o s a e D) (hR:R (.iptr [i64 8,.isl L L.length none,.isl (ns.map .str) (ns.map LV.str).length none,.isl (ls.map .bool) (ls.map LV.bool).length none] 0) (st0.set o (rdO s a e D))):TQ st0 o R (.ptr b 0) st:=by
 have p1:LV.aG (ns.map LV.str)=true:=bV fun _ _=>rfl
 have p2:LV.aG (ls.map LV.bool)=true:=bV fun _ _=>rfl
 refine ⟨_,_,h.fr,hr,qx,?_,by simp[LV.plain,LV.aG,h.pl,p1,p2],hR⟩
 refine .inl ⟨b,.rw,_,rfl,(gJ h.nb).trans h.hb,rfl,by simp,?_⟩
 simp only[aW,aR,List.take_succ_cons,List.take_zero]
 exact ⟨_,_,rfl,rfl,_,_,rfl,eL (h.ol.fN fun j e=>(h.gl j e).1) rfl (bU _ h.pl),_,_,rfl,eL (h.on.fN fun j e=>(h.gn j e).1) rfl (bU _ p1),_,_,rfl,eL (h.ob.fN fun j e=>(h.gb j e).1) rfl (bU _ p2),rfl⟩
def o7 (d:Nat) (r:Tx):Option (List Fld × Tx):=if r.head?=some 125 then some ([],r.tail) else dE (pT d) 16 none r
abbrev kO (fs:List Fld):KT:=.mk 8 (fs.map (·.2.2)) (fs.map (·.1)) (fs.map (·.2.1))
theorem xJ (h:OIn st0 o b st fl fn fb L ns ls) (hr:Rd st o s a e D) (he:e≠0) (ha:a≤s.length) (hR:∀ v a' e',v.plain=true→v.one=true→e'≠0→a'≤s.length→R v (st0.set o (rdO s a' e' D))):TQ st0 o R (.ptr b 0) st:=by
 have p1:LV.aG (ns.map LV.str)=true:=bV fun _ _=>rfl
 have p2:LV.aG (ls.map LV.bool)=true:=bV fun _ _=>rfl
 exact h.fin hr (hR _ _ _ (by simp[LV.plain,LV.aG,h.pl,p1,p2]) rfl he ha)
theorem jE (h:OIn st0 o b st fl fn fb L ns ls) (hr:Rd st o s a e D) (he:e≠0) (ha:a≤s.length) (hR:∀ v a' e',v.plain=true→v.one=true→e'≠0→a'≤s.length→R v (st0.set o (rdO s a' e' D))):tw (.ptr o 0) (.ptr b 0) (TQ st0 o R) st:=by
 refine BM _ _ ?_
 simp only[wY,aI,ab,ao,aj]
 refine fg hr ?_
 have e3:(e != 0)=true:=by simpa using he
 simp only[e3,bw,ab,bM,ae]
 exact xJ h hr he ha hR
theorem xK {fs:List Fld}:(kVs (fs.map (·.2.2))).length=fs.length:=by rw[jv,bH]
theorem zZ (ih:gy d D) (hs:s.length≤4096) (ho:o<st0.length) {res:Option (List Fld × Tx)}
  (h1:∀ l a',a'≤s.length→res=some (l,s.drop a')→R (kV (kO l)) (st0.set o (rdO s a' 0 D)))
  (h2:res=none→∀ v a' e',v.plain=true→v.one=true→e'≠0→a'≤s.length→R v (st0.set o (rdO s a' e' D))) :
  ∀ (k:Nat) (acc:List Fld) (fl fn fb:Option Nat) (st:aa) (a:Nat),acc.length+k=16→a≤s.length→OIn st0 o b st fl fn fb (kVs (acc.map (·.2.2))) (acc.map (·.1)) (acc.map (·.2.1))→Rd st o s a 0 D→
   (res=match dE (pT d) k (acc.map (·.1)).getLast? (s.drop a) with
    | none=>none
    | some (l,r)=>some (acc++l,r))→tw (.ptr o 0) (.ptr b 0) (TQ st0 o R) st:=by
 intro k
 induction k with
 | zero=>
  intro acc fl fn fb st a hk ha h hr hres
  have hres:res=none:=hres
  have hlen:acc.length=16:=by omega
  refine BM _ _ ?_
  simp only[wY,aI,ab,ao,aj]
  refine fg hr ?_
  simp only[bne_self_eq_false,bw,ab,bL,ah]
  refine Cl hs ho ha (by rw[xK,hlen]) (by rw[bH];omega) (by rw[bH];omega) h hr ?_
  intro st2 fl2 fn2 fb2 v w g a1 e1 he1 ha1 h3 hr3
  refine ja (c:=125) hr3 (.inl he1) ?_
  simp only[ae]
  refine jb (c:=44) hr3 he1 ?_
  exact jE h3 hr3 he1 ha1 (h2 hres)
 | succ k ihk=>
  intro acc fl fn fb st a hk ha h hr hres
  rw[o0] at hres
  refine BM _ _ ?_
  simp only[wY,aI,ab,ao,aj]
  refine fg hr ?_
  simp only[bne_self_eq_false,bw,ab,bL,ah]
  refine Cn ih hs ho ha (by rw[xK];omega) (by rw[xK,bH]) (by rw[xK,bH]) h hr (fun f a1 st2 fl2 fn2 fb2 ha1 hp h3 hr3=>?_) fun hp=>?_
  ·rw[hp] at hres
   have h4:OIn st0 o b st2 fl2 fn2 fb2 (kVs ((acc++[f]).map (·.2.2))) ((acc++[f]).map (·.1)) ((acc++[f]).map (·.2.1)):=by
    rw[List.map_append,List.map_append,List.map_append,Ef];exact h3
   by_cases hc:s[a1]?=some 125
   ·refine lY (c:=125) hr3 hc (by omega) ?_
    simp only[ah]
    have hlt:=(List.getElem?_eq_some_iff.1 hc).1
    rw[drop_cons hc] at hres
    refine (h4.rd ho (y:=rdO s (a1+1) 0 D)).fin hr3.set ?_
    have:=h1 (acc++[f]) (a1+1) (by omega) (by simpa using hres)
    simp only[kV,kC] at this
    rw[jv]
    simp only[bH] at this ⊢
    exact this
   ·refine ja (c:=125) hr3 (.inr hc) ?_
    simp only[ae]
    by_cases hc2:s[a1]?=some 44
    ·refine lZ (c:=44) hr3 hc2 (by omega) ?_
     have hlt:=(List.getElem?_eq_some_iff.1 hc2).1
     refine ihk (acc++[f]) fl2 fn2 fb2 _ (a1+1) (by simp;omega) (by omega) (h4.rd ho (y:=rdO s (a1+1) 0 D)) hr3.set ?_
     rw[hres,drop_cons hc2]
     have n1:¬ (44:UInt8)=125:=by decide
     have hlast:((acc++[f]).map (·.1)).getLast?=some f.1:=by simp
     simp only[n1,if_false,if_true,hlast]
     cases dE (pT d) k (some f.1) (s.drop (a1+1)) with
     | none=>rfl
     | some p=>simp
    ·refine oW (c:=44) hr3 hc2 ?_
     refine jE (h4.rd ho (y:=rdO s a1 4 D)) hr3.set (by decide) ha1 (h2 ?_)
     rw[hres]
     cases hd:s.drop a1 with
     | nil=>rfl
     | cons c r=>
      have hx:s[a1]?=some c:=by rw[← cx,hd];rfl
      have n1:¬ c=125:=fun e=>hc (by rw[hx,e])
      have n2:¬ c=44:=fun e=>hc2 (by rw[hx,e])
      simp only[n1,n2,if_false]
  ·rw[hp] at hres
   intro st2 fl2 fn2 fb2 v w g a1 e1 he1 ha1 h3 hr3
   refine ja (c:=125) hr3 (.inl he1) ?_
   simp only[ae]
   refine jb (c:=44) hr3 he1 ?_
   exact jE h3 hr3 he1 ha1 (h2 hres)
theorem z6 (ih:gy d D) (hs:s.length≤4096) (ha:a≤s.length) (hr:Rd st o s a 0 D)
  (h1:∀ l a',a'≤s.length→o7 d (s.drop a)=some (l,s.drop a')→R (kV (kO l)) (st.set o (rdO s a' 0 D)))
  (h2:o7 d (s.drop a)=none→∀ v a' e',v.plain=true→v.one=true→e'≠0→a'≤s.length→R v (st.set o (rdO s a' e' D))):aw Tryz.prog 139 [.ptr o 0] st R:=by
 refine aw.zF hr.lt ?_
 refine c139 _ ?_
 have e1:bh (aB (aF [(0,1),(1,1),(2,1),(3,1)]) [i64 0,LV.nils,LV.nils,LV.nils] [(0,i64 8)])=some (.agg [i64 8,.nils,.nils,.nils]):=rfl
 have e2:cu st (.agg [i64 8,.nils,.nils,.nils])=some (.ptr st.length 0,st++[.cells .rw [i64 8,.nils,.nils,.nils]]):=rfl
 simp only[Pt,e1,ab,e2,af,aI,ao,aj]
 have hr':Rd (st++[ar.cells .rw [i64 8,.nils,.nils,.nils]]) o s a 0 D:=hr.app
 have hT:OIn st o st.length (st++[ar.cells .rw [i64 8,.nils,.nils,.nils]]) none none none (kVs []) [] []:=
  ⟨Fr.app,Nat.le_refl _,ay,ca.nil,ca.nil,ca.nil,(fun _ h=>by cases h),(fun _ h=>by cases h),(fun _ h=>by cases h),(fun _ h=>by cases h),(fun _ h=>by cases h),rfl⟩
 by_cases hc:s[a]?=some 125
 ·refine lY (c:=125) hr' hc (by omega) ?_
  simp only[ah]
  have hlt:=(List.getElem?_eq_some_iff.1 hc).1
  refine (hT.rd hr.lt (y:=rdO s (a+1) 0 D)).fin hr'.set ?_
  exact h1 [] (a+1) (by omega) (by unfold o7;rw[cx,if_pos hc,drop_cons hc];rfl)
 ·refine ja (c:=125) hr' (.inr hc) ?_
  simp only[ae]
  have hp:o7 d (s.drop a)=dE (pT d) 16 none (s.drop a):=by unfold o7;rw[cx,if_neg hc]
  refine zZ ih hs hr.lt h1 h2 16 [] none none none _ a rfl ha hT hr' ?_
  rw[hp]
  show _=match dE (pT d) 16 none (s.drop a) with
   | none=>none
   | some (l,r)=>some ([]++l,r)
  cases dE (pT d) 16 none (s.drop a)<;>rfl
def ub (d:Nat) (r:Tx):Option (KT × Tx):=match r with
 | []=>none
 | c::r=>if c≠40 then none else match pT d r with
  | none=>none
  | some (x,r)=>match r with
   | []=>none
   | c::r=>if c=41 then some (x,r) else none
theorem z8 (ih:gy d D) (hs:s.length≤4096) (ha:a≤s.length) (hr:Rd st o s a 0 D) {i:Nat}
  (h1:∀ x a',a'≤s.length→ub d (s.drop a)=some (x,s.drop a')→R (kV (.mk i [x] [] [])) (st.set o (rdO s a' 0 D)))
  (h2:ub d (s.drop a)=none→∀ v a' e',v.plain=true→v.one=true→e'≠0→a'≤s.length→R v (st.set o (rdO s a' e' D))):aw Tryz.prog 141 [.ptr o 0,i64 i] st R:=by
 refine aw.zF hr.lt ?_
 refine c141 _ _ ?_
 simp only[Pv,aI,ab,ao,aj]
 -- the end
 have fin:∀ {v:LV} {a':Nat} {e':Int} {s2:aa},v.plain=true→v.one=true→s2=st.set o (rdO s a' e' D)→R (.iptr [i64 i,.isl [v] 1 none,.isl [] 0 none,.isl [] 0 none] 0) (st.set o (rdO s a' e' D))→
   bd2 (cq s2 1 (aB (fun i=>some (i*1,1)) (List.replicate 1 [LV.nilp]).flatten [(0,v)])) fun v10 st11=>
    bd (bh (aB (aF [(0,1),(1,1),(2,1),(3,1)]) [i64 0,LV.nils,LV.nils,LV.nils] [(0,i64 i),(1,v10)])) fun v12=>bd2 (cu st11 v12) fun v13 st14=>TQ st o R v13 st14:=by
  rintro v a' e' s2 hv hv1 rfl hR
  have ef:aB (fun i=>some (i*1,1)) (List.replicate 1 [LV.nilp]).flatten [(0,v)]=some [v]:=by
   cases v<;>first|rfl|cases hv1
  rw[ef]
  simp only[bE,af]
  generalize hS:st.set o (rdO s a' e' D)=S
  have hl:S.length=st.length:=by rw[← hS];simp
  have eg:bh (aB (aF [(0,1),(1,1),(2,1),(3,1)]) [i64 0,LV.nils,LV.nils,LV.nils] [(0,i64 i),(1,.sl S.length 0 1 (.ex 1))])=some (.agg [i64 i,.sl S.length 0 1 (.ex 1),.nils,.nils]):=rfl
  have eb:cu (S++[ar.cells .rw [v]]) (.agg [i64 i,.sl S.length 0 1 (.ex 1),.nils,.nils])=some (.ptr (S++[ar.cells .rw [v]]).length 0,S++[ar.cells .rw [v]]++[.cells .rw [i64 i,.sl S.length 0 1 (.ex 1),.nils,.nils]]):=rfl
  rw[eg]
  simp only[ab]
  rw[eb]
  simp only[af]
  have F:Fr st S (fun j=>j=o):=by rw[← hS];exact Fr.set rfl
  refine ⟨_,rdO s a' e' D,(F.trans (Fr.app (S:=fun j=>j=o)) fun _ _ h=>h).trans (Fr.app (S:=fun j=>j=o)) fun _ _ h=>h,?_,qx,?_,by simp[LV.plain,LV.aG,hv],hR⟩
  ·refine cb (cb ?_)
   rw[← hS];exact List.getElem?_set_self hr.lt
  ·refine .inl ⟨_,.rw,_,rfl,(gJ (by simp;omega)).trans ay,rfl,by simp,?_⟩
   simp only[aW,aR,List.take_succ_cons,List.take_zero]
   refine ⟨_,_,rfl,rfl,_,_,rfl,.inl ⟨S.length,0,.ex 1,.rw,[v],rfl,(gJ (by omega)).trans (cb ay),rfl,by simp,?_⟩,_,_,rfl,.inr (.inr ⟨.inr rfl,rfl,rfl⟩),_,_,rfl,.inr (.inr ⟨.inr rfl,rfl,rfl⟩),rfl⟩
   simp only[aW,aR,List.drop_zero,List.take_succ_cons,List.take_zero]
   exact ⟨_,_,rfl,bu _ hv,rfl⟩
 have wrong:∀ {v:LV} {a':Nat} {e':Int},v.plain=true→LV.plain (.iptr [i64 i,.isl [v] 1 none,.isl [] 0 none,.isl [] 0 none] 0)=true:=fun {v a' e'} hv=>by simp[LV.plain,LV.aG,hv]
 by_cases hc:s[a]?=some 40
 ·refine lZ (c:=40) hr hc (by omega) ?_
  have hlt:=(List.getElem?_eq_some_iff.1 hc).1
  have hr1:Rd (st.set o (rdO s (a+1) 0 D)) o s (a+1) 0 D:=hr.set
  have hp:ub d (s.drop a)=match pT d (s.drop (a+1)) with
    | none=>none
    | some (x,r)=>match r with
     | []=>none
     | c::r=>if c=41 then some (x,r) else none:=by
   rw[drop_cons hc,ub];simp only[ne_eq,not_true,if_false]
  refine ih hs (by omega) hr1 (fun t a1 ha1 hpt=>?_) fun hpt v a1 e1 hv hv1 he1 ha1=>?_
  ·rw[List.set_set]
   rw[hpt] at hp
   have hr2:Rd (st.set o (rdO s a1 0 D)) o s a1 0 D:=hr.set
   by_cases hc2:s[a1]?=some 41
   ·refine lZ (c:=41) hr2 hc2 (by omega) ?_
    rw[List.set_set]
    have hlt2:=(List.getElem?_eq_some_iff.1 hc2).1
    refine fin eu rfl rfl ?_
    exact h1 t (a1+1) (by omega) (by rw[hp,drop_cons hc2];simp)
   ·refine oW (c:=41) hr2 hc2 ?_
    rw[List.set_set]
    refine fin eu rfl rfl (h2 ?_ _ _ _ (wrong (a':=0) (e':=0) eu) rfl (by decide) ha1)
    rw[hp]
    cases hd:s.drop a1 with
    | nil=>rfl
    | cons c r=>
     have hx:s[a1]?=some c:=by rw[← cx,hd];rfl
     have n1:¬ c=41:=fun e=>hc2 (by rw[hx,e])
     simp only[n1,if_false]
  ·rw[List.set_set]
   rw[hpt] at hp
   have hr2:Rd (st.set o (rdO s a1 e1 D)) o s a1 e1 D:=hr.set
   refine jb (c:=41) hr2 he1 ?_
   exact fin hv hv1 rfl (h2 hp _ _ _ (wrong (a':=0) (e':=0) hv) rfl he1 ha1)
 ·refine oW (c:=40) hr hc ?_
  have hr1:Rd (st.set o (rdO s a 4 D)) o s a 4 D:=hr.set
  refine ua hr1 (by decide) ?_
  refine jb (c:=41) hr1 (by decide) ?_
  refine fin rfl rfl rfl (h2 ?_ _ _ _ (wrong (a':=0) (e':=0) rfl) rfl (by decide) ha)
  cases hd:s.drop a with
  | nil=>rfl
  | cons c r=>
   have hx:s[a]?=some c:=by rw[← cx,hd];rfl
   have n1:c≠40:=fun e=>hc (by rw[hx,e])
   simp only[ub,n1,ne_eq,not_false_eq_true,if_true]
end
section
variable {st st' st0:aa} {o q:Nat} {s:Tx} {a d D n:Nat} {e:Int} {R:LV→aa→Prop}
theorem Aa {K:aa→Prop} (hq:st[q]?=some (.cells .rw [.ptr o 0])) (hr:Rd st o s a e (D+1)) (hD:D<2 ^ 20) (hK:K (st.set o (rdO s a e D))):dD Tryz.prog 136 [.ptr q 0] st K:=by
 refine QV _ ?_
 have e1:ld1 st (.ptr q 0)=some (.ptr o 0):=by rw[bx hq];rfl
 have e2:IntKind.i64.wrap (((D+1:Nat):Int)-1)=(D:Int):=by rw[wrap_i64 (by omega) (by omega)];omega
 simp only[Pn,e1,ab,aI,ao,aj,hr.l3,ad,dM,e2,hr.s3,aA,af]
 exact hK
theorem jY {X:aa} {v:LV} (ho:o<st.length) (hX:Fr st X (fun j=>j=o)) (hq:X[q]?=some (.cells .rw [.ptr o 0])) (hr:Rd X o s a e (D+1)) (hD:D<2 ^ 20) (hv:v.plain=true) (hR:R v (st.set o (rdO s a e D))) :
  dD Tryz.prog 136 [.ptr q 0] X fun st4=>TQ st o R v st4:=by
 refine Aa hq hr hD ?_
 have F:Fr X (X.set o (rdO s a e D)) (fun j=>j=o):=Fr.set rfl
 exact ⟨v,rdO s a e D,hX.trans F fun _ _ h=>h,hr.set,qx,bu _ hv,hv,hR⟩
theorem xL {d:Nat} {s:Tx} {a:Nat} (h1:s[a]?≠some 91) (h2:s[a]?≠some 123):pT (d+1) (s.drop a)=match gh (s.drop a) bQ 0 with
  | none=>none
  | some (i,r)=>if i<5 then some (.mk i [] [] [],r) else match ub d r with
   | none=>none
   | some (x,r)=>some (.mk i [x] [] [],r):=by
 unfold pT
 cases hd:s.drop a with
 | nil=>rfl
 | cons c r=>
  have hx:s[a]?=some c:=by rw[← cx,hd];rfl
  have n1:¬ c=91:=fun e=>h1 (by rw[hx,e])
  have n2:¬ c=123:=fun e=>h2 (by rw[hx,e])
  simp only[n1,n2,if_false]
  cases gh (c::r) bQ 0 with
  | none=>rfl
  | some p=>
   obtain ⟨i,r1⟩:=p
   simp only
   split
   ·rfl
   ·cases r1 with
    | nil=>rfl
    | cons c1 r2=>
     simp only[ub]
     split
     ·rfl
     ·cases pT d r2 with
      | none=>rfl
      | some q=>
       obtain ⟨x,r3⟩:=q
       simp only
       cases r3 with
       | nil=>rfl
       | cons c2 r4=>simp only;split<;>rfl
theorem FV (hd:D+(d+1)=8) (ih:gy d (D+1)):gy (d+1) D:=by
 intro s hs st o a R ha hr h1 h2
 refine aw.zF hr.lt ?_
 show aw Tryz.prog 74 [.ptr o 0] st (TQ st o R)
 refine c74 _ ?_
 have e1:cu st (.ptr o 0)=some (.ptr st.length 0,st++[.cells .rw [.ptr o 0]]):=rfl
 have q0:(st++[ar.cells .rw [.ptr o 0]])[st.length]?=some (.cells .rw [.ptr o 0]):=ay
 have hol:=hr.lt
 have hne:st.length≠o:=by omega
 have lq:∀ {X:aa},X[st.length]?=some (.cells .rw [.ptr o 0])→ld1 X (.ptr st.length 0)=some (.ptr o 0):=fun h=>by rw[bx h];rfl
 have hr0:Rd (st++[ar.cells .rw [.ptr o 0]]) o s a 0 D:=hr.app
 have c8:((D:Int)==8)=false:=by
  have:(D:Int)≠8:=by omega
  simpa using this
 have F0:Fr st (st++[ar.cells .rw [.ptr o 0]]) (fun j=>j=o):=Fr.app
 simp only[w74,e1,af,lq q0,ab,aI,ao,aj]
 refine fg hr0 ?_
 simp only[bne_self_eq_false,ae,lq q0,ab,aI,ao,aj,hr0.l3,ad,bj,c8,aH,aK (show D<2 ^ 40 by omega),hr0.s3,aA,af]
 generalize hS:st++[ar.cells .rw [.ptr o 0]]=S at q0 hr0 F0
 -- every store from now on
 have set_q:∀ {y:ar},(S.set o y)[st.length]?=some (.cells .rw [.ptr o 0]):=fun {y}=>by rw[bK (Ne.symm hne)];exact q0
 have set_F:∀ {y:ar},Fr st (S.set o y) (fun j=>j=o):=fun {y}=>F0.trans (Fr.set (S:=fun j=>j=o) rfl) fun _ _ h=>h
 have set_r:∀ {a' D':Nat} {e':Int},Rd (S.set o (rdO s a' e' D')) o s a' e' D':=hr0.set
 have hD:D<2 ^ 20:=by omega
 simp only[lq set_q,ab,aI,ao,aj]
 by_cases hc:s[a]?=some 91
 ·have hlt:=(List.getElem?_eq_some_iff.1 hc).1
  have hp:pT (d+1) (s.drop a)=match oY d (s.drop (a+1)) with
    | none=>none
    | some (l,r)=>some (.mk 7 l [] [],r):=by
   rw[drop_cons hc]
   simp only[pT,oY,if_true]
   split
   ·rfl
   ·rfl
  refine lY (c:=91) set_r hc (by omega) ?_
  simp only[List.set_set,ah,lq set_q,ab]
  refine Ck ih hs (by omega) set_r (fun l a1 ha1 hl=>?_) fun hl v a1 e1 hv hv1 he1 ha1=>?_
  ·rw[List.set_set]
   exact jY hol set_F set_q set_r hD eu (h1 _ a1 ha1 (by rw[hp,hl]))
  ·rw[List.set_set]
   exact jY hol set_F set_q set_r hD hv (h2 (by rw[hp,hl]) v a1 e1 hv hv1 he1 ha1)
 ·refine ja (c:=91) set_r (.inr hc) ?_
  simp only[ae,lq set_q,ab,aI,ao,aj]
  by_cases hc2:s[a]?=some 123
  ·have hlt:=(List.getElem?_eq_some_iff.1 hc2).1
   have hp:pT (d+1) (s.drop a)=match o7 d (s.drop (a+1)) with
     | none=>none
     | some (l,r)=>some (kO l,r):=by
    rw[drop_cons hc2]
    have n1:¬ (123:UInt8)=91:=by decide
    simp only[pT,o7,n1,if_true,if_false]
    split
    ·rfl
    ·rfl
   refine lY (c:=123) set_r hc2 (by omega) ?_
   simp only[List.set_set,ah,lq set_q,ab]
   refine z6 ih hs (by omega) set_r (fun l a1 ha1 hl=>?_) fun hl v a1 e1 hv hv1 he1 ha1=>?_
   ·rw[List.set_set]
    exact jY hol set_F set_q set_r hD eu (h1 _ a1 ha1 (by rw[hp,hl]))
   ·rw[List.set_set]
    exact jY hol set_F set_q set_r hD hv (h2 (by rw[hp,hl]) v a1 e1 hv hv1 he1 ha1)
  ·have hp:=xL (d:=d) hc hc2
   refine ja (c:=123) set_r (.inr hc2) ?_
   simp only[ae]
   refine zX.call ?_
   -- the words' list
   generalize hX:S.set o (rdO s a 0 (D+1))=X
   have Xq:X[st.length]?=some (.cells .rw [.ptr o 0]):=hX ▸ set_q
   have Xr:Rd X o s a 0 (D+1):=hX ▸ set_r
   have XF:Fr st X (fun j=>j=o):=hX ▸ set_F
   have s1:stV (X++[ar.cells .rw [LV.str [],LV.str [],LV.str [],LV.str [],LV.str []]]) 5 (.ptr X.length 0) (.agg ((bQ.take 5).map .str))=some (X++[ar.cells .rw ((bQ.take 5).map .str)]):=by
    rw[fq (k:=0) (vs:=(bQ.take 5).map .str) (n:=5) ay (by decide) (by decide) (by decide)]
    congr 1
    rw[List.set_append_right _ _ (Nat.le_refl _)]
    simp[cy,bQ]
   have s2:(ob3 none none none fun l h m=>C9 5 1 (.ptr X.length 0) l h m)=some (.sl X.length 0 5 (.ex 5)):=rfl
   have ef:aB (fun i=>some (i*1,1)) (List.replicate 2 [LV.str []]).flatten [(0,LV.str [108,105,115,116]),(1,LV.str [109,97,112])]=some ((bQ.drop 5).map .str):=rfl
   have lX:ld1 (X++[ar.cells .rw ((bQ.take 5).map .str)]) (.ptr st.length 0)=some (.ptr o 0):=lq (cb Xq)
   have lX2:ld1 (X++[ar.cells .rw ((bQ.take 5).map .str)]++[ar.cells .rw ((bQ.drop 5).map .str)]) (.ptr st.length 0)=some (.ptr o 0):=lq (cb (cb Xq))
   have lX3:ld1 (X++[ar.cells .rw ((bQ.take 5).map .str)]++[ar.cells .rw ((bQ.drop 5).map .str)]++[ar.cells .rw (bQ.map .str)]) (.ptr st.length 0)=some (.ptr o 0):=lq (cb (cb (cb Xq)))
   have ap:bo (X++[ar.cells .rw ((bQ.take 5).map .str)]++[ar.cells .rw ((bQ.drop 5).map .str)]) 1 16 Md.rw (.sl X.length 0 5 (.ex 5)) (.sl (X++[ar.cells .rw ((bQ.take 5).map .str)]).length 0 2 (.ex 2)) =
     some (.sl (X++[ar.cells .rw ((bQ.take 5).map .str)]++[ar.cells .rw ((bQ.drop 5).map .str)]).length 0 7 (.rest 1),X++[ar.cells .rw ((bQ.take 5).map .str)]++[ar.cells .rw ((bQ.drop 5).map .str)]++[ar.cells .rw (bQ.map .str)]):=by
    have g1:(X++[ar.cells .rw ((bQ.take 5).map .str)]++[ar.cells .rw ((bQ.drop 5).map .str)])[X.length]?=some (.cells .rw ((bQ.take 5).map .str)):=cb ay
    have g2:(X++[ar.cells .rw ((bQ.take 5).map .str)]++[ar.cells .rw ((bQ.drop 5).map .str)])[(X++[ar.cells .rw ((bQ.take 5).map .str)]).length]?=some (.cells .rw ((bQ.drop 5).map .str)):=ay
    have r1:eA (X++[ar.cells .rw ((bQ.take 5).map .str)]++[ar.cells .rw ((bQ.drop 5).map .str)]) 1 (.sl (X++[ar.cells .rw ((bQ.take 5).map .str)]).length 0 2 (.ex 2))=some (2,(bQ.drop 5).map .str):=by
     simp only[eA,g2];rfl
    unfold bo
    rw[r1]
    simp only[g1]
    rfl
   simp only[cv,s1,aA,af,lX,ab,s2,ef,bE,lX2,true_and,ap,lX3]
   generalize hY:X++[ar.cells .rw ((bQ.take 5).map .str)]++[ar.cells .rw ((bQ.drop 5).map .str)]=Y
   have Yq:Y[st.length]?=some (.cells .rw [.ptr o 0]):=by rw[← hY];exact cb (cb Xq)
   have Yr:Rd Y o s a 0 (D+1):=by rw[← hY];exact Xr.app.app
   have YF:Fr st Y (fun j=>j=o):=by rw[← hY];exact (XF.trans (Fr.app (S:=fun j=>j=o)) fun _ _ h=>h).trans (Fr.app (S:=fun j=>j=o)) fun _ _ h=>h
   have Wq:(Y++[ar.cells .rw (bQ.map .str)])[st.length]?=some (.cells .rw [.ptr o 0]):=cb Yq
   have Wr:Rd (Y++[ar.cells .rw (bQ.map .str)]) o s a 0 (D+1):=Yr.app
   have WF:Fr st (Y++[ar.cells .rw (bQ.map .str)]) (fun j=>j=o):=YF.trans (Fr.app (S:=fun j=>j=o)) fun _ _ h=>h
   have WA:SlT (Y++[ar.cells .rw (bQ.map .str)]) (.sl Y.length 0 7 (.rest 1)) bQ:=by
    refine ⟨rfl,fun i hi=>⟨.ptr Y.length i,?_,?_⟩⟩
    ·have hi:i<7:=hi
     rw[kF (by omega) (by omega)];simp
    ·rw[bx ay];simp
   generalize Y++[ar.cells .rw (bQ.map .str)]=W at Wq Wr WF WA
   have Wsq:∀ {y:ar},(W.set o y)[st.length]?=some (.cells .rw [.ptr o 0]):=fun {y}=>by rw[bK (Ne.symm hne)];exact Wq
   have WsF:∀ {y:ar},Fr st (W.set o y) (fun j=>j=o):=fun {y}=>WF.trans (Fr.set (S:=fun j=>j=o) rfl) fun _ _ h=>h
   have Wsr:∀ {a' D':Nat} {e':Int},Rd (W.set o (rdO s a' e' D')) o s a' e' D':=Wr.set
   -- a type of a word alone
   have leaf:∀ {i a':Nat} {e':Int},R (kV (.mk i [] [] [])) (st.set o (rdO s a' e' D))→i<5→BJ (.ptr st.length 0) (i64 i) (.ptr st.length 0) (TQ st o R) (W.set o (rdO s a' e' (D+1))):=by
    intro i a' e' hR hi
    refine Hj _ _ _ ?_
    have g1:(i:Int)<5:=by omega
    have eg:bh (aB (aF [(0,1),(1,1),(2,1),(3,1)]) [i64 0,LV.nils,LV.nils,LV.nils] [(0,i64 i)])=some (.agg [i64 i,.nils,.nils,.nils]):=rfl
    have eb:∀ {V:aa},cu V (.agg [i64 i,.nils,.nils,.nils])=some (.ptr V.length 0,V++[.cells .rw [i64 i,.nils,.nils,.nils]]):=rfl
    simp only[BK,ad,au,ab,g1,aZ,ah,eg,eb,af]
    have V1:∀ {y:ar},(W.set o (rdO s a' e' (D+1))++[y])[st.length]?=some (.cells .rw [.ptr o 0]):=cb Wsq
    have V2:∀ {y:ar},Rd (W.set o (rdO s a' e' (D+1))++[y]) o s a' e' (D+1):=fun {y}=>(Wsr).app
    refine Aa V1 V2 hD ?_
    have hWl:o<(W.set o (rdO s a' e' (D+1))).length:=cA Wsr
    have hle:st.length≤(W.set o (rdO s a' e' (D+1))).length:=WsF.len
    refine ⟨kV (.mk i [] [] []),rdO s a' e' D,?_,V2.set,qx,?_,eu,hR⟩
    ·exact (WsF.trans (Fr.app (S:=fun j=>j=o)) fun _ _ h=>h).trans (Fr.set (S:=fun j=>j=o) rfl) fun _ _ h=>h
    ·refine .inl ⟨_,.rw,_,rfl,(gJ hle).trans ((bK (by omega)).trans ay),rfl,by simp[kC],?_⟩
     simp only[kC,kVs,List.map_nil,aW,aR,List.take_succ_cons,List.take_zero]
     exact ⟨_,_,rfl,rfl,_,_,rfl,.inr (.inr ⟨.inr rfl,rfl,rfl⟩),_,_,rfl,.inr (.inr ⟨.inr rfl,rfl,rfl⟩),_,_,rfl,.inr (.inr ⟨.inr rfl,rfl,rfl⟩),rfl⟩
   refine FU (ws:=bQ) (by omega) ha WA (by decide) (by decide) Wr (fun j w hj hw hle=>?_) fun hw a1 ha1=>?_
   ·rw[hw] at hp
    simp only at hp
    by_cases h5:j<5
    ·rw[if_pos h5] at hp
     exact leaf (h1 _ _ hle hp) h5
    ·rw[if_neg h5] at hp
     refine Hj _ _ _ ?_
     have g1:¬ (j:Int)<5:=by omega
     simp only[BK,ad,au,ab,g1,a8,ae,lq Wsq]
     refine z8 ih hs hle Wsr (fun x a1 ha1 hx=>?_) fun hx v a1 e1 hv hv1 he1 ha1=>?_
     ·rw[List.set_set]
      exact jY hol WsF Wsq Wsr hD eu (h1 _ a1 ha1 (by rw[hp,hx]))
     ·rw[List.set_set]
      exact jY hol WsF Wsq Wsr hD hv (h2 (by rw[hp,hx]) v a1 e1 hv hv1 he1 ha1)
   ·rw[hw] at hp
    exact leaf (i:=0) (e':=4) (h2 hp _ a1 4 eu rfl (by decide) ha1) (by omega)
theorem FW (hd:D=8):gy 0 D:=by
 intro s hs st o a R ha hr h1 h2
 refine aw.zF hr.lt ?_
 show aw Tryz.prog 74 [.ptr o 0] st (TQ st o R)
 refine c74 _ ?_
 have e1:cu st (.ptr o 0)=some (.ptr st.length 0,st++[.cells .rw [.ptr o 0]]):=rfl
 have q0:(st++[ar.cells .rw [.ptr o 0]])[st.length]?=some (.cells .rw [.ptr o 0]):=ay
 have l0:ld1 (st++[ar.cells .rw [.ptr o 0]]) (.ptr st.length 0)=some (.ptr o 0):=by rw[bx q0];rfl
 have hr0:Rd (st++[ar.cells .rw [.ptr o 0]]) o s a 0 D:=hr.app
 have c8:((D:Int)==8)=true:=by rw[hd];rfl
 simp only[w74,e1,af,l0,ab,aI,ao,aj]
 refine fg hr0 ?_
 simp only[bne_self_eq_false,ae,l0,ab,aI,ao,aj,hr0.l3,ad,bj,c8,ah,hr0.l1]
 refine gM hr0 ?_
 exact ⟨.nilp,rdO s a 3 D,(Fr.app (S:=fun j=>j=o)).trans (Fr.set (S:=fun j=>j=o) rfl) fun _ _ h=>h,hr0.set,qx,rfl,rfl,h2 rfl _ a 3 rfl rfl (by decide) ha⟩
theorem Eh:∀ (d D:Nat),D+d=8→gy d D
 | 0,D,h=>FW (by omega)
 | d+1,D,h=>FV h (Eh d (D+1) (by omega))
theorem Co (s:Tx) (h1:∀ t,ew s=some t→R (.tup [kV t,i64 0,i64 0]) st) (h2:ew s=none→∀ a e,e≠0→R (.tup [.nilp,i64 a,i64 e]) st):aw Tryz.prog 18 [.str s] st R:=by
 refine aw.Hc ?_
 refine c18 _ ?_
 simp only[w18,bF,ab,ad,cT]
 rw[aL]
 refine ⟨fun hl=>?_,fun hl=>?_⟩
 ·exact ⟨_,Fr.refl,bu _ rfl,rfl,h2 (by unfold ew;rw[if_pos (by omega)]) 0 3 (by decide)⟩
 have hs:s.length≤4096:=by omega
 have hpt:ew s=match pT 8 s with
   | some (t,[])=>some t
   | _=>none:=by unfold ew;rw[if_neg (by omega)];rfl
 have e1:bh (aB (aF [(0,1),(1,1),(2,1)]) [LV.str [],i64 0,i64 0] [(0,.str s)])=some (.agg [.str s,i64 0,i64 0]):=rfl
 have e2:bh (aB (aF [(0,3),(3,1)]) [LV.str [],i64 0,i64 0,i64 0] [(0,.agg [.str s,i64 0,i64 0])])=some (.agg (rdC s 0 0 0)):=rfl
 have e3:cu st (.agg (rdC s 0 0 0))=some (.ptr st.length 0,st++[rdO s 0 0 0]):=rfl
 simp only[e1,ab,e2,e3,af]
 generalize hS:st++[rdO s 0 0 0]=S
 have hr:Rd S st.length s 0 0 0:=by rw[← hS];exact ay
 have F:∀ {y:ar},Fr st (S.set st.length y) (fun _=>False):=fun {y}=>by
  rw[← hS]
  refine ⟨by simp,fun j hj _=>?_⟩
  rw[bK (by omega),bW hj]
 have wrong:∀ {a:Nat} {e:Int} {S2:aa},S2=S.set st.length (rdO s a e 0)→e≠0→ew s=none→
   (bd (ak (.ptr st.length 0)) fun v43=>bd (ag 0 v43) fun v44=>bd (ag 1 v44) fun v45=>bd (ld1 S2 v45) fun v46=>bd (ak (.ptr st.length 0)) fun v47=>bd (ag 0 v47) fun v48=>bd (ag 2 v48) fun v49=>bd (ld1 S2 v49) fun v50=>
    (fun r st'=>∃ v,Fr st st' (fun _=>False)∧dp (fN st.length st') v r∧v.plain=true∧R v st) (LV.tup [LV.nilp,v46,v50]) S2):=by
  rintro a e S2 rfl he hn
  have h':Rd (S.set st.length (rdO s a e 0)) st.length s a e 0:=hr.set
  simp only[aI,ab,ao,aj,h'.l1,h'.l2]
  exact ⟨_,F,bu _ rfl,rfl,h2 hn _ _ he⟩
 refine Eh 8 0 rfl hs (Nat.zero_le _) hr (fun t a1 ha1 hp=>?_) fun hp v a1 e1 hv hv1 he1 ha1=>?_
 ·rw[List.drop_zero] at hp
  have hr1:Rd (S.set st.length (rdO s a1 0 0)) st.length s a1 0 0:=hr.set
  simp only[aI,ab,ao,aj]
  refine fg hr1 ?_
  simp only[bne_self_eq_false,bw,ab,bL,ah,hr1.l1,ad,au]
  rw[aL]
  refine ⟨fun hlt=>?_,fun hlt=>?_⟩
  ·have hn:ew s=none:=by
    rw[hpt,hp]
    have hx:s[a1]?=some (s[a1]'(by omega)):=bg (by omega)
    rw[drop_cons hx]
   refine gM hr1 ?_
   rw[List.set_set]
   have hr2:Rd (S.set st.length (rdO s a1 4 0)) st.length s a1 4 0:=hr.set
   refine fg hr2 ?_
   have e4:((4:Int) != 0)=true:=rfl
   simp only[e4,ah]
   exact wrong (a:=a1) (e:=4) rfl (by decide) hn
  ·have hs1:ew s=some t:=by
    rw[hpt,hp,bR (by omega)]
   refine fg hr1 ?_
   simp only[bne_self_eq_false,ae]
   exact ⟨.tup [kV t,i64 0,i64 0],F,bu _ (by simp[LV.plain,LV.aG,fm]),by simp[LV.plain,LV.aG,fm],h1 t hs1⟩
 ·rw[List.drop_zero] at hp
  have hn:ew s=none:=by rw[hpt,hp]
  have hr1:Rd (S.set st.length (rdO s a1 e1 0)) st.length s a1 e1 0:=hr.set
  have e4:(e1 != 0)=true:=by simpa using he1
  simp only[aI,ab,ao,aj]
  refine fg hr1 ?_
  simp only[e4,bw,ab,bM,ae]
  refine fg hr1 ?_
  simp only[e4,ah]
  exact wrong (a:=a1) (e:=e1) rfl he1 hn
end
end Go.Proofs.YtknegckgmklnhaaGreatDoor
namespace Go.CP
def jZ:T→Bool
 | .int n=>decide (-9007199254740992≤n∧n≤9007199254740992)
 | _=>false
def kQ (f:Nat) (v:T):Bool:=
 if f=1 then decide (v.kind=2) else if f=2 then decide (v.kind=3) else if f=3 then decide (v.kind=4)||jZ v else if f=4 then decide (v.kind=5) else true
def qy:List (T→Bool)→List T→Bool
 | p::ps,v::vs=>p v&&qy ps vs
 | _,_=>true
def eP (k:Tx):List Tx→Nat→Option Nat
 | [],_=>none
 | n::ns,i=>if n=k then some i else eP k ns (i+1)
def missing:List Tx→List Bool→List (Tx × T)→List Tx
 | n::ns,l::ls,es=>if (T.find es n).isNone && !l then n::missing ns ls es else missing ns ls es
 | _,_,_=>[]
def fI (f:Nat):Int:=if f<5 then 0 else if f=6∨f=8 then 7 else 6
def cQ (f:Nat) (ps:List (T→Bool)) (ns:List Tx) (ls:List Bool) (v:T):Bool:=
 if v.kind=0∨v.kind=1 then true
 else if f<5 then kQ f v
 else match v with
  | .list vs=>if f=5 then vs.all (ps.getD 0 fun _=>false) else if f=7 then decide (vs.length=ps.length)&&qy ps vs else false
  | .map es=>if f=6 then es.all (fun e=>(ps.getD 0 fun _=>false) e.2) else if f=8 then (es.all fun e=>match eP e.1 ns 0 with
    | some i=>(ps.getD i fun _=>false) e.2
    | none=>false)&&(missing ns ls es).isEmpty else false
  | _=>false
mutual
def cM:KT→T→Bool
 | .mk f l ns ls,v=>cQ f (cW l) ns ls v
def cW:List KT→List (T→Bool)
 | []=>[]
 | t::ts=>(fun v=>cM t v)::cW ts
end
theorem ka:∀ {l:List KT},cW l=l.map cM
 | []=>rfl
 | t::ts=>by simp only[cW,List.map_cons,ka (l:=ts)]
structure AT where
 nm:Tx
 ty:KT
 must:Bool
 own:Bool
 hide:Bool
 new:Bool
structure ST where
 ver:Int
 l:List AT
def splitB (c:UInt8):Tx→List Tx
 | []=>[[]]
 | x::s=>if x=c then []::splitB c s else match splitB c s with
  | []=>[[x]]
  | p::ps=>(x::p)::ps
theorem dd {c:UInt8}:∀ {s:Tx},splitB c s≠[]
 | []=>by simp[splitB]
 | x::s=>by
  unfold splitB
  split
  ·simp
  ·split<;>simp
def jx:Tx:=[97,116,116,114]
def de:Tx:=[109,117,115,116]
def eG:Tx:=[111,119,110]
def dh:Tx:=[104,105,100,101]
def eH:Tx:=[110,101,119]
def cO:Tx:=[118,101,114,115,105,111,110,32]
def xM (a:AT):Tx:=(if a.must then 32::de else [])++((if a.own then 32::eG else [])++((if a.hide then 32::dh else [])++(if a.new then 32::eH else [])))
def nr (a:AT):Tx:=jx++32::(a.nm++32::(kpr a.ty++xM a))
def fp (s:Tx):Option AT:=match splitB 32 s with
 | w0::w1::w2::r=>if w0≠jx then none else match ew w2 with
  | none=>none
  | some t=>if nr ⟨w1,t,r.contains de,r.contains eG,r.contains dh,r.contains eH⟩=s then some ⟨w1,t,r.contains de,r.contains eG,r.contains dh,r.contains eH⟩ else none
 | _=>none
def jc (last:Tx) (a:AT):Int:=
 if named a.nm=false then 7 else if a.nm=last then 9 else if Op.bytesLess a.nm last=true then 4 else if a.must&&a.own then 1 else 0
def gC (l:List AT):Tx:=match l.getLast? with
 | none=>[]
 | some a=>a.nm
def gD (l:List AT) (a:AT):Int:=if l.length=16 then 3 else jc (gC l) a
def dS:List AT→Int→List Tx→List AT ⊕ Int × Int
 | l,_,[]=>.inl l
 | l,n,[p]=>if p=[] then .inl l else .inr (n,4)
 | l,n,p::q::r=>match fp p with
  | none=>.inr (n,4)
  | some a=>if gD l a=0 then dS (l++[a]) (n+1) (q::r) else .inr (n,gD l a)
def jd (k:Tx):List AT→Option AT
 | []=>none
 | a::l=>if a.nm=k then some a else jd k l
def fY (l:List AT):List (Tx × T)→Tx × Int
 | []=>([],0)
 | e::es=>match jd e.1 l with
  | none=>(e.1,7)
  | some a=>if cM a.ty e.2 then fY l es else (e.1,6)
def dw (l:List AT) (v:T):Tx × Int:=match v with
 | .map es=>fY l es
 | _=>([],6)
def cG (v:T) (k:Tx):T:=(v.at k).getD .null
def iB (v:T):List AT→Tx × Int
 | []=>([],0)
 | a::l=>if a.must&&decide ((cG v a.nm).kind=0) then (a.nm,8) else iB v l
def vi (l:List AT) (v:T):Tx × Int:=if (dw l v).2=0 then iB v l else dw l v
def mT (v:T):List AT→Tx × Int
 | []=>([],0)
 | a::l=>if (v.at a.nm).isSome then mT v l else (a.nm,8)
def cI (l:List AT) (v:T):Tx × Int:=if (dw l v).2=0 then mT v l else dw l v
structure ST.ok (s:ST):Prop where
 ver:0≤s.ver∧s.ver≤1000
 len:s.l.length≤16
 rise:(s.l.map (·.nm)).Pairwise ltB
 nm:∀ a ∈ s.l,named a.nm=true
 ty:∀ a ∈ s.l,a.ty.wf 8
 mo:∀ a ∈ s.l,(a.must&&a.own)=false
theorem vk {k:Tx}:∀ {l:List AT} {a:AT},jd k l=some a→a ∈ l∧a.nm=k
 | x::l,a,h=>by
  unfold jd at h
  split at h
  ·simp only[aM] at h;subst h;exact ⟨by simp,by assumption⟩
  ·have:=vk h;exact ⟨List.mem_cons_of_mem _ this.1,this.2⟩
end Go.CP
