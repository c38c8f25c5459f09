/- Parts of the proof. -/
import Derived.Test.YtknegckgmklnhaaGreatDoorVbR6
namespace Go.Proofs.YtknegckgmklnhaaGreatDoor
open Go Go.CP
set_option maxRecDepth 100000
section
variable {st st' st0:aa} {o q:Nat} {s:Tx} {a d D n:Nat} {e:Int} {R:LV→aa→Prop}
theorem yj {K:aa→Prop} (hq:st[q]?=some (.cells .rw [.ptr o 0])) (hr:Rd st o s a e (D+1)) (hD:D<2 ^ 20) (hK:K (st.set o (rdO s a e D))):cR Tryz.prog 136 [.ptr q 0] st K:=by
 refine N7 _ ?_
 have e1:ld1 st (.ptr q 0)=some (.ptr o 0):=by rw[a7 hq];rfl
 have e2:IntKind.i64.wrap (((D+1:Nat):Int)-1)=(D:Int):=by rw[wrap_i64 (by omega) (by omega)];omega
 simp only[MS,e1,ab,aF,aq,Nat.zero_add,hr.l3,ae,cX,e2,hr.s3,ay,ag]
 exact hK
theorem jr {X:aa} {v:LV} (ho:o<st.length) (hX:Fr st X (fun j=>j=o)) (hq:X[q]?=some (.cells .rw [.ptr o 0])) (hr:Rd X o s a e (D+1)) (hD:D<2 ^ 20) (hv:v.plain=true) (hR:R v (st.set o (rdO s a e D))) :
  cR Tryz.prog 136 [.ptr q 0] X fun st4=>TQ st o R v st4:=by
 refine yj hq hr hD ?_
 have F:Fr X (X.set o (rdO s a e D)) (fun j=>j=o):=Fr.set rfl
 exact ⟨v,rdO s a e D,hX.trans F fun _ _ h=>h,hr.set,pg,bn _ hv,hv,hR⟩
theorem vH {d:Nat} {s:Tx} {a:Nat} (h1:s[a]?≠some 91) (h2:s[a]?≠some 123):pT (d+1) (s.drop a)=match fu (s.drop a) bw 0 with
  | none=>none
  | some (i,r)=>if i<5 then some (.mk i [] [] [],r) else match sj d r with
   | none=>none
   | some (x,r)=>some (.mk i [x] [] [],r):=by
 unfold pT
 cases hd:s.drop a with
 | nil=>rfl
 | cons c r=>
  have hx:s[a]?=some c:=by rw[← bQ,hd];rfl
  have n1:¬ c=91:=fun e=>h1 (by rw[hx,e])
  have n2:¬ c=123:=fun e=>h2 (by rw[hx,e])
  simp only[n1,n2,if_false]
  cases fu (c::r) bw 0 with
  | none=>rfl
  | some p=>
   obtain ⟨i,r1⟩:=p
   simp only
   split
   ·rfl
   ·cases r1 with
    | nil=>rfl
    | cons c1 r2=>
     simp only[sj]
     split
     ·rfl
     ·cases pT d r2 with
      | none=>rfl
      | some q=>
       obtain ⟨x,r3⟩:=q
       simp only
       cases r3 with
       | nil=>rfl
       | cons c2 r4=>simp only;split<;>rfl
theorem DU (hd:D+(d+1)=8) (ih:fI d (D+1)):fI (d+1) D:=by
 intro s hs st o a R ha hr h1 h2
 refine az.xK hr.lt ?_
 show az Tryz.prog 74 [.ptr o 0] st (TQ st o R)
 refine c74 _ ?_
 have e1:ca st (.ptr o 0)=some (.ptr st.length 0,st++[.cells .rw [.ptr o 0]]):=rfl
 have q0:(st++[av.cells .rw [.ptr o 0]])[st.length]?=some (.cells .rw [.ptr o 0]):=aw
 have hol:=hr.lt
 have hne:st.length≠o:=by omega
 have lq:∀ {X:aa},X[st.length]?=some (.cells .rw [.ptr o 0])→ld1 X (.ptr st.length 0)=some (.ptr o 0):=fun h=>by rw[a7 h];rfl
 have hr0:Rd (st++[av.cells .rw [.ptr o 0]]) o s a 0 D:=hr.app
 have c8:((D:Int)==8)=false:=by
  have:(D:Int)≠8:=by omega
  simpa using this
 have F0:Fr st (st++[av.cells .rw [.ptr o 0]]) (fun j=>j=o):=Fr.app
 simp only[w74,e1,ag,lq q0,ab,aF,aq,Nat.zero_add]
 refine et hr0 ?_
 simp only[bne_self_eq_false,af,lq q0,ab,aF,aq,Nat.zero_add,hr0.l3,ae,aQ,c8,aG,aH (show D<2 ^ 40 by omega),hr0.s3,ay,ag]
 generalize hS:st++[av.cells .rw [.ptr o 0]]=S at q0 hr0 F0
 -- every store from now on
 have set_q:∀ {y:av},(S.set o y)[st.length]?=some (.cells .rw [.ptr o 0]):=fun {y}=>by rw[br (Ne.symm hne)];exact q0
 have set_F:∀ {y:av},Fr st (S.set o y) (fun j=>j=o):=fun {y}=>F0.trans (Fr.set (S:=fun j=>j=o) rfl) fun _ _ h=>h
 have set_r:∀ {a' D':Nat} {e':Int},Rd (S.set o (rdO s a' e' D')) o s a' e' D':=hr0.set
 have hD:D<2 ^ 20:=by omega
 simp only[lq set_q,ab,aF,aq,Nat.zero_add]
 by_cases hc:s[a]?=some 91
 ·have hlt:=(List.getElem?_eq_some_iff.1 hc).1
  have hp:pT (d+1) (s.drop a)=match nQ d (s.drop (a+1)) with
    | none=>none
    | some (l,r)=>some (.mk 7 l [] [],r):=by
   rw[drop_cons hc]
   simp only[pT,nQ,if_true]
   split
   ·rfl
   ·rfl
  refine kZ (c:=91) set_r hc (by omega) ?_
  simp only[List.set_set,ai,lq set_q,ab]
  refine AA ih hs (by omega) set_r (fun l a1 ha1 hl=>?_) fun hl v a1 e1 hv hv1 he1 ha1=>?_
  ·rw[List.set_set]
   exact jr hol set_F set_q set_r hD dw (h1 _ a1 ha1 (by rw[hp,hl]))
  ·rw[List.set_set]
   exact jr hol set_F set_q set_r hD hv (h2 (by rw[hp,hl]) v a1 e1 hv hv1 he1 ha1)
 ·refine iq (c:=91) set_r (.inr hc) ?_
  simp only[af,lq set_q,ab,aF,aq,Nat.zero_add]
  by_cases hc2:s[a]?=some 123
  ·have hlt:=(List.getElem?_eq_some_iff.1 hc2).1
   have hp:pT (d+1) (s.drop a)=match nT d (s.drop (a+1)) with
     | none=>none
     | some (l,r)=>some (kO l,r):=by
    rw[drop_cons hc2]
    have n1:¬ (123:UInt8)=91:=by decide
    simp only[pT,nT,n1,if_true,if_false]
    split
    ·rfl
    ·rfl
   refine kZ (c:=123) set_r hc2 (by omega) ?_
   simp only[List.set_set,ai,lq set_q,ab]
   refine yh ih hs (by omega) set_r (fun l a1 ha1 hl=>?_) fun hl v a1 e1 hv hv1 he1 ha1=>?_
   ·rw[List.set_set]
    exact jr hol set_F set_q set_r hD dw (h1 _ a1 ha1 (by rw[hp,hl]))
   ·rw[List.set_set]
    exact jr hol set_F set_q set_r hD hv (h2 (by rw[hp,hl]) v a1 e1 hv hv1 he1 ha1)
  ·have hp:=vH (d:=d) hc hc2
   refine iq (c:=123) set_r (.inr hc2) ?_
   simp only[af]
   refine ye.call ?_
   -- the words' list
   generalize hX:S.set o (rdO s a 0 (D+1))=X
   have Xq:X[st.length]?=some (.cells .rw [.ptr o 0]):=hX ▸ set_q
   have Xr:Rd X o s a 0 (D+1):=hX ▸ set_r
   have XF:Fr st X (fun j=>j=o):=hX ▸ set_F
   have s1:stV (X++[av.cells .rw [LV.str [],LV.str [],LV.str [],LV.str [],LV.str []]]) 5 (.ptr X.length 0) (.agg ((bw.take 5).map .str))=some (X++[av.cells .rw ((bw.take 5).map .str)]):=by
    rw[ee (k:=0) (vs:=(bw.take 5).map .str) (n:=5) aw (by decide) (by decide) (by decide)]
    congr 1
    rw[List.set_append_right _ _ (Nat.le_refl _)]
    simp[bR,bw]
   have s2:(ob3 none none none fun l h m=>Bz 5 1 (.ptr X.length 0) l h m)=some (.sl X.length 0 5 (.ex 5)):=rfl
   have ef:ao (fun i=>some (i*1,1)) (List.replicate 2 [LV.str []]).flatten [(0,LV.str [108,105,115,116]),(1,LV.str [109,97,112])]=some ((bw.drop 5).map .str):=rfl
   have lX:ld1 (X++[av.cells .rw ((bw.take 5).map .str)]) (.ptr st.length 0)=some (.ptr o 0):=lq (bT Xq)
   have lX2:ld1 (X++[av.cells .rw ((bw.take 5).map .str)]++[av.cells .rw ((bw.drop 5).map .str)]) (.ptr st.length 0)=some (.ptr o 0):=lq (bT (bT Xq))
   have lX3:ld1 (X++[av.cells .rw ((bw.take 5).map .str)]++[av.cells .rw ((bw.drop 5).map .str)]++[av.cells .rw (bw.map .str)]) (.ptr st.length 0)=some (.ptr o 0):=lq (bT (bT (bT Xq)))
   have ap:ar (X++[av.cells .rw ((bw.take 5).map .str)]++[av.cells .rw ((bw.drop 5).map .str)]) 1 16 Md.rw (.sl X.length 0 5 (.ex 5)) (.sl (X++[av.cells .rw ((bw.take 5).map .str)]).length 0 2 (.ex 2)) =
     some (.sl (X++[av.cells .rw ((bw.take 5).map .str)]++[av.cells .rw ((bw.drop 5).map .str)]).length 0 7 (.rest 1),X++[av.cells .rw ((bw.take 5).map .str)]++[av.cells .rw ((bw.drop 5).map .str)]++[av.cells .rw (bw.map .str)]):=by
    have g1:(X++[av.cells .rw ((bw.take 5).map .str)]++[av.cells .rw ((bw.drop 5).map .str)])[X.length]?=some (.cells .rw ((bw.take 5).map .str)):=bT aw
    have g2:(X++[av.cells .rw ((bw.take 5).map .str)]++[av.cells .rw ((bw.drop 5).map .str)])[(X++[av.cells .rw ((bw.take 5).map .str)]).length]?=some (.cells .rw ((bw.drop 5).map .str)):=aw
    have r1:dz (X++[av.cells .rw ((bw.take 5).map .str)]++[av.cells .rw ((bw.drop 5).map .str)]) 1 (.sl (X++[av.cells .rw ((bw.take 5).map .str)]).length 0 2 (.ex 2))=some (2,(bw.drop 5).map .str):=by
     simp only[dz,g2];rfl
    unfold ar
    rw[r1]
    simp only[g1]
    rfl
   simp only[b6,s1,ay,ag,lX,ab,s2,ef,aY,lX2,true_and,ap,lX3]
   generalize hY:X++[av.cells .rw ((bw.take 5).map .str)]++[av.cells .rw ((bw.drop 5).map .str)]=Y
   have Yq:Y[st.length]?=some (.cells .rw [.ptr o 0]):=by rw[← hY];exact bT (bT Xq)
   have Yr:Rd Y o s a 0 (D+1):=by rw[← hY];exact Xr.app.app
   have YF:Fr st Y (fun j=>j=o):=by rw[← hY];exact (XF.trans (Fr.app (S:=fun j=>j=o)) fun _ _ h=>h).trans (Fr.app (S:=fun j=>j=o)) fun _ _ h=>h
   have Wq:(Y++[av.cells .rw (bw.map .str)])[st.length]?=some (.cells .rw [.ptr o 0]):=bT Yq
   have Wr:Rd (Y++[av.cells .rw (bw.map .str)]) o s a 0 (D+1):=Yr.app
   have WF:Fr st (Y++[av.cells .rw (bw.map .str)]) (fun j=>j=o):=YF.trans (Fr.app (S:=fun j=>j=o)) fun _ _ h=>h
   have WA:SlT (Y++[av.cells .rw (bw.map .str)]) (.sl Y.length 0 7 (.rest 1)) bw:=by
    refine ⟨rfl,fun i hi=>⟨.ptr Y.length i,?_,?_⟩⟩
    ·have hi:i<7:=hi
     rw[jK (by omega) (by omega)];simp
    ·rw[a7 aw];simp
   generalize Y++[av.cells .rw (bw.map .str)]=W at Wq Wr WF WA
   have Wsq:∀ {y:av},(W.set o y)[st.length]?=some (.cells .rw [.ptr o 0]):=fun {y}=>by rw[br (Ne.symm hne)];exact Wq
   have WsF:∀ {y:av},Fr st (W.set o y) (fun j=>j=o):=fun {y}=>WF.trans (Fr.set (S:=fun j=>j=o) rfl) fun _ _ h=>h
   have Wsr:∀ {a' D':Nat} {e':Int},Rd (W.set o (rdO s a' e' D')) o s a' e' D':=Wr.set
   -- a type of a word alone
   have leaf:∀ {i a':Nat} {e':Int},R (kV (.mk i [] [] [])) (st.set o (rdO s a' e' D))→i<5→zS (.ptr st.length 0) (i64 i) (.ptr st.length 0) (TQ st o R) (W.set o (rdO s a' e' (D+1))):=by
    intro i a' e' hR hi
    refine Fi _ _ _ ?_
    have g1:(i:Int)<5:=by omega
    have eg:aP (ao (aA [(0,1),(1,1),(2,1),(3,1)]) [i64 0,LV.nils,LV.nils,LV.nils] [(0,i64 i)])=some (.agg [i64 i,.nils,.nils,.nils]):=rfl
    have eb:∀ {V:aa},ca V (.agg [i64 i,.nils,.nils,.nils])=some (.ptr V.length 0,V++[.cells .rw [i64 i,.nils,.nils,.nils]]):=rfl
    simp only[zT,ae,ax,ab,g1,decide_true,ai,eg,eb,ag]
    have V1:∀ {y:av},(W.set o (rdO s a' e' (D+1))++[y])[st.length]?=some (.cells .rw [.ptr o 0]):=bT Wsq
    have V2:∀ {y:av},Rd (W.set o (rdO s a' e' (D+1))++[y]) o s a' e' (D+1):=fun {y}=>(Wsr).app
    refine yj V1 V2 hD ?_
    have hWl:o<(W.set o (rdO s a' e' (D+1))).length:=bL Wsr
    have hle:st.length≤(W.set o (rdO s a' e' (D+1))).length:=WsF.len
    refine ⟨kV (.mk i [] [] []),rdO s a' e' D,?_,V2.set,pg,?_,dw,hR⟩
    ·exact (WsF.trans (Fr.app (S:=fun j=>j=o)) fun _ _ h=>h).trans (Fr.set (S:=fun j=>j=o) rfl) fun _ _ h=>h
    ·refine .inl ⟨_,.rw,_,rfl,(fR hle).trans ((br (by omega)).trans aw),rfl,by simp[kC],?_⟩
     simp only[kC,kVs,List.map_nil,List.length_cons,List.length_nil,List.take_succ_cons,List.take_zero]
     exact ⟨_,_,rfl,rfl,_,_,rfl,.inr (.inr ⟨.inr rfl,rfl,rfl⟩),_,_,rfl,.inr (.inr ⟨.inr rfl,rfl,rfl⟩),_,_,rfl,.inr (.inr ⟨.inr rfl,rfl,rfl⟩),rfl⟩
   refine DT (ws:=bw) (by omega) ha WA (by decide) (by decide) Wr (fun j w hj hw hle=>?_) fun hw a1 ha1=>?_
   ·rw[hw] at hp
    simp only at hp
    by_cases h5:j<5
    ·rw[if_pos h5] at hp
     exact leaf (h1 _ _ hle hp) h5
    ·rw[if_neg h5] at hp
     refine Fi _ _ _ ?_
     have g1:¬ (j:Int)<5:=by omega
     simp only[zT,ae,ax,ab,g1,decide_false,af,lq Wsq]
     refine yi ih hs hle Wsr (fun x a1 ha1 hx=>?_) fun hx v a1 e1 hv hv1 he1 ha1=>?_
     ·rw[List.set_set]
      exact jr hol WsF Wsq Wsr hD dw (h1 _ a1 ha1 (by rw[hp,hx]))
     ·rw[List.set_set]
      exact jr hol WsF Wsq Wsr hD hv (h2 (by rw[hp,hx]) v a1 e1 hv hv1 he1 ha1)
   ·rw[hw] at hp
    exact leaf (i:=0) (e':=4) (h2 hp _ a1 4 dw rfl (by decide) ha1) (by omega)
theorem DV (hd:D=8):fI 0 D:=by
 intro s hs st o a R ha hr h1 h2
 refine az.xK hr.lt ?_
 show az Tryz.prog 74 [.ptr o 0] st (TQ st o R)
 refine c74 _ ?_
 have e1:ca st (.ptr o 0)=some (.ptr st.length 0,st++[.cells .rw [.ptr o 0]]):=rfl
 have q0:(st++[av.cells .rw [.ptr o 0]])[st.length]?=some (.cells .rw [.ptr o 0]):=aw
 have l0:ld1 (st++[av.cells .rw [.ptr o 0]]) (.ptr st.length 0)=some (.ptr o 0):=by rw[a7 q0];rfl
 have hr0:Rd (st++[av.cells .rw [.ptr o 0]]) o s a 0 D:=hr.app
 have c8:((D:Int)==8)=true:=by rw[hd];rfl
 simp only[w74,e1,ag,l0,ab,aF,aq,Nat.zero_add]
 refine et hr0 ?_
 simp only[bne_self_eq_false,af,l0,ab,aF,aq,Nat.zero_add,hr0.l3,ae,aQ,c8,ai,hr0.l1]
 refine fU hr0 ?_
 exact ⟨.nilp,rdO s a 3 D,(Fr.app (S:=fun j=>j=o)).trans (Fr.set (S:=fun j=>j=o) rfl) fun _ _ h=>h,hr0.set,pg,rfl,rfl,h2 rfl _ a 3 rfl rfl (by decide) ha⟩
theorem CD:∀ (d D:Nat),D+d=8→fI d D
 | 0,D,h=>DV (by omega)
 | d+1,D,h=>DU h (CD d (D+1) (by omega))
theorem AF (s:Tx) (h1:∀ t,dy s=some t→R (.tup [kV t,i64 0,i64 0]) st) (h2:dy s=none→∀ a e,e≠0→R (.tup [.nilp,i64 a,i64 e]) st):az Tryz.prog 18 [.str s] st R:=by
 refine az.Fa ?_
 refine c18 _ ?_
 simp only[w18,bh,ab,ae,cq]
 rw[aI]
 refine ⟨fun hl=>?_,fun hl=>?_⟩
 ·exact ⟨_,Fr.refl,bn _ rfl,rfl,h2 (by unfold dy;rw[if_pos (by omega)]) 0 3 (by decide)⟩
 have hs:s.length≤4096:=by omega
 have hpt:dy s=match pT 8 s with
   | some (t,[])=>some t
   | _=>none:=by unfold dy;rw[if_neg (by omega)];rfl
 have e1:aP (ao (aA [(0,1),(1,1),(2,1)]) [LV.str [],i64 0,i64 0] [(0,.str s)])=some (.agg [.str s,i64 0,i64 0]):=rfl
 have e2:aP (ao (aA [(0,3),(3,1)]) [LV.str [],i64 0,i64 0,i64 0] [(0,.agg [.str s,i64 0,i64 0])])=some (.agg (rdC s 0 0 0)):=rfl
 have e3:ca st (.agg (rdC s 0 0 0))=some (.ptr st.length 0,st++[rdO s 0 0 0]):=rfl
 simp only[e1,ab,e2,e3,ag]
 generalize hS:st++[rdO s 0 0 0]=S
 have hr:Rd S st.length s 0 0 0:=by rw[← hS];exact aw
 have F:∀ {y:av},Fr st (S.set st.length y) (fun _=>False):=fun {y}=>by
  rw[← hS]
  refine ⟨by simp,fun j hj _=>?_⟩
  rw[br (by omega),List.getElem?_append_left hj]
 have wrong:∀ {a:Nat} {e:Int} {S2:aa},S2=S.set st.length (rdO s a e 0)→e≠0→dy s=none→
   (bd (al (.ptr st.length 0)) fun v43=>bd (ad 0 v43) fun v44=>bd (ad 1 v44) fun v45=>bd (ld1 S2 v45) fun v46=>bd (al (.ptr st.length 0)) fun v47=>bd (ad 0 v47) fun v48=>bd (ad 2 v48) fun v49=>bd (ld1 S2 v49) fun v50=>
    (fun r st'=>∃ v,Fr st st' (fun _=>False)∧dp (eW st.length st') v r∧v.plain=true∧R v st) (LV.tup [LV.nilp,v46,v50]) S2):=by
  rintro a e S2 rfl he hn
  have h':Rd (S.set st.length (rdO s a e 0)) st.length s a e 0:=hr.set
  simp only[aF,ab,aq,Nat.zero_add,h'.l1,h'.l2]
  exact ⟨_,F,bn _ rfl,rfl,h2 hn _ _ he⟩
 refine CD 8 0 rfl hs (Nat.zero_le _) hr (fun t a1 ha1 hp=>?_) fun hp v a1 e1 hv hv1 he1 ha1=>?_
 ·rw[List.drop_zero] at hp
  have hr1:Rd (S.set st.length (rdO s a1 0 0)) st.length s a1 0 0:=hr.set
  simp only[aF,ab,aq,Nat.zero_add]
  refine et hr1 ?_
  simp only[bne_self_eq_false,bF,ab,Bool.not_false,ai,hr1.l1,ae,ax]
  rw[aI]
  refine ⟨fun hlt=>?_,fun hlt=>?_⟩
  ·have hn:dy s=none:=by
    rw[hpt,hp]
    have hx:s[a1]?=some (s[a1]'(by omega)):=List.getElem?_eq_getElem (by omega)
    rw[drop_cons hx]
   refine fU hr1 ?_
   rw[List.set_set]
   have hr2:Rd (S.set st.length (rdO s a1 4 0)) st.length s a1 4 0:=hr.set
   refine et hr2 ?_
   have e4:((4:Int) != 0)=true:=rfl
   simp only[e4,ai]
   exact wrong (a:=a1) (e:=4) rfl (by decide) hn
  ·have hs1:dy s=some t:=by
    rw[hpt,hp,List.drop_eq_nil_of_le (by omega)]
   refine et hr1 ?_
   simp only[bne_self_eq_false,af]
   exact ⟨.tup [kV t,i64 0,i64 0],F,bn _ (by simp[LV.plain,LV.aB,eC]),by simp[LV.plain,LV.aB,eC],h1 t hs1⟩
 ·rw[List.drop_zero] at hp
  have hn:dy s=none:=by rw[hpt,hp]
  have hr1:Rd (S.set st.length (rdO s a1 e1 0)) st.length s a1 e1 0:=hr.set
  have e4:(e1 != 0)=true:=by simpa using he1
  simp only[aF,ab,aq,Nat.zero_add]
  refine et hr1 ?_
  simp only[e4,bF,ab,Bool.not_true,af]
  refine et hr1 ?_
  simp only[e4,ai]
  exact wrong (a:=a1) (e:=e1) rfl he1 hn
end
end Go.Proofs.YtknegckgmklnhaaGreatDoor
namespace Go.CP
def js:T→Bool
 | .int n=>decide (-9007199254740992≤n∧n≤9007199254740992)
 | _=>false
def jR (f:Nat) (v:T):Bool:=
 if f=1 then decide (v.kind=2) else if f=2 then decide (v.kind=3) else if f=3 then decide (v.kind=4)||js v else if f=4 then decide (v.kind=5) else true
def ph:List (T→Bool)→List T→Bool
 | p::ps,v::vs=>p v&&ph ps vs
 | _,_=>true
def dU (k:Tx):List Tx→Nat→Option Nat
 | [],_=>none
 | n::ns,i=>if n=k then some i else dU k ns (i+1)
def missing:List Tx→List Bool→List (Tx × T)→List Tx
 | n::ns,l::ls,es=>if (T.find es n).isNone && !l then n::missing ns ls es else missing ns ls es
 | _,_,_=>[]
def eT (f:Nat):Int:=if f<5 then 0 else if f=6∨f=8 then 7 else 6
def cd (f:Nat) (ps:List (T→Bool)) (ns:List Tx) (ls:List Bool) (v:T):Bool:=
 if v.kind=0∨v.kind=1 then true
 else if f<5 then jR f v
 else match v with
  | .list vs=>if f=5 then vs.all (ps.getD 0 fun _=>false) else if f=7 then decide (vs.length=ps.length)&&ph ps vs else false
  | .map es=>if f=6 then es.all (fun e=>(ps.getD 0 fun _=>false) e.2) else if f=8 then (es.all fun e=>match dU e.1 ns 0 with
    | some i=>(ps.getD i fun _=>false) e.2
    | none=>false)&&(missing ns ls es).isEmpty else false
  | _=>false
mutual
def bU:KT→T→Bool
 | .mk f l ns ls,v=>cd f (cw l) ns ls v
def cw:List KT→List (T→Bool)
 | []=>[]
 | t::ts=>(fun v=>bU t v)::cw ts
end
theorem jt:∀ {l:List KT},cw l=l.map bU
 | []=>rfl
 | t::ts=>by simp only[cw,List.map_cons,jt (l:=ts)]
structure AT where
 nm:Tx
 ty:KT
 must:Bool
 own:Bool
 hide:Bool
 new:Bool
structure ST where
 ver:Int
 l:List AT
def splitB (c:UInt8):Tx→List Tx
 | []=>[[]]
 | x::s=>if x=c then []::splitB c s else match splitB c s with
  | []=>[[x]]
  | p::ps=>(x::p)::ps
theorem cC {c:UInt8}:∀ {s:Tx},splitB c s≠[]
 | []=>by simp[splitB]
 | x::s=>by
  unfold splitB
  split
  ·simp
  ·split<;>simp
def iP:Tx:=[97,116,116,114]
def cF:Tx:=[109,117,115,116]
def dL:Tx:=[111,119,110]
def cG:Tx:=[104,105,100,101]
def dM:Tx:=[110,101,119]
def cm:Tx:=[118,101,114,115,105,111,110,32]
def vI (a:AT):Tx:=(if a.must then 32::cF else [])++((if a.own then 32::dL else [])++((if a.hide then 32::cG else [])++(if a.new then 32::dM else [])))
def mh (a:AT):Tx:=iP++32::(a.nm++32::(kpr a.ty++vI a))
def eD (s:Tx):Option AT:=match splitB 32 s with
 | w0::w1::w2::r=>if w0≠iP then none else match dy w2 with
  | none=>none
  | some t=>if mh ⟨w1,t,r.contains cF,r.contains dL,r.contains cG,r.contains dM⟩=s then some ⟨w1,t,r.contains cF,r.contains dL,r.contains cG,r.contains dM⟩ else none
 | _=>none
def iu (last:Tx) (a:AT):Int:=
 if named a.nm=false then 7 else if a.nm=last then 9 else if Op.bytesLess a.nm last=true then 4 else if a.must&&a.own then 1 else 0
def fJ (l:List AT):Tx:=match l.getLast? with
 | none=>[]
 | some a=>a.nm
def fM (l:List AT) (a:AT):Int:=if l.length=16 then 3 else iu (fJ l) a
def dc:List AT→Int→List Tx→List AT ⊕ Int × Int
 | l,_,[]=>.inl l
 | l,n,[p]=>if p=[] then .inl l else .inr (n,4)
 | l,n,p::q::r=>match eD p with
  | none=>.inr (n,4)
  | some a=>if fM l a=0 then dc (l++[a]) (n+1) (q::r) else .inr (n,fM l a)
def fm (k:Tx):List AT→Option AT
 | []=>none
 | a::l=>if a.nm=k then some a else fm k l
def dV (l:List AT):List (Tx × T)→Tx × Int
 | []=>([],0)
 | e::es=>match fm e.1 l with
  | none=>(e.1,7)
  | some a=>if bU a.ty e.2 then dV l es else (e.1,6)
def ck (l:List AT) (v:T):Tx × Int:=match v with
 | .map es=>dV l es
 | _=>([],6)
def dx (v:T) (k:Tx):T:=(v.at k).getD .null
def dW (v:T):List AT→Tx × Int
 | []=>([],0)
 | a::l=>if a.must&&decide ((dx v a.nm).kind=0) then (a.nm,8) else dW v l
def eu (l:List AT) (v:T):Tx × Int:=if (ck l v).2=0 then dW v l else ck l v
def jS (v:T):List AT→Tx × Int
 | []=>([],0)
 | a::l=>if (v.at a.nm).isSome then jS v l else (a.nm,8)
def jT (l:List AT) (v:T):Tx × Int:=if (ck l v).2=0 then jS v l else ck l v
def gI (v:T) (a:AT):T:=if a.own&&decide ((dx v a.nm).kind=0) then .unknown else dx v a.nm
def cM (l:List AT) (v:T):List (Tx × T):=l.map fun a=>(a.nm,gI v a)
def fp (l:List AT) (v:T):T:=.map (cM l v)
structure ST.ok (s:ST):Prop where
 ver:0≤s.ver∧s.ver≤1000
 len:s.l.length≤16
 rise:(s.l.map (·.nm)).Pairwise ltB
 nm:∀ a ∈ s.l,named a.nm=true
 ty:∀ a ∈ s.l,a.ty.wf 8
 mo:∀ a ∈ s.l,(a.must&&a.own)=false
theorem tL {t:T}:t.kind=0↔t=.null:=by cases t<;>simp[T.kind]
theorem AG {k:KT}:bU k .null=true:=by cases k;simp[bU,cd,T.kind]
theorem sY {k:KT}:bU k .unknown=true:=by cases k;simp[bU,cd,T.kind]
theorem tM {k:Tx}:∀ {l:List AT} {a:AT},fm k l=some a→a ∈ l∧a.nm=k
 | x::l,a,h=>by
  unfold fm at h
  split at h
  ·simp only[Option.some.injEq] at h;subst h;exact ⟨by simp,by assumption⟩
  ·have:=tM h;exact ⟨List.mem_cons_of_mem _ this.1,this.2⟩
theorem yk {l:List AT} (h:(l.map (·.nm)).Pairwise ltB) {a:AT} (ha:a ∈ l):fm a.nm l=some a:=by
 induction l with
 | nil=>cases ha
 | cons x l ih=>
  simp only[List.map_cons,List.pairwise_cons] at h
  unfold fm
  rcases List.mem_cons.1 ha with rfl|ha
  ·rw[if_pos rfl]
  ·rw[if_neg (Ar (h.1 _ (List.mem_map.2 ⟨a,ha,rfl⟩)))]
   exact ih h.2 ha
theorem pj {l:List AT}:∀ {es:List (Tx × T)},(dV l es).2=0↔∀ e ∈ es,∃ a,fm e.1 l=some a∧bU a.ty e.2=true
 | []=>by simp[dV]
 | e::es=>by
  unfold dV
  cases hf:fm e.1 l with
  | none=>simp[hf]
  | some a=>
   simp only
   split
   ·rename_i ht
    rw[pj]
    simp[hf,ht]
   ·rename_i ht
    simp[hf,ht]
theorem sk {v:T}:∀ {l:List AT},(dW v l).2=0↔∀ a ∈ l,a.must=true→dx v a.nm≠.null
 | []=>by simp[dW]
 | a::l=>by
  unfold dW
  split
  ·rename_i h
   simp only[Bool.and_eq_true,decide_eq_true_eq,tL] at h
   simp[h.1,h.2]
  ·rename_i h
   simp only[Bool.and_eq_true,decide_eq_true_eq,tL,not_and] at h
   rw[sk]
   simp only[List.mem_cons,forall_eq_or_imp]
   exact ⟨fun k=>⟨h,k⟩,fun k=>k.2⟩
theorem CE {v:T}:∀ {l:List AT},(jS v l).2=0↔∀ a ∈ l,(v.at a.nm).isSome=true
 | []=>by simp[jS]
 | a::l=>by
  unfold jS
  split
  ·rename_i h
   rw[CE]
   simp[h]
  ·rename_i h
   simp[h]
theorem yl {l:List AT} {v:T}:(eu l v).2=0↔(ck l v).2=0∧∀ a ∈ l,a.must=true→dx v a.nm≠.null:=by
 unfold eu
 split
 ·rename_i h;rw[sk];simp[h]
 ·rename_i h;simp[h]
theorem DW {l:List AT} {v:T}:(jT l v).2=0↔(ck l v).2=0∧∀ a ∈ l,(v.at a.nm).isSome=true:=by
 unfold jT
 split
 ·rename_i h;rw[CE];simp[h]
 ·rename_i h;simp[h]
theorem GA {g:AT→T} {l:List AT} (h:(l.map (·.nm)).Pairwise ltB) {a:AT} (ha:a ∈ l):T.find (l.map fun a=>(a.nm,g a)) a.nm=some (g a):=by
 refine T.kW ?_ (List.mem_map.2 ⟨a,ha,rfl⟩)
 rw[List.map_map]
 exact dB h
theorem tN {l:List AT} {v:T} (h:(l.map (·.nm)).Pairwise ltB) {a:AT} (ha:a ∈ l):(fp l v).at a.nm=some (gI v a):=GA h ha
theorem DX {l:List AT} {v:T} (h:(ck l v).2=0) (hl:(l.map (·.nm)).Pairwise ltB) {a:AT} (ha:a ∈ l):bU a.ty (dx v a.nm)=true:=by
 cases v<;>simp only[ck] at h<;>try (simp at h;done)
 rename_i es
 show bU a.ty ((T.find es a.nm).getD .null)=true
 cases hf:T.find es a.nm with
 | none=>exact AG
 | some t=>
  obtain ⟨b,h1,h2⟩:=pj.1 h _ (T.xS hf)
  rw[yk hl ha] at h1
  cases h1
  exact h2
theorem DY {s:ST} (hs:s.ok) {v:T} (h:(eu s.l v).2=0):eu s.l (fp s.l v)=([],0):=by
 obtain ⟨h1,h2⟩:=yl.1 h
 have t1:(ck s.l (fp s.l v)).2=0:=by
  refine pj.2 fun e he=>?_
  obtain ⟨a,ha,rfl⟩:=List.mem_map.1 he
  refine ⟨a,yk hs.rise ha,?_⟩
  show bU a.ty (gI v a)=true
  unfold gI
  split
  ·exact sY
  ·exact DX h1 hs.rise ha
 have t2:(dW (fp s.l v) s.l).2=0:=by
  refine sk.2 fun a ha hm=>?_
  rw[dx,tN hs.rise ha]
  show gI v a≠.null
  unfold gI
  split
  ·simp
  ·exact h2 a ha hm
 have t3:∀ {l:List AT} {v:T},(dW v l).2=0→dW v l=([],0):=by
  intro l v
  induction l with
  | nil=>exact fun _=>rfl
  | cons a l ih=>
   unfold dW
   split
   ·intro h;simp at h
   ·exact ih
 unfold eu
 rw[if_pos t1,t3 t2]
theorem AH {s:ST} (hs:s.ok) {v:T} (h:(eu s.l v).2=0):(jT s.l (fp s.l v)).2=0:=by
 refine DW.2 ⟨(yl.1 (by rw[DY hs h])).1,fun a ha=>by rw[tN hs.rise ha];rfl⟩
end Go.CP
