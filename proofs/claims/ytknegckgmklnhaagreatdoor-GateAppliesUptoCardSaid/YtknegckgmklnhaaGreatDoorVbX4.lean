/- Parts of the proof. -/
import Derived.Test.YtknegckgmklnhaaGreatDoorVbV1
namespace Go.Proofs.YtknegckgmklnhaaGreatDoor
open Go Go.CP
set_option maxRecDepth 100000
section
variable {st:aa} {R:LV→aa→Prop}
def B12 (v0 v2 v23 v25 v26:LV) (R:LV→aa→Prop) (st29:aa):Prop:=
 bd (ldA st29 v0 7) fun v30=>
 bd (ldA st29 v2 7) fun v31=>
 (nw st29 [i64 0,LV.bool false,i64 0,i64 0,LV.str [],LV.nils,LV.nils] fun v32 st33=>
 ldA st33 v2 7=some v31∧
 ldA st33 v0 7=some v30∧
 (nw st33 [i64 0,LV.bool false,i64 0,i64 0,LV.str [],LV.nils,LV.nils] fun v34 st35=>
 ldA st35 v2 7=some v31∧
 ldA st35 v0 7=some v30∧
 aw Tryz.prog 27 [v30] st35 fun v36 st37=>
 ldA st37 v2 7=some v31∧
 aw Tryz.prog 27 [v31] st37 fun v38 st39=>
 bd2 (lmk (stV st39 7 v34 v36)) fun _v40 st41=>bd2 (lmk (stV st41 7 v32 v38)) fun _v42 st43=>ia v23 v26 v25 v34 v32 R st43)∧
 aw Tryz.prog 27 [v30] st33 fun v44 st45=>
 ldA st45 v2 7=some v31∧
 (nw st45 [i64 0,LV.bool false,i64 0,i64 0,LV.str [],LV.nils,LV.nils] fun v46 st47=>
 ldA st47 v2 7=some v31∧
 ldA st47 v0 7=some v30∧
 aw Tryz.prog 27 [v31] st47 fun v48 st49=>
 bd2 (lmk (stV st49 7 v46 v44)) fun _v50 st51=>bd2 (lmk (stV st51 7 v32 v48)) fun _v52 st53=>ia v23 v26 v25 v46 v32 R st53)∧
 aw Tryz.prog 27 [v31] st45 fun v54 st55=>
 nw st55 [i64 0,LV.bool false,i64 0,i64 0,LV.str [],LV.nils,LV.nils] fun v56 st57=>
 ldA st57 v2 7=some v31∧
 ldA st57 v0 7=some v30∧
 bd2 (lmk (stV st57 7 v56 v44)) fun _v58 st59=>bd2 (lmk (stV st59 7 v32 v54)) fun _v60 st61=>ia v23 v26 v25 v56 v32 R st61)∧
 (nw st29 [i64 0,LV.bool false,i64 0,i64 0,LV.str [],LV.nils,LV.nils] fun v62 st63=>
 ldA st63 v2 7=some v31∧
 ldA st63 v0 7=some v30∧
 (nw st63 [i64 0,LV.bool false,i64 0,i64 0,LV.str [],LV.nils,LV.nils] fun v64 st65=>
 ldA st65 v2 7=some v31∧
 ldA st65 v0 7=some v30∧
 aw Tryz.prog 27 [v30] st65 fun v66 st67=>
 ldA st67 v2 7=some v31∧
 aw Tryz.prog 27 [v31] st67 fun v68 st69=>
 bd2 (lmk (stV st69 7 v62 v66)) fun _v70 st71=>bd2 (lmk (stV st71 7 v64 v68)) fun _v72 st73=>ia v23 v26 v25 v62 v64 R st73)∧
 aw Tryz.prog 27 [v30] st63 fun v74 st75=>
 ldA st75 v2 7=some v31∧
 (nw st75 [i64 0,LV.bool false,i64 0,i64 0,LV.str [],LV.nils,LV.nils] fun v76 st77=>
 ldA st77 v2 7=some v31∧
 ldA st77 v0 7=some v30∧
 aw Tryz.prog 27 [v31] st77 fun v78 st79=>
 bd2 (lmk (stV st79 7 v62 v74)) fun _v80 st81=>bd2 (lmk (stV st81 7 v76 v78)) fun _v82 st83=>ia v23 v26 v25 v62 v76 R st83)∧
 aw Tryz.prog 27 [v31] st75 fun v84 st85=>
 nw st85 [i64 0,LV.bool false,i64 0,i64 0,LV.str [],LV.nils,LV.nils] fun v86 st87=>
 ldA st87 v2 7=some v31∧
 ldA st87 v0 7=some v30∧
 bd2 (lmk (stV st87 7 v62 v74)) fun _v88 st89=>bd2 (lmk (stV st89 7 v86 v84)) fun _v90 st91=>ia v23 v26 v25 v62 v86 R st91)∧
 aw Tryz.prog 27 [v30] st29 fun v92 st93=>
 ldA st93 v2 7=some v31∧
 (nw st93 [i64 0,LV.bool false,i64 0,i64 0,LV.str [],LV.nils,LV.nils] fun v94 st95=>
 ldA st95 v2 7=some v31∧
 ldA st95 v0 7=some v30∧
 (nw st95 [i64 0,LV.bool false,i64 0,i64 0,LV.str [],LV.nils,LV.nils] fun v96 st97=>
 ldA st97 v2 7=some v31∧
 ldA st97 v0 7=some v30∧
 aw Tryz.prog 27 [v31] st97 fun v98 st99=>
 bd2 (lmk (stV st99 7 v96 v92)) fun _v100 st101=>
 bd2 (lmk (stV st101 7 v94 v98)) fun _v102 st103=>ia v23 v26 v25 v96 v94 R st103)∧
 aw Tryz.prog 27 [v31] st95 fun v104 st105=>
 nw st105 [i64 0,LV.bool false,i64 0,i64 0,LV.str [],LV.nils,LV.nils] fun v106 st107=>
 ldA st107 v2 7=some v31∧
 ldA st107 v0 7=some v30∧
 bd2 (lmk (stV st107 7 v106 v92)) fun _v108 st109=>
 bd2 (lmk (stV st109 7 v94 v104)) fun _v110 st111=>ia v23 v26 v25 v106 v94 R st111)∧
 (nw st93 [i64 0,LV.bool false,i64 0,i64 0,LV.str [],LV.nils,LV.nils] fun v112 st113=>
 ldA st113 v2 7=some v31∧
 ldA st113 v0 7=some v30∧
 (nw st113 [i64 0,LV.bool false,i64 0,i64 0,LV.str [],LV.nils,LV.nils] fun v114 st115=>
 ldA st115 v2 7=some v31∧
 ldA st115 v0 7=some v30∧
 aw Tryz.prog 27 [v31] st115 fun v116 st117=>
 bd2 (lmk (stV st117 7 v112 v92)) fun _v118 st119=>
 bd2 (lmk (stV st119 7 v114 v116)) fun _v120 st121=>ia v23 v26 v25 v112 v114 R st121)∧
 aw Tryz.prog 27 [v31] st113 fun v122 st123=>
 nw st123 [i64 0,LV.bool false,i64 0,i64 0,LV.str [],LV.nils,LV.nils]
 fun v124 st125=>
 ldA st125 v2 7=some v31∧
 ldA st125 v0 7=some v30∧
 bd2 (lmk (stV st125 7 v112 v92)) fun _v126 st127=>
 bd2 (lmk (stV st127 7 v124 v122)) fun _v128 st129=>ia v23 v26 v25 v112 v124 R st129)∧
 aw Tryz.prog 27 [v31] st93 fun v130 st131=>
 (nw st131 [i64 0,LV.bool false,i64 0,i64 0,LV.str [],LV.nils,LV.nils] fun v132 st133=>
 ldA st133 v2 7=some v31∧
 ldA st133 v0 7=some v30∧
 nw st133 [i64 0,LV.bool false,i64 0,i64 0,LV.str [],LV.nils,LV.nils]
 fun v134 st135=>
 ldA st135 v2 7=some v31∧
 ldA st135 v0 7=some v30∧
 bd2 (lmk (stV st135 7 v134 v92)) fun _v136 st137=>
 bd2 (lmk (stV st137 7 v132 v130)) fun _v138 st139=>ia v23 v26 v25 v134 v132 R st139)∧
 nw st131 [i64 0,LV.bool false,i64 0,i64 0,LV.str [],LV.nils,LV.nils] fun v140 st141=>
 ldA st141 v2 7=some v31∧
 ldA st141 v0 7=some v30∧
 nw st141 [i64 0,LV.bool false,i64 0,i64 0,LV.str [],LV.nils,LV.nils]
 fun v142 st143=>
 ldA st143 v2 7=some v31∧
 ldA st143 v0 7=some v30∧
 bd2 (lmk (stV st143 7 v140 v92)) fun _v144 st145=>
 bd2 (lmk (stV st145 7 v142 v130)) fun _v146 st147=>ia v23 v26 v25 v140 v142 R st147
theorem MT {sv x8 x9:LV} {r r2:RV} {o1 o2:Nat} (hr:r.ok) (hr2:r2.ok) (b1:cH st o1 r) (b2:cH st o2 r2)
  (next:∀ st' oa ob,Fr st st' (fun _=>False)→cH st' oa (rT (cln r))→cH st' ob (rT (cln r2))→ia sv x8 x9 (.ptr oa 0) (.ptr ob 0) R st') :
  B12 (.ptr o1 0) (.ptr o2 0) sv x9 x8 R st:=by
 have clA:=Ag hr
 have clB:=Ag hr2
 have fa:∀ (s:aa) (y:ar),Fr s (s++[y]) (fun _=>False):=fun _ _=>Fr.app
 have F1:=fa st (.cells .rw z7)
 have F2:=F1.trans (fa _ (.cells .rw z7)) fun _ _ h=>h
 have p0:=b1.ldA
 have m0:=b2.ldA
 have p1:=(b1.fr F1 id).ldA
 have m1:=(b2.fr F1 id).ldA
 have p2:=(b1.fr F2 id).ldA
 have m2:=(b2.fr F2 id).ldA
 have k1:(st++[ar.cells .rw z7]++[ar.cells .rw z7])[st.length]?=some (.cells .rw z7):=cb ay
 have k2:(st++[ar.cells .rw z7]++[ar.cells .rw z7])[(st++[ar.cells .rw z7]).length]?=some (.cells .rw z7):=ay
 have l1:(st++[ar.cells .rw z7]).length=st.length+1:=by simp
 have fin:∀ {S:aa} {oa ob:Nat},Fr st S (fun _=>False)→st.length≤oa→st.length≤ob→oa≠ob→S[oa]?=some (.cells .rw z7)→S[ob]?=some (.cells .rw z7)→
   bd2 (lmk (stV S 7 (.ptr oa 0) (vR (rT (cln r))))) fun _v s=>bd2 (lmk (stV s 7 (.ptr ob 0) (vR (rT (cln r2))))) fun _w s'=>ia sv x8 x9 (.ptr oa 0) (.ptr ob 0) R s':=by
  intro S oa ob hF h1 h2 hne q1 q2
  have q3:(S.set oa (.cells .rw (rc (rT (cln r)))))[ob]?=some (.cells .rw z7):=by rw[bK hne];exact q2
  rw[uJ q1 rfl fC nU]
  simp only[aA,af]
  rw[uJ q3 rfl fC nU]
  simp only[aA,af]
  exact next _ oa ob (sg (sg hF h1) h2) (by unfold cH;rw[bK (Ne.symm hne)];exact bO q1) (bO q3)
 have f1:=fin F2 (Nat.le_refl _) (by omega) (by omega) k1 k2
 have f2:=fin F2 (by omega) (Nat.le_refl _) (by omega) k2 k1
 simp only[B12,ab,p0,m0,cv,p1,m1,p2,m2,true_and]
 repeat' (first|exact f1|exact f2|refine And.intro ?_ ?_|refine clA.call ?_|refine clB.call ?_|simp only[m0,p1,m1,p2,m2])
theorem C5 {st:aa} {o:Nat} {a:Int} {s:Tx} (h:st[o]?=some (.cells .rw [i64 a,.str s])):ldA st (.ptr o 0) 2=some (vd a s):=CZ h
open Classical in
theorem C6 (g:GlS st) {s:Tx} {r r2:RV} (hr:r.ok) (hr2:r2.ok):w12 (.str s) (vR r) (vR r2) (fun v _=>v=.bool true) st:=by
 obtain ⟨n,hg⟩:=zT hr
 obtain ⟨n2,hg2⟩:=zT hr2
 have hb:cH (st++[ar.cells .rw (rc r)]++[ar.cells .rw (rc r2)]) st.length r:=cb ay
 have hb2:cH (st++[ar.cells .rw (rc r)]++[ar.cells .rw (rc r2)]) (st++[ar.cells .rw (rc r)]).length r2:=ay
 have g1:GlS (st++[ar.cells .rw (rc r)]++[ar.cells .rw (rc r2)]):=(g.fr (Fr.app (S:=fun _=>False)) id id id).fr (Fr.app (S:=fun _=>False)) id id id
 generalize hL:(st++[ar.cells .rw (rc r)]).length=L at hb2
 simp only[w12,oM,Hr,Hs,ec,af,hL]
 generalize st++[ar.cells .rw (rc r)]++[ar.cells .rw (rc r2)]=S0 at hb hb2 g1
 simp only[hb.ldA,ab]
 refine hg.call ?_
 simp only[ad,cT,ab,aL,hb2.ldA]
 refine ⟨fun _=>yv rfl,fun _=>hg2.call ?_⟩
 simp only[ad,cT,ab,aL]
 refine ⟨fun _=>yv rfl,fun _=>yv ?_⟩
 simp only[bw,ab,bM,ae]
 have hp:=JG hr
 have hm:=JG hr2
 have ev:∀ {a b:Int} {s t:Tx},eqB .eql (og (leq Tryz.prog 64 92) (vd a s) (vd b t))=some (.bool ((a==b)&&(s==t))):=by intro a b s t;rw[eqV];rfl
 refine RB g1 (fun st2 m0 m1 hm1 hf=>?_) fun st2 S n hS hf hl=>?_
 ·have pm:stV (st2++[ar.cells .rw [i64 0,LV.nils]]) 2 (.ptr st2.length 0) (.agg [m0,m1])=some (st2++[.cells .rw [m0,m1]]):=by
   rw[ko ay hm1];simp
  have f3:Fr S0 (st2++[.cells .rw [m0,m1]]) (fun _=>False):=hf.trans Fr.app fun _ _ h=>h
  have c00:decide ((1:Int) > 0)=true:=rfl
  simp only[av,aN,aO,ab,cv,pm,aA,af]
  refine MT hr hr2 (hb.fr f3 id) (hb2.fr f3 id) fun st4 oa ob f4 ba bb=>?_
  generalize cln r=p at hp ba
  generalize cln r2=m at hm bb
  refine JW hp hm ba bb (Gy p m) (JV m) fun st5 oc od f5 hc hd=>?_
  have ba5:=ba.fr f5 id
  have bb5:=bb.fr f5 id
  refine L7 _ _ _ _ _ _ ?_
  simp only[Ht,ba5.ldA,bb5.ldA,ab]
  refine (uf _ p (Nat.lt_succ_self _) hp).call ?_
  simp only[ba5.ldA,bb5.ldA,true_and]
  refine (uf _ m (Nat.lt_succ_self _) hm).call ?_
  simp only[ba5.ldA,bb5.ldA,true_and]
  refine (mR _ _ _ (Nat.lt_succ_self _) hp hm).call ?_
  simp only[ba5.ldA,bb5.ldA,true_and]
  refine (pR _ _ _ (Nat.lt_succ_self _) hp hm).call ?_
  simp only[qN,ab,bne_self_eq_false]
  refine L8 _ _ _ _ _ _ _ ?_
  have z1:bh (aB (aF [(0,1),(1,1)]) [i64 0,LV.str []] [(0,i64 1)])=some (vd 1 []):=rfl
  simp only[Hu,ae,ad,cT,c00,ab,ah,C5 hc,C5 hd,z1,ev]
  rfl
 ·have hSok:=CJ hS
  have pm:stV (st2++[ar.cells .rw [i64 0,LV.nils]]) 2 (.ptr st2.length 0) (bS n S.l)=some (st2++[.cells .rw [i64 n,.isl (bCs S.l) S.l.length none]]):=by
   unfold bS
   rw[ko ay rfl];simp
  have f3:Fr S0 (st2++[.cells .rw [i64 n,.isl (bCs S.l) S.l.length none]]) (fun _=>False):=hf.trans Fr.app fun _ _ h=>h
  have c00:decide ((0:Int) > 0)=false:=rfl
  have hbx:rG (st2++[ar.cells .rw [i64 n,.isl (bCs S.l) S.l.length none]]) st2.length n S.l:=ay
  simp only[av,aN,aO,ab,cv,pm,aA,af]
  refine MT hr hr2 (hb.fr f3 id) (hb2.fr f3 id) fun st4 oa ob f4 ba bb=>?_
  have hbx4:=hbx.fr f4 id
  generalize cln r=p at hp ba
  generalize cln r2=m at hm bb
  refine JW hp hm ba bb (LI hSok hp hm) (OK hSok hm) fun st5 oc od f5 hc hd=>?_
  have ba5:=ba.fr f5 id
  have bb5:=bb.fr f5 id
  have hbx5:=hbx4.fr f5 id
  refine L7 _ _ _ _ _ _ ?_
  simp only[Ht,ba5.ldA,bb5.ldA,ab]
  refine (uf _ p (Nat.lt_succ_self _) hp).call ?_
  simp only[ba5.ldA,bb5.ldA,true_and]
  refine (uf _ m (Nat.lt_succ_self _) hm).call ?_
  simp only[ba5.ldA,bb5.ldA,true_and]
  refine (mR _ _ _ (Nat.lt_succ_self _) hp hm).call ?_
  simp only[ba5.ldA,bb5.ldA,true_and]
  refine (pR _ _ _ (Nat.lt_succ_self _) hp hm).call ?_
  simp only[qN,ab,bne_self_eq_false]
  refine L8 _ _ _ _ _ _ _ ?_
  simp only[Hu,ae,ad,cT,c00,ab,C5 hc,C5 hd,hbx5.ldA,ba5.ldA,bb5.ldA]
  refine (MS (b:=true) (w:=EZ S p m) hSok hp hm (by rw[vU];rfl)).call ?_
  simp only[C5 hc,true_and]
  refine JU.call ?_
  simp only[beq_self_eq_true,Bool.and_self,ah,hbx5.ldA,ba5.ldA,bb5.ldA,C5 hd,ab]
  refine (MS (b:=false) (w:=E0 S m) hSok hp hm (by rw[vV];rfl)).call ?_
  simp only[C5 hd,true_and]
  refine JU.call ?_
  simp only[beq_self_eq_true,Bool.and_self]
  exact NN _ rfl
theorem QE (g:GlS st) {s:Tx} {r r2:RV} (hr:r.ok) (hr2:r2.ok):aw Tryz.prog 12 [.str s,vR r,vR r2] st fun v _=>v=.bool true:=c12 _ _ _ (C6 g hr hr2)
end
theorem rH {H:Type} {u u':TypeId} {xs:List LV} {ds:List (DataW H)} (h:r5 Tryz.prog [9,49,49] xs ds) (hb:Rows.uptoBulkAll ds≤1048576):aw Tryz.prog 12 xs (zq (Gw u u')) fun v _=>v=.bool true:=by
 obtain ⟨x0,_,d0,_,rfl,rfl,⟨n0,cs0,_,a2,a3⟩,x1,_,d1,_,rfl,rfl,⟨n1,cs1,b1,_,b3⟩,x2,_,d2,_,rfl,rfl,⟨n2,cs2,e1,_,e3⟩,rfl,rfl⟩:=h
 have i0:cU Tryz.prog 9=false:=by kernel_rfl
 have i1:cU Tryz.prog 49=true:=by kernel_rfl
 rw[a2 i0] at a3
 obtain ⟨s,e,_⟩:=CX a3
 simp only[List.cons.injEq,and_true] at e
 subst e
 rw[if_pos i1] at b1 e1
 subst b1;subst e1
 simp only[Rows.uptoBulkAll] at hb
 obtain ⟨r,rfl,hr⟩:=uz (N:=1048576) (by unfold big;omega) n1 b3 (by omega)
 obtain ⟨r2,rfl,hr2⟩:=uz (N:=1048576) (by unfold big;omega) n2 e3 (by omega)
 exact QE LH hr hr2
end Go.Proofs.YtknegckgmklnhaaGreatDoor
