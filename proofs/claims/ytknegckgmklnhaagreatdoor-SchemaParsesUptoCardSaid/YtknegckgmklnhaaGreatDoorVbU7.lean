/- Parts of the proof. -/
import Derived.Test.YtknegckgmklnhaaGreatDoorVbU3
namespace Go.Proofs.YtknegckgmklnhaaGreatDoor
open Go Go.CP
set_option maxRecDepth 100000
section
variable {st:aa} {R:LV→aa→Prop}
theorem vY:cN Tryz.prog 78:=⟨Tryz.f78,dz Tryz.f78,Tryz.func78,by kernel_rfl,by kernel_rfl⟩
theorem Ak {cs:List LV} {n:Nat} (hc:cs.length=n*6) (hp:LV.aF cs=true) (h1:cs.all LV.one=true) (hn:n≤2 ^ 30):Pu Tryz.prog 78 [.isl cs n none] (.isl cs n none):=by
 have hpl:(LV.isl cs n none).plain=true:=by simp only[LV.plain,hp]
 refine Pu.of ?_ (by simp only[LV.aF,hpl];rfl) hpl
 have ef:av (fun i=>some (i*6,6)) (List.replicate 0 [LV.str [],LV.nilp,LV.bool false,LV.bool false,LV.bool false,LV.bool false]).flatten []=some []:=rfl
 by_cases h0:n=0
 ·subst h0
  have:cs=[]:=List.eq_nil_of_length_eq_zero (by omega)
  subst this
  refine au.Df vY (c78 _ ?_) (c78 _ ?_)
  ·exact .inr (.inr ⟨.inr rfl,rfl,rfl⟩)
  ·have e0:xk .emp .nils=some false:=rfl
   simp only[w78,e0,cP,cw,ab,ae,ef,bz,ai]
   refine .inl ⟨_,_,_,.rw,[],rfl,rfl,rfl,Nat.le_refl _,rfl⟩
 ·refine c78 _ ?_
  have e0:xk (.isl cs n none) .nils=some false:=by
   show (if 0<n then some false else none)=_
   rw[if_pos (by omega)]
  have hs:=yO (st:=[al.cells .rw []]) (c:=none) hc
  have hr:fE n 32=true:=ik (by omega) (by omega)
  have hap:aP [al.cells .rw []] 6 32 .rw (.sl 0 0 0 (.ex 0)) (.isl cs n none)=some (.sl 1 0 n (.rest 6),[.cells .rw [],.cells .rw cs]):=by
   have c2:¬ (n≤0):=by omega
   simp[aP,hs,h0,hr]
  simp only[w78,e0,cP,cw,ab,ae,ef,bz,ai,List.nil_append,List.length_nil]
  rw[hap,ai]
  refine .inl ⟨_,_,_,.rw,cs,rfl,rfl,rfl,by rw[hc];omega,?_⟩
  rw[List.drop_zero,List.take_of_length_le (Nat.le_refl _)]
  exact bE _ hp
theorem xd:∀ {l:List AT},(atC l).all LV.one=true
 | []=>rfl
 | a::l=>by
  have:=xd (l:=l)
  unfold atC at this ⊢
  rw[List.map_cons,db,List.all_append,this];rfl
theorem Ba {S:ST} (hS:S.ok):Pu Tryz.prog 36 [sV S] (.isl (atC S.l) S.l.length none):=by
 have hpl:(LV.isl (atC S.l) S.l.length none).plain=true:=by simp only[LV.plain,iz]
 refine Pu.of (c36 _ ?_) (by simp only[LV.aF,jT,Bool.and_true]) hpl
 have ep:cV true (sV S) .nilp=some false:=rfl
 have h16:=hS.len
 simp only[w36,ep,cP,cw,ab,ae]
 show bd (af (.iptr (sC S) 0)) _
 simp only[cu,ab,cx,Nat.zero_add,zA]
 refine (Ak wQ iz xd (by omega)).call ?_
 exact bH _ hpl
theorem lj:∀ {l:List AT} {i j:Nat} {a:AT},l[i]?=some a→j<6→(atC l)[i*6+j]?=(aC a)[j]?
 | b::l,0,j,a,h,hj=>by
  simp only[List.getElem?_cons_zero,Option.some.injEq] at h
  subst h
  unfold atC
  rw[List.map_cons,db,Nat.zero_mul,Nat.zero_add,List.getElem?_append_left (by rw[mR];exact hj)]
  rfl
 | b::l,i+1,j,a,h,hj=>by
  simp only[List.getElem?_cons_succ] at h
  have ih:=lj (l:=l) h hj
  unfold atC at ih ⊢
  rw[List.map_cons,db,show (i+1)*6+j=(ed b).cells.length+(i*6+j) by show _=6+_;omega,List.getElem?_append_right (by omega),Nat.add_sub_cancel_left]
  exact ih
theorem xe:∀ {l:List AT} {i:Nat} {a:AT},l[i]?=some a→((bCs l).drop (i*10)).take 10=bC a
 | b::l,0,a,h=>by
  simp only[List.getElem?_cons_zero,Option.some.injEq] at h
  subst h
  rw[bCs,Nat.zero_mul,List.drop_zero,List.take_append_of_le_length (by rw[fO];omega),List.take_of_length_le (by rw[fO];omega)]
 | b::l,i+1,a,h=>by
  simp only[List.getElem?_cons_succ] at h
  rw[bCs,show (i+1)*10=(bC b).length+i*10 by rw[fO];omega,List.drop_append,List.drop_eq_nil_of_le (by omega),Nat.add_sub_cancel_left,List.nil_append]
  exact xe h
theorem Bb {l:List AT} {i:Nat} {a:AT} (h:l[i]?=some a):ldA st (.iptr (bCs l) (i*10)) 10=some (.agg (bC a)):=by
 rw[tB (by have:=(Ai h).2;omega),xe h]
theorem Bc {S:ST} (hS:S.ok) {nm:Tx} {o:Nat} {n:Int} (hR:∀ st,R (.bool true) st) :
  ∀ (d i:Nat) (st:aa),i+d=S.l.length→oa st o n S.l→P5_12 (.str nm) (sV S) (.ptr o 0) (.isl (atC S.l) S.l.length none) (i64 i) R st:=by
 have h16:=hS.len
 intro d
 induction d with
 | zero=>
  intro i st hi h
  refine p5_12 _ _ _ _ _ ?_
  have c1:¬ ((i:Int)<S.l.length):=by omega
  have hf39:=Cm hS nm
  have hix:=uA (k:=nm) (l:=S.l) (i:=0)
  have h':∀ y:al,oa (st++[y]) o n S.l:=fun y=>by unfold oa;rw[List.getElem?_append_left (cI h)];exact h
  have bb:∀ a b:Bool,je .eql (.bool a) (.bool b)=some (.bool (a==b)):=fun _ _=>rfl
  simp only[w5_12,ca,ag,aG,ab,c1,decide_false,ae]
  cases hx:l6 nm (S.l.map (·.nm)) 0 with
  | none=>
   rw[hx] at hix
   have hf:iv nm S.l=none:=hix
   rw[hf] at hf39
   refine hf39.call ?_
   have pt:stV (st++[al.cells .rw [LV.str [],LV.nilp,LV.bool false,LV.bool false,LV.bool false,LV.bool false]]) 6 (.ptr st.length 0) (.agg (aX [] .nilp false false false false))=some (st++[.cells .rw (aX [] .nilp false false false false)]):=zB rfl rfl
   have g0:ld1 (st++[al.cells .rw (aX [] .nilp false false false false)]) (.ptr st.length 0)=some (.str []):=aM aA
   have hbx:=h' (.cells .rw (aX [] .nilp false false false false))
   have cg:decide ((-1:Int)≥0)=false:=rfl
   simp only[az,List.getElem?_cons_zero,List.getElem?_cons_succ,ab,cY,pt,ay,ai,hbx.ldA]
   refine (Aj (by unfold big;omega) nm).call ?_
   rw[Ag hx]
   have e0:(([]:Tx)==[])=true:=rfl
   simp only[ag,cZ,cg,ab,bb,beq_self_eq_true,ah,bq,Bool.not_false,ao,Nat.zero_add,g0,bA,ct]
   exact hR _
  | some j=>
   rw[hx] at hix
   obtain ⟨_,a,_,hf⟩:=hix
   rw[hf] at hf39
   refine hf39.call ?_
   have pt:stV (st++[al.cells .rw [LV.str [],LV.nilp,LV.bool false,LV.bool false,LV.bool false,LV.bool false]]) 6 (.ptr st.length 0) (.agg (aC a))=some (st++[.cells .rw (aC a)]):=zB rfl rfl
   have g0:ld1 (st++[al.cells .rw (aC a)]) (.ptr st.length 0)=some (.str a.nm):=aM aA
   have hbx:=h' (.cells .rw (aC a))
   have hnm:=(qU hf).2
   simp only[az,List.getElem?_cons_zero,List.getElem?_cons_succ,ab,cY,pt,ay,ai,hbx.ldA]
   refine (Aj (by unfold big;omega) nm).call ?_
   rw[(Af hx).1]
   have cg:decide (((j:Nat):Int)≥0)=true:=decide_eq_true (by omega)
   simp only[ag,cZ,cg,ab,bb,beq_self_eq_true,ah,bq,Bool.not_true,ae,ao,Nat.zero_add,g0,bA,ct,hnm]
   exact hR _
 | succ d ih=>
  intro i st hi h
  refine p5_12 _ _ _ _ _ ?_
  have hlt:i<S.l.length:=by omega
  have c1:((i:Int)<S.l.length):=by omega
  have hx:S.l[i]?=some S.l[i]:=List.getElem?_eq_getElem hlt
  have hm:=List.getElem_mem hlt
  generalize S.l[i]=a at hx hm
  have hw1:=aJ (show i<2 ^ 40 by omega)
  have e6:bh 6 (.isl (atC S.l) S.l.length none) (i64 i)=some (.iptr (atC S.l) (i*6)):=gr hlt
  have a0:(atC S.l)[i*6]?=some (.str a.nm):=lj (j:=0) hx (by omega)
  have a1:=lj hx (show 1<6 by omega)
  have a2:=lj hx (show 2<6 by omega)
  have a3:=lj hx (show 3<6 by omega)
  have a4:=lj hx (show 4<6 by omega)
  have a5:=lj hx (show 5<6 by omega)
  have v1:(aC a)[1]?=some (kV a.ty):=rfl
  have v2:(aC a)[2]?=some (.bool a.must):=rfl
  have v3:(aC a)[3]?=some (.bool a.own):=rfl
  have v4:(aC a)[4]?=some (.bool a.hide):=rfl
  have v5:(aC a)[5]?=some (.bool a.new):=rfl
  rw[v1] at a1;rw[v2] at a2;rw[v3] at a3;rw[v4] at a4;rw[v5] at a5
  have hbx:(st++[al.cells .rw (bC a)])[st.length]?=some (.cells .rw (bC a)):=aA
  have b0:ld1 (st++[al.cells .rw (bC a)]) (.ptr st.length 0)=some (.str a.nm):=by rw[aM hbx];rfl
  have b1:ld1 (st++[al.cells .rw (bC a)]) (.ptr st.length 1)=some (.str (kpr a.ty)):=by rw[aM hbx];rfl
  have b6:ld1 (st++[al.cells .rw (bC a)]) (.ptr st.length 6)=some (.bool a.must):=by rw[aM hbx];unfold bC;rw[dU];rfl
  have b7:ld1 (st++[al.cells .rw (bC a)]) (.ptr st.length 7)=some (.bool a.own):=by rw[aM hbx];unfold bC;rw[dU];rfl
  have b8:ld1 (st++[al.cells .rw (bC a)]) (.ptr st.length 8)=some (.bool a.hide):=by rw[aM hbx];unfold bC;rw[dU];rfl
  have b9:ld1 (st++[al.cells .rw (bC a)]) (.ptr st.length 9)=some (.bool a.new):=by rw[aM hbx];unfold bC;rw[dU];rfl
  have nt:∀ x:Tx,(!(x==x))=false:=fun x=>by simp
  have nb:∀ x:Bool,(x != x)=false:=fun x=>by simp
  have pt:stV (st++[al.cells .rw [LV.str [],LV.str [],i64 0,LV.nils,LV.nils,LV.nils,LV.bool false,LV.bool false,LV.bool false,LV.bool false]]) 10 (.ptr st.length 0) (.agg (bC a))=some (st++[.cells .rw (bC a)]):=by
   rw[zN aA rfl fO vN];simp
  simp only[w5_12,ca,ag,aG,ab,c1,decide_true,ah,ao,Nat.zero_add,h.l,Ah hlt,Bb hx,cY,pt,ay,ai,e6,cx,Nat.add_zero,cQ,a0,b0,bA,gk,nt,ae,a1,b1]
  refine (tY (Nat.le_refl 8) (hS.ty a hm)).call ?_
  simp only[ab,bA,gk,nt,ae,a2,b6,a3,b7,a4,b8,a5,b9,yl,nb,ab,aK,hw1]
  refine ⟨b1,ih (i+1) _ (by omega) ?_⟩
  unfold oa;rw[List.getElem?_append_left (cI h)];exact h
theorem ym (g:GlS st) {s nm:Tx}:w5 (.str s) (.str nm) (fun v _=>v=.bool true) st:=by
 simp only[w5,aL,ag,cy,ab,bj]
 refine ⟨fun _=>mn rfl,fun h6=>⟨fun _=>mn rfl,fun _=>mn ?_⟩⟩
 simp only[bq,ab,Bool.not_true,ae]
 have hs:s.length≤600:=by omega
 refine nR g (by omega) (fun S hS=>?_) fun k e hS=>?_
 ·have hSok:=vI hS
  have er:vV s=.tup [bS S.ver S.l,i64 0,i64 0]:=by unfold vV;rw[hS]
  have pm:stV (st++[al.cells .rw [i64 0,LV.nils]]) 2 (.ptr st.length 0) (bS S.ver S.l)=some (st++[.cells .rw [i64 S.ver,.isl (bCs S.l) S.l.length none]]):=by
   unfold bS
   rw[uk aA rfl];simp
  have q0:((0:Int) != 0)=false:=rfl
  simp only[az,List.getElem?_cons_zero,List.getElem?_cons_succ,ab]
  refine (Da (by omega)).call ?_
  rw[er]
  simp only[az,List.getElem?_cons_zero,List.getElem?_cons_succ,ab,cY,pm,ay,ai,ag,bw,q0,ae]
  have gB:GlS (st++[al.cells .rw [i64 S.ver,.isl (bCs S.l) S.l.length none]]):=g.fr (Fr.app (S:=fun _=>False)) id id id
  have hB:oa (st++[al.cells .rw [i64 S.ver,.isl (bCs S.l) S.l.length none]]) st.length S.ver S.l:=aA
  have hB0:ld1 (st++[al.cells .rw [i64 S.ver,.isl (bCs S.l) S.l.length none]]) (.ptr st.length 0)=some (i64 S.ver):=by rw[aM (show _=_ from hB)];rfl
  generalize st++[al.cells .rw [i64 S.ver,.isl (bCs S.l) S.l.length none]]=S1 at gB hB hB0
  refine (Ba hSok).call ?_
  refine ot gB hSok ?_
  rw[qv hS]
  have nt:(!(s==s))=false:=by simp
  have ni:∀ x:Int,(x != x)=false:=fun x=>by simp
  simp only[bA,gk,nt,ab,ae,ao,Nat.zero_add,hB0]
  refine yh.call ⟨hB0,?_⟩
  simp only[ag,bw,ni,ab,ae,ca,hB.l]
  refine Aa gB hSok hSok ?_
  rw[beq_self_eq_true]
  simp only[bq,ab,Bool.not_true]
  refine p5_8 _ _ _ _ _ ?_
  simp only[w5_8,ae]
  exact Bc (R:=fun v _=>v=.bool true) hSok (fun _=>rfl) S.l.length 0 _ (by omega) hB
 ·have er:vV s=.tup [bZ,i64 k,i64 e]:=by unfold vV;rw[hS]
  have he:e≠0:=by
   unfold cU at hS
   split at hS
   ·split at hS
    ·cases hS;omega
    ·split at hS
     ·cases hS;omega
     ·split at hS
      ·cases hS
      ·rename_i x hx
       cases hS
       exact rh hx
   ·cases hS;omega
  have pm:stV (st++[al.cells .rw [i64 0,LV.nils]]) 2 (.ptr st.length 0) bZ=some (st++[.cells .rw [i64 0,.nils]]):=by
   unfold bZ
   rw[uk aA rfl];simp
  have q0:(e != 0)=true:=by simpa using he
  have ep:cV true .nilp .nilp=some true:=rfl
  simp only[az,List.getElem?_cons_zero,List.getElem?_cons_succ,ab]
  refine (Da (by omega)).call ?_
  rw[er]
  simp only[az,List.getElem?_cons_zero,List.getElem?_cons_succ,ab,cY,pm,ay,ai,ag,bw,q0,ah,ep,cP,cw,aR,beq_self_eq_true]
theorem Dj (g:GlS st) {s nm:Tx}:au Tryz.prog 5 [.str s,.str nm] st fun v _=>v=.bool true:=c5 _ _ (ym g)
end
theorem na {H:Type} {u u':TypeId} {xs:List LV} {ds:List (DataW H)} (h:lS Tryz.prog [9,9] xs ds) (_hb:Rows.uptoBulkAll ds≤1048576):au Tryz.prog 5 xs (rX (qw u u')) fun v _=>v=.bool true:=by
 obtain ⟨x0,_,d0,_,rfl,rfl,⟨n0,cs0,_,a2,a3⟩,x1,_,d1,_,rfl,rfl,⟨n1,cs1,_,b2,b3⟩,rfl,rfl⟩:=h
 have i0:bQ Tryz.prog 9=false:=by kernel_rfl
 rw[a2 i0] at a3
 obtain ⟨s,e,_⟩:=sr a3
 simp only[List.cons.injEq,and_true] at e
 subst e
 rw[b2 i0] at b3
 obtain ⟨s',e,_⟩:=sr b3
 simp only[List.cons.injEq,and_true] at e
 subst e
 exact Dj xc
end Go.Proofs.YtknegckgmklnhaaGreatDoor
