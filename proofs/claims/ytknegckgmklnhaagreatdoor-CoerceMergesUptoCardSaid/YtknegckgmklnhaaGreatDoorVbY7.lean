/- Parts of the proof. -/
import Derived.Test.YtknegckgmklnhaaGreatDoorVbY5
namespace Go.Proofs.YtknegckgmklnhaaGreatDoor
open Go Go.CP
set_option maxRecDepth 100000
section
variable {st:aa} {R:LV→aa→Prop}
structure MI (st:aa) (a b:RV) (fL fK:Option Nat) (L:List RV) (K:List Tx):Prop where
 a:bA st 0 a
 b:bA st 1 b
 r:st[2]?=some (.cells .rw z7)
 o:st[3]?=some (.cells .rw [i64 7,.bool false,i64 0,i64 0,.str [],osl fL 7 L.length,osl fK 1 K.length])
 oL:bH .rw st fL 7 L.length (rcs L)
 oK:bH .rw st fK 1 K.length (K.map .str)
 nL:∀ o,fL=some o→4≤o
 nK:∀ o,fK=some o→4≤o
 ne:∀ o,fL=some o→fK≠some o
theorem MI.l5 {a b:RV} {fL fK:Option Nat} {L:List RV} {K:List Tx} (h:MI st a b fL fK L K):ld1 st (.ptr 3 5)=some (osl fL 7 L.length):=by rw[ck h.o];rfl
theorem MI.fr {a b:RV} {fL fK:Option Nat} {L:List RV} {K:List Tx} {st':aa} {S:Nat→Prop} (h:MI st a b fL fK L K) (hf:Fr st st' S) (h4:∀ j,S j→st.length≤j):MI st' a b fL fK L K:=by
 have l3:=bR h.o
 have nn:∀ {j:Nat},j<st.length→¬ S j:=fun hj c=>by have:=h4 _ c;omega
 have own:∀ {f:Option Nat} {sz n:Nat} {cs:List LV},bH .rw st f sz n cs→bH .rw st' f sz n cs:=fun {f sz n cs} ho=>ho.fr hf fun o e=>by
  subst e
  obtain ⟨_,rest,hh⟩:=ho
  exact nn (bR hh)
 exact ⟨hf.get h.a (nn (by omega)),hf.get h.b (nn (by omega)),hf.get h.r (nn (by omega)),hf.get h.o (nn (by omega)),own h.oL,own h.oK,h.nL,h.nK,h.ne⟩
theorem u4 {f:Option Nat} {sz n:Nat} {cs:List LV} (h:bH .rw st f sz n cs):∀ o,f=some o→o<st.length:=fun o e=>by
 subst e
 obtain ⟨_,rest,hh⟩:=h
 exact bR hh
theorem MI.Bp {a b:RV} {fL fK:Option Nat} {L:List RV} {K:List Tx} (h:MI st a b fL fK L K) (hb:L.length<big) {x:RV} :
  ∃ f2 st2,aY (st++[ah.cells .rw (rc x)]) 7 96 .rw (osl fL 7 L.length) (.sl st.length 0 1 (.ex 1))=some (osl f2 7 (L.length+1),st2)∧
   ∃ st3,stV st2 1 (.ptr 3 5) (osl f2 7 (L.length+1))=some st3∧MI st3 a b f2 fK (L++[x]) K∧Fr st st3 (fun j=>j=3∨fL=some j):=by
 have h1:=h.fr (Fr.app (S:=fun _=>False) (y:=ah.cells .rw (rc x))) fun _ c=>c.elim
 obtain ⟨st2,f2,g1,g2,g3,g4,-⟩:=h1.oL.append (x:=.sl st.length 0 1 (.ex 1)) (k:=1) (new:=rc x) (bytes:=96) (kx (by rw[cG])) (by omega) (by rw[cG]) fC (dN (by unfold big at hb;omega) (by omega))
 have ll:=bR h.o
 have n4:∀ j,fL=some j→4≤j:=h.nL
 have kp:∀ {j:Nat} {y:ah},(st++[ah.cells .rw (rc x)])[j]?=some y→j<4→st2[j]?=some y:=fun {j y} hy hj=>g3.get hy fun e=>by have:=n4 _ e;omega
 have k3:=kp h1.o (by omega)
 have e4:stV st2 1 (.ptr 3 5) (osl f2 7 (L.length+1))=some (st2.set 3 (.cells .rw [i64 7,.bool false,i64 0,i64 0,.str [],osl f2 7 (L.length+1),osl fK 1 K.length])):=by
  rw[ia k3 (by simp) kv];rfl
 have n2:∀ j,f2=some j→4≤j:=fun j e=>by
  rcases g4 j e with h|h
  ·exact n4 j h
  ·simp at h;omega
 have lK:=u4 h.oK
 refine ⟨f2,st2,g1,_,e4,⟨?_,?_,?_,?_,?_,?_,n2,h.nK,?_⟩,?_⟩
 ·exact (bn (by omega)).trans (kp h1.a (by omega))
 ·exact (bn (by omega)).trans (kp h1.b (by omega))
 ·exact (bn (by omega)).trans (kp h1.r (by omega))
 ·rw[cy,List.length_singleton];exact bQ k3
 ·rw[pW,show rcs [x]=rc x by simp[rcs],cy,List.length_singleton]
  exact g2.fr (S:=fun j=>j=3) (Fr.set rfl) fun o e=>by have:=n2 o e;omega
 ·refine (h1.oK.fr g3 fun o e c=>h.ne o c e).fr (S:=fun j=>j=3) (Fr.set rfl) fun o e=>by have:=h.nK o e;omega
 ·intro o e c
  rcases g4 o e with h' | h'
  ·exact h.ne o h' c
  ·have:=lK o c;simp at h';omega
 ·refine ⟨?_,?_⟩
  ·have:=g3.len;simp at this ⊢;omega
  ·intro j hj hn
   rw[bn (fun e=>hn (.inl e.symm)),g3.same j (by simp;omega) (fun e=>hn (.inr e))]
   exact bD hj
theorem MI.Bq {a b:RV} {fL fK:Option Nat} {L:List RV} {K:List Tx} (h:MI st a b fL fK L K) (hb:K.length<big) {k:Tx} :
  ∃ f2 st2,aY (st++[ah.cells .rw [.str k]]) 1 16 .rw (osl fK 1 K.length) (.sl st.length 0 1 (.ex 1))=some (osl f2 1 (K.length+1),st2)∧
   ∃ st3,stV st2 1 (.ptr 3 6) (osl f2 1 (K.length+1))=some st3∧MI st3 a b fL f2 L (K++[k]):=by
 have h1:=h.fr (Fr.app (S:=fun _=>False) (y:=ah.cells .rw [.str k])) fun _ c=>c.elim
 obtain ⟨st2,f2,g1,g2,g3,g4,-⟩:=h1.oK.append (x:=.sl st.length 0 1 (.ex 1)) (k:=1) (new:=[.str k]) (bytes:=16) (kx rfl) (by omega) rfl rfl (dN (by unfold big at hb;omega) (by omega))
 have ll:=bR h.o
 have n4:∀ j,fK=some j→4≤j:=h.nK
 have kp:∀ {j:Nat} {y:ah},(st++[ah.cells .rw [.str k]])[j]?=some y→j<4→st2[j]?=some y:=fun {j y} hy hj=>g3.get hy fun e=>by have:=n4 _ e;omega
 have k3:=kp h1.o (by omega)
 have e4:stV st2 1 (.ptr 3 6) (osl f2 1 (K.length+1))=some (st2.set 3 (.cells .rw [i64 7,.bool false,i64 0,i64 0,.str [],osl fL 7 L.length,osl f2 1 (K.length+1)])):=by
  rw[ia k3 (by simp) kv];rfl
 have n2:∀ j,f2=some j→4≤j:=fun j e=>by
  rcases g4 j e with h|h
  ·exact n4 j h
  ·simp at h;omega
 have lL:=u4 h.oL
 refine ⟨f2,st2,g1,_,e4,⟨?_,?_,?_,?_,?_,?_,h.nL,n2,?_⟩⟩
 ·exact (bn (by omega)).trans (kp h1.a (by omega))
 ·exact (bn (by omega)).trans (kp h1.b (by omega))
 ·exact (bn (by omega)).trans (kp h1.r (by omega))
 ·rw[cy,List.length_singleton];exact bQ k3
 ·refine (h1.oL.fr g3 fun o e c=>h.ne o e c).fr (S:=fun j=>j=3) (Fr.set rfl) fun o e=>by have:=h.nL o e;omega
 ·rw[List.map_append,cy,List.length_singleton]
  exact g2.fr (S:=fun j=>j=3) (Fr.set rfl) fun o e=>by have:=n2 o e;omega
 ·intro o e c
  rcases g4 o c with h' | h'
  ·exact h.ne o e h'
  ·have:=lL o e;simp at h';omega
theorem yl {es:List (Tx × T)} {i:Nat} {e:Tx × T} (h:es[i]?=some e):bo 1 (sI (es.map (·.1))) (i64 i)=some (.iptr ((es.map (·.1)).map .str) (i*1))∧((es.map (·.1)).map LV.str)[i*1]?=some (.str e.1):=by
 have hlt:=(List.getElem?_eq_some_iff.1 h).1
 exact ⟨dd (by simpa using hlt),by simp[h]⟩
theorem qi {es:List (Tx × T)} {i:Nat} {e:Tx × T} (h:es[i]?=some e):bo 7 (rL (rTm es)) (i64 i)=some (.iptr (rcs (rTm es)) (i*7))∧∀ {s:aa},ldA s (.iptr (rcs (rTm es)) (i*7)) 7=some (vR (rT e.2)):=by
 have hlt:=(List.getElem?_eq_some_iff.1 h).1
 exact ⟨dd (by rw[fg,aU];exact hlt),fun {s}=>fu (by rw[fg,bN,h];rfl)⟩
theorem Br {ea eb:List (Tx × T)} (hb:(T.map eb).ok) {i:Nat} {e:Tx × T} (he:ea[i]?=some e) (hi:ea.length≤big) {fL fK:Option Nat} {L:List RV} {K:List Tx} (hLb:L.length<big) (hKb:K.length<big)
  (ih:∀ y ∈ eb,Pu Tryz.prog 64 [vR (rT e.2),vR (rT y.2)] (vR (rT (T.mrg e.2 y.2)))) (hI:MI st (rT (.map ea)) (rT (.map eb)) fL fK L K) {x9:LV}
  (next:∀ st' fL' fK',MI st' (rT (.map ea)) (rT (.map eb)) fL' fK' (L++[rT (mg2 eb e)]) (K++[e.1])→oW (.ptr 0 0) (.ptr 1 0) (.ptr 2 0) (.ptr 3 0) (i64 (i+1:Nat)) .aJ R st') :
  oW (.ptr 0 0) (.ptr 1 0) (.ptr 2 0) (.ptr 3 0) (i64 i) x9 R st:=by
 have hlt:=(List.getElem?_eq_some_iff.1 he).1
 have hw1:=bO (show i<2 ^ 40 by unfold big at hi;omega)
 obtain ⟨e5,e5'⟩:=qi he
 obtain ⟨e6,hks⟩:=yl he
 have z2:∀ {k:Tx},aN (fun i=>some (i*1,1)) (List.replicate 1 [LV.str []]).flatten [(0,LV.str k)]=some [.str k]:=rfl
 have c1:((i:Int)<((rTm ea).length:Nat)):=by rw[fg,aU];omega
 have la:∀ {s:aa} {es:List (Tx × T)} {o:Nat},bA s o (rT (.map es))→ld1 s (.ptr o 5)=some (rL (rTm es)):=fun h=>h.l
 have ka:∀ {s:aa} {es:List (Tx × T)} {o:Nat},bA s o (rT (.map es))→ld1 s (.ptr o 6)=some (sI (es.map (·.1))):=fun h=>h.ks
 have put:∀ {s:aa} {r:RV},stV (s++[ah.cells .rw z7]) 7 (.ptr s.length 0) (vR r)=some (s++[.cells .rw (rc r)]):=fun {s r}=>by rw[mr aH rfl cG fC];simp
 have hI1:∀ {y:ah},MI (st++[y]) (rT (.map ea)) (rT (.map eb)) fL fK L K:=fun {y}=>hI.fr (Fr.app (S:=fun _=>False)) fun _ c=>c.elim
 refine zI _ _ _ _ _ _ ?_
 simp only[xX,aF,av,ae,la hI.a,aP,an,aO,c1,dh,a8,e5,e5',dc,put,aB,aj,hI1.b.ldA,ka hI1.a,e6,cm,hks]
 refine (u3 hb e.1).call ?_
 have hfx:=lF (k:=e.1) (es:=eb) (i:=0)
 have kk:(T.map eb).keys=eb.map (·.1):=rfl
 rw[kk]
 cases hx:mu e.1 (eb.map (·.1)) 0 with
 | some j=>
  rw[hx] at hfx
  obtain ⟨_,y,hy,hf⟩:=hfx
  rw[Nat.sub_zero] at hy
  have c2:decide ((j:Int)≥0)=true:=by simp
  obtain ⟨d5,d5'⟩:=qi hy
  have hbx:ldA (st++[ah.cells .rw (rc (rT e.2))]) (.ptr st.length 0) 7=some (vR (rT e.2)):=bA.ldA aH
  simp only[(tL hx).1,an,hY,c2,ae,a8,hbx,la hI1.b,d5,d5']
  refine (ih (e.1,y) (cA hy)).call ?_
  have hm:T.mrg e.2 y=mg2 eb e:=by unfold mg2;simp only[hf]
  have p2:stV (st++[ah.cells .rw (rc (rT e.2))]) 7 (.ptr st.length 0) (vR (rT (T.mrg e.2 y)))=some (st++[ah.cells .rw (rc (rT (mg2 eb e)))]):=by rw[mr aH cG cG fC,hm];simp
  simp only[p2,aB,aj]
  refine Bf _ _ _ _ _ _ ?_
  have hx:ldA (st++[ah.cells .rw (rc (rT (mg2 eb e)))]) (.ptr st.length 0) 7=some (vR (rT (mg2 eb e))):=bA.ldA aH
  have hI':=hI1 (y:=ah.cells .rw (rc (rT (mg2 eb e))))
  generalize st++[ah.cells .rw (rc (rT (mg2 eb e)))]=s at hx hI' ⊢
  skip
  obtain ⟨fL',s2,g1,s3,g2,hM,hF⟩:=MI.Bp hI' hLb (x:=rT (mg2 eb e))
  have k3:ld1 s3 (.ptr 3 6)=some (osl fK 1 K.length):=by rw[ck hM.o];rfl
  obtain ⟨fK',s4,g3,s5,g4,hM2⟩:=MI.Bq hM hKb (k:=e.1)
  have k3':ld1 (s3++[ah.cells .rw [.str e.1]]) (.ptr 3 6)=some (osl fK 1 K.length):=by rw[ck (cb hM.o)];rfl
  simp only[xY,aF,av,ae,hI'.l5,hx,rN,cj,aj,g1,g2,aB,k3,ka hM.a,e6,cm,hks,z2,k3',true_and,g3,g4]
  refine xZ _ _ _ _ _ ?_
  simp only[tI,an,bx,ae,hw1]
  exact next s5 fL' fK' hM2
 | none=>
  rw[hx] at hfx
  have c2:decide ((-1:Int)≥0)=false:=by decide
  have hm:e.2=mg2 eb e:=by unfold mg2;simp only[hfx]
  have hx':ldA (st++[ah.cells .rw (rc (rT e.2))]) (.ptr st.length 0) 7=some (vR (rT (mg2 eb e))):=by rw[← hm];exact bA.ldA aH
  have hI':=hI1 (y:=ah.cells .rw (rc (rT e.2)))
  simp only[tM hx,an,hY,c2,ae,ax]
  generalize st++[ah.cells .rw (rc (rT e.2))]=s at hx' hI' ⊢
  have hx:=hx'
  skip
  obtain ⟨fL',s2,g1,s3,g2,hM,hF⟩:=MI.Bp hI' hLb (x:=rT (mg2 eb e))
  have k3:ld1 s3 (.ptr 3 6)=some (osl fK 1 K.length):=by rw[ck hM.o];rfl
  obtain ⟨fK',s4,g3,s5,g4,hM2⟩:=MI.Bq hM hKb (k:=e.1)
  have k3':ld1 (s3++[ah.cells .rw [.str e.1]]) (.ptr 3 6)=some (osl fK 1 K.length):=by rw[ck (cb hM.o)];rfl
  simp only[ae,hI'.l5,hx,rN,cj,aj,g1,g2,aB,k3,ka hM.a,e6,cm,hks,z2,k3',true_and,g3,g4]
  refine xZ _ _ _ _ _ ?_
  simp only[tI,an,bx,ae,hw1]
  exact next s5 fL' fK' hM2
end
section
variable {st:aa} {R:LV→aa→Prop}
theorem pb {es:List (Tx × T)} (h:(T.map es).ok):es.length≤big:=by simp only[T.ok] at h;exact h.1
theorem Bs {N:Nat} (hN:2*N≤big) {ea eb:List (Tx × T)} (ha:(T.map ea).ok) (hb:(T.map eb).ok) (la:(T.map ea).lim N) (lb:(T.map eb).lim N) {e:Tx × T} (he:e ∈ ea):(mg2 eb e).ok:=by
 simp only[T.ok] at ha hb
 simp only[T.lim] at la lb
 have h1:=T.bX.1 ha.2.1 e he
 unfold mg2
 split
 ·rename_i y hy
  have hm:=T.fS hy
  exact T.pK hN _ e.2 y (Nat.lt_succ_self _) h1.2 (T.bX.1 hb.2.1 _ hm).2 (T.cM.1 la.2 _ he) (T.cM.1 lb.2 _ hm)
 ·exact h1.2
theorem za {ea eb:List (Tx × T)} {e:Tx × T} (h:e ∈ mgL ea eb):(∃ x ∈ ea,e=(x.1,mg2 eb x))∨e ∈ eb:=by
 unfold mgL at h
 rcases List.mem_append.1 h with h|h
 ·obtain ⟨x,hx,rfl⟩:=List.mem_map.1 h
  exact .inl ⟨x,hx,rfl⟩
 ·exact .inr (List.mem_filter.1 h).1
theorem zb {ea eb:List (Tx × T)}:(mgL ea eb).length≤ea.length+eb.length:=by
 unfold mgL
 have:=List.length_filter_le (fun e:Tx × T=>(T.find ea e.1).isNone) eb
 simp only[cy,aU];omega
theorem CI {ea eb:List (Tx × T)} {N:Nat} (hN:2*N≤big) (ha:(T.map ea).ok) (hb:(T.map eb).ok) (la:(T.map ea).lim N) (lb:(T.map eb).lim N) {fL fK:Option Nat}
  (hI:MI st (rT (.map ea)) (rT (.map eb)) fL fK ((mgL ea eb).map fun e=>rT e.2) ((mgL ea eb).map (·.1))) :
  bd (ldA st (.ptr 3 0) 7) fun v26=>ag Tryz.prog 27 [v26] st fun v27 st28=>bd2 (lmk (stV st28 7 (.ptr 2 0) v27)) fun _v29 st30=>bd (ldA st30 (.ptr 2 0) 7) fun v31=>(fun r s=>dp s (vR (rT (T.mrg (.map ea) (.map eb)))) r) v31 st30:=by
 have hal:=pb ha
 have hbl:=pb hb
 have hl:=zb (ea:=ea) (eb:=eb)
 have la':=la
 have lb':=lb
 simp only[T.lim] at la' lb'
 rw[tp hI.o rfl]
 simp only[ae]
 have hq:bH .rw st fL 7 ((mgL ea eb).map fun e=>rT e.2).length (rcs ((mgL ea eb).map fun e=>rT e.2)):=hI.oL
 refine ag.zP (us:=[i64 7,.bool false,i64 0,i64 0,.str []]) (vs:=[osl fK 1 ((mgL ea eb).map (·.1)).length]) hI.oL fun s1 f1=>?_
 refine ag.zP (us:=[i64 7,.bool false,i64 0,i64 0,.str [],.isl (rcs ((mgL ea eb).map fun e=>rT e.2)) ((mgL ea eb).map fun e=>rT e.2).length none]) (vs:=[]) (hI.oK.fr f1 fun o e c=>hI.ne o c e) fun s2 f2=>?_
 have h2:s2[2]?=some (.cells .rw z7):=f2.get (f1.get hI.r fun c=>by have:=hI.nL _ c;omega) fun c=>by have:=hI.nK _ c;omega
 have hok:∀ e ∈ mgL ea eb,e.1.length≤big∧e.2.ok:=fun e he=>by
  have ha':=ha
  have hb':=hb
  simp only[T.ok] at ha' hb'
  rcases za he with ⟨x,hx,rfl⟩ | h
  ·exact ⟨(T.bX.1 ha'.2.1 x hx).1,Bs hN ha hb la lb hx⟩
  ·exact T.bX.1 hb'.2.1 e h
 have hr:(RV.mk 7 false 0 0 [] ((mgL ea eb).map fun e=>rT e.2) ((mgL ea eb).map (·.1))).ok:=by
  refine ⟨⟨by omega,by omega,by omega⟩,by simp,?_,⟨?_,fun x hx=>?_⟩,RV.ei.2 fun x hx=>?_⟩
  ·rw[aU];omega
  ·rw[aU];omega
  ·obtain ⟨e,he,rfl⟩:=List.mem_map.1 hx
   exact (hok e he).1
  ·obtain ⟨e,he,rfl⟩:=List.mem_map.1 hx
   exact zL _ _ (Nat.lt_succ_self _) (hok e he).2
 have hc:cln (RV.mk 7 false 0 0 [] ((mgL ea eb).map fun e=>rT e.2) ((mgL ea eb).map (·.1)))=T.mrg (.map ea) (.map eb):=by
  rw[jz]
  simp only[RV.k,RV.l,RV.ks,List.map_map]
  have e:((mgL ea eb).map (·.1)).zip ((mgL ea eb).map (cln ∘ fun e=>rT e.2))=mgL ea eb:=by
   rw[List.zip_map']
   conv=>rhs;rw[← List.map_id (mgL ea eb)]
   refine List.map_congr_left fun x hx=>?_
   simp only[Function.comp_def,yf _ _ (Nat.lt_succ_self _) (hok x hx).2];rfl
  rw[e]
  simp only[T.ok] at ha hb
  rw[y5 ha.2.2 hb.2.2]
  rfl
 refine (nI hr).call ?_
 rw[hc,mr h2 rfl cG fC]
 simp only[aB,aj]
 rw[tp (bQ h2) cG]
 exact bk (v:=vR (rT (T.mrg (.map ea) (.map eb)))) _ dP
theorem zc {ea eb:List (Tx × T)} {N:Nat} (hN:2*N≤big) (ha:(T.map ea).ok) (hb:(T.map eb).ok) (la:(T.map ea).lim N) (lb:(T.map eb).lim N) :
  ∀ (d i:Nat) (st:aa) (fL fK:Option Nat) (x6:LV) (M:List (Tx × T)),i+d=eb.length→M=(ea.map fun e=>(e.1,mg2 eb e))++(eb.take i).filter (fun e=>(T.find ea e.1).isNone)→
   MI st (rT (.map ea)) (rT (.map eb)) fL fK (M.map fun e=>rT e.2) (M.map (·.1))→
   nT (.ptr 0 0) (.ptr 1 0) (.ptr 2 0) (.ptr 3 0) x6 (i64 i) (fun r s=>dp s (vR (rT (T.mrg (.map ea) (.map eb)))) r) st:=by
 have hal:=pb ha
 have hbl:=pb hb
 have la':=la
 have lb':=lb
 simp only[T.lim] at la' lb'
 have lL:∀ {s:aa} {es:List (Tx × T)} {o:Nat},bA s o (rT (.map es))→ld1 s (.ptr o 5)=some (rL (rTm es)):=fun h=>h.l
 have lK:∀ {s:aa} {es:List (Tx × T)} {o:Nat},bA s o (rT (.map es))→ld1 s (.ptr o 6)=some (sI (es.map (·.1))):=fun h=>h.ks
 intro d
 induction d with
 | zero=>
  intro i st fL fK x6 M hi hM hI
  refine ya _ _ _ _ _ _ ?_
  have c1:¬ ((i:Int)<((rTm eb).length:Nat)):=by rw[fg,aU];omega
  have hM':M=mgL ea eb:=by rw[hM,List.take_of_length_le (by omega)];rfl
  subst hM'
  simp only[tJ,aF,av,ae,lL hI.b,aP,an,aO,c1,dz,ax]
  exact CI hN ha hb la lb hI
 | succ d ih=>
  intro i st fL fK x6 M hi hM hI
  refine ya _ _ _ _ _ _ ?_
  have hlt:i<eb.length:=by omega
  obtain ⟨e,hk⟩:∃ e,eb[i]=e:=⟨_,rfl⟩
  have hget:eb[i]?=some e:=by rw[bh hlt,hk]
  have hw1:=bO (show i<2 ^ 40 by unfold big at hbl;omega)
  obtain ⟨e5,e5'⟩:=qi hget
  obtain ⟨e6,hks⟩:=yl hget
  have z2:∀ {k:Tx},aN (fun i=>some (i*1,1)) (List.replicate 1 [LV.str []]).flatten [(0,LV.str k)]=some [.str k]:=rfl
  have c1:((i:Int)<((rTm eb).length:Nat)):=by rw[fg,aU];omega
  have hnx:eb.take (i+1)=eb.take i++[e]:=by rw[List.take_add_one,hget];rfl
  have hMl:M.length≤ea.length+i:=by
   rw[hM]
   have:=List.length_filter_le (fun e:Tx × T=>(T.find ea e.1).isNone) (eb.take i)
   rw[List.length_take] at this
   simp only[cy,aU];omega
  simp only[tJ,aF,av,ae,lL hI.b,aP,an,aO,c1,dh,a8,hI.a.ldA,lK hI.b,e6,cm,hks]
  refine (u3 ha e.1).call ?_
  have hfx:=lF (k:=e.1) (es:=ea) (i:=0)
  have kk:(T.map ea).keys=ea.map (·.1):=rfl
  rw[kk]
  cases hx:mu e.1 (ea.map (·.1)) 0 with
  | some j=>
   rw[hx] at hfx
   obtain ⟨_,y,_,hf⟩:=hfx
   have c2:decide ((j:Int)<0)=false:=by simp
   simp only[(tL hx).1,an,aO,c2,ae,ax,bx,hw1]
   refine ih (i+1) _ _ _ _ M (by omega) ?_ hI
   rw[hnx,List.filter_append,List.filter_cons,hf,hM];simp
  | none=>
   rw[hx] at hfx
   have c2:decide ((-1:Int)<0)=true:=by decide
   have hLb:(M.map fun e=>rT e.2).length<big:=by rw[aU];omega
   have hKb:(M.map (·.1)).length<big:=by rw[aU];omega
   obtain ⟨fL',s2,g1,s3,g2,hM1,hF⟩:=MI.Bp hI hLb (x:=rT e.2)
   have k3:ld1 s3 (.ptr 3 6)=some (osl fK 1 (M.map (·.1)).length):=by rw[ck hM1.o];rfl
   obtain ⟨fK',s4,g3,s5,g4,hM2⟩:=MI.Bq hM1 hKb (k:=e.1)
   have k3':ld1 (s3++[ah.cells .rw [.str e.1]]) (.ptr 3 6)=some (osl fK 1 (M.map (·.1)).length):=by rw[ck (cb hM1.o)];rfl
   have l5':ld1 (st++[ah.cells .rw (rc (rT e.2))]) (.ptr 3 5)=some (osl fL 7 (M.map fun e=>rT e.2).length):=by rw[ck (cb hI.o)];rfl
   simp only[tM hx,an,aO,c2,ae,a8,hI.l5,lL hI.b,e5,e5',rN,cj,aj,l5',true_and,g1,g2,aB]
   refine Bg _ _ _ _ _ ?_
   simp only[yb,aF,av,ae,k3,lK hM1.b,e6,cm,hks,z2,cj,aj,k3',true_and,g3,g4,aB]
   refine Bh _ _ _ _ _ ?_
   simp only[yc,an,bx,ae,hw1]
   refine ih (i+1) _ fL' fK' _ (M++[e]) (by omega) ?_ ?_
   ·rw[hnx,List.filter_append,List.filter_cons,hfx,hM];simp
   ·rw[List.map_append,List.map_append];exact hM2
theorem zd {ea eb:List (Tx × T)} {N:Nat} (hN:2*N≤big) (ha:(T.map ea).ok) (hb:(T.map eb).ok) (la:(T.map ea).lim N) (lb:(T.map eb).lim N)
  (ih:∀ e ∈ ea,∀ y ∈ eb,Pu Tryz.prog 64 [vR (rT e.2),vR (rT y.2)] (vR (rT (T.mrg e.2 y.2)))) :
  ∀ (d i:Nat) (st:aa) (fL fK:Option Nat) (x9:LV) (M:List (Tx × T)),i+d=ea.length→M=((ea.take i).map fun e=>(e.1,mg2 eb e))→
   MI st (rT (.map ea)) (rT (.map eb)) fL fK (M.map fun e=>rT e.2) (M.map (·.1))→
   oW (.ptr 0 0) (.ptr 1 0) (.ptr 2 0) (.ptr 3 0) (i64 i) x9 (fun r s=>dp s (vR (rT (T.mrg (.map ea) (.map eb)))) r) st:=by
 have hal:=pb ha
 have hbl:=pb hb
 have la':=la
 simp only[T.lim] at la'
 intro d
 induction d with
 | zero=>
  intro i st fL fK x9 M hi hM hI
  refine zI _ _ _ _ _ _ ?_
  have c1:¬ ((i:Int)<((rTm ea).length:Nat)):=by rw[fg,aU];omega
  have lL:∀ {s:aa} {es:List (Tx × T)} {o:Nat},bA s o (rT (.map es))→ld1 s (.ptr o 5)=some (rL (rTm es)):=fun h=>h.l
  simp only[xX,aF,av,ae,lL hI.a,aP,an,aO,c1,dz,ax]
  refine zc hN ha hb la lb eb.length 0 _ _ _ _ M (by omega) ?_ hI
  rw[hM,List.take_of_length_le (by omega)];simp
 | succ d ihd=>
  intro i st fL fK x9 M hi hM hI
  have hlt:i<ea.length:=by omega
  obtain ⟨e,hk⟩:∃ e,ea[i]=e:=⟨_,rfl⟩
  have hget:ea[i]?=some e:=by rw[bh hlt,hk]
  have hMl:M.length=i:=by rw[hM,aU,List.length_take];omega
  have hbig:N≤big:=by omega
  refine Br hb hget hal (by rw[aU];omega) (by rw[aU];omega) (fun y hy=>ih e (cA hget) y hy) hI fun s fL' fK' h=>?_
  refine ihd (i+1) s fL' fK' _ (M++[(e.1,mg2 eb e)]) (by omega) ?_ ?_
  ·rw[List.take_add_one,hget,hM];simp
  ·rw[List.map_append,List.map_append];exact h
theorem u5 {N:Nat} (hN:2*N≤big):∀ (n:Nat) (a b:T),SizeOf.sizeOf b<n→a.ok→b.ok→a.lim N→b.lim N→Pu Tryz.prog 64 [vR (rT a),vR (rT b)] (vR (rT (T.mrg a b)))
 | 0,_,_,h,_,_,_,_=>by omega
 | n+1,a,b,hn,ha,hb,la,lb=>by
  refine Pu.of (c64 _ _ ?_) (by simp only[LV.au,dP];rfl) dP
  have k7:∀ {t:T},(t.kind != 7)=decide (t.kind≠7):=fun {t}=>by by_cases h:t.kind=7<;>simp[h]
  have k0:∀ {t:T},(t.kind==0)=decide (t.kind=0):=fun {t}=>by by_cases h:t.kind=0<;>simp[h]
  have plain:¬ (a.kind=7∧b.kind=7)→T.mrg a b=if b.kind=0 then a else b:=by
   intro h
   cases b<;>simp only[T.kind] at h ⊢<;>first|rfl | (cases a<;>simp only[] at h<;>first|rfl|simp at h)
  have ends:¬ (a.kind=7∧b.kind=7)→∀ {s s':aa},(b.kind=0→dp s (vR (rT (T.mrg a b))) (vR (rT a)))∧(¬ b.kind=0→dp s' (vR (rT (T.mrg a b))) (vR (rT b))):=by
   intro h s s'
   rw[plain h]
   refine ⟨fun e=>?_,fun e=>?_⟩
   ·rw[if_pos e];exact bk (v:=vR _) _ dP
   ·rw[if_neg e];exact bk (v:=vR _) _ dP
  have hA:bA [ah.cells .rw (rc (rT a)),.cells .rw (rc (rT b)),.cells .rw z7] 0 (rT a):=rfl
  have hB:bA [ah.cells .rw (rc (rT a)),.cells .rw (rc (rT b)),.cells .rw z7] 1 (rT b):=rfl
  have p2:∀ {r:RV},stV [ah.cells .rw (rc (rT a)),.cells .rw (rc (rT b)),.cells .rw z7] 7 (.ptr 2 0) (vR r)=some [ah.cells .rw (rc (rT a)),.cells .rw (rc (rT b)),.cells .rw (rc r)]:=fun {r}=>mr (st:=[ah.cells .rw (rc (rT a)),.cells .rw (rc (rT b)),.cells .rw z7]) rfl rfl cG fC
  have g2:∀ {x y:ah} {r:RV},ldA [x,y,.cells .rw (rc r)] (.ptr 2 0) 7=some (vR r):=fun {x y r}=>bA.ldA rfl
  simp only[w64,eM,aj,dc,bw,List.cons_append,bu,bg,av,Nat.reduceAdd,aF,hA.kk,hB.kk,ae,an,cU,b5,k7,k0,a7,hA.ldA,hB.ldA,p2,aB,g2]
  refine ⟨fun h=>ends fun c=>h c.1,fun h=>⟨fun h'=>ends fun c=>h' c.2,fun h'=>?_⟩⟩
  have hka:a.kind=7:=Classical.byContradiction h
  have hkb:b.kind=7:=Classical.byContradiction h'
  obtain ⟨ea,rfl⟩:∃ es,a=.map es:=by cases a<;>simp only[T.kind] at hka<;>first|omega|exact ⟨_,rfl⟩
  obtain ⟨eb,rfl⟩:∃ es,b=.map es:=by cases b<;>simp only[T.kind] at hkb<;>first|omega|exact ⟨_,rfl⟩
  have z3:bK (aN (aR [(0,1),(1,1),(2,1),(3,1),(4,1),(5,1),(6,1)]) [i64 0,LV.bool false,i64 0,i64 0,LV.str [],LV.nils,LV.nils] [(0,i64 7)])=some (.agg [i64 7,.bool false,i64 0,i64 0,.str [],.nils,.nils]):=rfl
  have p3:stV [ah.cells .rw (rc (rT (.map ea))),.cells .rw (rc (rT (.map eb))),.cells .rw z7,.cells .rw z7] 7 (.ptr 3 0) (.agg [i64 7,.bool false,i64 0,i64 0,.str [],.nils,.nils])=some [ah.cells .rw (rc (rT (.map ea))),.cells .rw (rc (rT (.map eb))),.cells .rw z7,.cells .rw [i64 7,.bool false,i64 0,i64 0,.str [],.nils,.nils]]:=mr (st:=[ah.cells .rw (rc (rT (.map ea))),.cells .rw (rc (rT (.map eb))),.cells .rw z7,.cells .rw z7]) (o:=3) rfl rfl rfl rfl
  simp only[z3,ae,p3,aB,aj]
  refine zd hN ha hb la lb (fun e he y hy=>?_) ea.length 0 _ none none _ [] (by omega) rfl ⟨rfl,rfl,rfl,rfl,bH.nil,bH.nil,(fun _ h=>by cases h),(fun _ h=>by cases h),(fun _ h=>by cases h)⟩
  have ha':=ha
  have hb':=hb
  simp only[T.ok] at ha' hb'
  have la':=la
  have lb':=lb
  simp only[T.lim] at la' lb'
  refine u5 hN n e.2 y.2 ?_ (T.bX.1 ha'.2.1 _ he).2 (T.bX.1 hb'.2.1 _ hy).2 (T.cM.1 la'.2 _ he) (T.cM.1 lb'.2 _ hy)
  have h3:=List.sizeOf_lt_of_mem hy
  obtain ⟨yk,yv⟩:=y
  simp at h3 hn ⊢;omega
end
theorem si:(jg Tryz.prog [116,115] yh 100000 60 false 51 [] []).map (·.1)=some (.bool true):=by kernel_rfl
theorem qj {st:aa} {R:LV→aa→Prop} (h:R (.bool true) st):ag Tryz.prog 51 [] st R:=qa aq yi si rfl rfl h
section
variable {st:aa} {R:LV→aa→Prop}
def B13 (v0 v2:LV) (R:LV→aa→Prop) (st17:aa):Prop:=
 bd (ldA st17 v0 7) fun v21=>
 bd (ldA st17 v2 7) fun v22=>
 (nw st17 [i64 0,LV.bool false,i64 0,i64 0,LV.str [],LV.nils,LV.nils] fun v23 st24=>
 ldA st24 v2 7=some v22∧
 ldA st24 v0 7=some v21∧
 (nw st24 [i64 0,LV.bool false,i64 0,i64 0,LV.str [],LV.nils,LV.nils] fun v25 st26=>
 ldA st26 v2 7=some v22∧
 ldA st26 v0 7=some v21∧
 ag Tryz.prog 27 [v21] st26 fun v27 st28=>
 ldA st28 v2 7=some v22∧
 ag Tryz.prog 27 [v22] st28 fun v29 st30=>
 bd2 (lmk (stV st30 7 v25 v27)) fun _v31 st32=>bd2 (lmk (stV st32 7 v23 v29)) fun _v33 st34=>cx v25 v23 R st34)∧
 ag Tryz.prog 27 [v21] st24 fun v35 st36=>
 ldA st36 v2 7=some v22∧
 (nw st36 [i64 0,LV.bool false,i64 0,i64 0,LV.str [],LV.nils,LV.nils] fun v37 st38=>
 ldA st38 v2 7=some v22∧
 ldA st38 v0 7=some v21∧
 ag Tryz.prog 27 [v22] st38 fun v39 st40=>
 bd2 (lmk (stV st40 7 v37 v35)) fun _v41 st42=>bd2 (lmk (stV st42 7 v23 v39)) fun _v43 st44=>cx v37 v23 R st44)∧
 ag Tryz.prog 27 [v22] st36 fun v45 st46=>
 nw st46 [i64 0,LV.bool false,i64 0,i64 0,LV.str [],LV.nils,LV.nils] fun v47 st48=>
 ldA st48 v2 7=some v22∧
 ldA st48 v0 7=some v21∧bd2 (lmk (stV st48 7 v47 v35)) fun _v49 st50=>bd2 (lmk (stV st50 7 v23 v45)) fun _v51 st52=>cx v47 v23 R st52)∧
 (nw st17 [i64 0,LV.bool false,i64 0,i64 0,LV.str [],LV.nils,LV.nils] fun v53 st54=>
 ldA st54 v2 7=some v22∧
 ldA st54 v0 7=some v21∧
 (nw st54 [i64 0,LV.bool false,i64 0,i64 0,LV.str [],LV.nils,LV.nils] fun v55 st56=>
 ldA st56 v2 7=some v22∧
 ldA st56 v0 7=some v21∧
 ag Tryz.prog 27 [v21] st56 fun v57 st58=>
 ldA st58 v2 7=some v22∧
 ag Tryz.prog 27 [v22] st58 fun v59 st60=>
 bd2 (lmk (stV st60 7 v53 v57)) fun _v61 st62=>bd2 (lmk (stV st62 7 v55 v59)) fun _v63 st64=>cx v53 v55 R st64)∧
 ag Tryz.prog 27 [v21] st54 fun v65 st66=>
 ldA st66 v2 7=some v22∧
 (nw st66 [i64 0,LV.bool false,i64 0,i64 0,LV.str [],LV.nils,LV.nils] fun v67 st68=>
 ldA st68 v2 7=some v22∧
 ldA st68 v0 7=some v21∧
 ag Tryz.prog 27 [v22] st68 fun v69 st70=>
 bd2 (lmk (stV st70 7 v53 v65)) fun _v71 st72=>bd2 (lmk (stV st72 7 v67 v69)) fun _v73 st74=>cx v53 v67 R st74)∧
 ag Tryz.prog 27 [v22] st66 fun v75 st76=>
 nw st76 [i64 0,LV.bool false,i64 0,i64 0,LV.str [],LV.nils,LV.nils] fun v77 st78=>
 ldA st78 v2 7=some v22∧
 ldA st78 v0 7=some v21∧bd2 (lmk (stV st78 7 v53 v65)) fun _v79 st80=>bd2 (lmk (stV st80 7 v77 v75)) fun _v81 st82=>cx v53 v77 R st82)∧
 ag Tryz.prog 27 [v21] st17 fun v83 st84=>
 ldA st84 v2 7=some v22∧
 (nw st84 [i64 0,LV.bool false,i64 0,i64 0,LV.str [],LV.nils,LV.nils] fun v85 st86=>
 ldA st86 v2 7=some v22∧
 ldA st86 v0 7=some v21∧
 (nw st86 [i64 0,LV.bool false,i64 0,i64 0,LV.str [],LV.nils,LV.nils] fun v87 st88=>
 ldA st88 v2 7=some v22∧
 ldA st88 v0 7=some v21∧
 ag Tryz.prog 27 [v22] st88 fun v89 st90=>
 bd2 (lmk (stV st90 7 v87 v83)) fun _v91 st92=>bd2 (lmk (stV st92 7 v85 v89)) fun _v93 st94=>cx v87 v85 R st94)∧
 ag Tryz.prog 27 [v22] st86 fun v95 st96=>
 nw st96 [i64 0,LV.bool false,i64 0,i64 0,LV.str [],LV.nils,LV.nils] fun v97 st98=>
 ldA st98 v2 7=some v22∧
 ldA st98 v0 7=some v21∧
 bd2 (lmk (stV st98 7 v97 v83)) fun _v99 st100=>bd2 (lmk (stV st100 7 v85 v95)) fun _v101 st102=>cx v97 v85 R st102)∧
 (nw st84 [i64 0,LV.bool false,i64 0,i64 0,LV.str [],LV.nils,LV.nils] fun v103 st104=>
 ldA st104 v2 7=some v22∧
 ldA st104 v0 7=some v21∧
 (nw st104 [i64 0,LV.bool false,i64 0,i64 0,LV.str [],LV.nils,LV.nils] fun v105 st106=>
 ldA st106 v2 7=some v22∧
 ldA st106 v0 7=some v21∧
 ag Tryz.prog 27 [v22] st106 fun v107 st108=>
 bd2 (lmk (stV st108 7 v103 v83)) fun _v109 st110=>bd2 (lmk (stV st110 7 v105 v107)) fun _v111 st112=>cx v103 v105 R st112)∧
 ag Tryz.prog 27 [v22] st104 fun v113 st114=>
 nw st114 [i64 0,LV.bool false,i64 0,i64 0,LV.str [],LV.nils,LV.nils] fun v115 st116=>
 ldA st116 v2 7=some v22∧
 ldA st116 v0 7=some v21∧
 bd2 (lmk (stV st116 7 v103 v83)) fun _v117 st118=>bd2 (lmk (stV st118 7 v115 v113)) fun _v119 st120=>cx v103 v115 R st120)∧
 ag Tryz.prog 27 [v22] st84 fun v121 st122=>
 (nw st122 [i64 0,LV.bool false,i64 0,i64 0,LV.str [],LV.nils,LV.nils] fun v123 st124=>
 ldA st124 v2 7=some v22∧
 ldA st124 v0 7=some v21∧
 nw st124 [i64 0,LV.bool false,i64 0,i64 0,LV.str [],LV.nils,LV.nils] fun v125 st126=>
 ldA st126 v2 7=some v22∧
 ldA st126 v0 7=some v21∧
 bd2 (lmk (stV st126 7 v125 v83)) fun _v127 st128=>bd2 (lmk (stV st128 7 v123 v121)) fun _v129 st130=>cx v125 v123 R st130)∧
 nw st122 [i64 0,LV.bool false,i64 0,i64 0,LV.str [],LV.nils,LV.nils] fun v131 st132=>
 ldA st132 v2 7=some v22∧
 ldA st132 v0 7=some v21∧
 nw st132 [i64 0,LV.bool false,i64 0,i64 0,LV.str [],LV.nils,LV.nils] fun v133 st134=>
 ldA st134 v2 7=some v22∧
 ldA st134 v0 7=some v21∧
 bd2 (lmk (stV st134 7 v131 v83)) fun _v135 st136=>bd2 (lmk (stV st136 7 v133 v121)) fun _v137 st138=>cx v131 v133 R st138
theorem sj {s s':aa} {o:Nat} {y:ah} (h:Fr s s' (fun _=>False)) (ho:s.length≤o):Fr s (s'.set o y) (fun _=>False):=
 ⟨by have:=h.len;simp;omega,fun j hj hn=>by rw[bn (by omega)];exact h.same j hj hn⟩
theorem CJ {r r2:RV} {o1 o2:Nat} (hr:r.ok) (hr2:r2.ok) (b1:bA st o1 r) (b2:bA st o2 r2)
  (next:∀ st' oa ob,Fr st st' (fun _=>False)→bA st' oa (rT (cln r))→bA st' ob (rT (cln r2))→cx (.ptr oa 0) (.ptr ob 0) R st') :
  B13 (.ptr o1 0) (.ptr o2 0) R st:=by
 have clA:=nI hr
 have clB:=nI hr2
 have fa:∀ (s:aa) (y:ah),Fr s (s++[y]) (fun _=>False):=fun _ _=>Fr.app
 have F1:=fa st (.cells .rw z7)
 have F2:=F1.trans (fa _ (.cells .rw z7)) fun _ _ h=>h
 have p0:=b1.ldA
 have m0:=b2.ldA
 have p1:=(b1.fr F1 id).ldA
 have m1:=(b2.fr F1 id).ldA
 have p2:=(b1.fr F2 id).ldA
 have m2:=(b2.fr F2 id).ldA
 have k1:(st++[ah.cells .rw z7]++[ah.cells .rw z7])[st.length]?=some (.cells .rw z7):=cb aH
 have k2:(st++[ah.cells .rw z7]++[ah.cells .rw z7])[(st++[ah.cells .rw z7]).length]?=some (.cells .rw z7):=aH
 have l1:(st++[ah.cells .rw z7]).length=st.length+1:=by simp
 have fin:∀ {S:aa} {oa ob:Nat},Fr st S (fun _=>False)→st.length≤oa→st.length≤ob→oa≠ob→S[oa]?=some (.cells .rw z7)→S[ob]?=some (.cells .rw z7)→
   bd2 (lmk (stV S 7 (.ptr oa 0) (vR (rT (cln r))))) fun _v s=>bd2 (lmk (stV s 7 (.ptr ob 0) (vR (rT (cln r2))))) fun _w s'=>cx (.ptr oa 0) (.ptr ob 0) R s':=by
  intro S oa ob hF h1 h2 hne q1 q2
  have q3:(S.set oa (.cells .rw (rc (rT (cln r)))))[ob]?=some (.cells .rw z7):=by rw[bn hne];exact q2
  rw[mr q1 rfl cG fC]
  simp only[aB,aj]
  rw[mr q3 rfl cG fC]
  simp only[aB,aj]
  exact next _ oa ob (sj (sj hF h1) h2) (by unfold bA;rw[bn (Ne.symm hne)];exact bQ q1) (bQ q3)
 have f1:=fin F2 (Nat.le_refl _) (by omega) (by omega) k1 k2
 have f2:=fin F2 (by omega) (Nat.le_refl _) (by omega) k2 k1
 simp only[B13,ae,p0,m0,dc,p1,m1,p2,m2,true_and]
 repeat' (first|exact f1|exact f2|refine And.intro ?_ ?_|refine clA.call ?_|refine clB.call ?_|simp only[m0,p1,m1,p2,m2])
theorem ze {N:Nat} (hN:2*N≤big) {a b:T} (ha:a.ok) (hb:b.ok) (la:a.lim N) (lb:b.lim N) {oa ob:Nat} (b1:bA st oa (rT a)) (b2:bA st ob (rT b)) (hR:∀ s,R (.bool true) s):cx (.ptr oa 0) (.ptr ob 0) R st:=by
 have toA:=xm _ a (Nat.lt_succ_self _) ha
 have toB:=xm _ b (Nat.lt_succ_self _) hb
 have mAB:=qh hN _ a b (Nat.lt_succ_self _) ha hb la lb
 have hm:=T.pK hN _ a b (Nat.lt_succ_self _) ha hb la lb
 have F1:Fr st (st++[ah.cells .rw [.nili]]) (fun _=>False):=Fr.app
 have p0:=b1.ldA
 have m0:=b2.ldA
 have p1:=(b1.fr F1 id).ldA
 have m1:=(b2.fr F1 id).ldA
 have e5:∀ {t:T},stV (st++[ah.cells .rw [.nili]]) 1 (.ptr st.length 0) (vT t)=some (st++[ah.cells .rw [lvT t]]):=fun {t}=>ft
 have four:oX (.ptr oa 0) (.ptr ob 0) (.ptr st.length 0) R (st++[ah.cells .rw [lvT (T.mrg a b)]]):=by
  have F2:Fr st (st++[ah.cells .rw [lvT (T.mrg a b)]]) (fun _=>False):=Fr.app
  have x1:ldA (st++[ah.cells .rw [lvT (T.mrg a b)]]) (.ptr st.length 0) 1=some (vT (T.mrg a b)):=gX aH
  have q1:=(b1.fr F2 id).ldA
  have q2:=(b2.fr F2 id).ldA
  refine CC _ _ _ ?_
  simp only[zK,x1,q1,q2,ae]
  refine (u5 hN _ a b (Nat.lt_succ_self _) ha hb la lb).call ?_
  simp only[x1,true_and]
  refine (sh _ _ (Nat.lt_succ_self _) hm).call ?_
  have c0:((0:Int)==0)=true:=rfl
  simp only[an,b5,c0,ae,a8,q1]
  refine toA.call ?_
  simp only[q1,true_and]
  refine toA.call ?_
  simp only[q1,true_and]
  refine (qh hN _ a a (Nat.lt_succ_self _) ha ha la la).call ?_
  simp only[q1,true_and]
  refine toA.call ?_
  rw[T.ry _ a (Nat.lt_succ_self _) ha]
  refine (uU _ a a (Nat.lt_succ_self _) ha ha).call ?_
  refine CE _ ?_
  have tr:∀ {p:Prop} (d:Decidable p) (s:aa),p→R (.bool (@decide p d)) s:=fun d s hp=>by rw[decide_eq_true hp];exact hR s
  exact tr _ _ rfl
 refine CB _ _ ?_
 simp only[zJ,ae,p0,m0,dc,p1,m1,true_and]
 repeat' (first|exact four|refine And.intro ?_ ?_|refine toA.call ?_|refine toB.call ?_|refine mAB.call ?_|simp only[aj,aB,e5,m0,p1,m1])
theorem tS {N:Nat} (hN:2*N≤big) {r r2:RV} (hr:r.ok) (hr2:r2.ok) (lr:r.lim N) (lr2:r2.lim N):w13 (vR r) (vR r2) (fun v _=>v=.bool true) st:=by
 obtain ⟨n,hg⟩:=rM hr
 obtain ⟨n2,hg2⟩:=rM hr2
 have hb:bA (st++[ah.cells .rw (rc r)]++[ah.cells .rw (rc r2)]) st.length r:=cb aH
 have hb2:bA (st++[ah.cells .rw (rc r)]++[ah.cells .rw (rc r2)]) (st++[ah.cells .rw (rc r)]).length r2:=aH
 generalize hL:(st++[ah.cells .rw (rc r)]).length=L at hb2
 simp only[w13,eM,aj,hL]
 generalize st++[ah.cells .rw (rc r)]++[ah.cells .rw (rc r2)]=S0 at hb hb2
 simp only[hb.ldA,ae]
 refine hg.call ?_
 simp only[an,jV,ae,a7,hb2.ldA]
 refine ⟨fun _=>qj rfl,fun _=>hg2.call ?_⟩
 simp only[an,jV,ae,a7]
 refine ⟨fun _=>qj rfl,fun _=>qj ?_⟩
 simp only[dI,ae,dA,ax]
 exact CJ (R:=fun v _=>v=.bool true) hr hr2 hb hb2 fun s oa ob _ ba bb=>ze hN (xq hr) (xq hr2) (uY lr) (uY lr2) ba bb fun _=>rfl
theorem CK {N:Nat} (hN:2*N≤big) {r r2:RV} (hr:r.ok) (hr2:r2.ok) (lr:r.lim N) (lr2:r2.lim N):ag Tryz.prog 13 [vR r,vR r2] st fun v _=>v=.bool true:=c13 _ _ (tS hN hr hr2 lr lr2)
end
theorem lG {H:Type} {xs:List LV} {ds:List (DataW H)} {st:aa} (h:mD Tryz.prog [49,49] xs ds) (hb:Rows.uptoBulkAll ds≤1048576):ag Tryz.prog 13 xs st fun v _=>v=.bool true:=by
 obtain ⟨x1,_,d1,_,rfl,rfl,⟨n1,cs1,b1,_,b3⟩,x2,_,d2,_,rfl,rfl,⟨n2,cs2,e1,_,e3⟩,rfl,rfl⟩:=h
 have i1:bL Tryz.prog 49=true:=by kernel_rfl
 rw[if_pos i1] at b1 e1
 subst b1;subst e1
 simp only[Rows.uptoBulkAll] at hb
 obtain ⟨r,rfl,hr,lr⟩:=lB (N:=1048576) (by unfold big;omega) n1 b3 (by omega)
 obtain ⟨r2,rfl,hr2,lr2⟩:=lB (N:=1048576) (by unfold big;omega) n2 e3 (by omega)
 exact CK (by unfold big;omega) hr hr2 lr lr2
end Go.Proofs.YtknegckgmklnhaaGreatDoor
