/- Parts of the proof. -/
import Derived.Test.YtknegckgmklnhaaGreatDoorCp45
import Derived.Test.YtknegckgmklnhaaGreatDoorRows
namespace Go.Proofs.YtknegckgmklnhaaGreatDoor
open Go Go.CP
set_option maxRecDepth 100000
theorem mA {es:List (List UInt8 × T)} {k:List UInt8} {t:T}:(ins es k t).length≤es.length+1:=by
 unfold ins
 have:=xh (es:=es) (k:=k)
 split
 ·omega
 ·simp;omega
theorem mg {l:List (List UInt8 × T)} {e:List UInt8 × T}:cH (l++[e])=ins (cH l) e.1 e.2:=by simp[cH]
theorem jy {l:List (List UInt8 × T)}:(cH l).length≤l.length:=by
 have h:∀ (l es:List (List UInt8 × T)),(l.foldl (fun es e=>ins es e.1 e.2) es).length≤es.length+l.length:=by
  intro l
  induction l with
  | nil=>intro es;simp
  | cons e l ih=>
   intro es
   have h1:=ih (ins es e.1 e.2)
   have h2:=mA (es:=es) (k:=e.1) (t:=e.2)
   simp only[List.foldl_cons,bg];omega
 have:=h l []
 simpa[cH] using this
theorem B4 {r:RV} (hr:r.ok) (hrec:∀ x ∈ r.l,Pu Tryz.prog 27 [vR x] (vR (rT (cln x)))) {R:LV→aa→Prop} {o1 o2 o5:Nat} (h12:o1≠o2) (h15:o1≠o5) (h25:o2≠o5) {x3 x4:LV} {z:List LV} (hz:z.length=7)
  (hR:∀ v s,dp s (vR (rT (.map (cH (r.ks.zip (r.l.map cln)))))) v→R v s) :
  ∀ (d i:Nat) (fL fK:Option Nat) (st:aa) (x7:LV),i+d=min r.l.length r.ks.length→rO st r o1 o2 o5 z fL fK (cH ((r.ks.zip (r.l.map cln)).take i))→kc (.ptr o1 0) (.ptr o2 0) x3 x4 (.ptr o5 0) (i64 i) x7 R st:=by
 have hbig:=(RV.pV hr).1
 have fin:∀ (i:Nat) (fL fK:Option Nat) (st:aa),i=min r.l.length r.ks.length→rO st r o1 o2 o5 z fL fK (cH ((r.ks.zip (r.l.map cln)).take i))→
   bd (ldA st (.ptr o5 0) 7) fun v12=>bd2 (lmk (stV st 7 (.ptr o2 0) v12)) fun _v13 st14=>bd (ldA st14 (.ptr o2 0) 7) fun v15=>R v15 st14:=by
  intro i fL fK st hi hI
  rw[List.take_of_length_le (by simp;omega)] at hI
  have e1:=tp hI.h5 rfl
  generalize cH (r.ks.zip (r.l.map cln))=es at hI hR e1
  have e2:=mr (vs:=[i64 7,.bool false,i64 0,i64 0,.str [],osl fL 7 es.length,osl fK 1 es.length]) hI.h2 hz rfl (by cases fL<;>cases fK<;>rfl)
  have e3:=tp (st:=st.set o2 (.cells .rw [i64 7,.bool false,i64 0,i64 0,.str [],osl fL 7 es.length,osl fK 1 es.length])) (bQ hI.h2) rfl
  have F:Fr st (st.set o2 (.cells .rw [i64 7,.bool false,i64 0,i64 0,.str [],osl fL 7 es.length,osl fK 1 es.length])) (fun j=>j=o2):=Fr.set rfl
  simp only[e1,ae,e2,aB,aj,e3]
  refine hR _ _ ?_
  have hL:=eY (hI.oL.fr F fun o e=>(hI.nL o e).2.1) rfl (bq _ iP)
  have hK:=eY (hI.oK.fr F fun o e=>(hI.nK o e).2.1) rfl (bq _ (bF fun _ _=>rfl))
  simp only[rT,fg]
  refine ⟨_,rfl,_,_,rfl,rfl,_,_,rfl,rfl,_,_,rfl,rfl,_,_,rfl,rfl,_,_,rfl,rfl,_,_,rfl,?_,_,_,rfl,?_,rfl⟩
  ·rw[aU];exact hL
  ·show dp _ (.isl _ (es.map (·.1)).length none) _
   rw[aU,List.map_map];exact hK
 intro d
 induction d with
 | zero=>
  intro i fL fK st x7 hi hI
  apply zw
  have f:=fin i fL fK st (by omega) hI
  simp only[uJ,aF,av,ae,hI.b.l,hI.b.ks,aP,an,aO,a7]
  refine ⟨fun h1=>⟨fun h2=>?_,fun _=>f⟩,fun _=>f⟩
  omega
 | succ d ih=>
  intro i fL fK st x7 hi hI
  apply zw
  have hl1:i<r.l.length:=by omega
  have hl2:i<r.ks.length:=by omega
  have c1:((i:Int)<r.l.length):=by omega
  have c2:((i:Int)<r.ks.length):=by omega
  simp only[uJ,aF,av,ae,hI.b.l,hI.b.ks,aP,an,aO,c1,c2,dh,a8]
  have hx:r.l[i]?=some r.l[i]:=bh hl1
  have hk:r.ks[i]?=some r.ks[i]:=bh hl2
  have hp:=hrec _ (List.getElem_mem hl1)
  generalize r.l[i]=x at hx hp
  generalize r.ks[i]=k at hk
  have hlen:(cH ((r.ks.zip (r.l.map cln)).take i)).length≤big:=by
   have:=jy (l:=(r.ks.zip (r.l.map cln)).take i)
   rw[List.length_take] at this;omega
  refine B3 hI h15 h25 hx hbig hp hk hlen (fun st' fL' fK' x7 h=>ih (i+1) fL' fK' st' x7 (by omega) ?_) _ 0 (av _)
  have e:(r.ks.zip (r.l.map cln)).take (i+1)=(r.ks.zip (r.l.map cln)).take i++[(k,cln x)]:=by
   rw[List.take_add_one]
   have:(r.ks.zip (r.l.map cln))[i]?=some (k,cln x):=by
    rw[List.getElem?_zip_eq_some];simp[hk,hx]
   rw[this];rfl
  rw[e,mg];exact h
theorem jz {r:RV}:cln r=if r.k=1 then .unknown else if r.k=2 then .bool r.b else if r.k=3 then .int r.n else if r.k=4 then .point (kq r.n) (kq r.m) else if r.k=5 then .text r.s
  else if r.k=6 then .list (r.l.map cln) else if r.k=7 then .map (cH (r.ks.zip (r.l.map cln))) else .null:=by
 cases r;rw[cln,uO];rfl
theorem dpR {s:aa} {r:RV} {a b c d e:LV} (h:rc r=[a,b,c,d,e,.isl [] 0 none,.isl [] 0 none]) (pa:LV.au [a,b,c,d,e]=true):dp s (vR r) (.agg [a,b,c,d,e,.nils,.nils]):=by
 unfold vR
 rw[h]
 have h0:=bq s pa
 refine ⟨_,rfl,?_⟩
 have h1:dps s [LV.isl [] 0 none,.isl [] 0 none] [.nils,.nils]:=⟨_,_,rfl,.inr (.inr ⟨.inr rfl,rfl,rfl⟩),_,_,rfl,.inr (.inr ⟨.inr rfl,rfl,rfl⟩),rfl⟩
 exact ux h0 h1
theorem nI:∀ {r:RV},r.ok→Pu Tryz.prog 27 [vR r] (vR (rT (cln r))):=fun {r}=>by
 refine RV.ind (p:=fun r=>r.ok→Pu Tryz.prog 27 [vR r] (vR (rT (cln r)))) ?_ _ r (Nat.lt_succ_self _)
 intro r ih hr
 have hrec:∀ x ∈ r.l,Pu Tryz.prog 27 [vR x] (vR (rT (cln x))):=fun x hx=>ih x hx ((RV.pV hr).2 x hx)
 refine Pu.of (c27 _ ?_) fW dP
 have hb:bA [ah.cells .rw (rc r),.cells .rw z7] 0 r:=rfl
 have h2:([ah.cells .rw (rc r),.cells .rw z7]:aa)[1]?=some (.cells .rw z7):=rfl
 have set2:∀ {q:Option LV} {a b c d e:LV},q=some (.agg [a,b,c,d,e,.nils,.nils])→[a,b,c,d,e].all LV.one=true→∀ {Q:LV→aa→Prop},(∀ s,Q (.agg [a,b,c,d,e,.nils,.nils]) s)→
   bd q fun v7=>bd2 (lmk (stV [ah.cells .rw (rc r),.cells .rw z7] 7 (.ptr 1 0) v7)) fun _v st9=>bd (ldA st9 (.ptr 1 0) 7) fun v10=>Q v10 st9:=by
  rintro q a b c d e rfl h1 Q hQ
  simp only[ae]
  rw[mr h2 rfl rfl (by simp only[List.all_cons,List.all_nil,Bool.and_true,aK] at h1 ⊢;exact ⟨h1.1,h1.2.1,h1.2.2.1,h1.2.2.2.1,h1.2.2.2.2,rfl,rfl⟩)]
  simp only[aB,aj]
  rw[tp (bQ h2) rfl]
  exact hQ _
 simp only[w27,eM,aj,dc,aF,av,ae,bw,List.cons_append,bu,bg]
 simp only[hb.k,hb.b,hb.n,hb.m,hb.s,ae,an,b5,ec,lq,AL]
 rw[jz]
 refine ⟨fun h=>?_,fun h=>⟨fun g=>?_,fun g=>⟨fun q=>?_,fun q=>⟨fun w=>?_,fun w=>⟨fun u=>?_,fun u=>⟨fun y=>?_,fun y=>⟨fun x=>?_,fun x=>?_⟩⟩⟩⟩⟩⟩⟩<;>simp only[beq_iff_eq,beq_eq_false_iff_ne,ne_eq] at h<;>try simp only[beq_iff_eq,beq_eq_false_iff_ne,ne_eq] at g
 all_goals try simp only[beq_iff_eq,beq_eq_false_iff_ne,ne_eq] at q
 all_goals try simp only[beq_iff_eq,beq_eq_false_iff_ne,ne_eq] at w
 all_goals try simp only[beq_iff_eq,beq_eq_false_iff_ne,ne_eq] at u
 all_goals try simp only[beq_iff_eq,beq_eq_false_iff_ne,ne_eq] at y
 all_goals try simp only[beq_iff_eq,beq_eq_false_iff_ne,ne_eq] at x
 ·rw[if_pos h]
  exact set2 (Q:=fun v s=>dp s (vR (rT _)) v) rfl rfl fun s=>dpR rfl rfl
 ·rw[if_neg h,if_pos g]
  exact set2 (Q:=fun v s=>dp s (vR (rT _)) v) rfl rfl fun s=>dpR rfl rfl
 ·rw[if_neg h,if_neg g,if_pos q]
  exact set2 (Q:=fun v s=>dp s (vR (rT _)) v) rfl rfl fun s=>dpR rfl rfl
 ·rw[if_neg h,if_neg g,if_neg q,if_pos w]
  exact set2 (Q:=fun v s=>dp s (vR (rT _)) v) rfl rfl fun s=>dpR rfl rfl
 ·rw[if_neg h,if_neg g,if_neg q,if_neg w,if_pos u]
  exact set2 (Q:=fun v s=>dp s (vR (rT _)) v) rfl rfl fun s=>dpR rfl rfl
 ·rw[if_neg h,if_neg g,if_neg q,if_neg w,if_neg u,if_pos y]
  have h3:=mr (st:=[ah.cells .rw (rc r),.cells .rw z7,.cells .rw z7]) (o:=2) (l:=z7) (vs:=[i64 6,.bool false,i64 0,i64 0,.str [],.nils,.nils]) rfl rfl rfl rfl
  have e:bK (aN (aR [(0,1),(1,1),(2,1),(3,1),(4,1),(5,1),(6,1)]) z7 [(0,i64 6)])=some (.agg [i64 6,.bool false,i64 0,i64 0,.str [],.nils,.nils]):=rfl
  simp only[e,h3,ae,aB,aj]
  refine xg hr hrec (z:=z7) (by decide) (by decide) (by decide) rfl ?_ r.l.length 0 none _ (by omega) rfl rfl rfl bH.nil (fun _ h=>by cases h)
  intro v s hd
  simp only[rT,nH,List.map_map];exact hd
 ·rw[if_neg h,if_neg g,if_neg q,if_neg w,if_neg u,if_neg y,if_pos x]
  have h3:=mr (st:=[ah.cells .rw (rc r),.cells .rw z7,.cells .rw z7]) (o:=2) (l:=z7) (vs:=[i64 7,.bool false,i64 0,i64 0,.str [],.nils,.nils]) rfl rfl rfl rfl
  have e:bK (aN (aR [(0,1),(1,1),(2,1),(3,1),(4,1),(5,1),(6,1)]) z7 [(0,i64 7)])=some (.agg [i64 7,.bool false,i64 0,i64 0,.str [],.nils,.nils]):=rfl
  simp only[e,h3,ae,aB,aj]
  refine B4 hr hrec (z:=z7) (by decide) (by decide) (by decide) rfl ?_ (min r.l.length r.ks.length) 0 none none _ _ (by omega) ⟨rfl,rfl,rfl,bH.nil,bH.nil,(fun _ h=>by cases h),(fun _ h=>by cases h)⟩
  exact fun v s hd=>hd
 ·rw[if_neg h,if_neg g,if_neg q,if_neg w,if_neg u,if_neg y,if_neg x]
  exact set2 (Q:=fun v s=>dp s (vR (rT _)) v) rfl rfl fun s=>dpR rfl rfl
end Go.Proofs.YtknegckgmklnhaaGreatDoor
namespace Go.CP
section
open Classical
noncomputable def Lay.nJ (β:Lay) (o:Nat) (w:World):Lay:=⟨β.o,fun b=>if ∃ bl,β o=some bl∧bl.blk=b then w.heap[b]? else β.f b,β.n⟩
theorem mF {w0 w:World} {β:Lay} {st:aa} {o:Nat} {y:ah} (h:Rel w0 β st w) (ho:st[o]?=some y) (hy:y.rw=true):β.le (β.nJ o w):=by
 refine ⟨fun _ _ e=>e,fun b x e=>?_,rfl,fun b x e l=>?_⟩
 ·show (if ∃ bl,β o=some bl∧bl.blk=b then w.heap[b]? else β.f b)=some x
  split
  ·exact h.froz b x e
  ·exact e
 ·have e':(if ∃ bl,β o=some bl∧bl.blk=b then w.heap[b]? else β.f b)=some x:=e
  split at e'
  ·rename_i hF
   obtain ⟨bl,h3,h4⟩:=hF
   have:=(h.obj o y ho).mH hy h3
   rw[h4,← h.base] at this
   omega
  ·exact e'
theorem Rel.nJ {w0 w:World} {β:Lay} {st:aa} {o:Nat} {y:ah} (h:Rel w0 β st w) (ho:st[o]?=some y) (hy:y.rw=true):Rel w0 (β.nJ o w) (st.set o .dead) w:=by
 have hle:=mF h ho hy
 have get:∀ {i:Nat} {z:ah},(st.set o .dead)[i]?=some z→(i=o∧z=.dead)∨(i≠o∧st[i]?=some z):=by
  intro i z hz
  by_cases e:i=o
  ·subst e
   rw[List.getElem?_set_self (List.getElem?_eq_some_iff.1 ho).1] at hz
   exact .inl ⟨rfl,(Option.some.inj hz).symm⟩
  ·rw[List.getElem?_set_ne (Ne.symm e)] at hz
   exact .inr ⟨e,hz⟩
 refine ⟨h.below,fun i hi=>h.dom i (by simpa using hi),fun i z hz=>?_,fun i i' z z' b b' hz hzr hz' hzl hne hb hb'=>?_,h.base,fun b x e=>?_,fun i z b hz hzr hb=>?_⟩
 ·rcases get hz with ⟨rfl,rfl⟩ | ⟨_,hz⟩
  ·trivial
  ·exact (h.obj i z hz).mono hle
 ·rcases get hz with ⟨rfl,rfl⟩ | ⟨_,hz⟩
  ·cases hzr
  ·rcases get hz' with ⟨rfl,rfl⟩ | ⟨_,hz'⟩
   ·cases hzl
   ·exact h.sep i i' z z' b b' hz hzr hz' hzl hne hb hb'
 ·have e':(if ∃ bl,β o=some bl∧bl.blk=b then w.heap[b]? else β.f b)=some x:=e
  split at e'
  ·exact e'
  ·exact h.froz b x e'
 ·rcases get hz with ⟨rfl,rfl⟩ | ⟨hne,hz⟩
  ·cases hzr
  ·show (if ∃ bl,β o=some bl∧bl.blk=b.blk then w.heap[b.blk]? else β.f b.blk)=none
   rw[if_neg ?_]
   ·exact h.sepf i z b hz hzr hb
   ·rintro ⟨bl,h1,h2⟩
    exact h.sep i o z y b bl hz hzr ho (ah.dR hy) hne hb h1 h2.symm
theorem jA {w0 w:World} {β:Lay} {st:aa} (h:Rel w0 β st w) {o:Nat} {m:Md} {l:List LV} {b:Bl} (ho:st[o]?=some (.cells m l)) (hb:β o=some b) {k n:Nat} (hk:k+n≤l.length) :
  ∃ us:List Value,Rps β ((l.drop k).take n) us∧FzC (β.nJ o w) b.blk (b.base+k) us:=by
 obtain ⟨b',hb',c,e,fz,hh,h1,h2,h3,h4⟩:=h.obj o _ ho
 rw[hb] at hb';cases hb'
 have hfz:(β.nJ o w).f b.blk=some (.cells c e fz):=by
  show (if ∃ bl,β o=some bl∧bl.blk=b.blk then w.heap[b.blk]? else β.f b.blk)=_
  rw[if_pos ⟨b,hb,rfl⟩,hh]
 have hl:((l.drop k).take n).length=n:=by simp;omega
 refine ⟨(c.toList.drop (b.base+k)).take n,Rps.kE (by simp;omega) fun i x hx=>?_,c,e,fz,hfz,by simp;omega,fun i u hu=>?_⟩
 ·rw[List.getElem?_take,List.getElem?_drop] at hx
  split at hx
  ·rename_i hi
   obtain ⟨u,hu,r⟩:=h3 _ _ hx
   refine ⟨u,?_,r⟩
   rw[List.getElem?_take,if_pos hi,List.getElem?_drop,Array.getElem?_toList]
   rw[← hu];congr 1;omega
  ·cases hx
 ·rw[List.getElem?_take] at hu
  split at hu
  ·rw[List.getElem?_drop,Array.getElem?_toList] at hu;exact hu
  ·cases hu
end
theorem ag.rR {P:Program} {f:FuncId} {xs xs':List LV} {st st':aa} {R:LV→aa→Prop} (h:ag P f xs' st' R)
  (hr:∀ w0 β w vs,Rel w0 β st w→Rps β xs vs→∃ β',Rel w0 β' st' w∧Rps β' xs' vs∧β.le β'):ag P f xs st R:=by
 rcases h with h|h
 ·refine .inl ⟨h.1,fun w0 β w vs h1 h2=>?_⟩
  obtain ⟨β',k1,k2,k3⟩:=hr w0 β w vs h1 h2
  refine (h.2 w0 β' w vs k1 k2).mono ?_
  rintro e w' ⟨β2,r,st2,u,hd,rfl,h4,h5,h6⟩
  exact ⟨β2,r,st2,u,hd,rfl,h4,h5,k3.trans h6⟩
 ·refine .inr fun w0 β w vs h1 h2=>?_
  obtain ⟨β',k1,k2,k3⟩:=hr w0 β w vs h1 h2
  obtain ⟨u,w',h3,β2,r,st2,hd,h5,h6,h7⟩:=h w0 β' w vs k1 k2
  exact ⟨u,w',h3,β2,r,st2,hd,h5,h6,k3.trans h7⟩
theorem Rps.split {β:Lay}:∀ {a b:List LV} {vs:List Value},Rps β (a++b) vs→∃ u v,vs=u++v∧Rps β a u∧Rps β b v
 | [],b,vs,h=>⟨[],vs,rfl,rfl,h⟩
 | x::a,b,vs,h=>by
  obtain ⟨v,us,rfl,h1,h2⟩:=h
  obtain ⟨u,v',rfl,h3,h4⟩:=Rps.split h2
  exact ⟨v::u,v',rfl,⟨v,u,rfl,h1,h3⟩,h4⟩
theorem ag.B5 {P:Program} {g:FuncId} {ws bs:List LV} {st:aa} {f:Option Nat} {sz n:Nat} {cs:List LV} {R:LV→aa→Prop} (ho:bH .rw st f sz n cs)
  (h:∀ st',Fr st st' (fun j=>f=some j)→ag P g (ws++.isl cs n none::bs) st' R):ag P g (ws++osl f sz n::bs) st R:=by
 cases f with
 | none=>
  obtain ⟨hl,rfl⟩:=ho
  have hc:cs=[]:=by simpa using hl
  subst hc
  refine (h st Fr.refl).rR fun w0 β w vs h1 h2=>⟨β,h1,?_,Lay.le.refl β⟩
  obtain ⟨u,v,rfl,h3,h4⟩:=Rps.split h2
  obtain ⟨x,xs,rfl,h5,h6⟩:=h4
  refine h3.append ⟨x,xs,rfl,?_,h6⟩
  rw[show x=.slice none 0 0 from h5]
  exact ⟨[],rfl,none,0,rfl,Nat.le_refl _,fun _ e=>(by cases e),.inl ⟨rfl,fun _=>rfl⟩⟩
 | some o=>
  obtain ⟨hl,rest,h2⟩:=ho
  refine (h (st.set o .dead) (Fr.set rfl)).rR fun w0 β w vs h1 hv=>?_
  have hle:=mF h1 h2 (rfl:ah.rw (.cells .rw (cs++rest))=true)
  refine ⟨β.nJ o w,h1.nJ h2 rfl,?_,hle⟩
  obtain ⟨u,v,rfl,h3,h4⟩:=Rps.split hv
  obtain ⟨x,xs,rfl,⟨b,hb,hcap,rfl⟩,h6⟩:=h4
  refine (h3.mono hle).append ⟨_,xs,rfl,?_,h6.mono hle⟩
  obtain ⟨us,r1,r2⟩:=jA h1 h2 hb (k:=0) (n:=cs.length) (by simp)
  rw[List.drop_zero,List.take_left] at r1
  exact ⟨us,r1.mono hle,_,_,rfl,hcap,fun _ e=>(by cases e),.inr ⟨b.blk,b.base+0,rfl,r2⟩⟩
end Go.CP
namespace Go.Proofs.YtknegckgmklnhaaGreatDoor
open Go Go.CP
set_option maxRecDepth 100000
theorem mk1 {st:aa} {x v:LV} {q:Option LV} (hq:q=some (.agg [v])) (hv:v.one=true) {Q:LV→aa→Prop} (h:∀ s,Q (.agg [v]) s) :
  bd q fun v2=>bd2 (lmk (stV (st++[.cells .rw [x]]) 1 (.ptr st.length 0) v2)) fun _v st4=>bd (ldA st4 (.ptr st.length 0) 1) fun v5=>Q v5 st4:=by
 subst hq
 have e:=eg (st:=st++[ah.cells .rw [x]]) (o:=st.length) (k:=0) (m:=.rw) (l:=[x]) (vs:=[v]) (n:=1) aH (by simp) (by simp[hv]) rfl
 simp only[ae]
 rw[e]
 simp only[aB,aj]
 rw[dJ (bQ aH) (by simp[bz])]
 exact h _
theorem xi:Pu Tryz.prog 69 [] (vT .unknown):=Pu.of (c69 (mk1 (st:=[]) (v:=.iface 169 (.agg [])) rfl rfl (Q:=fun v s=>dp s (vT .unknown) v) fun s=>bk s bG)) rfl bG
theorem B6 (b:Bool):Pu Tryz.prog 92 [.bool b] (vT (.bool b)):=Pu.of (c92 _ (mk1 (st:=[]) (v:=.iface 4 (.bool b)) rfl rfl (Q:=fun v s=>dp s (vT (.bool b)) v) fun s=>bk s bG)) rfl bG
theorem AP (n:Int):Pu Tryz.prog 73 [i64 n] (vT (.int n)):=Pu.of (c73 _ (mk1 (st:=[]) (v:=.iface 3 (i64 n)) rfl rfl (Q:=fun v s=>dp s (vT (.int n)) v) fun s=>bk s bG)) rfl bG
theorem yN (x:List UInt8):Pu Tryz.prog 91 [.str x] (vT (.text x)):=Pu.of (c91 _ (mk1 (st:=[]) (v:=.iface 9 (.str x)) rfl rfl (Q:=fun v s=>dp s (vT (.text x)) v) fun s=>bk s bG)) rfl bG
theorem uP {n:Int} (h : -9007199254740992≤n∧n≤9007199254740992):Pu Tryz.prog 156 [i64 n] (.bool true):=by
 refine Pu.of (c156 _ ?_) rfl rfl
 have h1:n≥-9007199254740992:=h.1
 simp only[Au,an,hY,wz,ae,h1,h.2,dh,a8]
 exact rfl
theorem xj {a b:Int} (ha : -9007199254740992≤a∧a≤9007199254740992) (hb : -9007199254740992≤b∧b≤9007199254740992):Pu Tryz.prog 93 [i64 a,i64 b] (.tup [vT (.point a b),i64 0]):=by
 refine Pu.of (c93 _ _ ?_) rfl rfl
 simp only[w93,dc]
 refine (uP ha).call ?_
 simp only[dI,ae,dA,ax]
 refine (uP hb).call ?_
 have e1:vc .f64 (i64 a)=some (.flt .f64 (fb a)):=rfl
 have e2:vc .f64 (i64 b)=some (.flt .f64 (fb b)):=rfl
 have e3:ua (.flt .f64 (fb a)) (.flt .f64 (fb b))=some (.cplx .f64 (fb a) (fb b)):=rfl
 simp only[dI,ae,dA,ax,e1,e2,e3]
 exact mk1 (st:=[]) (v:=.iface 170 (.cplx .f64 (fb a) (fb b))) rfl rfl (Q:=fun v s=>dp s (.tup [vT (.point a b),i64 0]) (.tup [v,i64 0])) fun s=>bk s (by simp[LV.plain,LV.au])
theorem AQ {t:T}:(rT t).k=t.kind:=by cases t<;>rfl
theorem yO {t:T}:(rT t).l=t.items.map rT:=by
 cases t<;>simp[rT,RV.l,T.items,nH,fg]
theorem xk {t:T}:(rT t).ks=t.keys:=by cases t<;>rfl
theorem AR {st:aa} {o:Nat} {x v:LV} (ho:st[o]?=some (.cells .rw [x])) (hv:v.one=true) {Q:LV→aa→Prop} (h:∀ s,Q (.agg [v]) s) :
  bd2 (lmk (stV st 1 (.ptr o 0) (.agg [v]))) fun _v st4=>bd (ldA st4 (.ptr o 0) 1) fun v5=>Q v5 st4:=by
 have e:=eg (k:=0) (vs:=[v]) (n:=1) ho (by simp) (by simp[hv]) rfl
 rw[e]
 simp only[aB,aj]
 rw[dJ (bQ ho) (by simp[bz])]
 exact h _
theorem xl {t:T} (ht:t.ok) (hb:t.items.length≤big) (hk:t.kind=6∨t.kind=7) (hrec:∀ x ∈ t.items,Pu Tryz.prog 29 [vR (rT x)] (vT x)) {R:LV→aa→Prop} {o1 o2:Nat} (h12:o1≠o2) {x0:LV} (hR:∀ s,R (vT t) s) :
  ∀ (d i:Nat) (f:Option Nat) (st:aa),i+d=t.items.length→bA st o1 (rT t)→st[o2]?=some (.cells .rw [x0])→bH .rw st f 1 i (dM (t.items.take i))→(∀ o,f=some o→o≠o1∧o≠o2)→
   rB (.ptr o1 0) (.ptr o2 0) (osl f 1 i) (i64 i) R st:=by
 intro d
 induction d with
 | zero=>
  intro i f st hi hbx h2 ho hf
  apply zr
  have hl:=hbx.l
  rw[yO] at hl
  have hks:=hbx.ks
  rw[xk] at hks
  have hkk:=hbx.k
  rw[AQ] at hkk
  have:¬ ((i:Int)<(t.items.map rT).length):=by simp;omega
  simp only[uE,aF,av,ae,hl,aP,an,aO,this,dz,ax,hkk,b5,hks]
  rw[ec]
  refine ⟨fun h=>?_,fun h=>?_⟩
  ·have h6:t.kind=6:=by simpa using h
   obtain ⟨l,rfl⟩:∃ l,t=.list l:=by cases t<;>simp_all [T.kind]
   have hi':i=l.length:=by simp only[T.items] at hi;omega
   subst hi'
   simp only[T.items,List.take_length] at ho
   refine ag.B5 (ws:=[]) (bs:=[]) ho fun st' hF=>?_
   refine (yH hb).call ?_
   exact AR (hF.get h2 (fun e=>(hf _ e).2 rfl)) gr hR
  ·have h6:¬ t.kind=6:=by simpa using h
   obtain ⟨es,rfl⟩:∃ es,t=.map es:=by cases t<;>simp_all [T.kind]
   have hn:=b6 ht.2.2
   have hi':i=(es.map (·.2)).length:=by simp only[T.items] at hi;omega
   subst hi'
   simp only[T.items,List.take_length] at ho
   refine ag.B5 (ws:=[sI (T.map es).keys]) (bs:=[]) ho fun st' hF=>?_
   simp only[T.items,aU] at hb
   refine (AI hn hb).call ?_
   simp only[aV,bB,bJ,ae,dc,ft,aB,aj,mB]
   exact AR (cb (hF.get h2 (fun e=>(hf _ e).2 rfl))) gr hR
 | succ d ih=>
  intro i f st hi hbx h2 ho hf
  apply zr
  have hl:=hbx.l
  rw[yO] at hl
  have hlt:i<t.items.length:=by omega
  have hx:t.items[i]?=some t.items[i]:=bh hlt
  have hp:=hrec _ (List.getElem_mem hlt)
  generalize t.items[i]=x at hx hp
  have hx':(t.items.map rT)[i]?=some (rT x):=by simp[hx]
  have e1:bo 7 (rL (t.items.map rT)) (i64 i)=some (.iptr (rcs (t.items.map rT)) (i*7)):=dd (by simpa using hlt)
  have c1:((i:Int)<(t.items.map rT).length):=by simp;omega
  simp only[uE,aF,av,ae,hl,aP,an,aO,c1,dh,a8,e1,fu hx']
  refine hp.call ?_
  have e2:aN (fun i=>some (i*1,1)) (List.replicate 1 [LV.nili]).flatten [(0,vT x)]=some [lvT x]:=rfl
  rw[e2]
  simp only[cj,aj]
  have ho1:=ho.fr (st':=st++[.cells .rw [lvT x]]) (S:=fun _=>False) Fr.app (fun _ _ h=>h)
  obtain ⟨st2,f2,g1,g2,g3,g4,-⟩:=ho1.append (x:=.sl st.length 0 1 (.ex 1)) (k:=1) (new:=[lvT x]) (bytes:=16) (kx rfl) (by omega) rfl (by simp[gr]) (dN (by unfold big at hb;omega) (by omega))
  rw[g1]
  simp only[aj,bx,ae,bO (show i<2 ^ 40 by unfold big at hb;omega)]
  have n1:=bR (show st[o1]?=_ from hbx)
  have n2:=bR h2
  refine ih (i+1) f2 st2 (by omega) (g3.get (cb hbx) (fun e=>(hf _ e).1 rfl)) (g3.get (cb h2) (fun e=>(hf _ e).2 rfl)) ?_ (fun o e=>?_)
  ·have e3:t.items.take (i+1)=t.items.take i++[x]:=by
    rw[List.take_add_one,hx];rfl
   rw[e3,rF];exact g2
  ·rcases g4 o e with h|h
   ·exact hf o h
   ·simp at h;omega
theorem xm:∀ (n:Nat) (t:T),SizeOf.sizeOf t<n→t.ok→Pu Tryz.prog 29 [vR (rT t)] (vT t)
 | 0,_,h,_=>by omega
 | n+1,t,hn,ht=>by
  have hrec:∀ x ∈ t.items,Pu Tryz.prog 29 [vR (rT x)] (vT x):=fun x hx=>xm n x (by have:=T.eZ hx;omega) (T.fR ht x hx)
  refine Pu.of (c29 _ ?_) fW bG
  have hb:bA [ah.cells .rw (rc (rT t)),.cells .rw [.nili]] 0 (rT t):=rfl
  have hk:=hb.k
  rw[AQ] at hk
  simp only[w29,eM,aj,dc,aF,av,ae,bw,List.cons_append,bu,bg,hk]
  have fin:∀ {st:aa},st[1]?=some (.cells .rw [.nili])→bd2 (lmk (stV st 1 (.ptr 1 0) (vT t))) fun _v st4=>bd (ldA st4 (.ptr 1 0) 1) fun v5=>dp st4 (vT t) v5:=fun h=>AR h gr (Q:=fun v s=>dp s (vT t) v) fun s=>bk s bG
  cases t<;>simp only[T.kind,an,b5,ae]
  ·exact wW.call (fin rfl)
  ·exact xi.call (fin rfl)
  ·simp only[hb.b];exact (B6 _).call (fin rfl)
  ·simp only[hb.n];exact (AP _).call (fin rfl)
  ·simp only[hb.n,hb.m]
   refine (xj ht.1 ht.2).call ?_
   simp only[aV,bB,bJ,ae,ft,aB,aj,mB]
   exact fin rfl
  ·simp only[hb.s];exact (yN _).call (fin rfl)
  ·exact xl (x0:=.nili) ht ht.1 (.inl rfl) hrec (by decide) (R:=fun v s=>dp s _ v) (fun s=>bk s bG) _ 0 none _ (av _) hb rfl bH.nil (fun _ h=>by cases h)
  ·exact xl (x0:=.nili) ht (by simpa[T.items] using ht.1) (.inr rfl) hrec (by decide) (R:=fun v s=>dp s _ v) (fun s=>bk s bG) _ 0 none _ (av _) hb rfl bH.nil (fun _ h=>by cases h)
end Go.Proofs.YtknegckgmklnhaaGreatDoor
namespace Go.Proofs.YtknegckgmklnhaaGreatDoor
open Go Go.CP Go.ChangeShapes
set_option maxRecDepth 100000
theorem B7:Tryz.prog.cellsOf 49=7:=by kernel_rfl
theorem ce3:Tryz.prog.cellsOf 3=1:=by kernel_rfl
theorem ce4:Tryz.prog.cellsOf 4=1:=by kernel_rfl
theorem ce9:Tryz.prog.cellsOf 9=1:=by kernel_rfl
theorem CT:Tryz.prog.cellsOf 47=1:=by kernel_rfl
theorem CU:Tryz.prog.cellsOf 26=1:=by kernel_rfl
section
variable {H:Type}
theorem xn {d:DataW H}:1≤Rows.uptoBulk d:=by
 cases d with
 | lit l=>cases l<;>simp[Rows.uptoBulk]
 | _=>simp[Rows.uptoBulk]
theorem nM:∀ {l:List (DataW H)},l.length≤Rows.uptoBulkAll l
 | []=>by simp
 | x::r=>by have:=nM (l:=r);have:=xn (d:=x);simp only[Rows.uptoBulkAll,bg];omega
theorem tq {n:Nat} {xs:List LV} {d:DataW H} (h:bI Tryz.prog n 3 xs d):∃ k:Int,xs=[i64 k]∧-9223372036854775808≤k∧k<9223372036854775808:=by
 cases n with
 | zero=>exact h.elim
 | succ n=>
  unfold bI at h
  rw[Tryz.underlying3] at h
  obtain ⟨m,rfl,hw⟩:=h
  have h1:IntKind.min .i64 = -9223372036854775808:=rfl
  have h2:IntKind.max .i64=9223372036854775807:=rfl
  simp only[Lit.wf,aK,decide_eq_true_eq,h1,h2] at hw
  exact ⟨m,rfl,hw.1,by omega⟩
theorem yP {n:Nat} {xs:List LV} {d:DataW H} (h:bI Tryz.prog n 4 xs d):∃ b,xs=[.bool b]:=by
 cases n with
 | zero=>exact h.elim
 | succ n=>unfold bI at h;rw[Tryz.underlying4] at h;exact h
theorem xo {n:Nat} {xs:List LV} {d:DataW H} (h:bI Tryz.prog n 9 xs d):∃ s:List UInt8,xs=[.str s]∧s.length≤Rows.uptoBulk d:=by
 cases n with
 | zero=>exact h.elim
 | succ n=>
  unfold bI at h;rw[Tryz.underlying9] at h
  obtain ⟨s,rfl,_,rfl⟩:=h
  exact ⟨s,rfl,by simp[Rows.uptoBulk]⟩
theorem rS {n N:Nat}:∀ {rows:List (List LV)} {elems:List (DataW H)},elems.length=rows.length→(∀ (i:Nat) (r:List LV) (di:DataW H),rows[i]?=some r→elems[i]?=some di→r.length=1∧bI Tryz.prog n 9 r di)→
  Rows.uptoBulkAll elems≤N→∃ l:List (List UInt8),rows.flatten=l.map .str∧l.length=rows.length∧∀ x ∈ l,x.length≤N
 | [],_,_,_,_=>⟨[],rfl,rfl,fun _ h=>(by cases h)⟩
 | r::rows,[],h,_,_=>by simp at h
 | r::rows,d::elems,h,hr,hb=>by
  simp only[Rows.uptoBulkAll] at hb
  obtain ⟨s,rfl,hs⟩:=xo (hr 0 r d rfl rfl).2
  obtain ⟨l,h1,h2,h3⟩:=rS (n:=n) (N:=N) (rows:=rows) (elems:=elems) (by simpa using h) (fun i r di a b=>hr (i+1) r di (by simpa using a) (by simpa using b)) (by omega)
  refine ⟨s::l,by simp[h1],by simp[h2],fun x hx=>?_⟩
  rcases List.mem_cons.1 hx with rfl|hx
  ·omega
  ·exact h3 x hx
theorem yQ {n:Nat} {xs:List LV} {d:DataW H} (h:bI Tryz.prog n 26 xs d):∃ l:List (List UInt8),xs=[sI l]∧l.length≤Rows.uptoBulk d∧∀ x ∈ l,x.length≤Rows.uptoBulk d:=by
 cases n with
 | zero=>exact h.elim
 | succ n=>
  unfold bI at h;rw[Tryz.underlying26] at h
  obtain ⟨rows,elems,rfl,hl,hd,hr⟩:=h
  rcases hd with rfl|⟨rest,rfl⟩
  ·exact ⟨[],rfl,by simp,fun _ h=>(by cases h)⟩
  ·rw[ce9] at hr
   obtain ⟨l,h1,h2,h3⟩:=rS hl hr (Nat.le_refl _)
   have h4:=nM (l:=elems)
   refine ⟨l,by rw[h1,← h2],by simp only[Rows.uptoBulk];omega,fun x hx=>?_⟩
   have:=h3 x hx
   simp only[Rows.uptoBulk];omega
end
theorem xp {es:List (List UInt8 × T)} {k:List UInt8} {t:T} {q:List UInt8 × T→Prop} (h:∀ e ∈ es,q e) (hk:q (k,t)):∀ e ∈ ins es k t,q e:=by
 unfold ins
 split
 ·exact h
 ·intro e he
  rcases List.mem_append.1 he with he|he
  ·exact h e (List.mem_of_mem_take he)
  ·rcases List.mem_cons.1 he with rfl|he
   ·exact hk
   ·exact h e (List.mem_of_mem_drop he)
theorem e9 {es:List (List UInt8 × T)} {k:List UInt8} {t:T} (h:(es.map (·.1)).Pairwise ltB):((ins es k t).map (·.1)).Pairwise ltB:=by
 unfold ins
 split
 ·exact h
 rename_i hne
 have hsp:es=es.take (pos es k)++es.drop (pos es k):=(List.take_append_drop _ _).symm
 rw[List.map_append,List.map_cons,List.pairwise_append]
 rw[hsp,List.map_append,List.pairwise_append] at h
 obtain ⟨h1,h2,h3⟩:=h
 have lo:∀ a ∈ (es.take (pos es k)).map (·.1),ltB a k:=by
  intro a ha
  obtain ⟨e,he,rfl⟩:=List.mem_map.1 ha
  obtain ⟨j,hj⟩:=List.getElem?_of_mem he
  rw[List.getElem?_take] at hj
  split at hj
  ·rename_i hlt
   exact fD (q:=fun e:List UInt8 × T=>Op.bytesLess e.1 k) hlt hj
  ·cases hj
 have hi:∀ a ∈ (es.drop (pos es k)).map (·.1),ltB k a:=by
  intro a ha
  cases hd:es.drop (pos es k) with
  | nil=>rw[hd] at ha;simp at ha
  | cons e rest=>
   have he:es[pos es k]?=some e:=by
    have:(es.drop (pos es k))[0]?=some e:=by rw[hd];rfl
    rw[List.getElem?_drop] at this;simpa using this
   have hs:Op.bytesLess e.1 k=false:=fh (q:=fun e:List UInt8 × T=>Op.bytesLess e.1 k) he
   have hke:ltB k e.1:=by
    rcases hb:Op.bytesLess k e.1 with _|_
    ·exact absurd (by rw[he];exact congrArg some (nB hs hb)) hne
    ·exact hb
   rw[hd] at ha h2
   simp only[List.map_cons,List.mem_cons] at ha
   rcases ha with rfl|ha
   ·exact hke
   ·simp only[List.map_cons,List.pairwise_cons] at h2
    exact eA hke (h2.1 a ha)
 refine ⟨h1,List.pairwise_cons.2 ⟨hi,h2⟩,fun a ha b hb=>?_⟩
 rcases List.mem_cons.1 hb with rfl|hb
 ·exact lo a ha
 ·exact h3 a ha b hb
theorem lu {l:List (List UInt8 × T)} {q:List UInt8 × T→Prop} (h:∀ e ∈ l,q e):(∀ e ∈ cH l,q e)∧((cH l).map (·.1)).Pairwise ltB:=by
 have go:∀ (l es:List (List UInt8 × T)),(∀ e ∈ l,q e)→(∀ e ∈ es,q e)→(es.map (·.1)).Pairwise ltB→(∀ e ∈ l.foldl (fun es e=>ins es e.1 e.2) es,q e)∧((l.foldl (fun es e=>ins es e.1 e.2) es).map (·.1)).Pairwise ltB:=by
  intro l
  induction l with
  | nil=>intro es _ h2 h3;exact ⟨h2,h3⟩
  | cons e l ih=>
   intro es h1 h2 h3
   exact ih _ (fun x hx=>h1 x (List.mem_cons_of_mem _ hx)) (xp h2 (h1 e (by simp))) (e9 h3)
 exact go l [] h (by simp) (by simp)
theorem rU {x:Int} : -9007199254740992≤kq x∧kq x≤9007199254740992:=by
 unfold kq;omega
theorem xq:∀ {r:RV},r.ok→(cln r).ok:=fun {r}=>by
 refine RV.ind (p:=fun r=>r.ok→(cln r).ok) ?_ _ r (Nat.lt_succ_self _)
 intro r ih hr
 have hl:=RV.pV hr
 have hk:=RV.B2 hr
 have hn : -9223372036854775808≤r.n∧r.n<9223372036854775808:=by cases r;exact hr.1.2.1
 have hs:r.s.length≤big:=by cases r;exact hr.2.1
 rw[jz]
 split
 ·trivial
 split
 ·trivial
 split
 ·exact hn
 split
 ·exact ⟨rU,rU⟩
 split
 ·exact hs
 split
 ·refine ⟨by simpa using hl.1,T.ei.2 fun t ht=>?_⟩
  obtain ⟨x,hx,rfl⟩:=List.mem_map.1 ht
  exact ih x hx (hl.2 x hx)
 split
 ·have h:=lu (l:=r.ks.zip (r.l.map cln)) (q:=fun e=>e.1.length≤big∧e.2.ok) (by
   intro e he
   obtain ⟨k,t⟩:=e
   have h1:=(List.of_mem_zip he).1
   have h2:=(List.of_mem_zip he).2
   obtain ⟨x,hx,rfl⟩:=List.mem_map.1 h2
   exact ⟨hk.2 k h1,ih x hx (hl.2 x hx)⟩)
  refine ⟨?_,T.bX.2 h.1,h.2⟩
  have:=jy (l:=r.ks.zip (r.l.map cln))
  simp at this;omega
 ·trivial
end Go.Proofs.YtknegckgmklnhaaGreatDoor
