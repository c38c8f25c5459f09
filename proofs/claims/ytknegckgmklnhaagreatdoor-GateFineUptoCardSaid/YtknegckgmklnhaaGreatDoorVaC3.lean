/- Parts of the proof. -/
import Derived.Test.YtknegckgmklnhaaGreatDoorCp45
namespace Go.Proofs.YtknegckgmklnhaaGreatDoor
open Go Go.CP
set_option maxRecDepth 100000
theorem Jg {es:List (List UInt8 × T)} {k:List UInt8} {t:T}:(ins es k t).length≤es.length+1:=by
 unfold ins
 have:=G2 (es:=es) (k:=k)
 split
 ·omega
 ·simp;omega
theorem yM {l:List (List UInt8 × T)} {e:List UInt8 × T}:fw (l++[e])=ins (fw l) e.1 e.2:=by simp[fw]
theorem sN {l:List (List UInt8 × T)}:(fw l).length≤l.length:=by
 have h:∀ (l es:List (List UInt8 × T)),(l.foldl (fun es e=>ins es e.1 e.2) es).length≤es.length+l.length:=by
  intro l
  induction l with
  | nil=>intro es;simp
  | cons e l ih=>
   intro es
   have h1:=ih (ins es e.1 e.2)
   have h2:=Jg (es:=es) (k:=e.1) (t:=e.2)
   simp only[List.foldl_cons,List.length_cons];omega
 have:=h l []
 simpa[fw] using this
theorem N7 {r:RV} (hr:r.ok) (hrec:∀ x ∈ r.l,Pu Tryz.prog 27 [vR x] (vR (rT (cln x)))) {R:LV→aa→Prop} {o1 o2 o5:Nat} (h12:o1≠o2) (h15:o1≠o5) (h25:o2≠o5) {x3 x4:LV} {z:List LV} (hz:z.length=7)
  (hR:∀ v s,dp s (vR (rT (.map (fw (r.ks.zip (r.l.map cln)))))) v→R v s) :
  ∀ (d i:Nat) (fL fK:Option Nat) (st:aa) (x7:LV),i+d=min r.l.length r.ks.length→yK st r o1 o2 o5 z fL fK (fw ((r.ks.zip (r.l.map cln)).take i))→lr (.ptr o1 0) (.ptr o2 0) x3 x4 (.ptr o5 0) (i64 i) x7 R st:=by
 have hbig:=(RV.we hr).1
 have fin:∀ (i:Nat) (fL fK:Option Nat) (st:aa),i=min r.l.length r.ks.length→yK st r o1 o2 o5 z fL fK (fw ((r.ks.zip (r.l.map cln)).take i))→
   bd (ldA st (.ptr o5 0) 7) fun v12=>bd2 (lmk (stV st 7 (.ptr o2 0) v12)) fun _v13 st14=>bd (ldA st14 (.ptr o2 0) 7) fun v15=>R v15 st14:=by
  intro i fL fK st hi hI
  rw[List.take_of_length_le (by simp;omega)] at hI
  have e1:=GZ hI.h5 rfl
  generalize fw (r.ks.zip (r.l.map cln))=es at hI hR e1
  have e2:=G0 (vs:=[i64 7,.bool false,i64 0,i64 0,.str [],osl fL 7 es.length,osl fK 1 es.length]) hI.h2 hz rfl (by cases fL<;>cases fK<;>rfl)
  have e3:=GZ (st:=st.set o2 (.cells .rw [i64 7,.bool false,i64 0,i64 0,.str [],osl fL 7 es.length,osl fK 1 es.length])) (bx hI.h2) rfl
  have F:Fr st (st.set o2 (.cells .rw [i64 7,.bool false,i64 0,i64 0,.str [],osl fL 7 es.length,osl fK 1 es.length])) (fun j=>j=o2):=Fr.set rfl
  simp only[e1,ab,e2,az,ag,e3]
  refine hR _ _ ?_
  have hL:=dZ (hI.oL.fr F fun o e=>(hI.nL o e).2.1) rfl (bA _ lR)
  have hK:=dZ (hI.oK.fr F fun o e=>(hI.nK o e).2.1) rfl (bA _ (bB fun _ _=>rfl))
  simp only[rT,A8]
  refine ⟨_,rfl,_,_,rfl,rfl,_,_,rfl,rfl,_,_,rfl,rfl,_,_,rfl,rfl,_,_,rfl,rfl,_,_,rfl,?_,_,_,rfl,?_,rfl⟩
  ·rw[List.length_map];exact hL
  ·show dp _ (.isl _ (es.map (·.1)).length none) _
   rw[List.length_map,List.map_map];exact hK
 intro d
 induction d with
 | zero=>
  intro i fL fK st x7 hi hI
  apply KI
  have f:=fin i fL fK st (by omega) hI
  simp only[C1,av,Nat.zero_add,ab,hI.b.l,hI.b.ks,bn,ae,aA,aM]
  refine ⟨fun h1=>⟨fun h2=>?_,fun _=>f⟩,fun _=>f⟩
  omega
 | succ d ih=>
  intro i fL fK st x7 hi hI
  apply KI
  have hl1:i<r.l.length:=by omega
  have hl2:i<r.ks.length:=by omega
  have c1:((i:Int)<r.l.length):=by omega
  have c2:((i:Int)<r.ks.length):=by omega
  simp only[C1,av,Nat.zero_add,ab,hI.b.l,hI.b.ks,bn,ae,aA,c1,c2,decide_true,ah]
  have hx:r.l[i]?=some r.l[i]:=List.getElem?_eq_getElem hl1
  have hk:r.ks[i]?=some r.ks[i]:=List.getElem?_eq_getElem hl2
  have hp:=hrec _ (List.getElem_mem hl1)
  generalize r.l[i]=x at hx hp
  generalize r.ks[i]=k at hk
  have hlen:(fw ((r.ks.zip (r.l.map cln)).take i)).length≤big:=by
   have:=sN (l:=(r.ks.zip (r.l.map cln)).take i)
   rw[List.length_take] at this;omega
  refine N6 hI h15 h25 hx hbig hp hk hlen (fun st' fL' fK' x7 h=>ih (i+1) fL' fK' st' x7 (by omega) ?_) _ 0 (Nat.zero_add _)
  have e:(r.ks.zip (r.l.map cln)).take (i+1)=(r.ks.zip (r.l.map cln)).take i++[(k,cln x)]:=by
   rw[List.take_add_one]
   have:(r.ks.zip (r.l.map cln))[i]?=some (k,cln x):=by
    rw[List.getElem?_zip_eq_some];simp[hk,hx]
   rw[this];rfl
  rw[e,yM];exact h
theorem G4 {r:RV}:cln r=if r.k=1 then .unknown else if r.k=2 then .bool r.b else if r.k=3 then .int r.n else if r.k=4 then .point (sM r.n) (sM r.m) else if r.k=5 then .text r.s
  else if r.k=6 then .list (r.l.map cln) else if r.k=7 then .map (fw (r.ks.zip (r.l.map cln))) else .null:=by
 cases r;rw[cln,C3];rfl
theorem dpR {s:aa} {r:RV} {a b c d e:LV} (h:rc r=[a,b,c,d,e,.isl [] 0 none,.isl [] 0 none]) (pa:LV.aB [a,b,c,d,e]=true):dp s (vR r) (.agg [a,b,c,d,e,.nils,.nils]):=by
 unfold vR
 rw[h]
 have h0:=bA s pa
 refine ⟨_,rfl,?_⟩
 have h1:dps s [LV.isl [] 0 none,.isl [] 0 none] [.nils,.nils]:=⟨_,_,rfl,.inr (.inr ⟨.inr rfl,rfl,rfl⟩),_,_,rfl,.inr (.inr ⟨.inr rfl,rfl,rfl⟩),rfl⟩
 exact Cd h0 h1
theorem sO:∀ {r:RV},r.ok→Pu Tryz.prog 27 [vR r] (vR (rT (cln r))):=fun {r}=>by
 refine RV.ind (p:=fun r=>r.ok→Pu Tryz.prog 27 [vR r] (vR (rT (cln r)))) ?_ _ r (Nat.lt_succ_self _)
 intro r ih hr
 have hrec:∀ x ∈ r.l,Pu Tryz.prog 27 [vR x] (vR (rT (cln x))):=fun x hx=>ih x hx ((RV.we hr).2 x hx)
 refine Pu.of (c27 _ ?_) jy yw
 have hb:dK [aq.cells .rw (rc r),.cells .rw z7] 0 r:=rfl
 have h2:([aq.cells .rw (rc r),.cells .rw z7]:aa)[1]?=some (.cells .rw z7):=rfl
 have set2:∀ {q:Option LV} {a b c d e:LV},q=some (.agg [a,b,c,d,e,.nils,.nils])→[a,b,c,d,e].all LV.one=true→∀ {Q:LV→aa→Prop},(∀ s,Q (.agg [a,b,c,d,e,.nils,.nils]) s)→
   bd q fun v7=>bd2 (lmk (stV [aq.cells .rw (rc r),.cells .rw z7] 7 (.ptr 1 0) v7)) fun _v st9=>bd (ldA st9 (.ptr 1 0) 7) fun v10=>Q v10 st9:=by
  rintro q a b c d e rfl h1 Q hQ
  simp only[ab]
  rw[G0 h2 rfl rfl (by simp only[List.all_cons,List.all_nil,Bool.and_true,Bool.and_eq_true] at h1 ⊢;exact ⟨h1.1,h1.2.1,h1.2.2.1,h1.2.2.2.1,h1.2.2.2.2,rfl,rfl⟩)]
  simp only[az,ag]
  rw[GZ (bx h2) rfl]
  exact hQ _
 simp only[w27,lU,ag,bQ,av,Nat.zero_add,ab,List.nil_append,List.cons_append,List.length_nil,List.length_cons]
 simp only[hb.k,hb.b,hb.n,hb.m,hb.s,ab,ae,aW,bN,jW,Mg]
 rw[G4]
 refine ⟨fun h=>?_,fun h=>⟨fun g=>?_,fun g=>⟨fun q=>?_,fun q=>⟨fun w=>?_,fun w=>⟨fun u=>?_,fun u=>⟨fun y=>?_,fun y=>⟨fun x=>?_,fun x=>?_⟩⟩⟩⟩⟩⟩⟩<;>simp only[beq_iff_eq,beq_eq_false_iff_ne,ne_eq] at h<;>try simp only[beq_iff_eq,beq_eq_false_iff_ne,ne_eq] at g
 all_goals try simp only[beq_iff_eq,beq_eq_false_iff_ne,ne_eq] at q
 all_goals try simp only[beq_iff_eq,beq_eq_false_iff_ne,ne_eq] at w
 all_goals try simp only[beq_iff_eq,beq_eq_false_iff_ne,ne_eq] at u
 all_goals try simp only[beq_iff_eq,beq_eq_false_iff_ne,ne_eq] at y
 all_goals try simp only[beq_iff_eq,beq_eq_false_iff_ne,ne_eq] at x
 ·rw[if_pos h]
  exact set2 (Q:=fun v s=>dp s (vR (rT _)) v) rfl rfl fun s=>dpR rfl rfl
 ·rw[if_neg h,if_pos g]
  exact set2 (Q:=fun v s=>dp s (vR (rT _)) v) rfl rfl fun s=>dpR rfl rfl
 ·rw[if_neg h,if_neg g,if_pos q]
  exact set2 (Q:=fun v s=>dp s (vR (rT _)) v) rfl rfl fun s=>dpR rfl rfl
 ·rw[if_neg h,if_neg g,if_neg q,if_pos w]
  exact set2 (Q:=fun v s=>dp s (vR (rT _)) v) rfl rfl fun s=>dpR rfl rfl
 ·rw[if_neg h,if_neg g,if_neg q,if_neg w,if_pos u]
  exact set2 (Q:=fun v s=>dp s (vR (rT _)) v) rfl rfl fun s=>dpR rfl rfl
 ·rw[if_neg h,if_neg g,if_neg q,if_neg w,if_neg u,if_pos y]
  have h3:=G0 (st:=[aq.cells .rw (rc r),.cells .rw z7,.cells .rw z7]) (o:=2) (l:=z7) (vs:=[i64 6,.bool false,i64 0,i64 0,.str [],.nils,.nils]) rfl rfl rfl rfl
  have e:aL (ao (ay [(0,1),(1,1),(2,1),(3,1),(4,1),(5,1),(6,1)]) z7 [(0,i64 6)])=some (.agg [i64 6,.bool false,i64 0,i64 0,.str [],.nils,.nils]):=rfl
  simp only[e,h3,ab,az,ag]
  refine G1 hr hrec (z:=z7) (by decide) (by decide) (by decide) rfl ?_ r.l.length 0 none _ (by omega) rfl rfl rfl bD.nil (fun _ h=>by cases h)
  intro v s hd
  simp only[rT,A6,List.map_map];exact hd
 ·rw[if_neg h,if_neg g,if_neg q,if_neg w,if_neg u,if_neg y,if_pos x]
  have h3:=G0 (st:=[aq.cells .rw (rc r),.cells .rw z7,.cells .rw z7]) (o:=2) (l:=z7) (vs:=[i64 7,.bool false,i64 0,i64 0,.str [],.nils,.nils]) rfl rfl rfl rfl
  have e:aL (ao (ay [(0,1),(1,1),(2,1),(3,1),(4,1),(5,1),(6,1)]) z7 [(0,i64 7)])=some (.agg [i64 7,.bool false,i64 0,i64 0,.str [],.nils,.nils]):=rfl
  simp only[e,h3,ab,az,ag]
  refine N7 hr hrec (z:=z7) (by decide) (by decide) (by decide) rfl ?_ (min r.l.length r.ks.length) 0 none none _ _ (by omega) ⟨rfl,rfl,rfl,bD.nil,bD.nil,(fun _ h=>by cases h),(fun _ h=>by cases h)⟩
  exact fun v s hd=>hd
 ·rw[if_neg h,if_neg g,if_neg q,if_neg w,if_neg u,if_neg y,if_neg x]
  exact set2 (Q:=fun v s=>dp s (vR (rT _)) v) rfl rfl fun s=>dpR rfl rfl
end Go.Proofs.YtknegckgmklnhaaGreatDoor
namespace Go.CP
section
open Classical
noncomputable def Lay.Ba (β:Lay) (o:Nat) (w:World):Lay:=⟨β.o,fun b=>if ∃ bl,β o=some bl∧bl.blk=b then w.heap[b]? else β.f b,β.n⟩
theorem C5 {w0 w:World} {β:Lay} {st:aa} {o:Nat} {y:aq} (h:Rel w0 β st w) (ho:st[o]?=some y) (hy:y.rw=true):β.le (β.Ba o w):=by
 refine ⟨fun _ _ e=>e,fun b x e=>?_,rfl,fun b x e l=>?_⟩
 ·show (if ∃ bl,β o=some bl∧bl.blk=b then w.heap[b]? else β.f b)=some x
  split
  ·exact h.froz b x e
  ·exact e
 ·have e':(if ∃ bl,β o=some bl∧bl.blk=b then w.heap[b]? else β.f b)=some x:=e
  split at e'
  ·rename_i hF
   obtain ⟨bl,h3,h4⟩:=hF
   have:=(h.obj o y ho).oG hy h3
   rw[h4,← h.base] at this
   omega
  ·exact e'
theorem Rel.Ba {w0 w:World} {β:Lay} {st:aa} {o:Nat} {y:aq} (h:Rel w0 β st w) (ho:st[o]?=some y) (hy:y.rw=true):Rel w0 (β.Ba o w) (st.set o .dead) w:=by
 have hle:=C5 h ho hy
 have get:∀ {i:Nat} {z:aq},(st.set o .dead)[i]?=some z→(i=o∧z=.dead)∨(i≠o∧st[i]?=some z):=by
  intro i z hz
  by_cases e:i=o
  ·subst e
   rw[List.getElem?_set_self (List.getElem?_eq_some_iff.1 ho).1] at hz
   exact .inl ⟨rfl,(Option.some.inj hz).symm⟩
  ·rw[List.getElem?_set_ne (Ne.symm e)] at hz
   exact .inr ⟨e,hz⟩
 refine ⟨h.below,fun i hi=>h.dom i (by simpa using hi),fun i z hz=>?_,fun i i' z z' b b' hz hzr hz' hzl hne hb hb'=>?_,h.base,fun b x e=>?_,fun i z b hz hzr hb=>?_⟩
 ·rcases get hz with ⟨rfl,rfl⟩ | ⟨_,hz⟩
  ·trivial
  ·exact (h.obj i z hz).mono hle
 ·rcases get hz with ⟨rfl,rfl⟩ | ⟨_,hz⟩
  ·cases hzr
  ·rcases get hz' with ⟨rfl,rfl⟩ | ⟨_,hz'⟩
   ·cases hzl
   ·exact h.sep i i' z z' b b' hz hzr hz' hzl hne hb hb'
 ·have e':(if ∃ bl,β o=some bl∧bl.blk=b then w.heap[b]? else β.f b)=some x:=e
  split at e'
  ·exact e'
  ·exact h.froz b x e'
 ·rcases get hz with ⟨rfl,rfl⟩ | ⟨hne,hz⟩
  ·cases hzr
  ·show (if ∃ bl,β o=some bl∧bl.blk=b.blk then w.heap[b.blk]? else β.f b.blk)=none
   rw[if_neg ?_]
   ·exact h.sepf i z b hz hzr hb
   ·rintro ⟨bl,h1,h2⟩
    exact h.sep i o z y b bl hz hzr ho (aq.eO hy) hne hb h1 h2.symm
theorem Bb {w0 w:World} {β:Lay} {st:aa} (h:Rel w0 β st w) {o:Nat} {m:Md} {l:List LV} {b:Bl} (ho:st[o]?=some (.cells m l)) (hb:β o=some b) {k n:Nat} (hk:k+n≤l.length) :
  ∃ us:List Value,Rps β ((l.drop k).take n) us∧FzC (β.Ba o w) b.blk (b.base+k) us:=by
 obtain ⟨b',hb',c,e,fz,hh,h1,h2,h3,h4⟩:=h.obj o _ ho
 rw[hb] at hb';cases hb'
 have hfz:(β.Ba o w).f b.blk=some (.cells c e fz):=by
  show (if ∃ bl,β o=some bl∧bl.blk=b.blk then w.heap[b.blk]? else β.f b.blk)=_
  rw[if_pos ⟨b,hb,rfl⟩,hh]
 have hl:((l.drop k).take n).length=n:=by simp;omega
 refine ⟨(c.toList.drop (b.base+k)).take n,Rps.oE (by simp;omega) fun i x hx=>?_,c,e,fz,hfz,by simp;omega,fun i u hu=>?_⟩
 ·rw[List.getElem?_take,List.getElem?_drop] at hx
  split at hx
  ·rename_i hi
   obtain ⟨u,hu,r⟩:=h3 _ _ hx
   refine ⟨u,?_,r⟩
   rw[List.getElem?_take,if_pos hi,List.getElem?_drop,Array.getElem?_toList]
   rw[← hu];congr 1;omega
  ·cases hx
 ·rw[List.getElem?_take] at hu
  split at hu
  ·rw[List.getElem?_drop,Array.getElem?_toList] at hu;exact hu
  ·cases hu
end
theorem ax.KL {P:Program} {f:FuncId} {xs xs':List LV} {st st':aa} {R:LV→aa→Prop} (h:ax P f xs' st' R)
  (hr:∀ w0 β w vs,Rel w0 β st w→Rps β xs vs→∃ β',Rel w0 β' st' w∧Rps β' xs' vs∧β.le β'):ax P f xs st R:=by
 rcases h with h|h
 ·refine .inl ⟨h.1,fun w0 β w vs h1 h2=>?_⟩
  obtain ⟨β',k1,k2,k3⟩:=hr w0 β w vs h1 h2
  refine (h.2 w0 β' w vs k1 k2).mono ?_
  rintro e w' ⟨β2,r,st2,u,hd,rfl,h4,h5,h6⟩
  exact ⟨β2,r,st2,u,hd,rfl,h4,h5,k3.trans h6⟩
 ·refine .inr fun w0 β w vs h1 h2=>?_
  obtain ⟨β',k1,k2,k3⟩:=hr w0 β w vs h1 h2
  obtain ⟨u,w',h3,β2,r,st2,hd,h5,h6,h7⟩:=h w0 β' w vs k1 k2
  exact ⟨u,w',h3,β2,r,st2,hd,h5,h6,k3.trans h7⟩
theorem Rps.split {β:Lay}:∀ {a b:List LV} {vs:List Value},Rps β (a++b) vs→∃ u v,vs=u++v∧Rps β a u∧Rps β b v
 | [],b,vs,h=>⟨[],vs,rfl,rfl,h⟩
 | x::a,b,vs,h=>by
  obtain ⟨v,us,rfl,h1,h2⟩:=h
  obtain ⟨u,v',rfl,h3,h4⟩:=Rps.split h2
  exact ⟨v::u,v',rfl,⟨v,u,rfl,h1,h3⟩,h4⟩
theorem ax.Jh {P:Program} {g:FuncId} {ws bs:List LV} {st:aa} {f:Option Nat} {sz n:Nat} {cs:List LV} {R:LV→aa→Prop} (ho:bD .rw st f sz n cs)
  (h:∀ st',Fr st st' (fun j=>f=some j)→ax P g (ws++.isl cs n none::bs) st' R):ax P g (ws++osl f sz n::bs) st R:=by
 cases f with
 | none=>
  obtain ⟨hl,rfl⟩:=ho
  have hc:cs=[]:=by simpa using hl
  subst hc
  refine (h st Fr.refl).KL fun w0 β w vs h1 h2=>⟨β,h1,?_,Lay.le.refl β⟩
  obtain ⟨u,v,rfl,h3,h4⟩:=Rps.split h2
  obtain ⟨x,xs,rfl,h5,h6⟩:=h4
  refine h3.append ⟨x,xs,rfl,?_,h6⟩
  rw[show x=.slice none 0 0 from h5]
  exact ⟨[],rfl,none,0,rfl,Nat.le_refl _,fun _ e=>(by cases e),.inl ⟨rfl,fun _=>rfl⟩⟩
 | some o=>
  obtain ⟨hl,rest,h2⟩:=ho
  refine (h (st.set o .dead) (Fr.set rfl)).KL fun w0 β w vs h1 hv=>?_
  have hle:=C5 h1 h2 (rfl:aq.rw (.cells .rw (cs++rest))=true)
  refine ⟨β.Ba o w,h1.Ba h2 rfl,?_,hle⟩
  obtain ⟨u,v,rfl,h3,h4⟩:=Rps.split hv
  obtain ⟨x,xs,rfl,⟨b,hb,hcap,rfl⟩,h6⟩:=h4
  refine (h3.mono hle).append ⟨_,xs,rfl,?_,h6.mono hle⟩
  obtain ⟨us,r1,r2⟩:=Bb h1 h2 hb (k:=0) (n:=cs.length) (by simp)
  rw[List.drop_zero,List.take_left] at r1
  exact ⟨us,r1.mono hle,_,_,rfl,hcap,fun _ e=>(by cases e),.inr ⟨b.blk,b.base+0,rfl,r2⟩⟩
end Go.CP
namespace Go.Proofs.YtknegckgmklnhaaGreatDoor
open Go Go.CP
set_option maxRecDepth 100000
theorem mk1 {st:aa} {x v:LV} {q:Option LV} (hq:q=some (.agg [v])) (hv:v.one=true) {Q:LV→aa→Prop} (h:∀ s,Q (.agg [v]) s) :
  bd q fun v2=>bd2 (lmk (stV (st++[.cells .rw [x]]) 1 (.ptr st.length 0) v2)) fun _v st4=>bd (ldA st4 (.ptr st.length 0) 1) fun v5=>Q v5 st4:=by
 subst hq
 have e:=eA (st:=st++[aq.cells .rw [x]]) (o:=st.length) (k:=0) (m:=.rw) (l:=[x]) (vs:=[v]) (n:=1) au (by simp) (by simp[hv]) rfl
 simp only[ab]
 rw[e]
 simp only[az,ag]
 rw[ck (bx au) (by simp[bU])]
 exact h _
theorem yN:Pu Tryz.prog 69 [] (vT .unknown):=Pu.of (c69 (mk1 (st:=[]) (v:=.iface 169 (.agg [])) rfl rfl (Q:=fun v s=>dp s (vT .unknown) v) fun s=>bj s bO)) rfl bO
theorem N8 (b:Bool):Pu Tryz.prog 92 [.bool b] (vT (.bool b)):=Pu.of (c92 _ (mk1 (st:=[]) (v:=.iface 4 (.bool b)) rfl rfl (Q:=fun v s=>dp s (vT (.bool b)) v) fun s=>bj s bO)) rfl bO
theorem Mm (n:Int):Pu Tryz.prog 73 [i64 n] (vT (.int n)):=Pu.of (c73 _ (mk1 (st:=[]) (v:=.iface 3 (i64 n)) rfl rfl (Q:=fun v s=>dp s (vT (.int n)) v) fun s=>bj s bO)) rfl bO
theorem Ji (x:List UInt8):Pu Tryz.prog 91 [.str x] (vT (.text x)):=Pu.of (c91 _ (mk1 (st:=[]) (v:=.iface 9 (.str x)) rfl rfl (Q:=fun v s=>dp s (vT (.text x)) v) fun s=>bj s bO)) rfl bO
theorem C6 {n:Int} (h : -9007199254740992≤n∧n≤9007199254740992):Pu Tryz.prog 156 [i64 n] (.bool true):=by
 refine Pu.of (c156 _ ?_) rfl rfl
 have h1:n≥-9007199254740992:=h.1
 simp only[Iy,ae,cY,dF,ab,h1,h.2,decide_true,ah]
 exact rfl
theorem sP {a b:Int} (ha : -9007199254740992≤a∧a≤9007199254740992) (hb : -9007199254740992≤b∧b≤9007199254740992):Pu Tryz.prog 93 [i64 a,i64 b] (.tup [vT (.point a b),i64 0]):=by
 refine Pu.of (c93 _ _ ?_) rfl rfl
 simp only[w93,bQ]
 refine (C6 ha).call ?_
 simp only[aZ,ab,Bool.not_true,af]
 refine (C6 hb).call ?_
 have e1:DC .f64 (i64 a)=some (.flt .f64 (fb a)):=rfl
 have e2:DC .f64 (i64 b)=some (.flt .f64 (fb b)):=rfl
 have e3:BU (.flt .f64 (fb a)) (.flt .f64 (fb b))=some (.cplx .f64 (fb a) (fb b)):=rfl
 simp only[aZ,ab,Bool.not_true,af,e1,e2,e3]
 exact mk1 (st:=[]) (v:=.iface 170 (.cplx .f64 (fb a) (fb b))) rfl rfl (Q:=fun v s=>dp s (.tup [vT (.point a b),i64 0]) (.tup [v,i64 0])) fun s=>bj s (by simp[LV.plain,LV.aB])
theorem N9 {t:T}:(rT t).k=t.kind:=by cases t<;>rfl
theorem Oa {t:T}:(rT t).l=t.items.map rT:=by
 cases t<;>simp[rT,RV.l,T.items,A6,A8]
theorem Ob {t:T}:(rT t).ks=t.keys:=by cases t<;>rfl
theorem G5 {st:aa} {o:Nat} {x v:LV} (ho:st[o]?=some (.cells .rw [x])) (hv:v.one=true) {Q:LV→aa→Prop} (h:∀ s,Q (.agg [v]) s) :
  bd2 (lmk (stV st 1 (.ptr o 0) (.agg [v]))) fun _v st4=>bd (ldA st4 (.ptr o 0) 1) fun v5=>Q v5 st4:=by
 have e:=eA (k:=0) (vs:=[v]) (n:=1) ho (by simp) (by simp[hv]) rfl
 rw[e]
 simp only[az,ag]
 rw[ck (bx ho) (by simp[bU])]
 exact h _
theorem G6 {t:T} (ht:t.ok) (hb:t.items.length≤big) (hk:t.kind=6∨t.kind=7) (hrec:∀ x ∈ t.items,Pu Tryz.prog 29 [vR (rT x)] (vT x)) {R:LV→aa→Prop} {o1 o2:Nat} (h12:o1≠o2) {x0:LV} (hR:∀ s,R (vT t) s) :
  ∀ (d i:Nat) (f:Option Nat) (st:aa),i+d=t.items.length→dK st o1 (rT t)→st[o2]?=some (.cells .rw [x0])→bD .rw st f 1 i (eF (t.items.take i))→(∀ o,f=some o→o≠o1∧o≠o2)→
   yd (.ptr o1 0) (.ptr o2 0) (osl f 1 i) (i64 i) R st:=by
 intro d
 induction d with
 | zero=>
  intro i f st hi hbx h2 ho hf
  apply Kh
  have hl:=hbx.l
  rw[Oa] at hl
  have hks:=hbx.ks
  rw[Ob] at hks
  have hkk:=hbx.k
  rw[N9] at hkk
  have:¬ ((i:Int)<(t.items.map rT).length):=by simp;omega
  simp only[Ck,av,Nat.zero_add,ab,hl,bn,ae,aA,this,decide_false,af,hkk,aW,hks]
  rw[bN]
  refine ⟨fun h=>?_,fun h=>?_⟩
  ·have h6:t.kind=6:=by simpa using h
   obtain ⟨l,rfl⟩:∃ l,t=.list l:=by cases t<;>simp_all [T.kind]
   have hi':i=l.length:=by simp only[T.items] at hi;omega
   subst hi'
   simp only[T.items,List.take_length] at ho
   refine ax.Jh (ws:=[]) (bs:=[]) ho fun st' hF=>?_
   refine (I7 hb).call ?_
   exact G5 (hF.get h2 (fun e=>(hf _ e).2 rfl)) iT hR
  ·have h6:¬ t.kind=6:=by simpa using h
   obtain ⟨es,rfl⟩:∃ es,t=.map es:=by cases t<;>simp_all [T.kind]
   have hn:=cJ ht.2.2
   have hi':i=(es.map (·.2)).length:=by simp only[T.items] at hi;omega
   subst hi'
   simp only[T.items,List.take_length] at ho
   refine ax.Jh (ws:=[sI (T.map es).keys]) (bs:=[]) ho fun st' hF=>?_
   simp only[T.items,List.length_map] at hb
   refine (GJ hn hb).call ?_
   simp only[aw,List.getElem?_cons_zero,List.getElem?_cons_succ,ab,bQ,cI,az,ag,gR]
   exact G5 (bH (hF.get h2 (fun e=>(hf _ e).2 rfl))) iT hR
 | succ d ih=>
  intro i f st hi hbx h2 ho hf
  apply Kh
  have hl:=hbx.l
  rw[Oa] at hl
  have hlt:i<t.items.length:=by omega
  have hx:t.items[i]?=some t.items[i]:=List.getElem?_eq_getElem hlt
  have hp:=hrec _ (List.getElem_mem hlt)
  generalize t.items[i]=x at hx hp
  have hx':(t.items.map rT)[i]?=some (rT x):=by simp[hx]
  have e1:aR 7 (rL (t.items.map rT)) (i64 i)=some (.iptr (rcs (t.items.map rT)) (i*7)):=bW (by simpa using hlt)
  have c1:((i:Int)<(t.items.map rT).length):=by simp;omega
  simp only[Ck,av,Nat.zero_add,ab,hl,bn,ae,aA,c1,decide_true,ah,e1,lS hx']
  refine hp.call ?_
  have e2:ao (fun i=>some (i*1,1)) (List.replicate 1 [LV.nili]).flatten [(0,vT x)]=some [lvT x]:=rfl
  rw[e2]
  simp only[bw,ag]
  have ho1:=ho.fr (st':=st++[.cells .rw [lvT x]]) (S:=fun _=>False) Fr.app (fun _ _ h=>h)
  obtain ⟨st2,f2,g1,g2,g3,g4,-⟩:=ho1.append (x:=.sl st.length 0 1 (.ex 1)) (k:=1) (new:=[lvT x]) (bytes:=16) (wy rfl) (by omega) rfl (by simp[iT]) (cL (by unfold big at hb;omega) (by omega))
  rw[g1]
  simp only[ag,aH,ab,aI (show i<2 ^ 40 by unfold big at hb;omega)]
  have n1:=bM (show st[o1]?=_ from hbx)
  have n2:=bM h2
  refine ih (i+1) f2 st2 (by omega) (g3.get (bH hbx) (fun e=>(hf _ e).1 rfl)) (g3.get (bH h2) (fun e=>(hf _ e).2 rfl)) ?_ (fun o e=>?_)
  ·have e3:t.items.take (i+1)=t.items.take i++[x]:=by
    rw[List.take_add_one,hx];rfl
   rw[e3,yq];exact g2
  ·rcases g4 o e with h|h
   ·exact hf o h
   ·simp at h;omega
theorem C7:∀ (n:Nat) (t:T),SizeOf.sizeOf t<n→t.ok→Pu Tryz.prog 29 [vR (rT t)] (vT t)
 | 0,_,h,_=>by omega
 | n+1,t,hn,ht=>by
  have hrec:∀ x ∈ t.items,Pu Tryz.prog 29 [vR (rT x)] (vT x):=fun x hx=>C7 n x (by have:=T.fJ hx;omega) (T.fq ht x hx)
  refine Pu.of (c29 _ ?_) jy bO
  have hb:dK [aq.cells .rw (rc (rT t)),.cells .rw [.nili]] 0 (rT t):=rfl
  have hk:=hb.k
  rw[N9] at hk
  simp only[w29,lU,ag,bQ,av,Nat.zero_add,ab,List.nil_append,List.cons_append,List.length_nil,List.length_cons,hk]
  have fin:∀ {st:aa},st[1]?=some (.cells .rw [.nili])→bd2 (lmk (stV st 1 (.ptr 1 0) (vT t))) fun _v st4=>bd (ldA st4 (.ptr 1 0) 1) fun v5=>dp st4 (vT t) v5:=fun h=>G5 h iT (Q:=fun v s=>dp s (vT t) v) fun s=>bj s bO
  cases t<;>simp only[T.kind,ae,aW,ab]
  ·exact lg.call (fin rfl)
  ·exact yN.call (fin rfl)
  ·simp only[hb.b];exact (N8 _).call (fin rfl)
  ·simp only[hb.n];exact (Mm _).call (fin rfl)
  ·simp only[hb.n,hb.m]
   refine (sP ht.1 ht.2).call ?_
   simp only[aw,List.getElem?_cons_zero,List.getElem?_cons_succ,ab,cI,az,ag,gR]
   exact fin rfl
  ·simp only[hb.s];exact (Ji _).call (fin rfl)
  ·exact G6 (x0:=.nili) ht ht.1 (.inl rfl) hrec (by decide) (R:=fun v s=>dp s _ v) (fun s=>bj s bO) _ 0 none _ (Nat.zero_add _) hb rfl bD.nil (fun _ h=>by cases h)
  ·exact G6 (x0:=.nili) ht (by simpa[T.items] using ht.1) (.inr rfl) hrec (by decide) (R:=fun v s=>dp s _ v) (fun s=>bj s bO) _ 0 none _ (Nat.zero_add _) hb rfl bD.nil (fun _ h=>by cases h)
end Go.Proofs.YtknegckgmklnhaaGreatDoor
namespace Go.CP
theorem G7 {neg:Bool} {n:Nat}:Ieee.Toward.even.cut neg n 0=n:=by
 simp only[Ieee.Toward.cut,Nat.zero_min,Nat.shiftLeft_zero,Nat.div_one,Nat.mod_one]
 simp
theorem G8 {neg:Bool} {rung:Nat} (h1:2 ^ 52≤rung) (h2:rung<2047*2 ^ 52):Ieee.double.read (Ieee.double.word neg rung)=.number neg (2 ^ 52+rung % 2 ^ 52) (-1074+((rung / 2 ^ 52-1:Nat):Int)):=by
 have e1:Ieee.double.signWeight=2 ^ 63:=rfl
 have e2:Ieee.double.binade=2 ^ 52:=rfl
 have e3:Ieee.double.infRung=2047*2 ^ 52:=rfl
 have e4:Ieee.double.leastPlace = -1074:=rfl
 have hr:Ieee.double.word neg rung % 2 ^ 63=rung:=by
  cases neg
  ·show rung % 2 ^ 63=rung;omega
  ·show (Ieee.double.signWeight+rung) % 2 ^ 63=rung;rw[e1];omega
 have hs:(Ieee.double.word neg rung / 2 ^ 63 % 2==1)=neg:=by
  cases neg
  ·show (rung / 2 ^ 63 % 2==1)=false
   have:rung / 2 ^ 63=0:=by omega
   rw[this];rfl
  ·show ((Ieee.double.signWeight+rung) / 2 ^ 63 % 2==1)=true
   have:(Ieee.double.signWeight+rung) / 2 ^ 63=1:=by rw[e1];omega
   rw[this];rfl
 unfold Ieee.Format.read
 simp only[e1,e2,e3,e4,hr,hs]
 rw[if_neg (by omega),if_pos h2]
theorem Mn {neg:Bool}:Ieee.Toward.even.cut neg (9007199254740992 <<< 0) 1=4503599627370496:=by
 cases neg<;>rfl
theorem uj {x C K N a b c:Nat} (h1:K=N*2 ^ a) (h2:a+b=c) (hC:2 ^ c=C) (hx:2 ^ b=x):K*x=N*C:=by
 subst h1 hC hx
 rw[Nat.mul_assoc,← Nat.pow_add,h2]
theorem kept {neg:Bool} {N L:Nat} (hL1:2 ^ L≤N) (hL2:N<2 ^ (L+1)) (hN:N≤2 ^ 53) (hL53:L≤53) {C D:Nat} (hC:2 ^ 1074=C) (hD:2 ^ (L+1022)=D) :
  ∃ K,Ieee.Toward.even.cut neg (N <<< (0-((L:Int)-52)).toNat) (((L:Int)-52)-0).toNat=K∧2 ^ 52≤K∧K<2 ^ 53∧K*D=N*C:=by
 rcases Nat.lt_or_ge 52 L with k|k
 ·have hL:L=53:=by omega
  subst hL
  have hN53:N=9007199254740992:=by omega
  subst hN53
  refine ⟨4503599627370496,Mn,by omega,by omega,?_⟩
  have h1:(9007199254740992:Nat)=4503599627370496*2 ^ 1:=by omega
  exact (uj (K:=9007199254740992) (N:=4503599627370496) (a:=1) (b:=1074) (c:=53+1022) h1 (by omega) hD hC).symm
 ·have e6:(0-((L:Int)-52)).toNat=52-L:=by omega
  have e7:(((L:Int)-52)-0).toNat=0:=by omega
  rw[e6,e7,G7,Nat.shiftLeft_eq]
  have p1:2 ^ L*2 ^ (52-L)=2 ^ 52:=by rw[← Nat.pow_add,show L+(52-L)=52 by omega]
  have p2:2 ^ (L+1)*2 ^ (52-L)=2 ^ 53:=by rw[← Nat.pow_add,show L+1+(52-L)=53 by omega]
  refine ⟨_,rfl,?_,?_,uj rfl (by omega) hC hD⟩
  ·rw[← p1];exact Nat.mul_le_mul_right _ hL1
  ·rw[← p2];exact Nat.mul_lt_mul_of_pos_right hL2 (Nat.pow_pos (by omega))
theorem Oc {L K B:Nat} (hB:B=4503599627370496) (hL:L≤53) (h1:B≤K) (h2:K<2*B):B≤(L+1022)*B+K∧(L+1022)*B+K<2047*B∧B+((L+1022)*B+K) % B=K∧((L+1022)*B+K) / B-1=L+1022:=by
 subst hB
 refine ⟨by omega,by omega,by omega,by omega⟩
theorem Et {neg:Bool} {N L:Nat} (hpos:0<N) (hLL:N.log2=L) (hL53:L≤53) {K:Nat} (hK:Ieee.Toward.even.cut neg (N <<< (0-((L:Int)-52)).toNat) (((L:Int)-52)-0).toNat=K) (hK1:2 ^ 52≤K) (hK2:K<2 ^ 53) :
  Ieee.double.read (Ieee.double.nearest neg N 0)=.number neg K ((L:Int)-52):=by
 have e2:Ieee.double.binade=2 ^ 52:=rfl
 have e3:Ieee.double.infRung=2047*2 ^ 52:=rfl
 have e4:Ieee.double.leastPlace = -1074:=rfl
 have e5:((Ieee.double.fractionBits:Nat):Int)=52:=rfl
 have hlast:max ((0:Int)+(L:Nat)-52) (-1074)=(L:Int)-52:=by omega
 unfold Ieee.Format.nearest
 rw[if_neg (by omega)]
 simp only[hLL,e2,e3,e4,e5,hlast]
 rw[hK]
 have e8:((L:Int)-52 - -1074).toNat=L+1022:=by omega
 rw[e8]
 obtain ⟨r1,r2,r3,r4⟩:=Oc (L:=L) (K:=K) (B:=2 ^ 52) rfl hL53 hK1 hK2
 have hw:=G8 (neg:=neg) r1 r2
 rw[r3,r4] at hw
 rw[Nat.min_eq_left (Nat.le_of_lt r2),hw]
 have e12:(-1074+((L+1022:Nat):Int))=(L:Int)-52:=by omega
 rw[e12]
theorem uk {n:Int} (h:n.natAbs≤2 ^ 53) {C:Nat} (hC:2 ^ 1074=C):∃ (m:Nat) (i:Int),Ieee.double.read (FloatKind.f64.nearest n)=.number (decide (n<0)) m i∧-1074≤i∧m*2 ^ (i+1074).toNat=n.natAbs*C:=by
 show ∃ (m:Nat) (i:Int),Ieee.double.read (Ieee.double.nearest (decide (n<0)) n.natAbs 0)=_∧_
 generalize hneg:decide (n<0)=neg
 generalize hN:n.natAbs=N at h
 rcases Nat.eq_zero_or_pos N with h0|hpos
 ·subst h0
  have hn:neg=false:=by rw[← hneg];exact decide_eq_false (by omega)
  subst hn
  exact ⟨0,-1074,rfl,by omega,by simp⟩
 have hL1:2 ^ N.log2≤N:=Nat.log2_self_le (by omega)
 have hL2:N<2 ^ (N.log2+1):=Nat.lt_log2_self
 generalize hLL:N.log2=L at hL1 hL2
 have hL53:L≤53:=by
  rcases Nat.lt_or_ge 53 L with k|k
  ·have:2 ^ 54≤2 ^ L:=Nat.pow_le_pow_right (by omega) k
   omega
  ·exact k
 obtain ⟨K,hK,hK1,hK2,hKv⟩:=kept (neg:=neg) hL1 hL2 h hL53 hC rfl
 refine ⟨K,(L:Int)-52,Et hpos hLL hL53 hK hK1 hK2,by omega,?_⟩
 have e11:((L:Int)-52+1074).toNat=L+1022:=by omega
 rw[e11];exact hKv
theorem oc {n:Int} {m C:Nat} {i base:Int} (hb : -1074≤base) (hi:base≤i) (h:m*2 ^ (i+1074).toNat=n.natAbs*C) :
  Ieee.signed (decide (n<0)) m (i-base).toNat*((2 ^ (base+1074).toNat:Nat):Int)=n*(C:Int):=by
 have e:m*2 ^ (i-base).toNat*2 ^ (base+1074).toNat=n.natAbs*C:=by
  rw[Nat.mul_assoc,← Nat.pow_add,← h];congr 2;omega
 unfold Ieee.signed
 rw[Nat.shiftLeft_eq]
 by_cases hn:n<0
 ·rw[decide_eq_true hn,if_pos rfl,Int.neg_mul,← Int.natCast_mul,e,Int.natCast_mul]
  have:n = -(n.natAbs:Int):=by omega
  rw[show n*(C:Int) = -((n.natAbs:Int)*C) by rw[← Int.neg_mul,← this]]
 ·rw[decide_eq_false hn,if_neg (by simp),← Int.natCast_mul,e,Int.natCast_mul]
  have:n=(n.natAbs:Int):=by omega
  rw[← this]
theorem Jj (n:Nat):∃ C:Nat,2 ^ n=C∧0<C:=⟨_,rfl,Nat.pow_pos (by omega)⟩
theorem od {a b:Int} (ha:a.natAbs≤2 ^ 53) (hb:b.natAbs≤2 ^ 53):Op.floatEq .f64 (FloatKind.f64.nearest a) (FloatKind.f64.nearest b)=decide (a=b):=by
 obtain ⟨C,hC,hc⟩:=Jj 1074
 obtain ⟨m,i,r1,i1,v1⟩:=uk ha hC
 obtain ⟨m',j,r2,j1,v2⟩:=uk hb hC
 clear hC
 show (Ieee.double.order _ _==some .eq)=_
 unfold Ieee.Format.order
 rw[r1,r2]
 simp only[Ieee.Datum.order]
 have s1:=oc (n:=a) (base:=min i j) (by omega) (by omega) v1
 have s2:=oc (n:=b) (base:=min i j) (by omega) (by omega) v2
 have hp:(0:Int)<((2 ^ (min i j+1074).toNat:Nat):Int):=by
  have:0<2 ^ (min i j+1074).toNat:=Nat.pow_pos (by omega)
  omega
 generalize ((2 ^ (min i j+1074).toNat:Nat):Int)=D at s1 s2 hp
 generalize Ieee.signed (decide (a<0)) m (i-min i j).toNat=x at s1
 generalize Ieee.signed (decide (b<0)) m' (j-min i j).toNat=y at s2
 have key:x=y↔a=b:=by
  constructor
  ·intro e
   rw[e,s2] at s1
   exact (Int.eq_of_mul_eq_mul_right (by omega) s1).symm
  ·intro e
   rw[e,← s2] at s1
   exact Int.eq_of_mul_eq_mul_right (by omega) s1
 by_cases hxy:x=y
 ·rw[decide_eq_true (key.1 hxy),hxy,Int.compare_eq_eq.2 rfl];rfl
 ·rw[decide_eq_false fun e=>hxy (key.2 e)]
  have:compare x y≠.eq:=fun e=>hxy (Int.compare_eq_eq.1 e)
  cases hc:compare x y<;>simp_all<;>rfl
end Go.CP
