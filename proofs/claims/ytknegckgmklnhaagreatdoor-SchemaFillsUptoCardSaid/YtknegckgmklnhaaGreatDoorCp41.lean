/- The clean machine, part 41: arguments as values that name no object: what was there when a law began will never be written again. -/
import Derived.Test.YtknegckgmklnhaaGreatDoorCp33
namespace Go.CP
open Go.ChangeShapes Go.WideShapes Go.ChangeAt Go.RowKit
def fD (w:World):Lay:=⟨fun _=>none,fun b=>w.heap[b]?,w.heap.size⟩
section
variable {H:Type} {enc:TypeId × Value→H} {P:Program} {w0 w:World} {base:Nat} {sp:Nat→Bool} {held:Bool}
def b6 (P:Program):Nat→TypeId→List LV→DataW H→Prop
 | 0,_,_,_=>False
 | n+1,t,xs,d=>match P.underlying t with
  | some .bool=>∃ b,xs=[.bool b]
  | some (.int k)=>∃ m,xs=[.int k m]∧(Lit.int k m).wf=true
  | some .string=>∃ s:List UInt8,xs=[.str s]∧s.length≤maxLen∧d=.lit (.string s)
  | some (.slice e)=>∃ (rows:List (List LV)) (elems:List (DataW H)),xs=[.isl rows.flatten rows.length none]∧elems.length=rows.length∧(rows=[]∨∃ rest,d=.slice elems rest)∧
    ∀ (i:Nat) (r:List LV) (di:DataW H),rows[i]?=some r→elems[i]?=some di→r.length=P.cellsOf e∧b6 P n e r di
  | some (.struct fs)=>xs.length=P.cellsOf t∧∃ parts:List (DataW H),d=.agg parts∧parts.length=fs.size∧
    ∀ (i:Nat) (f:Field) (di:DataW H),fs[i]?=some f→parts[i]?=some di→b6 P n f.type ((xs.drop f.offset).take (P.cellsOf f.type)) di
  | _=>False
theorem pf {β:Lay} {cs:List Value} {Q:Field→List LV→Prop}:∀ {fs:List Field} {off fin:Nat},ve P off fs=some fin→cs.length=fin→
  (∀ f ∈ fs,∃ xs,Rps β xs ((cs.drop f.offset).take (P.cellsOf f.type))∧Q f xs)→(∀ f ∈ fs,f.offset+P.cellsOf f.type≤cs.length)→
  ∃ xs,Rps β xs (cs.drop off)∧∀ f ∈ fs,off≤f.offset∧Q f ((xs.drop (f.offset-off)).take (P.cellsOf f.type))
 | [],off,fin,ht,hl,_,_=>by
  simp only[ve,Option.some.injEq] at ht
  subst ht
  exact ⟨[],by rw[List.drop_eq_nil_of_le (by omega)];rfl,by simp⟩
 | f::fs,off,fin,ht,hl,hf,hb=>by
  simp only[ve] at ht
  split at ht
  ·rename_i e
   obtain ⟨x1,p1,t1⟩:=hf f (by simp)
   obtain ⟨x2,p2,t2⟩:=pf (β:=β) (cs:=cs) (Q:=Q) ht hl (fun f' h'=>hf f' (List.mem_cons_of_mem _ h')) (fun f' h'=>hb f' (List.mem_cons_of_mem _ h'))
   have hbf:=hb f (by simp)
   have hx1:x1.length=P.cellsOf f.type:=by
    have:=p1.length
    simp at this;omega
   refine ⟨x1++x2,?_,?_⟩
   ·have:=p1.append p2
    rw[e] at this
    have e3:(cs.drop off).take (P.cellsOf f.type)++cs.drop (off+P.cellsOf f.type)=cs.drop off:=by
     rw[← List.drop_drop];exact List.take_append_drop _ _
    rwa [e3] at this
   ·intro f' h'
    rcases List.mem_cons.1 h' with e' | h'
    ·subst e'
     refine ⟨by omega,?_⟩
     rw[e,Nat.sub_self,List.drop_zero,List.take_left' hx1]
     exact t1
    ·obtain ⟨g1,g2⟩:=t2 f' h'
     refine ⟨by omega,?_⟩
     rw[show f'.offset-off=P.cellsOf f.type+(f'.offset-(off+P.cellsOf f.type)) by omega,← List.drop_drop,List.drop_left' hx1]
     exact g2
  ·cases ht
theorem vi {α:Type} {c:Nat} (hc:0<c):∀ {ls:List (List α)} {q:Nat},(∀ l ∈ ls,l.length=c)→q<ls.length*c→∃ l,ls[q / c]?=some l∧ls.flatten[q]?=l[q % c]?
 | [],q,_,h=>by simp at h
 | l::ls,q,hl,hq=>by
  have h0:=hl l (by simp)
  rcases Nat.lt_or_ge q c with k|k
  ·refine ⟨l,by rw[Nat.div_eq_of_lt k];rfl,?_⟩
   rw[List.flatten_cons,List.getElem?_append_left (by omega),Nat.mod_eq_of_lt k]
  ·obtain ⟨l',g1,g2⟩:=vi hc (ls:=ls) (q:=q-c) (fun l h=>hl l (List.mem_cons_of_mem _ h)) (by
    simp only[List.length_cons,Nat.add_mul,Nat.one_mul] at hq;omega)
   have hd:q / c=(q-c) / c+1:=by rw[Nat.div_eq_sub_div hc k]
   have hmd:q % c=(q-c) % c:=Nat.mod_eq_sub_mod k
   refine ⟨l',by rw[hd];simpa using g1,?_⟩
   rw[List.flatten_cons,List.getElem?_append_right (by omega),h0,g2,hmd]
theorem mL {α:Type} {c:Nat}:∀ {ls:List (List α)},(∀ l ∈ ls,l.length=c)→ls.flatten.length=ls.length*c
 | [],_=>by simp
 | l::ls,hl=>by
  rw[List.flatten_cons,List.length_append,mL (ls:=ls) (fun l h=>hl l (List.mem_cons_of_mem _ h)),hl l (by simp),List.length_cons,Nat.add_mul,Nat.one_mul,Nat.add_comm]
theorem kR {S:List TypeId} (hS:S.all (okT P S)=true):∀ (fuel:Nat) {t:TypeId} {cs:List Value} {x:DataW H × List MemPlace},t ∈ S→DataW.trod enc P w base sp held fuel t cs=some x→
  ∃ xs,Rps (fD w) xs cs∧b6 P fuel t xs x.1
 | 0,t,cs,x,ht,h=>by simp[DataW.trod] at h
 | n+1,t,cs,x,ht,h=>by
  have hok:=List.all_eq_true.1 hS t ht
  unfold okT at hok
  split at hok
  ·rename_i hu
   obtain ⟨b,rfl,rfl⟩:=DataW.trod_bool hu h
   exact ⟨[.bool b],Rps.one rfl,by unfold b6;rw[hu];exact ⟨b,rfl⟩⟩
  ·rename_i k hu
   obtain ⟨m,rfl,rfl,hw⟩:=DataW.trod_int hu h
   exact ⟨[.int k m],Rps.one rfl,by unfold b6;rw[hu];exact ⟨m,rfl,hw⟩⟩
  ·rename_i hu
   obtain ⟨s,rfl,rfl,hs⟩:=DataW.trod_string hu h
   exact ⟨[.str s.data.toList],Rps.one rfl,by unfold b6;rw[hu];exact ⟨_,rfl,by simpa using hs,rfl⟩⟩
  ·rename_i e hu
   simp only[Bool.and_eq_true,decide_eq_true_eq,List.contains_iff_mem] at hok
   obtain ⟨heS,hc⟩:=hok
   rcases DataW.trod_slice hu h with ⟨rfl,rfl⟩ | ⟨a,len,cap,elems,rest,m,hm,rfl,rfl,hba,hlc,hcap,hel,hels,_⟩
   ·exact ⟨[.isl [] 0 none],Rps.one ⟨[],rfl,none,0,rfl,Nat.le_refl _,fun _ e=>(by cases e),.inl ⟨rfl,fun _=>rfl⟩⟩,by unfold b6;rw[hu];exact ⟨[],[],rfl,rfl,.inl rfl,fun i r di h=>(by simp at h)⟩⟩
   ·cases hm
    have each:∀ i,i<len→∃ ci y,elems[i]?=some y∧w.cells? base (a.add (i*P.cellsOf e)) (P.cellsOf e)=some ci∧DataW.trod enc P w base sp held n e ci=some y:=by
     intro i hi
     have h1:=hels i hi
     have h2:∃ y,elems[i]?=some y:=⟨elems[i]'(by omega),List.getElem?_eq_getElem (by omega)⟩
     obtain ⟨y,hy⟩:=h2
     rw[hy] at h1
     obtain ⟨ci,h3,h4⟩:=Option.bind_eq_some_iff.1 h1
     exact ⟨ci,y,hy,h3,h4⟩
    have rowsN:∀ k,k≤len→∃ (rows:List (List LV)) (vss:List (List Value)),rows.length=k∧vss.length=k∧
      (∀ (i:Nat) (r:List LV) (v:List Value),rows[i]?=some r→vss[i]?=some v→Rps (fD w) r v)∧(∀ (i:Nat) (v:List Value),vss[i]?=some v→w.cells? base (a.add (i*P.cellsOf e)) (P.cellsOf e)=some v)∧
      ∀ (i:Nat) (r:List LV),rows[i]?=some r→r.length=P.cellsOf e∧∃ y,elems[i]?=some y∧b6 P n e r y.1:=by
     intro k
     induction k with
     | zero=>exact fun _=>⟨[],[],rfl,rfl,by simp,by simp,by simp⟩
     | succ k ih=>
      intro hk
      obtain ⟨rows,vss,n1,n2,p1,c1,t1⟩:=ih (by omega)
      obtain ⟨ci,y,hy,g1,g2⟩:=each k (by omega)
      obtain ⟨xs,p2,t2⟩:=kR hS n heS g2
      have get:∀ {α:Type} {l:List α} {z u:α} {i:Nat},l.length=k→(l++[z])[i]?=some u→(i<k∧l[i]?=some u)∨(i=k∧u=z):=by
       intro α l z u i hl hi
       rcases Nat.lt_trichotomy i k with q|q|q
       ·rw[List.getElem?_append_left (by omega)] at hi;exact .inl ⟨q,hi⟩
       ·subst q;rw[← hl] at hi;simp at hi;exact .inr ⟨rfl,hi.symm⟩
       ·rw[List.getElem?_eq_none (by simp;omega)] at hi;cases hi
      refine ⟨rows++[xs],vss++[ci],by simp[n1],by simp[n2],?_,?_,?_⟩
      ·intro i r v h1 h2
       rcases get n1 h1 with ⟨q,h1⟩ | ⟨q,rfl⟩
       ·rcases get n2 h2 with ⟨_,h2⟩ | ⟨q2,_⟩
        ·exact p1 i r v h1 h2
        ·omega
       ·rcases get n2 h2 with ⟨q2,_⟩ | ⟨_,rfl⟩
        ·omega
        ·exact p2
      ·intro i v h2
       rcases get n2 h2 with ⟨q,h2⟩ | ⟨rfl,rfl⟩
       ·exact c1 i v h2
       ·exact g1
      ·intro i r h1
       rcases get n1 h1 with ⟨q,h1⟩ | ⟨rfl,rfl⟩
       ·exact t1 i r h1
       ·refine ⟨?_,y,hy,t2⟩
        have:=p2.length
        have:=(World.cells?_some g1).2.1
        omega
    obtain ⟨rows,vss,n1,n2,p1,c1,t1⟩:=rowsN len (Nat.le_refl _)
    have hlenr:∀ r ∈ rows,r.length=P.cellsOf e:=fun r hr=>by
     obtain ⟨i,hi⟩:=List.getElem?_of_mem hr
     exact (t1 i r hi).1
    have hlenv:∀ v ∈ vss,v.length=P.cellsOf e:=by
     intro v hv
     obtain ⟨i,hi⟩:=List.getElem?_of_mem hv
     exact (World.cells?_some (c1 i v hi)).2.1
    have hall:=Rps.flatten (β:=fD w) (by rw[n1,n2]) p1
    refine ⟨[.isl rows.flatten rows.length none],Rps.one ⟨vss.flatten,hall,some a,cap,by rw[n1],by omega,fun k hk=>(by cases hk),?_⟩,?_⟩
    ·rcases Nat.eq_zero_or_pos len with h0|hpos
     ·exact .inl ⟨by omega,fun e=>by cases e⟩
     refine .inr ?_
     have cellAt:∀ i j,i<len→j<P.cellsOf e→∃ v u,vss[i]?=some v∧v[j]?=some u∧w.cell? ((a.add (i*P.cellsOf e)).add j)=some u:=by
      intro i j hi hj
      have hv:vss[i]?=some (vss[i]'(by omega)):=List.getElem?_eq_getElem (by omega)
      obtain ⟨_,g2,g3⟩:=World.cells?_some (c1 i _ hv)
      have hu:(vss[i]'(by omega))[j]?=some ((vss[i]'(by omega))[j]'(by omega)):=List.getElem?_eq_getElem (by omega)
      exact ⟨_,_,hv,hu,by rw[g3 j hj];exact hu⟩
     obtain ⟨v0,u0,_,_,hc0⟩:=cellAt 0 0 hpos hc
     have hspot:a.spot=none:=by
      simp only[Nat.zero_mul,Addr.add,if_true] at hc0
      unfold World.cell? at hc0
      split at hc0
      ·split at hc0
       ·cases hc0
       ·rename_i hs;simpa using hs
      ·cases hc0
     obtain ⟨c,ty,fz,hheap⟩:∃ c ty fz,w.heap[a.block]?=some (.cells c ty fz):=by
      simp only[Nat.zero_mul,Addr.add,if_true] at hc0
      unfold World.cell? at hc0
      split at hc0
      ·rename_i c ty fz hh;exact ⟨c,ty,fz,hh⟩
      ·cases hc0
     have cellC:∀ i j,i<len→j<P.cellsOf e→∃ v u,vss[i]?=some v∧v[j]?=some u∧c[a.off+(i*P.cellsOf e+j)]?=some u:=by
      intro i j hi hj
      obtain ⟨v,u,g1,g2,g3⟩:=cellAt i j hi hj
      refine ⟨v,u,g1,g2,?_⟩
      have hblk:((a.add (i*P.cellsOf e)).add j).block=a.block:=by
       unfold Addr.add;split<;>split<;>rfl
      have hoff:((a.add (i*P.cellsOf e)).add j).off=a.off+(i*P.cellsOf e+j):=by
       unfold Addr.add
       split<;>split<;>simp_all<;>omega
      unfold World.cell? at g3
      rw[hblk,hheap] at g3
      simp only at g3
      split at g3
      ·cases g3
      ·rw[hoff] at g3;exact g3
     refine ⟨a.block,a.off,by rw[← hspot],c,ty,fz,hheap,?_,?_⟩
     ·rw[mL hlenv,n2]
      obtain ⟨v,u,_,_,g⟩:=cellC (len-1) (P.cellsOf e-1) (by omega) (by omega)
      have:=(Array.getElem?_eq_some_iff.1 g).1
      have e1:len*P.cellsOf e=(len-1)*P.cellsOf e+P.cellsOf e:=by
       rw[← Nat.succ_mul];congr 1;omega
      omega
     ·intro q u hu
      have hq:q<vss.length*P.cellsOf e:=by
       rw[← mL hlenv];exact (List.getElem?_eq_some_iff.1 hu).1
      obtain ⟨l,g1,g2⟩:=vi hc hlenv hq
      have hi:q / P.cellsOf e<len:=by rw[Nat.div_lt_iff_lt_mul hc];rw[← n2];exact hq
      obtain ⟨v',u',k1,k2,k3⟩:=cellC (q / P.cellsOf e) (q % P.cellsOf e) hi (Nat.mod_lt _ hc)
      rw[g1] at k1;cases k1
      rw[g2,k2] at hu;cases hu
      rw[← k3]
      congr 2
      rw[Nat.mul_comm];exact (Nat.div_add_mod q (P.cellsOf e)).symm
    ·unfold b6
     rw[hu]
     refine ⟨rows,elems.map (·.1),rfl,by simp[hel,n1],.inr ⟨_,rfl⟩,fun i r di h1 h2=>?_⟩
     obtain ⟨h3,y,h4,h5⟩:=t1 i r h1
     rw[List.getElem?_map,h4] at h2
     cases h2
     exact ⟨h3,h5⟩
  ·rename_i fs hu
   simp only[Bool.and_eq_true,List.all_eq_true,List.contains_iff_mem,beq_iff_eq] at hok
   obtain ⟨hf,htile⟩:=hok
   obtain ⟨xs,m,hm,rfl,hl,hxl,hxs⟩:=DataW.trod_struct hu h
   cases hm
   have hb:=(yM htile).2
   obtain ⟨ys,p1,t1⟩:=pf (β:=fD w) (Q:=fun f ys=>∀ (i:Nat) (y:DataW H × List MemPlace),fs[i]?=some f→xs[i]?=some y→b6 P n f.type ys y.1) htile hl (fun f hfm=>by
    obtain ⟨i,hi,e'⟩:=List.getElem_of_mem hfm
    have hi':fs[i]?=some f:=by
     have:i<fs.size:=by simpa using hi
     rw[Array.getElem?_eq_getElem this]
     have:fs.toList[i]=fs[i]:=by simp
     rw[← this,e']
    have h1:=hxs i f hi'
    have h2:xs[i]?=some (xs[i]'(by rw[hxl];simpa using hi)):=List.getElem?_eq_getElem _
    rw[h2] at h1
    obtain ⟨zs,q1,q2⟩:=kR hS n (hf f hfm) h1
    refine ⟨zs,q1,fun j y hj hy=>?_⟩
    obtain ⟨zs',q1',q2'⟩:=kR hS n (hf f hfm) (by rw[hxs j f hj,hy]:DataW.trod enc P w base sp held n f.type _=some y)
    have e2:xs[j]?=xs[i]?:=by rw[← hxs j f hj,← hxs i f hi']
    rw[hy,h2] at e2
    cases e2
    exact q2) (fun f hfm=>by rw[hl];exact hb f hfm)
   refine ⟨ys,by simpa using p1,?_⟩
   unfold b6
   rw[hu]
   refine ⟨?_,xs.map (·.1),rfl,by simp[hxl],fun i f di hi hdi=>?_⟩
   ·have:=p1.length
    simp at this
    omega
   ·rw[List.getElem?_map] at hdi
    obtain ⟨y,hy,rfl⟩:=Option.map_eq_some_iff.1 hdi
    have:=(t1 f (Array.mem_toList_iff.2 (Array.mem_of_getElem? hi))).2 i y hi hy
    simpa using this
  ·cases hok
end
end Go.CP
namespace Go.CP
open Go.RowKit Go.Maps Go.Sort Go.Shelf Go.MapKept Go.WideElems
section
variable {w0 w:World} {β:Lay} {st:aa} {P:Program} {K:TypeId}
theorem Rel.GH {x:av} {b:Bl} (h:Rel w0 β st w) (hrw:x.rw=false) (hf:∀ o y b',st[o]?=some y→y.rw=true→β o=some b'→b'.blk≠b.blk)
  (hx:OR w0.heap.size (β.put st.length b) w st.length x):Rel w0 (β.put st.length b) (st++[x]) w:=by
 have hle:β.le (β.put st.length b):=Lay.cN (h.dom _ (Nat.le_refl _))
 have get:∀ {i:Nat} {z:av},(st++[x])[i]?=some z→i<st.length∧st[i]?=some z∨i=st.length∧z=x:=by
  intro i z hz
  rcases Nat.lt_trichotomy i st.length with k|k|k
  ·rw[List.getElem?_append_left k] at hz;exact .inl ⟨k,hz⟩
  ·subst k;simp at hz;exact .inr ⟨rfl,hz.symm⟩
  ·rw[List.getElem?_eq_none (by simp;omega)] at hz;cases hz
 refine ⟨h.below,?_,?_,?_,h.base,h.froz,?_⟩
 ·intro o ho
  simp at ho
  rw[Lay.dT (by omega)];exact h.dom o (by omega)
 ·intro o y hy
  rcases get hy with ⟨k,g⟩ | ⟨rfl,rfl⟩
  ·exact (h.obj o y g).mono hle
  ·exact hx
 ·intro o o' y y' b1 b2 hy hyr hy' hyl hne h1 h2
  rcases get hy with ⟨k,g⟩ | ⟨rfl,rfl⟩
  ·rw[Lay.dT (by omega)] at h1
   rcases get hy' with ⟨k',g'⟩ | ⟨rfl,rfl⟩
   ·rw[Lay.dT (by omega)] at h2
    exact h.sep o o' y y' b1 b2 g hyr g' hyl hne h1 h2
   ·rw[Lay.bG] at h2;cases h2
    exact hf o y b1 g hyr h1
  ·rw[hrw] at hyr;cases hyr
 ·intro o y b1 hy hyr h1
  rcases get hy with ⟨k,g⟩ | ⟨rfl,rfl⟩
  ·rw[Lay.dT (by omega)] at h1
   exact h.sepf o y b1 g hyr h1
  ·rw[hrw] at hyr;cases hyr
theorem Rel.Hb {ks vs:List LV} {v:Value} (h:Rel w0 β st w) (hv:Rp β (.imap ks vs) v) (hl:ks.length=vs.length) :
  ∃ (es:List (LV × LV)) (bs:List Nat) (n b:Nat),es.Perm (ks.zip vs)∧v=.map (some b)∧Rel w0 (β.put st.length ⟨b,0,0⟩) (st++[.map .ro es bs n]) w:=by
 obtain ⟨b,us,ws,rfl,r1,r2,hF⟩:=hv
 obtain ⟨es,clk,es',h1,h2,h3,h4⟩:=hF.entries r1 r2 hl
 have hh:=h.froz _ _ h1
 have hle:β.le (β.put st.length ⟨b,0,0⟩):=Lay.cN (h.dom _ (Nat.le_refl _))
 refine ⟨es',es.toList.map (·.born),clk,b,h3,rfl,h.GH rfl ?_ ?_⟩
 ·intro o y b' hy hyr hb' e
  have:=h.sepf o y b' hy hyr hb'
  rw[e] at this
  rw[this] at h1;cases h1
 ·exact ⟨_,Lay.bG,es,hh,h4.mono hle,(fun k=>by cases k),h2,rfl⟩
theorem pg:∀ {es:List (LV × LV)} {ss:List (List UInt8)},es.map (·.1)=ss.map .str→iA es=some ss
 | [],ss,h=>by cases ss<;>simp_all [iA]
 | e::es,ss,h=>by
  cases ss with
  | nil=>simp at h
  | cons a ss=>
   obtain ⟨k,v⟩:=e
   simp only[List.map_cons,List.cons.injEq] at h
   obtain ⟨rfl,h⟩:=h
   simp[iA,pg h]
theorem xv {a g:FuncId} {M:TypeId} {ks vs:List LV} {R:LV→aa→Prop} (hc:cw P a)
  (hk:∀ (mb:Option Nat) (w:World),Calls P a #[.map mb] w fun e w'=>e=.returned (.func (.func g) #[] #[.pointer (some ⟨w.heap.size,0,none⟩)])∧w'=w.alloc (.cells #[.map mb] M))
  (hR:R (.fn (.func g) [] [.ptr st.length 0]) (st++[.cells (.bt M) [.imap ks vs]])):aw P a [.imap ks vs] st R:=by
 refine .inl ⟨hc,fun w0 β w vs h1 h2=>?_⟩
 obtain ⟨v,us,rfl,hv,hus⟩:=h2
 simp only[Rps] at hus;subst hus
 have hv0:=hv
 obtain ⟨b,_,_,rfl,_⟩:=hv
 refine (hk (some b) w).mono ?_
 rintro e w' ⟨rfl,rfl⟩
 have hle:β.le (β.put st.length ⟨w.heap.size,0,1⟩):=Lay.cN (h1.dom _ (Nat.le_refl _))
 refine ⟨_,_,_,_,hR,rfl,⟨[],[_],rfl,rfl,_,_,rfl,⟨_,Lay.bG,rfl⟩,rfl⟩,(h1.grow _).push (b:=⟨w.heap.size,0,1⟩) ?_ ?_ fun _=>h1.fresh,hle⟩
 ·intro o y b' hy hl hb'
  obtain ⟨b'',hb'',hlt⟩:=(h1.obj o y hy).live hl
  rw[hb'] at hb'';cases hb''
  show b'.blk≠w.heap.size
  omega
 ·refine ⟨_,Lay.bG,#[.map (some b)],M,(0,0),by simp[eB],by simp,by simp,?_,?_⟩
  ·intro i y hy
   cases i with
   | zero=>simp at hy;subst hy;exact ⟨_,rfl,hv0.mono hle⟩
   | succ i=>simp at hy
  ·refine ⟨fun _=>⟨h1.below.size,fun j _=>by omega⟩,?_,?_⟩
   ·rintro t ⟨⟩;exact ⟨rfl,rfl⟩
   ·rintro _ _ ⟨⟩
theorem tw {c g:FuncId} {M:TypeId} {R:LV→aa→Prop} (hK:P.underlying K=some .string) (hc:cw P c)
  (hsort:∀ (lb:Array Value) (S:List (List UInt8)→Prop) (N:Nat) (w:World),N≤maxLen→N*16≤140737488355328→SeqGives Fence.wide 2 P g lb Go.Proofs.encStr S N w→
   Calls P c #[.func (.func g) #[] lb] w fun e w'=>∃ (v:Value) (ss:List (List UInt8)),e=.returned v∧S ss∧
    w'.ownsRow w.heap.size K 1 v ss.length ((ss.mergeSort (fun x y=>decide (x≤y))).map Go.Proofs.encStr)∧(v=.slice none 0 0↔ss=[])∧Below w.heap.size w w')
  (hgives:∀ (Bm b nn:Nat) (D0:DataW Unit) (w:World),Bm<w.heap.size→w.cell? ⟨Bm,0,none⟩=some (.map (some b))→w.ownsMap P K zY b nn D0→
   SeqGives Fence.wide 2 P g #[.pointer (some ⟨Bm,0,none⟩)] Go.Proofs.encStr (fun ss=>ss.Perm (strKeys D0)) (Maps.size D0) w)
  {o:Nat} {vs:List LV} {ks:List (List UInt8)} (ho:st[o]?=some (.cells (.bt M) [.imap (ks.map .str) vs])) (hl:ks.length=vs.length) (hnd:ks.Nodup)
  (hlen:∀ s ∈ ks,s.length≤maxLen) (hn:ks.length≤maxLen) (hn':ks.length*16≤140737488355328)
  (hR0:ks=[]→R .nils st) (hR1:ks≠[]→R (.sl st.length 0 ks.length (.rest 1)) (st++[.cells .rw ((ks.mergeSort leB).map .str)])):aw P c [.fn (.func g) [] [.ptr o 0]] st R:=by
 refine .inl ⟨hc,fun w0 β w vs h1 h2=>?_⟩
 obtain ⟨v,us,rfl,hv,hus⟩:=h2
 simp only[Rps] at hus;subst hus
 obtain ⟨fs,cs,rfl,hfs,hcs⟩:=hv
 simp only[Rps] at hfs;subst hfs
 obtain ⟨pv,us',rfl,⟨b,hb,rfl⟩,hus'⟩:=hcs
 simp only[Rps] at hus';subst hus'
 obtain ⟨b2,hb2,cc,e,fz,hh,_,_,hcell,hmd⟩:=h1.obj o _ ho
 rw[hb] at hb2;cases hb2
 have hbase:b.base=0:=(hmd.2.1 M rfl).2
 obtain ⟨u,hu,hru⟩:=hcell 0 _ rfl
 obtain ⟨es,bs,n,bm,hep,rfl,hrel⟩:=h1.Hb hru (by simpa using hl)
 rw[hbase] at hu ⊢
 have hlt:b.blk<w.heap.size:=by rcases Nat.lt_or_ge b.blk w.heap.size with k|k;exact k;simp[Array.getElem?_eq_none k] at hh
 have hfst:(es.map (·.1)).Perm (ks.map .str):=by
  have h0:=hep.map (·.1)
  have hz:((ks.map LV.str).zip vs).map (·.1)=ks.map .str:=List.map_fst_zip (by simp[hl])
  rwa [hz] at h0
 obtain ⟨ks',hkp,hke⟩:=nR (f:=LV.str) hfst rfl
 obtain ⟨D0,hown,hperm,hsz⟩:=hrel.yO hK (o:=st.length) (b:=⟨bm,0,0⟩) au Lay.bG (pg hke.symm) (hkp.nodup_iff.2 hnd) (fun s hs=>hlen s (hkp.mem_iff.1 hs)) (by rw[hkp.length_eq];exact hn)
 have hg:=hgives b.blk bm ks'.length D0 w hlt (by simp only[World.cell?,hh];exact hu) hown
 refine (hsort _ _ _ w (by rw[hsz,hkp.length_eq];exact hn) (by rw[hsz,hkp.length_eq];exact hn') hg).mono ?_
 rintro e' w' ⟨r,ss,rfl,hss,hrow,hnil,hbel⟩
 have hbw:Bw w.heap.size w w':=⟨hbel⟩
 have hpk:ss.Perm ks:=(hss.trans hperm).trans hkp
 rcases Nat.eq_zero_or_pos ks.length with hz|hz
 ·have hk0:ks=[]:=List.eq_nil_of_length_eq_zero hz
  subst hk0
  have:ss=[]:=List.eq_nil_of_length_eq_zero (by rw[hpk.length_eq];rfl)
  exact ⟨β,.nils,st,_,hR0 rfl,rfl,hnil.2 this,h1.eC hbw,Lay.le.refl _⟩
 ·have hk1:ks≠[]:=by rintro rfl;simp at hz
  have hs1:ss≠[]:=by rintro rfl;have:=hpk.length_eq;simp at this;omega
  rcases hrow.2 with ⟨rfl,_⟩ | ⟨gb,cap,cur,rfl,hgb,hgh,hc1,hc2,hc3,hc4⟩
  ·exact absurd (hnil.1 rfl) hs1
  have hle:β.le (β.put st.length ⟨gb,0,cap⟩):=Lay.cN (h1.dom _ (Nat.le_refl _))
  have hms:ss.mergeSort leB=ks.mergeSort leB:=mergeSort_of_perm hpk
  have hl:ss.length=ks.length:=hpk.length_eq
  rw[Nat.mul_one] at hc3 hc4
  refine ⟨_,_,_,_,hR1 hk1,rfl,⟨⟨gb,0,cap⟩,Lay.bG,?_,?_⟩,(h1.eC hbw).push (b:=⟨gb,0,cap⟩) ?_ ?_ fun _=>h1.yL (by show w.heap.size≤gb;omega),hle⟩
  ·show ks.length≤(cap-0) / 1
   rw[Nat.div_one];omega
  ·show Value.slice _ _ _=Value.slice _ _ ((cap-0) / 1)
   rw[Nat.div_one,hl];rfl
  ·intro o y b' hy hl hb'
   obtain ⟨b'',hb'',hlt⟩:=(h1.obj o y hy).live hl
   rw[hb'] at hb'';cases hb''
   show b'.blk≠gb
   omega
  ·refine ⟨_,Lay.bG,cur,K,(0,0),hgh,by rw[hc3];simp,by simp only[List.length_map,List.length_mergeSort];omega,?_,?_⟩
   ·intro i y hy
    rw[List.getElem?_map] at hy
    obtain ⟨s,hs,rfl⟩:=Option.map_eq_some_iff.1 hy
    refine ⟨.string ⟨⟨s⟩⟩,?_,rfl⟩
    have hi:i<ss.length:=by
     have:=(List.getElem?_eq_some_iff.1 hs).1
     rw[List.length_mergeSort] at this;omega
    have e1:(cur.toList.take ss.length)[i]?=some (Go.Proofs.encStr s):=by
     rw[hc4,List.getElem?_map]
     show Option.map _ ((ss.mergeSort leB)[i]?)=_
     rw[hms,hs];rfl
    rw[List.getElem?_take_of_lt hi] at e1
    show cur[0+i]?=_
    rw[Nat.zero_add,← Array.getElem?_toList,e1]
   ·exact ⟨fun _=>⟨Nat.le_trans h1.below.size hgb,fun j _=>by omega⟩,(by rintro t ⟨⟩),(by rintro _ _ ⟨⟩)⟩
theorem qD {c g:FuncId} {M:TypeId} {R:LV→aa→Prop} (hc:cw P c)
  (hsort:∀ (lb:Array Value) (S:List (List UInt8)→Prop) (N:Nat) (w:World),N≤maxLen→N*16≤140737488355328→SeqGives Fence.wide 2 P g lb Go.Proofs.encStr S N w→
   Calls P c #[.func (.func g) #[] lb] w fun e w'=>∃ (v:Value) (ss:List (List UInt8)),e=.returned v∧S ss∧
    w'.ownsRow w.heap.size K 1 v ss.length ((ss.mergeSort (fun x y=>decide (x≤y))).map Go.Proofs.encStr)∧(v=.slice none 0 0↔ss=[])∧Below w.heap.size w w')
  (hgives:∀ (Bm:Nat) (w:World),Bm<w.heap.size→w.cell? ⟨Bm,0,none⟩=some (.map none)→SeqGives Fence.wide 2 P g #[.pointer (some ⟨Bm,0,none⟩)] Go.Proofs.encStr (fun ss=>ss=[]) 0 w)
  {o:Nat} (ho:st[o]?=some (.cells (.bt M) [.nilm])) (hR0:R .nils st):aw P c [.fn (.func g) [] [.ptr o 0]] st R:=by
 refine .inl ⟨hc,fun w0 β w vs h1 h2=>?_⟩
 obtain ⟨v,us,rfl,hv,hus⟩:=h2
 simp only[Rps] at hus;subst hus
 obtain ⟨fs,cs,rfl,hfs,hcs⟩:=hv
 simp only[Rps] at hfs;subst hfs
 obtain ⟨pv,us',rfl,⟨b,hb,rfl⟩,hus'⟩:=hcs
 simp only[Rps] at hus';subst hus'
 obtain ⟨b2,hb2,cc,e,fz,hh,_,_,hcell,hmd⟩:=h1.obj o _ ho
 rw[hb] at hb2;cases hb2
 have hbase:b.base=0:=(hmd.2.1 M rfl).2
 obtain ⟨u,hu,hru⟩:=hcell 0 _ rfl
 simp only[Rp] at hru;subst hru
 rw[hbase] at hu ⊢
 have hlt:b.blk<w.heap.size:=by rcases Nat.lt_or_ge b.blk w.heap.size with k|k;exact k;simp[Array.getElem?_eq_none k] at hh
 have hg:=hgives b.blk w hlt (by simp only[World.cell?,hh];exact hu)
 refine (hsort _ _ _ w (Nat.zero_le _) (by omega) hg).mono ?_
 rintro e' w' ⟨r,ss,rfl,hss,hrow,hnil,hbel⟩
 subst hss
 exact ⟨β,.nils,st,_,hR0,rfl,hnil.2 rfl,h1.eC ⟨hbel⟩,Lay.le.refl _⟩
end
end Go.CP
namespace Go.CP
structure Pu (P:Program) (f:FuncId) (xs:List LV) (v:LV):Prop where
 call:∀ {st:aa} {R:LV→aa→Prop},R v st→aw P f xs st R
theorem Pu.of {P:Program} {f:FuncId} {xs:List LV} {v:LV} (h:aw P f xs [] fun r s=>dp s v r) (hx:LV.aB xs=true) (hv:v.plain=true):Pu P f xs v:=
 ⟨fun hR=>aw.deep h hx hv hR⟩
theorem bA {α:Type} {f:α→LV}:∀ {l:List α},(∀ a ∈ l,(f a).plain=true)→LV.aB (l.map f)=true
 | [],_=>rfl
 | a::l,h=>by simp only[List.map_cons,LV.aB,h a (by simp),bA (l:=l) fun b hb=>h b (by simp[hb]),Bool.true_and]
theorem cP:∀ {a b:List LV},LV.aB (a++b)=(LV.aB a&&LV.aB b)
 | [],b=>by simp[LV.aB]
 | x::a,b=>by simp only[List.cons_append,LV.aB,cP (a:=a),Bool.and_assoc]
theorem lW:∀ {a:List LV},LV.aB a=true→∀ x ∈ a,x.plain=true
 | y::a,h,x,hx=>by
  simp only[LV.aB,Bool.and_eq_true] at h
  rcases List.mem_cons.1 hx with rfl|hx
  ·exact h.1
  ·exact lW h.2 x hx
theorem yP {st:aa}:∀ {a b:List LV},dps st a b→b.length=a.length
 | [],b,h=>by simp only[dps] at h;subst h;rfl
 | x::a,b,h=>by obtain ⟨r,rs,rfl,_,h⟩:=h;simp[yP h]
theorem yQ {st:aa}:∀ {a b c d:List LV},dps st a c→dps st b d→dps st (a++b) (c++d)
 | [],_,c,_,h,k=>by simp only[dps] at h;subst h;exact k
 | _::_,_,_,_,h,k=>by obtain ⟨r,rs,rfl,h1,h2⟩:=h;exact ⟨r,rs++_,by simp,h1,yQ h2 k⟩
theorem dM {st:aa} {f:Option Nat} {sz n:Nat} {cs cs':List LV} {m0:Md} (h:bD m0 st f sz n cs) (hm:m0.w=true) (hd:dps st cs' cs):dp st (.isl cs' n none) (osl f sz n):=by
 obtain ⟨hl,h⟩:=h
 have hl':=yP hd
 cases f with
 | none=>
  simp only at h;subst h
  refine .inr (.inr ⟨.inr rfl,rfl,?_⟩)
  exact List.eq_nil_of_length_eq_zero (by omega)
 | some o=>
  obtain ⟨rest,ho⟩:=h
  refine .inl ⟨o,0,.rest sz,_,_,rfl,ho,hm,by simp;omega,?_⟩
  have:((cs++rest).drop 0).take cs'.length=cs:=by rw[← hl'];simp
  rw[this];exact hd
theorem ca {sz len:Nat} {cs:List LV} {cap:Option Nat} {k:IntKind} {i:Nat} (h:i<len):aW sz (.isl cs len cap) (.int k (i:Int))=some (.iptr cs (i*sz)):=by
 show (if 0≤(i:Int)∧(i:Int)<len then some (LV.iptr cs ((i:Int).toNat*sz)) else none)=_
 rw[if_pos ⟨by omega,by omega⟩]
 simp
@[simp] theorem bB {st:aa} {cs:List LV} {k:Nat}:ld1 st (.iptr cs k)=cs[k]?:=rfl
@[simp] theorem bh {cs:List LV} {n:Nat} {c:Option Nat}:bq (.isl cs n c)=some (.int .i64 n):=rfl
@[simp] theorem bH {cs:List LV} {k:Nat}:ah (.iptr cs k)=some (.iptr cs k):=rfl
@[simp] theorem bR {cs:List LV} {k d:Nat}:ad d (.iptr cs k)=some (.iptr cs (k+d)):=rfl
@[simp] theorem gO {b:Bool} {cs:List LV} {k:Nat}:eN b (.iptr cs k) .nilp=some false:=rfl
@[simp] theorem GI {b:Bool} {cs:List LV} {k:Nat}:eN b .nilp (.iptr cs k)=some false:=rfl
theorem fS {st:aa} {cs:List LV} {k n:Nat} (h:k+n≤cs.length):ldA st (.iptr cs k) n=some (.agg ((cs.drop k).take n)):=if_pos h
theorem vk {st:aa} {cs:List LV} {n sz:Nat} {c:Option Nat} (h:cs.length=n*sz):dC st sz (.isl cs n c)=some (n,cs):=if_pos h
theorem aw.GJ {P:Program} {f:FuncId} {cs:List LV} {st:aa} {R:LV→aa→Prop} (hc:cw P f) (h1:aw P f [.nils] st R) (h2:aw P f [.emp] st R):aw P f [.isl cs 0 none] st R:=by
 have k1:=(h1.body hc).2
 have k2:=(h2.body hc).2
 refine .inl ⟨hc,fun w0 β w vs hr hv=>?_⟩
 obtain ⟨v,us,rfl,hv,hu⟩:=hv
 obtain ⟨_,_,a,c,rfl,_,_,hF⟩:=hv
 cases a with
 | none=>
  refine k1 w0 β w _ hr ⟨_,_,rfl,?_,hu⟩
  rcases hF with ⟨_,hz⟩ | ⟨_,_,e,_⟩
  ·rw[hz rfl];rfl
  ·cases e
 | some a=>exact k2 w0 β w _ hr ⟨_,_,rfl,⟨a,c,rfl⟩,hu⟩
theorem vl {cs:List LV} {n:Nat} {c:Option Nat} (h:0<n):sR (.isl cs n c) .nils=some false:=if_pos h
theorem vm {st:aa} {cs:List LV} {n sz bytes:Nat} {m0:Md} (hn:0<n) (hl:cs.length=n*sz) (hb:ee n bytes=true) (hm:m0.w=true) (hp:LV.aB cs=true) {R:LV→aa→Prop}
  (hR:∀ r s,dp s (.isl cs n none) r→R r s):bd2 (ak (st++[.cells .rw []]) sz bytes m0 (.sl st.length 0 0 (.ex 0)) (.isl cs n none)) R:=by
 unfold ak
 rw[vk hl]
 simp only[if_neg (Nat.ne_of_gt hn)]
 have hg:(st++[av.cells .rw []])[st.length]?=some (.cells .rw []):=by simp
 simp only[hg,Nat.zero_add]
 rw[if_neg (by omega),if_pos ⟨hb,by simp⟩]
 simp only[bd2,Nat.zero_mul,List.drop_zero,List.take_zero,List.nil_append]
 refine hR _ _ (.inl ⟨_,0,_,m0,cs,rfl,by simp,hm,by simp,?_⟩)
 simpa using bz _ hp
end Go.CP
