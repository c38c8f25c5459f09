/- Parts of the proof. -/
import Derived.Test.YtknegckgmklnhaaGreatDoorCp33
import Derived.Test.YtknegckgmklnhaaGreatDoorProg
namespace Go.CP
open Go.ChangeShapes Go.WideShapes Go.ChangeAt Go.RowKit
def eZ (w:World):Lay:=⟨fun _=>none,fun b=>w.heap[b]?,w.heap.size⟩
section
variable {H:Type} {enc:TypeId × Value→H} {P:Program} {w0 w:World} {base:Nat} {sp:Nat→Bool} {held:Bool}
def ck (P:Program):Nat→TypeId→List LV→DataW H→Prop
 | 0,_,_,_=>False
 | n+1,t,xs,d=>match P.underlying t with
  | some .bool=>∃ b,xs=[.bool b]
  | some (.int k)=>∃ m,xs=[.int k m]∧(Lit.int k m).wf=true
  | some .string=>∃ s:List UInt8,xs=[.str s]∧s.length≤maxLen∧d=.lit (.string s)
  | some (.slice e)=>∃ (rows:List (List LV)) (elems:List (DataW H)),xs=[.isl rows.flatten rows.length none]∧elems.length=rows.length∧(rows=[]∨∃ rest,d=.slice elems rest)∧
    ∀ (i:Nat) (r:List LV) (di:DataW H),rows[i]?=some r→elems[i]?=some di→r.length=P.cellsOf e∧ck P n e r di
  | some (.struct fs)=>xs.length=P.cellsOf t∧∃ parts:List (DataW H),d=.agg parts∧parts.length=fs.size∧
    ∀ (i:Nat) (f:Field) (di:DataW H),fs[i]?=some f→parts[i]?=some di→ck P n f.type ((xs.drop f.offset).take (P.cellsOf f.type)) di
  | _=>False
theorem nI {β:Lay} {cs:List Value} {Q:Field→List LV→Prop}:∀ {fs:List Field} {off fin:Nat},tw P off fs=some fin→cs.length=fin→
  (∀ f ∈ fs,∃ xs,Rps β xs ((cs.drop f.offset).take (P.cellsOf f.type))∧Q f xs)→(∀ f ∈ fs,f.offset+P.cellsOf f.type≤cs.length)→
  ∃ xs,Rps β xs (cs.drop off)∧∀ f ∈ fs,off≤f.offset∧Q f ((xs.drop (f.offset-off)).take (P.cellsOf f.type))
 | [],off,fin,ht,hl,_,_=>by
  simp only[tw,Option.some.injEq] at ht
  subst ht
  exact ⟨[],by rw[List.drop_eq_nil_of_le (by omega)];rfl,by simp⟩
 | f::fs,off,fin,ht,hl,hf,hb=>by
  simp only[tw] at ht
  split at ht
  ·rename_i e
   obtain ⟨x1,p1,t1⟩:=hf f (by simp)
   obtain ⟨x2,p2,t2⟩:=nI (β:=β) (cs:=cs) (Q:=Q) ht hl (fun f' h'=>hf f' (List.mem_cons_of_mem _ h')) (fun f' h'=>hb f' (List.mem_cons_of_mem _ h'))
   have hbf:=hb f (by simp)
   have hx1:x1.length=P.cellsOf f.type:=by
    have:=p1.length
    simp at this;omega
   refine ⟨x1++x2,?_,?_⟩
   ·have:=p1.append p2
    rw[e] at this
    have e3:(cs.drop off).take (P.cellsOf f.type)++cs.drop (off+P.cellsOf f.type)=cs.drop off:=by
     rw[← List.drop_drop];exact List.take_append_drop _ _
    rwa [e3] at this
   ·intro f' h'
    rcases List.mem_cons.1 h' with e' | h'
    ·subst e'
     refine ⟨by omega,?_⟩
     rw[e,Nat.sub_self,List.drop_zero,List.take_left' hx1]
     exact t1
    ·obtain ⟨g1,g2⟩:=t2 f' h'
     refine ⟨by omega,?_⟩
     rw[show f'.offset-off=P.cellsOf f.type+(f'.offset-(off+P.cellsOf f.type)) by omega,← List.drop_drop,List.drop_left' hx1]
     exact g2
  ·cases ht
theorem tA {α:Type} {c:Nat} (hc:0<c):∀ {ls:List (List α)} {q:Nat},(∀ l ∈ ls,l.length=c)→q<ls.length*c→∃ l,ls[q / c]?=some l∧ls.flatten[q]?=l[q % c]?
 | [],q,_,h=>by simp at h
 | l::ls,q,hl,hq=>by
  have h0:=hl l (by simp)
  rcases Nat.lt_or_ge q c with k|k
  ·refine ⟨l,by rw[Nat.div_eq_of_lt k];rfl,?_⟩
   rw[List.flatten_cons,List.getElem?_append_left (by omega),Nat.mod_eq_of_lt k]
  ·obtain ⟨l',g1,g2⟩:=tA hc (ls:=ls) (q:=q-c) (fun l h=>hl l (List.mem_cons_of_mem _ h)) (by
    simp only[List.length_cons,Nat.add_mul,Nat.one_mul] at hq;omega)
   have hd:q / c=(q-c) / c+1:=by rw[Nat.div_eq_sub_div hc k]
   have hmd:q % c=(q-c) % c:=Nat.mod_eq_sub_mod k
   refine ⟨l',by rw[hd];simpa using g1,?_⟩
   rw[List.flatten_cons,List.getElem?_append_right (by omega),h0,g2,hmd]
theorem pA {α:Type} {c:Nat}:∀ {ls:List (List α)},(∀ l ∈ ls,l.length=c)→ls.flatten.length=ls.length*c
 | [],_=>by simp
 | l::ls,hl=>by
  rw[List.flatten_cons,List.length_append,pA (ls:=ls) (fun l h=>hl l (List.mem_cons_of_mem _ h)),hl l (by simp),List.length_cons,Nat.add_mul,Nat.one_mul,Nat.add_comm]
theorem kg {S:List TypeId} (hS:S.all (okT P S)=true):∀ (fuel:Nat) {t:TypeId} {cs:List Value} {x:DataW H × List MemPlace},t ∈ S→DataW.trod enc P w base sp held fuel t cs=some x→
  ∃ xs,Rps (eZ w) xs cs∧ck P fuel t xs x.1
 | 0,t,cs,x,ht,h=>by simp[DataW.trod] at h
 | n+1,t,cs,x,ht,h=>by
  have hok:=List.all_eq_true.1 hS t ht
  unfold okT at hok
  split at hok
  ·rename_i hu
   obtain ⟨b,rfl,rfl⟩:=DataW.trod_bool hu h
   exact ⟨[.bool b],Rps.one rfl,by unfold ck;rw[hu];exact ⟨b,rfl⟩⟩
  ·rename_i k hu
   obtain ⟨m,rfl,rfl,hw⟩:=DataW.trod_int hu h
   exact ⟨[.int k m],Rps.one rfl,by unfold ck;rw[hu];exact ⟨m,rfl,hw⟩⟩
  ·rename_i hu
   obtain ⟨s,rfl,rfl,hs⟩:=DataW.trod_string hu h
   exact ⟨[.str s.data.toList],Rps.one rfl,by unfold ck;rw[hu];exact ⟨_,rfl,by simpa using hs,rfl⟩⟩
  ·rename_i e hu
   simp only[Bool.and_eq_true,decide_eq_true_eq,List.contains_iff_mem] at hok
   obtain ⟨heS,hc⟩:=hok
   rcases DataW.trod_slice hu h with ⟨rfl,rfl⟩ | ⟨a,len,cap,elems,rest,m,hm,rfl,rfl,hba,hlc,hcap,hel,hels,_⟩
   ·exact ⟨[.isl [] 0 none],Rps.one ⟨[],rfl,none,0,rfl,Nat.le_refl _,fun _ e=>(by cases e),.inl ⟨rfl,fun _=>rfl⟩⟩,by unfold ck;rw[hu];exact ⟨[],[],rfl,rfl,.inl rfl,fun i r di h=>(by simp at h)⟩⟩
   ·cases hm
    have each:∀ i,i<len→∃ ci y,elems[i]?=some y∧w.cells? base (a.add (i*P.cellsOf e)) (P.cellsOf e)=some ci∧DataW.trod enc P w base sp held n e ci=some y:=by
     intro i hi
     have h1:=hels i hi
     have h2:∃ y,elems[i]?=some y:=⟨elems[i]'(by omega),List.getElem?_eq_getElem (by omega)⟩
     obtain ⟨y,hy⟩:=h2
     rw[hy] at h1
     obtain ⟨ci,h3,h4⟩:=Option.bind_eq_some_iff.1 h1
     exact ⟨ci,y,hy,h3,h4⟩
    have rowsN:∀ k,k≤len→∃ (rows:List (List LV)) (vss:List (List Value)),rows.length=k∧vss.length=k∧
      (∀ (i:Nat) (r:List LV) (v:List Value),rows[i]?=some r→vss[i]?=some v→Rps (eZ w) r v)∧(∀ (i:Nat) (v:List Value),vss[i]?=some v→w.cells? base (a.add (i*P.cellsOf e)) (P.cellsOf e)=some v)∧
      ∀ (i:Nat) (r:List LV),rows[i]?=some r→r.length=P.cellsOf e∧∃ y,elems[i]?=some y∧ck P n e r y.1:=by
     intro k
     induction k with
     | zero=>exact fun _=>⟨[],[],rfl,rfl,by simp,by simp,by simp⟩
     | succ k ih=>
      intro hk
      obtain ⟨rows,vss,n1,n2,p1,c1,t1⟩:=ih (by omega)
      obtain ⟨ci,y,hy,g1,g2⟩:=each k (by omega)
      obtain ⟨xs,p2,t2⟩:=kg hS n heS g2
      have get:∀ {α:Type} {l:List α} {z u:α} {i:Nat},l.length=k→(l++[z])[i]?=some u→(i<k∧l[i]?=some u)∨(i=k∧u=z):=by
       intro α l z u i hl hi
       rcases Nat.lt_trichotomy i k with q|q|q
       ·rw[List.getElem?_append_left (by omega)] at hi;exact .inl ⟨q,hi⟩
       ·subst q;rw[← hl] at hi;simp at hi;exact .inr ⟨rfl,hi.symm⟩
       ·rw[List.getElem?_eq_none (by simp;omega)] at hi;cases hi
      refine ⟨rows++[xs],vss++[ci],by simp[n1],by simp[n2],?_,?_,?_⟩
      ·intro i r v h1 h2
       rcases get n1 h1 with ⟨q,h1⟩ | ⟨q,rfl⟩
       ·rcases get n2 h2 with ⟨_,h2⟩ | ⟨q2,_⟩
        ·exact p1 i r v h1 h2
        ·omega
       ·rcases get n2 h2 with ⟨q2,_⟩ | ⟨_,rfl⟩
        ·omega
        ·exact p2
      ·intro i v h2
       rcases get n2 h2 with ⟨q,h2⟩ | ⟨rfl,rfl⟩
       ·exact c1 i v h2
       ·exact g1
      ·intro i r h1
       rcases get n1 h1 with ⟨q,h1⟩ | ⟨rfl,rfl⟩
       ·exact t1 i r h1
       ·refine ⟨?_,y,hy,t2⟩
        have:=p2.length
        have:=(World.cells?_some g1).2.1
        omega
    obtain ⟨rows,vss,n1,n2,p1,c1,t1⟩:=rowsN len (Nat.le_refl _)
    have hlenr:∀ r ∈ rows,r.length=P.cellsOf e:=fun r hr=>by
     obtain ⟨i,hi⟩:=List.getElem?_of_mem hr
     exact (t1 i r hi).1
    have hlenv:∀ v ∈ vss,v.length=P.cellsOf e:=by
     intro v hv
     obtain ⟨i,hi⟩:=List.getElem?_of_mem hv
     exact (World.cells?_some (c1 i v hi)).2.1
    have hall:=Rps.flatten (β:=eZ w) (by rw[n1,n2]) p1
    refine ⟨[.isl rows.flatten rows.length none],Rps.one ⟨vss.flatten,hall,some a,cap,by rw[n1],by omega,fun k hk=>(by cases hk),?_⟩,?_⟩
    ·rcases Nat.eq_zero_or_pos len with h0|hpos
     ·exact .inl ⟨by omega,fun e=>by cases e⟩
     refine .inr ?_
     have cellAt:∀ i j,i<len→j<P.cellsOf e→∃ v u,vss[i]?=some v∧v[j]?=some u∧w.cell? ((a.add (i*P.cellsOf e)).add j)=some u:=by
      intro i j hi hj
      have hv:vss[i]?=some (vss[i]'(by omega)):=List.getElem?_eq_getElem (by omega)
      obtain ⟨_,g2,g3⟩:=World.cells?_some (c1 i _ hv)
      have hu:(vss[i]'(by omega))[j]?=some ((vss[i]'(by omega))[j]'(by omega)):=List.getElem?_eq_getElem (by omega)
      exact ⟨_,_,hv,hu,by rw[g3 j hj];exact hu⟩
     obtain ⟨v0,u0,_,_,hc0⟩:=cellAt 0 0 hpos hc
     have hspot:a.spot=none:=by
      simp only[Nat.zero_mul,Addr.add,if_true] at hc0
      unfold World.cell? at hc0
      split at hc0
      ·split at hc0
       ·cases hc0
       ·rename_i hs;simpa using hs
      ·cases hc0
     obtain ⟨c,ty,fz,hheap⟩:∃ c ty fz,w.heap[a.block]?=some (.cells c ty fz):=by
      simp only[Nat.zero_mul,Addr.add,if_true] at hc0
      unfold World.cell? at hc0
      split at hc0
      ·rename_i c ty fz hh;exact ⟨c,ty,fz,hh⟩
      ·cases hc0
     have cellC:∀ i j,i<len→j<P.cellsOf e→∃ v u,vss[i]?=some v∧v[j]?=some u∧c[a.off+(i*P.cellsOf e+j)]?=some u:=by
      intro i j hi hj
      obtain ⟨v,u,g1,g2,g3⟩:=cellAt i j hi hj
      refine ⟨v,u,g1,g2,?_⟩
      have hblk:((a.add (i*P.cellsOf e)).add j).block=a.block:=by
       unfold Addr.add;split<;>split<;>rfl
      have hoff:((a.add (i*P.cellsOf e)).add j).off=a.off+(i*P.cellsOf e+j):=by
       unfold Addr.add
       split<;>split<;>simp_all<;>omega
      unfold World.cell? at g3
      rw[hblk,hheap] at g3
      simp only at g3
      split at g3
      ·cases g3
      ·rw[hoff] at g3;exact g3
     refine ⟨a.block,a.off,by rw[← hspot],c,ty,fz,hheap,?_,?_⟩
     ·rw[pA hlenv,n2]
      obtain ⟨v,u,_,_,g⟩:=cellC (len-1) (P.cellsOf e-1) (by omega) (by omega)
      have:=(Array.getElem?_eq_some_iff.1 g).1
      have e1:len*P.cellsOf e=(len-1)*P.cellsOf e+P.cellsOf e:=by
       rw[← Nat.succ_mul];congr 1;omega
      omega
     ·intro q u hu
      have hq:q<vss.length*P.cellsOf e:=by
       rw[← pA hlenv];exact (List.getElem?_eq_some_iff.1 hu).1
      obtain ⟨l,g1,g2⟩:=tA hc hlenv hq
      have hi:q / P.cellsOf e<len:=by rw[Nat.div_lt_iff_lt_mul hc];rw[← n2];exact hq
      obtain ⟨v',u',k1,k2,k3⟩:=cellC (q / P.cellsOf e) (q % P.cellsOf e) hi (Nat.mod_lt _ hc)
      rw[g1] at k1;cases k1
      rw[g2,k2] at hu;cases hu
      rw[← k3]
      congr 2
      rw[Nat.mul_comm];exact (Nat.div_add_mod q (P.cellsOf e)).symm
    ·unfold ck
     rw[hu]
     refine ⟨rows,elems.map (·.1),rfl,by simp[hel,n1],.inr ⟨_,rfl⟩,fun i r di h1 h2=>?_⟩
     obtain ⟨h3,y,h4,h5⟩:=t1 i r h1
     rw[List.getElem?_map,h4] at h2
     cases h2
     exact ⟨h3,h5⟩
  ·rename_i fs hu
   simp only[Bool.and_eq_true,List.all_eq_true,List.contains_iff_mem,beq_iff_eq] at hok
   obtain ⟨hf,htile⟩:=hok
   obtain ⟨xs,m,hm,rfl,hl,hxl,hxs⟩:=DataW.trod_struct hu h
   cases hm
   have hb:=(wz htile).2
   obtain ⟨ys,p1,t1⟩:=nI (β:=eZ w) (Q:=fun f ys=>∀ (i:Nat) (y:DataW H × List MemPlace),fs[i]?=some f→xs[i]?=some y→ck P n f.type ys y.1) htile hl (fun f hfm=>by
    obtain ⟨i,hi,e'⟩:=List.getElem_of_mem hfm
    have hi':fs[i]?=some f:=by
     have:i<fs.size:=by simpa using hi
     rw[Array.getElem?_eq_getElem this]
     have:fs.toList[i]=fs[i]:=by simp
     rw[← this,e']
    have h1:=hxs i f hi'
    have h2:xs[i]?=some (xs[i]'(by rw[hxl];simpa using hi)):=List.getElem?_eq_getElem _
    rw[h2] at h1
    obtain ⟨zs,q1,q2⟩:=kg hS n (hf f hfm) h1
    refine ⟨zs,q1,fun j y hj hy=>?_⟩
    obtain ⟨zs',q1',q2'⟩:=kg hS n (hf f hfm) (by rw[hxs j f hj,hy]:DataW.trod enc P w base sp held n f.type _=some y)
    have e2:xs[j]?=xs[i]?:=by rw[← hxs j f hj,← hxs i f hi']
    rw[hy,h2] at e2
    cases e2
    exact q2) (fun f hfm=>by rw[hl];exact hb f hfm)
   refine ⟨ys,by simpa using p1,?_⟩
   unfold ck
   rw[hu]
   refine ⟨?_,xs.map (·.1),rfl,by simp[hxl],fun i f di hi hdi=>?_⟩
   ·have:=p1.length
    simp at this
    omega
   ·rw[List.getElem?_map] at hdi
    obtain ⟨y,hy,rfl⟩:=Option.map_eq_some_iff.1 hdi
    have:=(t1 f (Array.mem_toList_iff.2 (Array.mem_of_getElem? hi))).2 i y hi hy
    simpa using this
  ·cases hok
end
end Go.CP
namespace Go.CP
open Go.RowKit Go.Maps Go.Sort Go.Shelf Go.MapKept Go.WideElems
section
variable {w0 w:World} {β:Lay} {st:aa} {P:Program} {K:TypeId}
theorem vo {c g:FuncId} {M:TypeId} {R:LV→aa→Prop} (hc:cN P c)
  (hsort:∀ (lb:Array Value) (S:List (List UInt8)→Prop) (N:Nat) (w:World),N≤maxLen→N*16≤140737488355328→SeqGives Fence.wide 2 P g lb Go.Proofs.encStr S N w→
   Calls P c #[.func (.func g) #[] lb] w fun e w'=>∃ (v:Value) (ss:List (List UInt8)),e=.returned v∧S ss∧
    w'.ownsRow w.heap.size K 1 v ss.length ((ss.mergeSort (fun x y=>decide (x≤y))).map Go.Proofs.encStr)∧(v=.slice none 0 0↔ss=[])∧Below w.heap.size w w')
  (hgives:∀ (Bm:Nat) (w:World),Bm<w.heap.size→w.cell? ⟨Bm,0,none⟩=some (.map none)→SeqGives Fence.wide 2 P g #[.pointer (some ⟨Bm,0,none⟩)] Go.Proofs.encStr (fun ss=>ss=[]) 0 w)
  {o:Nat} (ho:st[o]?=some (.cells (.bt M) [.nilm])) (hR0:R .nils st):au P c [.fn (.func g) [] [.ptr o 0]] st R:=by
 refine .inl ⟨hc,fun w0 β w vs h1 h2=>?_⟩
 obtain ⟨v,us,rfl,hv,hus⟩:=h2
 simp only[Rps] at hus;subst hus
 obtain ⟨fs,cs,rfl,hfs,hcs⟩:=hv
 simp only[Rps] at hfs;subst hfs
 obtain ⟨pv,us',rfl,⟨b,hb,rfl⟩,hus'⟩:=hcs
 simp only[Rps] at hus';subst hus'
 obtain ⟨b2,hb2,cc,e,fz,hh,_,_,hcell,hmd⟩:=h1.obj o _ ho
 rw[hb] at hb2;cases hb2
 have hbase:b.base=0:=(hmd.2.1 M rfl).2
 obtain ⟨u,hu,hru⟩:=hcell 0 _ rfl
 simp only[Rp] at hru;subst hru
 rw[hbase] at hu ⊢
 have hlt:b.blk<w.heap.size:=by rcases Nat.lt_or_ge b.blk w.heap.size with k|k;exact k;simp[Array.getElem?_eq_none k] at hh
 have hg:=hgives b.blk w hlt (by simp only[World.cell?,hh];exact hu)
 refine (hsort _ _ _ w (Nat.zero_le _) (by omega) hg).mono ?_
 rintro e' w' ⟨r,ss,rfl,hss,hrow,hnil,hbel⟩
 subst hss
 exact ⟨β,.nils,st,_,hR0,rfl,hnil.2 rfl,h1.gq ⟨hbel⟩,Lay.le.refl _⟩
end
end Go.CP
namespace Go.CP
structure Pu (P:Program) (f:FuncId) (xs:List LV) (v:LV):Prop where
 call:∀ {st:aa} {R:LV→aa→Prop},R v st→au P f xs st R
theorem Pu.of {P:Program} {f:FuncId} {xs:List LV} {v:LV} (h:au P f xs [] fun r s=>dp s v r) (hx:LV.aF xs=true) (hv:v.plain=true):Pu P f xs v:=
 ⟨fun hR=>au.deep h hx hv hR⟩
theorem bM {α:Type} {f:α→LV}:∀ {l:List α},(∀ a ∈ l,(f a).plain=true)→LV.aF (l.map f)=true
 | [],_=>rfl
 | a::l,h=>by simp only[List.map_cons,LV.aF,h a (by simp),bM (l:=l) fun b hb=>h b (by simp[hb]),Bool.true_and]
theorem dS:∀ {a b:List LV},LV.aF (a++b)=(LV.aF a&&LV.aF b)
 | [],b=>by simp[LV.aF]
 | x::a,b=>by simp only[List.cons_append,LV.aF,dS (a:=a),Bool.and_assoc]
theorem wB {st:aa}:∀ {a b:List LV},dps st a b→b.length=a.length
 | [],b,h=>by simp only[dps] at h;subst h;rfl
 | x::a,b,h=>by obtain ⟨r,rs,rfl,_,h⟩:=h;simp[wB h]
theorem gX {st:aa} {f:Option Nat} {sz n:Nat} {cs cs':List LV} {m0:Md} (h:br m0 st f sz n cs) (hm:m0.w=true) (hd:dps st cs' cs):dp st (.isl cs' n none) (osl f sz n):=by
 obtain ⟨hl,h⟩:=h
 have hl':=wB hd
 cases f with
 | none=>
  simp only at h;subst h
  refine .inr (.inr ⟨.inr rfl,rfl,?_⟩)
  exact List.eq_nil_of_length_eq_zero (by omega)
 | some o=>
  obtain ⟨rest,ho⟩:=h
  refine .inl ⟨o,0,.rest sz,_,_,rfl,ho,hm,by simp;omega,?_⟩
  have:((cs++rest).drop 0).take cs'.length=cs:=by rw[← hl'];simp
  rw[this];exact hd
theorem gr {sz len:Nat} {cs:List LV} {cap:Option Nat} {k:IntKind} {i:Nat} (h:i<len):bh sz (.isl cs len cap) (.int k (i:Int))=some (.iptr cs (i*sz)):=by
 show (if 0≤(i:Int)∧(i:Int)<len then some (LV.iptr cs ((i:Int).toNat*sz)) else none)=_
 rw[if_pos ⟨by omega,by omega⟩]
 simp
@[simp] theorem cQ {st:aa} {cs:List LV} {k:Nat}:ld1 st (.iptr cs k)=cs[k]?:=rfl
@[simp] theorem ca {cs:List LV} {n:Nat} {c:Option Nat}:bD (.isl cs n c)=some (.int .i64 n):=rfl
@[simp] theorem cu {cs:List LV} {k:Nat}:af (.iptr cs k)=some (.iptr cs k):=rfl
@[simp] theorem cx {cs:List LV} {k d:Nat}:ad d (.iptr cs k)=some (.iptr cs (k+d)):=rfl
@[simp] theorem pB {b:Bool} {cs:List LV} {k:Nat}:cV b (.iptr cs k) .nilp=some false:=rfl
@[simp] theorem CT {b:Bool} {cs:List LV} {k:Nat}:cV b .nilp (.iptr cs k)=some false:=rfl
theorem tB {st:aa} {cs:List LV} {k n:Nat} (h:k+n≤cs.length):ldA st (.iptr cs k) n=some (.agg ((cs.drop k).take n)):=if_pos h
theorem yO {st:aa} {cs:List LV} {n sz:Nat} {c:Option Nat} (h:cs.length=n*sz):fD st sz (.isl cs n c)=some (n,cs):=if_pos h
theorem au.Df {P:Program} {f:FuncId} {cs:List LV} {st:aa} {R:LV→aa→Prop} (hc:cN P f) (h1:au P f [.nils] st R) (h2:au P f [.emp] st R):au P f [.isl cs 0 none] st R:=by
 have k1:=(h1.body hc).2
 have k2:=(h2.body hc).2
 refine .inl ⟨hc,fun w0 β w vs hr hv=>?_⟩
 obtain ⟨v,us,rfl,hv,hu⟩:=hv
 obtain ⟨_,_,a,c,rfl,_,_,hF⟩:=hv
 cases a with
 | none=>
  refine k1 w0 β w _ hr ⟨_,_,rfl,?_,hu⟩
  rcases hF with ⟨_,hz⟩ | ⟨_,_,e,_⟩
  ·rw[hz rfl];rfl
  ·cases e
 | some a=>exact k2 w0 β w _ hr ⟨_,_,rfl,⟨a,c,rfl⟩,hu⟩
end Go.CP
namespace Go.Proofs.YtknegckgmklnhaaGreatDoor
open Go Go.CP
abbrev i64 (n:Int):LV:=.int .i64 n
abbrev LZ (f:FuncId) (xs:List LV) (st:aa) (R:LV.RT):Prop:=au Tryz.prog f xs st R
set_option maxRecDepth 100000
theorem dB:Tryz.prog.follows .mixedOrders=true:=by kernel_rfl
def P85_1 (x1 x3 x4:LV) (R:LV.RT) (st:aa):Prop:=LT Tryz.prog [.tmp 2] (BX Tryz.f85 1) R (.aQ::x1::.aQ::x3::x4::(LV.jk 16 [])) st
def w85 (a0:LV) (R:LV.RT) (st:aa):Prop:=
 bd2 (ej st a0) fun v0 st1=>P85_1 v0 (LV.int IntKind.i64 1) (LV.int IntKind.i64 0) R st1
theorem B7 (a0:LV) (R:LV.RT) (st:aa):jA Tryz.prog [.tmp 2] R [0,2,5,6,7,8,9,10,11,12,13,14,15,16,17,18,19,20] [] 3000 [.code (dz Tryz.f85)] ([a0]++List.replicate (Tryz.f85.ntmps-1) aB) st=w85 a0 R st:=by kernel_rfl
theorem c85 (a0:LV) {R:LV.RT} {st:aa} (h:w85 a0 R st):LZ 85 [a0] st R:=
 au.of dB Tryz.func85 (show Tryz.f85.body=some (dz Tryz.f85) by kernel_rfl) (by kernel_rfl) (show Tryz.f85.results.toList=[.tmp 2] by kernel_rfl) (bP dB 3000 (Eq.mpr (B7 a0 R st) h))
def w46 (a0:LV) (R:LV.RT) (st:aa):Prop:=
 bd2 (ej st a0) fun v0 st1=>bd (ad 0 v0) fun v2=>bd (ld1 st1 v2) fun v3=>bd (asC 169 (some (LV.agg [])) v3 true) fun v4=>bd (ar v4 1) fun v5=>bd (ar v4 0) fun _v6=>ak v5 (R (LV.int
 IntKind.i64 1) st1) (bd (asC 4 (some (LV.bool false)) v3 true) fun v7=>bd (ar v7 1) fun v8=>bd (ar v7 0) fun _v9=>ak v8 (R (LV.int IntKind.i64 2) st1) (bd (asC 3 (some (LV.int IntKind.i64 0)) v3 true)
 fun v10=>bd (ar v10 1) fun v11=>bd (ar v10 0) fun _v12=>ak v11 (R (LV.int IntKind.i64 3) st1) (bd (asC 170 (some (LV.cplx FloatKind.f64 0 0)) v3 true) fun v13=>bd (ar v13 1) fun v14=>bd
 (ar v13 0) fun _v15=>ak v14 (R (LV.int IntKind.i64 4) st1) (bd (asC 9 (some (LV.str [])) v3 true) fun v16=>bd (ar v16 1) fun v17=>bd (ar v16 0) fun _v18=>ak v17 (R (LV.int IntKind.i64 5)
 st1) (bd (asC 171 (some LV.nils) v3 true) fun v19=>bd (ar v19 1) fun v20=>bd (ar v19 0) fun _v21=>ak v20 (R (LV.int IntKind.i64 6) st1) (bd (asC 173 (some LV.nilm) v3 true) fun v22=>bd (ar v22
 1) fun v23=>bd (ar v22 0) fun _v24=>ak v23 (R (LV.int IntKind.i64 7) st1) (R (LV.int IntKind.i64 0) st1)))))))
theorem B8 (a0:LV) (R:LV.RT) (st:aa):jA Tryz.prog [.tmp 2] R [] [] 3000 [.code (dz Tryz.f46)] ([a0]++List.replicate (Tryz.f46.ntmps-1) aB) st=w46 a0 R st:=by kernel_rfl
theorem c46 (a0:LV) {R:LV.RT} {st:aa} (h:w46 a0 R st):LZ 46 [a0] st R:=
 au.of dB Tryz.func46 (show Tryz.f46.body=some (dz Tryz.f46) by kernel_rfl) (by kernel_rfl) (show Tryz.f46.results.toList=[.tmp 2] by kernel_rfl) (bP dB 3000 (Eq.mpr (B8 a0 R st) h))
end Go.Proofs.YtknegckgmklnhaaGreatDoor
