/- Parts of the proof. -/
import Derived.Test.YtknegckgmklnhaaGreatDoorCp17
namespace Go.CP
section
variable {β:Lay} {P:Program} {w w0:World} {st:aa}
theorem ny {ty:TypeId} {m k v:LV} {p q:Value} {st':aa} (h:Rel w0 β st w) (hm:Rp β m p) (hk:Rp β k q) (hp:kR P st ty m k=some (v,st')) :
  ∃ u w',(Instr.mapEntry ty p q).run P w=.ok u w'∧eT w0 β v st' u w':=by
 unfold kR at hp
 split at hp
 case h_2=>cases hp
 rename_i kt e ht
 split at hp
 case h_2=>cases hp
 rename_i s hs
 unfold qL at hs
 split at hs
 case h_2=>cases hs
 rename_i d hd
 unfold wC at hp
 split at hp
 case isFalse=>cases hp
 rename_i hpl
 have hka:=ie hk hpl hs
 split at hp
 case h_2=>cases hp
 rename_i o
 split at hp
 case h_2=>cases hp
 rename_i es bs n ho
 obtain ⟨b,hb,rfl⟩:=hm
 obtain ⟨c,h1,h2,hst,hbs⟩:=h.gV ho hb
 have hrun:∀ r,Instr.findNow d q c.toList 0=some r→(Instr.mapEntry ty (.map (some b.blk)) q).run P w=((do
   match r with
   | some (i,v)=>
    let key ← Instr.keyThatStays (((c[i]?).map (·.key)).getD q) q
    setObj b.blk (.map (c.modify i fun e=>{ e with key }) n)
    pure (.tuple #[v,goInt (((c[i]?).map (·.born)).getD 0)])
   | none=>
    let zero ← zeroValue e
    setObj b.blk (.map (c.push { key:=q,val:=zero,born:=n }) (n+1))
    pure (.tuple #[zero,goInt n])):Sem Value).run P w:=by
  intro r hr
  unfold Instr.mapEntry
  simp only[ae,ai ht,ab,MapKept.run_getObj_map h1,dK hd hka,MapKept.run_findKey hd hr]
  cases r<;>rfl
 split at hp
 ·rename_i v' hf
  split at hp
  case h_2=>cases hp
  rename_i b' hb'
  simp only[ao,Prod.mk.injEq] at hp
  obtain ⟨rfl,rfl⟩:=hp
  rcases da hka 0 h2 hf with ⟨h3,_⟩ | ⟨v2,j,e2,h3,h4,h5⟩
  ·cases h3
  simp only[ao] at h3;subst h3
  obtain ⟨ce,h6,_,h7,h8⟩:=q6 hka 0 h2 h4 hf
  have hj:j<c.size:=by
   have:=(List.getElem?_eq_some_iff.1 h6).1
   simpa using this
  have hcj:c[j]=ce:=by simpa[hj] using h6
  have hkey:((c[0+j]?).map (·.key)).getD q=q:=by simp[hj,hcj,h7]
  have hborn:((c[0+j]?).map fun e=>(e.born:Int)).getD 0=(b':Int):=by
   rw[← hbs,h8] at hb'
   rw[bU,h6] at hb'
   simp at hb'
   simp[hj,hcj,hb']
  have hmod:c.modify (0+j) (fun e=>{ e with key:=q })=c:=by
   apply Array.ext'
   apply List.ext_getElem?
   intro i
   rw[av,Array.getElem?_toList,Array.getElem?_modify,Array.getElem?_toList]
   by_cases e:j=i
   ·subst e
    simp only[hj,hcj,if_true,Array.getElem?_eq_getElem,Option.map_some,← h7]
   ·simp[e]
  rw[hrun _ h4]
  simp only[ae,hkey,q0 hka,ab,hmod,MapKept.run_setObj_map _ h1,an,hborn]
  refine ⟨_,_,rfl,β,⟨_,rfl,_,_,rfl,h5,_,_,rfl,rfl,rfl⟩,?_,Lay.le.refl _⟩
  have:st.set o (.map .rw es bs n)=st:=by
   apply List.ext_getElem?
   intro i
   rw[List.getElem?_set]
   by_cases e:o=i
   ·subst e
    have hl:=(List.getElem?_eq_some_iff.1 ho).1
    simp only[if_true,if_pos hl,ho]
   ·simp[e]
  have hr:=h.jD (es':=es) (bs':=bs) (c':=c) (k':=n) ho hb h1 h2 hst hbs
  rwa [this] at hr
 ·rename_i hf
  split at hp
  case h_2=>cases hp
  rename_i z hz
  simp only[ao,Prod.mk.injEq] at hp
  obtain ⟨rfl,rfl⟩:=hp
  rcases da hka 0 h2 hf with ⟨_,h3⟩ | ⟨v2,j,e2,h3,_,_⟩
  case inr=>cases h3
  obtain ⟨u',h4,h5,_⟩:=dW (w:=w) hz
  have h6:=cR (β:=β) h5
  rw[hrun _ h3]
  simp only[ae,h4,ab,MapKept.run_setObj_map _ h1,an]
  refine ⟨_,_,rfl,β,⟨_,rfl,_,_,rfl,h6,_,_,rfl,rfl,rfl⟩,?_,Lay.le.refl _⟩
  exact h.jD (es':=es++[(k,z)]) (bs':=bs++[n]) (c':=c.push { key:=q,val:=u',born:=n }) (k':=n+1) ho hb h1 (by
   rw[Array.toList_push];exact Entries.snoc ⟨hk,h6⟩ h2) (hst.push _ _) (by simp[hbs])
 ·cases hp
theorem nz {ty:TypeId} {m s v:LV} {p q u:Value} {st':aa} (h:Rel w0 β st w) (hm:Rp β m p) (hs:Rp β s q) (hv:Rp β v u) (hp:kS st m s v=some st') :
  ∃ w',(Instr.entryStore ty p q u).run P w=.ok () w'∧Rel w0 β st' w':=by
 unfold kS at hp
 split at hp
 case h_2=>cases hp
 rename_i o kk bb
 split at hp
 case h_2=>cases hp
 rename_i es bs n ho
 split at hp
 case h_2=>cases hp
 rename_i i hi
 split at hp
 case h_2=>cases hp
 rename_i e he
 simp only[ao] at hp;subst hp
 obtain ⟨b,hb,rfl⟩:=hm
 simp only[Rp] at hs;subst hs
 obtain ⟨c,h1,h2,hst,hbs⟩:=h.gV ho hb
 obtain ⟨x,hx1,hx2,hx3⟩:=jE hi
 obtain ⟨ce,hce,hre⟩:=h2.at he
 have hi':i<c.size:=by
  have:=(List.getElem?_eq_some_iff.1 hce).1
  simpa using this
 have hborn:ce.born=x:=by
  rw[← hbs,bU,hce] at hx1
  simpa using hx1
 have hfind:c.findIdx? (fun e=>(e.born:Int)==bb)=some i:=by
  rw[Array.findIdx?_eq_some_iff_getElem]
  refine ⟨hi',?_,fun j hj=>?_⟩
  ·have:c[i]=ce:=by simpa[hi'] using hce
   rw[this,hborn,hx2];simp
  ·have hj':j<c.size:=by omega
   have:=hx3 j (c[j]).born hj (by rw[← hbs,bU,Array.getElem?_toList];simp[hj'])
   simpa using this
 unfold Instr.entryStore
 simp only[ae,ab,MapKept.run_getObj_map h1]
 have ha:(asInt (.int kk bb)).run P w=.ok bb w:=rfl
 simp only[ha,ab,hfind,MapKept.run_setObj_map _ h1]
 have hlist:(c.modify i fun e=>{ e with val:=u }).toList=c.toList.set i { ce with val:=u }:=by
  apply List.ext_getElem?
  intro j
  have hci:c[i]=ce:=by simpa[hi'] using hce
  rw[Array.getElem?_toList,Array.getElem?_modify,List.getElem?_set,Array.getElem?_toList]
  by_cases e:i=j
  ·subst e;simp[hi',hci]
  ·simp[e]
 exact ⟨_,rfl,h.jD (c':=c.modify i fun e=>{ e with val:=u }) ho hb h1 (by rw[hlist];exact Entries.set (e:=(e.1,v)) (c:={ ce with val:=u }) ⟨hre.1,hv⟩ h2) (hst.set (e':={ ce with val:=u }) hce rfl hlist) (by rw[hlist,rf (e':={ ce with val:=u }) hce rfl];exact hbs)⟩
theorem Rel.oV {om mb:Option Nat} {s l:Nat} {seen:List Nat} (h:Rel w0 β st w) (hm:ItM β om mb) :
  eT w0 β (.ptr st.length 0) (st++[.iter om s seen l]) (.pointer (some ⟨w.heap.size,0,none⟩)) (w.alloc (.mapIter mb s ⟨seen⟩ l)):=by
 have hle:β.le (β.put st.length ⟨w.heap.size,0,0⟩):=Lay.cf (h.dom _ (Nat.le_refl _))
 refine ⟨_,⟨_,Lay.aM,rfl⟩,(h.grow _).push (b:=⟨w.heap.size,0,0⟩) ?_ ?_ fun _=>h.fresh,hle⟩
 ·intro o y b' hy hl hb'
  obtain ⟨b'',hb'',hlt⟩:=(h.obj o y hy).live hl
  rw[hb'] at hb'';cases hb''
  show b'.blk≠w.heap.size
  omega
 ·exact ⟨_,Lay.aM,mb,by simp[cX],hm.mono hle,rfl,h.below.size⟩
theorem rj {ty:TypeId} {x v:LV} {p:Value} {st':aa} (h:Rel w0 β st w) (hx:Rp β x p) (hp:kT P st ty x=some (v,st')) :
  ∃ u w',(Instr.range ty p).run P w=.ok u w'∧eT w0 β v st' u w':=by
 unfold kT at hp
 split at hp
 case h_2=>cases hp
 rename_i kt e ht
 split at hp
 ·simp only[Rp] at hx;subst hx
  simp only[ao,Prod.mk.injEq] at hp
  obtain ⟨rfl,rfl⟩:=hp
  refine ⟨_,_,?_,h.oV (om:=none) (mb:=none) (s:=0) (l:=0) (seen:=[]) rfl⟩
  unfold Instr.range
  simp only[ae,ai ht,ab,an,run_newObj]
  rfl
 ·rename_i o
  split at hp
  case h_2=>cases hp
  rename_i md es bs n ho
  simp only[ao,Prod.mk.injEq] at hp
  obtain ⟨rfl,rfl⟩:=hp
  obtain ⟨b,hb,rfl⟩:=hx
  obtain ⟨c,h1,_⟩:=h.gV ho hb
  refine ⟨_,_,?_,h.oV (om:=some o) (mb:=some b.blk) (s:=n) (l:=n) (seen:=[]) ⟨b,hb,rfl⟩⟩
  unfold Instr.range
  simp only[ae,ai ht,ab,an,MapKept.run_getObj_map h1,run_newObj]
  rfl
 ·rename_i ks vs
  split at hp
  case isFalse=>cases hp
  rename_i hlen
  simp only[ao,Prod.mk.injEq] at hp
  obtain ⟨rfl,rfl⟩:=hp
  obtain ⟨b,us,ws,rfl,r1,r2,hF⟩:=hx
  obtain ⟨es,clk,es',h1,h2,h3,h4⟩:=hF.entries r1 r2 hlen
  have hh:=h.froz _ _ h1
  obtain ⟨lm,p1,p2⟩:=jS h3.symm h4
  have hle:β.le (β.put st.length ⟨w.heap.size,0,0⟩):=Lay.cf (h.dom _ (Nat.le_refl _))
  refine ⟨.pointer (some ⟨w.heap.size,0,none⟩),w.alloc (.mapIter (some b) clk ⟨[]⟩ clk),?_,_,⟨_,Lay.aM,rfl⟩,(h.grow _).push (b:=⟨w.heap.size,0,0⟩) ?_ ?_ fun _=>h.fresh,hle⟩
  ·unfold Instr.range
   simp only[ae,ai ht,ab,an,MapKept.run_getObj_map hh,run_newObj]
   rfl
  ·intro o y b' hy hl hb'
   obtain ⟨b'',hb'',hlt⟩:=(h.obj o y hy).live hl
   rw[hb'] at hb'';cases hb''
   show b'.blk≠w.heap.size
   omega
  ·refine ⟨_,Lay.aM,b,[],clk,by simp[cX],FzI.mono hle ⟨es,h1,h2,⟨lm,p2,?_⟩,trivial⟩,rfl,h.below.size⟩
   have:(es.toList.filter fun e=>!([]:List Nat).contains e.born)=es.toList:=List.filter_eq_self.2 (by simp)
   rw[this];exact p1
 ·cases hp
def jj (β:Lay):List ((LV × LV) × Nat)→List MapEntry→Prop
 | [],cs=>cs=[]
 | x::xs,cs=>∃ c cs',cs=c::cs'∧Entry β x.1 c∧c.born=x.2∧jj β xs cs'
theorem fN {seen:List Nat}:∀ {es:List (LV × LV)} {l:List MapEntry} {bs:List Nat},Entries β es l→l.map (·.born)=bs→jj β (lI seen es bs) (l.filter fun e=>!seen.contains e.born)
 | [],l,bs,h,hb=>by simp only[Entries] at h;subst h;simp[lI,jj]
 | e::es,l,bs,h,hb=>by
  obtain ⟨c,us,rfl,hc,hs⟩:=h
  subst hb
  simp only[List.map_cons,lI,List.filter_cons]
  cases hx:seen.contains c.born with
  | true=>simpa using fN hs rfl
  | false=>simp only[eN,if_true,Bool.false_eq_true,if_false];exact ⟨c,_,rfl,hc,rfl,fN hs rfl⟩
theorem iq {k:Nat} (hk:0<k):∃ i w1,(choose (.mapNext k)).run P w=.ok i w1∧i<k∧(w1=w∨w1=w.drew):=by
 by_cases h:k≤1
 ·exact ⟨0,w,by simp[choose,Sem.run,Question.forced,h],hk,.inl rfl⟩
 ·exact ⟨(w.tape w.drawn (.mapNext k)) % k,w.drew,by simp only[choose,Sem.run];rw[if_neg (by simp[Question.forced];omega)];rfl,Nat.mod_lt _ hk,.inr rfl⟩
theorem lP {β:Lay}:∀ {es:List (LV × LV)} {lm:List MapEntry} {e:MapEntry},Entries β es lm→e ∈ lm→∃ p ∈ fa es,Entry β p.1 e∧∃ lm',Entries β p.2 lm'∧(e::lm').Perm lm
 | [],lm,e,h,he=>by simp only[Entries] at h;subst h;cases he
 | x::es,lm,e,h,he=>by
  obtain ⟨c,cs,rfl,hc,hs⟩:=h
  rcases List.mem_cons.1 he with rfl|he
  ·exact ⟨(x,es),by simp[fa],hc,cs,hs,.refl _⟩
  ·obtain ⟨p,hp,h1,lm',h2,h3⟩:=lP hs he
   refine ⟨(p.1,x::p.2),by simp only[fa];exact List.mem_cons_of_mem _ (List.mem_map.2 ⟨p,hp,rfl⟩),h1,c::lm',⟨c,lm',rfl,hc,h2⟩,?_⟩
   exact (List.Perm.swap _ _ _).trans (h3.cons c)
theorem ir {t:TypeId} {r:Nat} {cur:Option (LV × LV)} {rest:List (LV × LV)} {b:Bl} (h:Rel w0 β st w) (hr:st[r]?=some (.fiter cur rest)) (hb:β r=some b) :
  (rest=[]∧(Instr.next (.pointer (some ⟨b.blk,b.base+0,none⟩)) false t).run P w=.ok (.tuple #[.bool false]) w)∨
  ∃ p ∈ fa rest,∃ u w',(Instr.next (.pointer (some ⟨b.blk,b.base+0,none⟩)) false t).run P w=.ok u w'∧eT w0 β (.tup [.bool true,p.1.1,p.1.2]) (st.set r (.fiter (some p.1) p.2)) u w':=by
 obtain ⟨b',hb',mb,seen,clk,hh,⟨c,h1,hst,⟨lm,h2,h3⟩,_⟩,hbase,hN⟩:=h.obj r _ hr
 rw[hb] at hb';cases hb'
 have hmh:=h.froz _ _ h1
 have hguard:(!(⟨seen⟩:Array Nat).isEmpty && !c.isEmpty&&c.all fun e=>decide (e.born≥clk))=false:=by
  by_cases hc:c = #[]
  ·subst hc;simp
  ·have hne:0<c.size:=Nat.pos_of_ne_zero fun e=>hc (Array.eq_empty_of_size_eq_zero e)
   have hlt:=hst.1 c[0] (by simp)
   have:(c.all fun e=>decide (e.born≥clk))=false:=by
    rw[← Array.all_toList,List.all_eq_false]
    exact ⟨c[0],by simp,by simp;omega⟩
   rw[this];simp
 have hfil:(c.filter fun e=>!(⟨seen⟩:Array Nat).contains e.born).toList=c.toList.filter fun e=>!seen.contains e.born:=by
  rw[Array.toList_filter]
  congr 1
  funext e
  rw[← Array.contains_toList]
 generalize hL:(c.toList.filter fun e=>!seen.contains e.born)=L at h3
 have he:(c.filter fun e=>!(⟨seen⟩:Array Nat).contains e.born)=(⟨L⟩:Array MapEntry):=by
  apply Array.ext';rw[hfil,hL]
 have hLc:∀ e ∈ L,e ∈ c.toList∧e.born<clk:=by
  intro e he
  rw[← hL] at he
  have:=List.mem_filter.1 he
  exact ⟨this.1,hst.1 e this.1⟩
 have e1:(⟨L⟩:Array MapEntry).filter (fun e=>decide (e.born<clk))=⟨L⟩:=by
  apply Array.ext';rw[Array.toList_filter]
  exact List.filter_eq_self.2 fun e he=>by simpa using (hLc e he).2
 have e2:(⟨L⟩:Array MapEntry).filter (fun e=>decide (e.born≥clk)) = #[]:=by
  apply Array.ext';rw[Array.toList_filter]
  simp only[List.filter_eq_nil_iff]
  intro e he
  have:=(hLc e he).2
  simp;omega
 have run0:(Instr.next (.pointer (some ⟨b.blk,b.base+0,none⟩)) false t).run P w=((do
    let left:Array MapEntry:=⟨L⟩
    let old:=left.filter (·.born<clk)
    let new:=left.filter (·.born≥clk)
    let candidates:=(if old.isEmpty then #[none] else #[])++(old++new).map some
    match candidates[← choose (.mapNext candidates.size)]? with
    | some (some e)=>
     setObj b.blk (.mapIter (some mb) clk ((⟨seen⟩:Array Nat).push e.born) clk)
     pure (.tuple #[.bool true,e.key,e.val])
    | some none=>pure (.tuple #[.bool false])
    | none=>stuck "Next: no such candidate"):Sem Value).run P w:=by
  unfold Instr.next
  rw[hbase]
  simp only[ae,getObj,Sem.run,hh,ab]
  simp only[ae,hmh,ab,hguard,he,Bool.false_eq_true,if_false]
  rfl
 rw[run0]
 simp only[e1,e2]
 cases L with
 | nil=>
  left
  have:lm=[]:=List.Perm.eq_nil h3
  subst this
  refine ⟨by cases rest with|nil=>rfl|cons x xs=>simp[Entries] at h2,?_⟩
  simp[choose,Sem.run,Question.forced]
 | cons x0 L0=>
  right
  have e3:(if (⟨x0::L0⟩:Array MapEntry).isEmpty then #[none] else #[])++((⟨x0::L0⟩:Array MapEntry)++#[]).map some=(⟨(x0::L0).map some⟩:Array (Option MapEntry)):=by
   have:(⟨x0::L0⟩:Array MapEntry).isEmpty=false:=by simp[Array.isEmpty]
   rw[this]
   apply Array.ext';simp
  simp only[e3]
  have e4:(⟨(x0::L0).map some⟩:Array (Option MapEntry)).size=(x0::L0).length:=by simp
  rw[e4]
  obtain ⟨i,w1,hch,hi,hw1⟩:=iq (P:=P) (w:=w) (k:=(x0::L0).length) (by simp)
  rw[ae,hch]
  simp only[ab]
  have hrel1:Rel w0 β st w1:=by
   rcases hw1 with rfl|rfl
   ·exact h
   ·exact h.draw
  have hh1:w1.heap[b.blk]?=some (.mapIter (some mb) clk ⟨seen⟩ clk):=by
   rcases hw1 with rfl|rfl
   ·exact hh
   ·exact hh
  generalize hce:(x0::L0)[i]=ce
  have hmem:ce ∈ x0::L0:=by rw[← hce];exact List.getElem_mem hi
  obtain ⟨p,hp,hpe,lm',hl',hpm⟩:=lP h2 (h3.mem_iff.2 hmem)
  have e5:(⟨(x0::L0).map some⟩:Array (Option MapEntry))[i]?=some (some ce):=by
   rw[← hce,List.getElem?_toArray,bU,ba hi];rfl
  simp only[e5]
  refine ⟨p,hp,.tuple #[.bool true,ce.key,ce.val],bM w1 b.blk (.mapIter (some mb) clk ((⟨seen⟩:Array Nat).push ce.born) clk),by simp[setObj,Sem.run,hh1,bM],β,⟨_,rfl,_,_,rfl,rfl,_,_,rfl,hpe.1,_,_,rfl,hpe.2,rfl⟩,?_,Lay.le.refl _⟩
  refine hrel1.upd hr rfl hb rfl rfl rfl eR (fun _ hj=>dZ hj) ⟨b,hb,mb,seen++[ce.born],clk,?_,⟨c,h1,hst,⟨lm',hl',?_⟩,ce,(hLc ce hmem).1,by simp,hpe⟩,hbase,hN⟩
  ·rw[dL hh1]
   congr 2
   simp
  ·have hnd:((x0::L0).map (·.born)).Nodup:=by rw[← hL];exact hst.2.sublist (List.filter_sublist.map _)
   have f1:(c.toList.filter fun e=>!(seen++[ce.born]).contains e.born)=(x0::L0).filter fun e=>e.born != ce.born:=by
    rw[← hL,List.filter_filter]
    congr 1
    funext e
    simp[List.contains_eq_mem,bne,Bool.and_comm]
    by_cases k1:e.born=ce.born<;>simp[k1]
   rw[f1]
   have f2:((ce::lm').filter fun e=>e.born != ce.born).Perm ((x0::L0).filter fun e=>e.born != ce.born):=(hpm.trans h3).filter _
   have f3:((ce::lm').filter fun e=>e.born != ce.born)=lm':=by
    have hn2:((ce::lm').map (·.born)).Nodup:=((hpm.trans h3).map _).nodup_iff.2 hnd
    simp only[List.map_cons,List.nodup_cons] at hn2
    rw[List.filter_cons_of_neg (by simp)]
    exact List.filter_eq_self.2 fun e he=>by
     simp only[bne_iff_ne,ne_eq]
     exact fun k=>hn2.1 (List.mem_map.2 ⟨e,he,k⟩)
   rw[f3] at f2
   exact f2
theorem gM {t:TypeId} {x v:LV} {p:Value} {st':aa} (h:Rel w0 β st w) (hx:Rp β x p) (hp:jc st x=some (v,st')) :
  ∃ u w',(Instr.next p false t).run P w=.ok u w'∧eT w0 β v st' u w':=by
 unfold jc at hp
 split at hp
 case h_2=>cases hp
 rename_i r
 obtain ⟨b,hb,rfl⟩:=hx
 split at hp
 ·rename_i a1 a2 a3 hr
  simp only[ao,Prod.mk.injEq] at hp
  obtain ⟨rfl,rfl⟩:=hp
  obtain ⟨b',hb',mb,hh,hm,hbase,_⟩:=h.obj r _ hr
  rw[hb] at hb';cases hb'
  simp only[ItM] at hm;subst hm
  refine ⟨.tuple #[.bool false],w,?_,β,⟨_,rfl,_,_,rfl,rfl,rfl⟩,h,Lay.le.refl _⟩
  unfold Instr.next
  rw[hbase]
  simp only[ae,getObj,Sem.run,hh,ab,an]
 ·rename_i cur hr
  simp only[ao,Prod.mk.injEq] at hp
  obtain ⟨rfl,rfl⟩:=hp
  rcases ir (P:=P) (t:=t) h hr hb with ⟨_,hrun⟩ | ⟨p,hp,_⟩
  ·exact ⟨_,w,hrun,β,⟨_,rfl,_,_,rfl,rfl,rfl⟩,h,Lay.le.refl _⟩
  ·simp[fa] at hp
 ·rename_i cur e hr
  simp only[ao,Prod.mk.injEq] at hp
  obtain ⟨rfl,rfl⟩:=hp
  rcases ir (P:=P) (t:=t) h hr hb with ⟨hn,_⟩ | ⟨p,hp,u,w',h1,h2⟩
  ·cases hn
  ·simp[fa] at hp
   subst hp
   exact ⟨u,w',h1,h2⟩
 ·rename_i o since seen last hr
  split at hp
  case h_2=>cases hp
  rename_i md es bs n ho
  split at hp
  case isFalse=>cases hp
  rename_i hg
  obtain ⟨b',hb',mb,hh,⟨b2,hb2,rfl⟩,hbase,hN⟩:=h.obj r _ hr
  rw[hb] at hb';cases hb'
  obtain ⟨c,h1,h2,hst,hbs⟩:=h.gV ho hb2
  have hguard:(!(⟨seen⟩:Array Nat).isEmpty && !c.isEmpty&&c.all fun e=>decide (e.born≥last))=false:=by
   simp only[Bool.or_eq_true] at hg
   rcases hg with hg|hg
   ·rcases hg with hg|hg
    ·have:seen=[]:=by simpa using hg
     subst this;rfl
    ·have:es=[]:=by simpa using hg
     subst this
     simp only[Entries] at h2
     have:c = #[]:=by apply Array.ext';simpa using h2
     subst this;simp
   ·obtain ⟨x,hx1,hx2⟩:=List.any_eq_true.1 hg
    rw[← hbs] at hx1
    obtain ⟨e,he,rfl⟩:=List.mem_map.1 hx1
    have:(c.all fun e=>decide (e.born≥last))=false:=by
     rw[← Array.all_toList]
     rw[List.all_eq_false]
     exact ⟨e,he,by simpa[Nat.blt_eq] using hx2⟩
    rw[this];simp
  have hleft:=fN (seen:=seen) h2 hbs
  have hfil:(c.filter fun e=>!(⟨seen⟩:Array Nat).contains e.born).toList=c.toList.filter fun e=>!seen.contains e.born:=by
   rw[Array.toList_filter]
   congr 1
   funext e
   rw[← Array.contains_toList]
  have run0:∀ (L:List MapEntry),(c.toList.filter fun e=>!seen.contains e.born)=L→(Instr.next (.pointer (some ⟨b.blk,b.base+0,none⟩)) false t).run P w=((do
    let left:Array MapEntry:=⟨L⟩
    let old:=left.filter (·.born<since)
    let new:=left.filter (·.born≥since)
    let candidates:=(if old.isEmpty then #[none] else #[])++(old++new).map some
    match candidates[← choose (.mapNext candidates.size)]? with
    | some (some e)=>
     setObj b.blk (.mapIter (some b2.blk) since ((⟨seen⟩:Array Nat).push e.born) n)
     pure (.tuple #[.bool true,e.key,e.val])
    | some none=>pure (.tuple #[.bool false])
    | none=>stuck "Next: no such candidate"):Sem Value).run P w:=by
   intro L hL
   have he:(c.filter fun e=>!(⟨seen⟩:Array Nat).contains e.born)=(⟨L⟩:Array MapEntry):=by
    apply Array.ext';rw[hfil,hL]
   unfold Instr.next
   rw[hbase]
   simp only[ae,getObj,Sem.run,hh,ab]
   have hm:(getObj b2.blk).run P w=.ok (.map c n) w:=MapKept.run_getObj_map h1
   simp only[getObj,Sem.run] at hm
   simp only[ae,h1,ab,hguard,he,Bool.false_eq_true,if_false]
   rfl
  split at hp
  ·rename_i hl
   rw[hl] at hleft
   simp only[jj] at hleft
   simp only[ao,Prod.mk.injEq] at hp
   obtain ⟨rfl,rfl⟩:=hp
   refine ⟨.tuple #[.bool false],w,?_,β,⟨_,rfl,_,_,rfl,rfl,rfl⟩,h,Lay.le.refl _⟩
   rw[run0 [] hleft]
   have e1:(⟨[]⟩:Array MapEntry).filter (fun e=>decide (e.born<since)) = #[]:=rfl
   have e2:(⟨[]⟩:Array MapEntry).filter (fun e=>decide (e.born≥since)) = #[]:=rfl
   simp only[e1,e2]
   simp[choose,Sem.run,Question.forced]
  ·rename_i e bb hl
   rw[hl] at hleft
   obtain ⟨ce,cs',hce,hre,hbb,hcs⟩:=hleft
   simp only[jj] at hcs;subst hcs
   split at hp
   case isFalse=>cases hp
   rename_i hlt
   simp only[ao,Prod.mk.injEq] at hp
   obtain ⟨rfl,rfl⟩:=hp
   refine ⟨.tuple #[.bool true,ce.key,ce.val],bM w b.blk (.mapIter (some b2.blk) since ((⟨seen⟩:Array Nat).push ce.born) n),?_,β,⟨_,rfl,_,_,rfl,rfl,_,_,rfl,hre.1,_,_,rfl,hre.2,rfl⟩,?_,Lay.le.refl _⟩
   ·rw[run0 [ce] hce]
    have h3:ce.born<since:=by rw[hbb];exact hlt
    have e1:(⟨[ce]⟩:Array MapEntry).filter (fun e=>decide (e.born<since)) = #[ce]:=by
     apply Array.ext';rw[Array.toList_filter];simp[h3]
    have e2:(⟨[ce]⟩:Array MapEntry).filter (fun e=>decide (e.born≥since)) = #[]:=by
     apply Array.ext';rw[Array.toList_filter];simp;omega
    simp only[e1,e2]
    simp[choose,Sem.run,Question.forced,setObj,hh,bM]
   ·refine h.upd hr rfl hb rfl rfl rfl eR (fun _ hj=>dZ hj) ⟨b,hb,some b2.blk,?_,⟨b2,hb2,rfl⟩,hbase,hN⟩
    rw[dL hh,hbb]
    congr 2
    simp
  ·cases hp
 ·cases hp
theorem jj.get {β:Lay}:∀ {xs:List ((LV × LV) × Nat)} {cs:List MapEntry},jj β xs cs→cs.length=xs.length∧∀ (i:Nat) (x:(LV × LV) × Nat),xs[i]?=some x→∃ c,cs[i]?=some c∧Entry β x.1 c∧c.born=x.2
 | [],cs,h=>by simp only[jj] at h;subst h;simp
 | x::xs,cs,h=>by
  obtain ⟨c,cs',rfl,h1,h2,h3⟩:=h
  obtain ⟨h4,h5⟩:=jj.get h3
  refine ⟨by simp[h4],fun i y hy=>?_⟩
  cases i with
  | zero=>simp at hy;subst hy;exact ⟨c,by simp,h1,h2⟩
  | succ i=>simpa using h5 i y (by simpa using hy)
theorem oG {t:TypeId} {x:LV} {l:List (LV × aa)} {p:Value} (h:Rel w0 β st w) (hx:Rp β x p) (hp:cJ st x=some l) :
  ∃ q ∈ l,∃ u w',(Instr.next p false t).run P w=.ok u w'∧eT w0 β q.1 q.2 u w':=by
 unfold cJ at hp
 split at hp
 case h_2=>cases hp
 rename_i r
 have hp0:=hx
 obtain ⟨b,hb,rfl⟩:=hx
 split at hp
 ·rename_i a1 a2 a3 hr
  simp only[ao] at hp
  subst hp
  refine ⟨_,List.mem_singleton.2 rfl,?_⟩
  exact gM h hp0 (by unfold jc;simp only[hr])
 ·rename_i cur hr
  simp only[ao] at hp
  subst hp
  refine ⟨_,List.mem_singleton.2 rfl,?_⟩
  exact gM h hp0 (by unfold jc;simp only[hr])
 ·rename_i cur x xs hr
  simp only[ao] at hp
  subst hp
  rcases ir (P:=P) (t:=t) h hr hb with ⟨hn,_⟩ | ⟨p,hp,u,w',h1,h2⟩
  ·cases hn
  ·exact ⟨_,List.mem_map.2 ⟨p,hp,rfl⟩,u,w',h1,h2⟩
 ·rename_i o since seen last hr
  split at hp
  case h_2=>cases hp
  rename_i md es bs n ho
  split at hp
  case isFalse=>cases hp
  rename_i hg
  cases hl0:lI seen es bs with
  | nil=>
   simp only[hl0] at hp
   simp only[ao] at hp
   subst hp
   refine ⟨_,List.mem_singleton.2 rfl,?_⟩
   exact gM h hp0 (by unfold jc;simp only[hr,ho,if_pos hg,hl0])
  | cons x0 l0=>
  simp only[hl0] at hp
  split at hp
  case isFalse=>cases hp
  rename_i hall
  simp only[ao] at hp
  subst hp
  obtain ⟨b',hb',mb,hh,⟨b2,hb2,rfl⟩,hbase,hN⟩:=h.obj r _ hr
  rw[hb] at hb';cases hb'
  obtain ⟨c,h1,h2,hst,hbs⟩:=h.gV ho hb2
  have hguard:(!(⟨seen⟩:Array Nat).isEmpty && !c.isEmpty&&c.all fun e=>decide (e.born≥last))=false:=by
   simp only[Bool.or_eq_true] at hg
   rcases hg with hg|hg
   ·rcases hg with hg|hg
    ·have:seen=[]:=by simpa using hg
     subst this;rfl
    ·have:es=[]:=by simpa using hg
     subst this
     simp only[Entries] at h2
     have:c = #[]:=by apply Array.ext';simpa using h2
     subst this;simp
   ·obtain ⟨x,hx1,hx2⟩:=List.any_eq_true.1 hg
    rw[← hbs] at hx1
    obtain ⟨e,he,rfl⟩:=List.mem_map.1 hx1
    have:(c.all fun e=>decide (e.born≥last))=false:=by
     rw[← Array.all_toList]
     rw[List.all_eq_false]
     exact ⟨e,he,by simpa[Nat.blt_eq] using hx2⟩
    rw[this];simp
  have hleft:=fN (seen:=seen) h2 hbs
  rw[hl0] at hleft
  have hfil:(c.filter fun e=>!(⟨seen⟩:Array Nat).contains e.born).toList=c.toList.filter fun e=>!seen.contains e.born:=by
   rw[Array.toList_filter]
   congr 1
   funext e
   rw[← Array.contains_toList]
  generalize hL:(c.toList.filter fun e=>!seen.contains e.born)=L at hleft
  have he:(c.filter fun e=>!(⟨seen⟩:Array Nat).contains e.born)=(⟨L⟩:Array MapEntry):=by
   apply Array.ext';rw[hfil,hL]
  obtain ⟨hlen,hget⟩:=jj.get hleft
  have hold:∀ e ∈ L,e.born<since:=by
   intro e he
   obtain ⟨i,hi⟩:=List.getElem?_of_mem he
   have hil:i<(x0::l0).length:=by
    rw[← hlen];exact (List.getElem?_eq_some_iff.1 hi).1
   obtain ⟨c',hc',_,hb'⟩:=hget i _ (ba hil)
   rw[hi] at hc';cases hc'
   have:=List.all_eq_true.1 hall _ (List.getElem_mem hil)
   simp only[decide_eq_true_eq] at this
   omega
  have e1:(⟨L⟩:Array MapEntry).filter (fun e=>decide (e.born<since))=⟨L⟩:=by
   apply Array.ext';rw[Array.toList_filter]
   exact List.filter_eq_self.2 fun e he=>by simpa using hold e he
  have e2:(⟨L⟩:Array MapEntry).filter (fun e=>decide (e.born≥since)) = #[]:=by
   apply Array.ext';rw[Array.toList_filter]
   simp only[List.filter_eq_nil_iff]
   intro e he
   have:=hold e he
   simp;omega
  have hne:0<L.length:=by rw[hlen];simp
  obtain ⟨i,w1,hch,hi,hw1⟩:=iq (P:=P) (w:=w) hne
  have hrel1:Rel w0 β st w1:=by
   rcases hw1 with rfl|rfl
   ·exact h
   ·exact h.draw
  have hh1:w1.heap[b.blk]?=some (.mapIter (some b2.blk) since ⟨seen⟩ last):=by
   rcases hw1 with rfl|rfl
   ·exact hh
   ·exact hh
  have hil:i<(x0::l0).length:=by rw[← hlen];exact hi
  obtain ⟨ce,hce,hre,hbb⟩:=hget i _ (ba hil)
  generalize hq:(x0::l0)[i]=q at hre hbb
  refine ⟨(.tup [.bool true,q.1.1,q.1.2],st.set r (.iter (some o) since (seen++[q.2]) n)),?_,.tuple #[.bool true,ce.key,ce.val],bM w1 b.blk (.mapIter (some b2.blk) since ((⟨seen⟩:Array Nat).push ce.born) n),?_,β,⟨_,rfl,_,_,rfl,rfl,_,_,rfl,hre.1,_,_,rfl,hre.2,rfl⟩,?_,Lay.le.refl _⟩
  ·rw[← hq]
   exact List.mem_map.2 ⟨_,List.getElem_mem hil,rfl⟩
  ·have run0:(Instr.next (.pointer (some ⟨b.blk,b.base+0,none⟩)) false t).run P w=((do
    let left:Array MapEntry:=⟨L⟩
    let old:=left.filter (·.born<since)
    let new:=left.filter (·.born≥since)
    let candidates:=(if old.isEmpty then #[none] else #[])++(old++new).map some
    match candidates[← choose (.mapNext candidates.size)]? with
    | some (some e)=>
     setObj b.blk (.mapIter (some b2.blk) since ((⟨seen⟩:Array Nat).push e.born) n)
     pure (.tuple #[.bool true,e.key,e.val])
    | some none=>pure (.tuple #[.bool false])
    | none=>stuck "Next: no such candidate"):Sem Value).run P w:=by
    unfold Instr.next
    rw[hbase]
    simp only[ae,getObj,Sem.run,hh,ab]
    simp only[ae,h1,ab,hguard,he,Bool.false_eq_true,if_false]
    rfl
   rw[run0]
   simp only[e1,e2]
   have e3:(if (⟨L⟩:Array MapEntry).isEmpty then #[none] else #[])++((⟨L⟩:Array MapEntry)++#[]).map some=(⟨L.map some⟩:Array (Option MapEntry)):=by
    have:(⟨L⟩:Array MapEntry).isEmpty=false:=by
     simp only[Array.isEmpty,decide_eq_false_iff_not]
     show ¬ L.length=0
     omega
    rw[this]
    apply Array.ext';simp
   simp only[e3]
   have e4:(⟨L.map some⟩:Array (Option MapEntry)).size=L.length:=by simp
   rw[e4]
   rw[ae,hch]
   simp only[ab]
   have e5:(⟨L.map some⟩:Array (Option MapEntry))[i]?=some (some ce):=by
    simp[hce]
   simp only[e5]
   simp[setObj,Sem.run,hh1,bM]
  ·refine hrel1.upd hr rfl hb rfl rfl rfl eR (fun _ hj=>dZ hj) ⟨b,hb,some b2.blk,?_,⟨b2,hb2,rfl⟩,hbase,hN⟩
   rw[dL hh1,hbb]
   congr 2
   simp
 ·cases hp
end
end Go.CP
