/- Parts of the proof. -/
import Derived.Test.YtknegckgmklnhaaGreatDoorCp10
import Derived.MapKept
namespace Go.CP
section
variable {β:Lay} {P:Program} {w w0:World} {st:aa}
theorem Rel.cells {o k n:Nat} {m:Md} {l:List LV} {b:Bl} (h:Rel w0 β st w) (ho:st[o]?=some (.cells m l)) (hb:β o=some b) (hn:k+n≤l.length) :
  ∃ us:List Value,us.length=n∧Rps β ((l.drop k).take n) us∧(∀ j v,us[j]?=some v→w.cell? ⟨b.blk,b.base+k+j,none⟩=some v):=by
 obtain ⟨b',hb',c,e,fz,hh,h1,h2,h3,h4⟩:=h.obj o _ ho
 rw[hb] at hb';cases hb'
 have hget:∀ j,j<n→c[b.base+k+j]?=(c.toList.drop (b.base+k))[j]?:=fun j _=>by simp
 refine ⟨(c.toList.drop (b.base+k)).take n,by simp;omega,?_,?_⟩
 ·apply Rps.kO
  ·simp;omega
  ·intro i x hx
   rw[List.getElem?_take] at hx
   split at hx
   ·rename_i hi
    rw[List.getElem?_drop] at hx
    obtain ⟨u,hu,r⟩:=h3 _ _ hx
    refine ⟨u,?_,r⟩
    rw[List.getElem?_take,if_pos hi,List.getElem?_drop]
    simpa[Nat.add_assoc] using hu
   ·simp at hx
 ·intro j v hv
  rw[List.getElem?_take] at hv
  split at hv
  ·rename_i hj
   rw[List.getElem?_drop] at hv
   simp only[World.cell?,hh]
   simpa using hv
  ·simp at hv
theorem gq {o k n:Nat} {m:Md} {l:List LV} {b:Bl} (h:Rel w0 β st w) (ho:st[o]?=some (.cells m l)) (hb:β o=some b) (hn:k+n≤l.length) :
  ∃ us:List Value,us.length=n∧(loadCells ⟨b.blk,b.base+k,none⟩ n).run P w=.ok ⟨us⟩ w∧Rps β ((l.drop k).take n) us:=by
 obtain ⟨us,h1,h2,h3⟩:=h.cells ho hb hn
 refine ⟨us,h1,?_,h2⟩
 rw[← h1]
 exact run_loadCells_list w _ us (fun j v hv=>by rw[addr_add];exact h3 j v hv)
theorem Rel.um {cs:List LV} {us:List Value} {b base k n:Nat} (h:Rel w0 β st w) (hu:Rps β cs us) (hF:FzC β b base us) (hn:k+n≤cs.length) :
  ∃ vs:List Value,vs.length=n∧Rps β ((cs.drop k).take n) vs∧(∀ j v,vs[j]?=some v→w.cell? ⟨b,base+k+j,none⟩=some v):=by
 obtain ⟨c,e,fz,h1,h2,h3⟩:=hF
 have hh:=h.froz _ _ h1
 refine ⟨(us.drop k).take n,by have:=hu.length;simp;omega,(hu.drop k).take n,fun j v hv=>?_⟩
 rw[List.getElem?_take] at hv
 split at hv
 ·rw[List.getElem?_drop] at hv
  simp only[World.cell?,hh]
  have:=h3 _ _ hv
  simpa[Nat.add_assoc] using this
 ·cases hv
theorem sY {cs:List LV} {us:List Value} {b base k n:Nat} (h:Rel w0 β st w) (hu:Rps β cs us) (hF:FzC β b base us) (hn:k+n≤cs.length) :
  ∃ vs:List Value,vs.length=n∧(loadCells ⟨b,base+k,none⟩ n).run P w=.ok ⟨vs⟩ w∧Rps β ((cs.drop k).take n) vs:=by
 obtain ⟨vs,h1,h2,h3⟩:=h.um hu hF hn
 refine ⟨vs,h1,?_,h2⟩
 rw[← h1]
 exact run_loadCells_list w _ vs (fun j v hv=>by rw[addr_add];exact h3 j v hv)
theorem ic {g:Nat} {l:List LV}:∀ {st:aa},fI st g=some l→∃ o n:Nat,st[o]?=some (al.cells (.gl g n) l)
 | [],h=>by simp[fI] at h
 | x::st,h=>by
  unfold fI at h
  split at h
  ·cases ‹_›
  ·rename_i heq
   cases heq
   split at h
   ·rename_i hg
    subst hg;cases h;exact ⟨0,_,rfl⟩
   ·obtain ⟨o,n,ho⟩:=ic h
    exact ⟨o+1,n,by simpa using ho⟩
  ·rename_i heq
   cases heq
   obtain ⟨o,n,ho⟩:=ic h
   exact ⟨o+1,n,by simpa using ho⟩
theorem Rel.dY {g:Nat} {l:List LV} (h:Rel w0 β st w) (hg:fI st g=some l):∃ (o n:Nat) (b:Bl),st[o]?=some (al.cells (.gl g n) l)∧β o=some b∧b.blk=g∧b.base=0:=by
 obtain ⟨o,n,ho⟩:=ic hg
 obtain ⟨b,hb,c,e,fz,_,_,_,_,hm⟩:=h.obj o _ ho
 obtain ⟨h1,h2,_⟩:=hm.2.2 g n rfl
 exact ⟨o,n,b,ho,hb,h1,h2⟩
theorem nk {ty:TypeId} {p v:LV} {u:Value} (h:Rel w0 β st w) (hp:Rp β p u) (hl:mS P st ty p=some v) :
  ∃ u',(Instr.loadAt ty u).run P w=.ok u' w∧Rp β v u':=by
 unfold mS at hl
 split at hl
 ·rename_i hk
  split at hl
  ·rename_i ha
   unfold ldA at hl
   split at hl
   ·rename_i o k
    split at hl
    ·rename_i m l ho
     split at hl
     ·rename_i hn
      simp at hl;subst hl
      obtain ⟨b,hb,rfl⟩:=hp
      obtain ⟨us,h1,h2,h3⟩:=gq (P:=P) h ho hb hn
      refine ⟨.agg ⟨us⟩,?_,us,rfl,h3⟩
      unfold Instr.loadAt loadVar
      simp only[Instr.sureAddr,ae,an,ab,run_isAgg' hk,ha,if_true,run_sizeOf' hk,h2]
     ·simp at hl
    ·simp at hl
   ·rename_i g k
    split at hl
    ·rename_i l hg
     split at hl
     ·rename_i hn
      simp at hl;subst hl
      simp only[Rp] at hp;subst hp
      obtain ⟨o,_,b,ho,hb,rfl,hbase⟩:=h.dY hg
      obtain ⟨us,h1,h2,h3⟩:=gq (P:=P) h ho hb hn
      rw[hbase,av] at h2
      refine ⟨.agg ⟨us⟩,?_,us,rfl,h3⟩
      unfold Instr.loadAt loadVar
      simp only[Instr.sureAddr,ae,an,ab,run_isAgg' hk,ha,if_true,run_sizeOf' hk,h2]
     ·simp at hl
    ·simp at hl
   ·rename_i cs k
    split at hl
    ·rename_i hn
     simp at hl;subst hl
     obtain ⟨us,b,base,hus,rfl,hF⟩:=hp
     obtain ⟨vs,h1,h2,h3⟩:=sY (P:=P) h hus hF hn
     refine ⟨.agg ⟨vs⟩,?_,vs,rfl,h3⟩
     unfold Instr.loadAt loadVar
     simp only[Instr.sureAddr,ae,an,ab,run_isAgg' hk,ha,if_true,run_sizeOf' hk,h2]
    ·simp at hl
   ·simp at hl
  ·rename_i ha
   unfold ld1 at hl
   split at hl
   ·rename_i o k
    split at hl
    ·rename_i m l ho
     obtain ⟨b,hb,rfl⟩:=hp
     obtain ⟨u',h1,h2⟩:=h.cell ho hb hl
     refine ⟨u',?_,h2⟩
     unfold Instr.loadAt loadVar
     simp only[Instr.sureAddr,ae,an,ab,run_isAgg' hk]
     simp[ha,h1]
    ·simp at hl
   ·rename_i g k
    split at hl
    ·rename_i l hg
     simp only[Rp] at hp;subst hp
     obtain ⟨o,_,b,ho,hb,rfl,hbase⟩:=h.dY hg
     obtain ⟨u',h1,h2⟩:=h.cell ho hb hl
     rw[hbase,av] at h1
     refine ⟨u',?_,h2⟩
     unfold Instr.loadAt loadVar
     simp only[Instr.sureAddr,ae,an,ab,run_isAgg' hk]
     simp[ha,h1]
    ·simp at hl
   ·rename_i cs k
    obtain ⟨us,b,base,hus,rfl,hF⟩:=hp
    obtain ⟨u',hu',r⟩:=hus.get hl
    obtain ⟨c,e,fz,h1,h2,h3⟩:=hF
    have hh:=h.froz _ _ h1
    have hcell:w.cell? ⟨b,base+k,none⟩=some u':=by simp only[World.cell?,hh];exact h3 _ _ hu'
    refine ⟨u',?_,r⟩
    unfold Instr.loadAt loadVar
    simp only[Instr.sureAddr,ae,an,ab,run_isAgg' hk]
    simp[ha,hcell]
   ·simp at hl
 ·simp at hl
inductive jg:TypeDesc→LV→Value→Prop
 | str (s:List UInt8):jg .string (.str s) (.string ⟨⟨s⟩⟩)
 | int (k j:IntKind) (n:Int):jg (.int k) (.int j n) (.int j n)
theorem ie {d:TypeDesc} {s:Bool} {k:LV} {a:Value} (hk:Rp β k a) (hp:plainKey s k=true) (hd:keyOf d=some s):jg d k a:=by
 unfold plainKey at hp
 split at hp
 ·simp only[Rp] at hk;subst hk;subst hp
  cases d<;>simp[keyOf] at hd
  exact .str _
 ·simp only[Rp] at hk;subst hk
  cases s<;>simp at hp
  cases d<;>simp[keyOf] at hd
  exact .int _ _ _
 ·simp at hp
theorem cB {d:TypeDesc} {k x:LV} {a c:Value} {r:Bool} (hk:jg d k a) (hx:Rp β x c) (h:fJ k x=some r):Instr.sameNow d a c=some r∧(r=true→c=a):=by
 cases hk with
 | str s=>
  unfold fJ at h
  split at h
  ·rename_i a' b' e
   simp only[LV.str.injEq] at e;subst e
   simp only[Rp] at hx;subst hx
   simp only[ao] at h;subst h
   exact ⟨by simp only[Instr.sameNow,qQ],fun e=>by simp at e;subst e;rfl⟩
  ·rename_i e;simp at e
  ·simp at h
 | int k j n=>
  unfold fJ at h
  split at h
  ·rename_i e;simp at e
  ·rename_i e
   simp only[LV.int.injEq] at e
   obtain ⟨e1,e2⟩:=e
   subst e1;subst e2
   simp only[Rp] at hx;subst hx
   split at h
   ·rename_i e;subst e
    simp only[ao] at h;subst h
    exact ⟨by simp[Instr.sameNow],fun e=>by simp at e;subst e;rfl⟩
   ·simp at h
  ·simp at h
theorem dK {d:TypeDesc} {kt:TypeId} {k:LV} {a:Value} (hd:P.underlying kt=some d) (hk:jg d k a) (e:Bool) (n:Nat):(Instr.checkKey e (n+1) kt a).run P w=.ok () w:=by
 unfold Instr.checkKey
 simp only[ae,ai hd,ab]
 cases hk<;>rfl
theorem q0 {d:TypeDesc} {k:LV} {a:Value} (hk:jg d k a):(Instr.keyThatStays a a).run P w=.ok a w:=by
 cases hk<;>simp[Instr.keyThatStays,Instr.sameBits,qQ]
theorem da {d:TypeDesc} {k:LV} {a:Value} (hk:jg d k a):∀ {es:List (LV × LV)} {l:List MapEntry} {r:Option LV} (i:Nat),Entries β es l→cY k es=some r→
  (r=none∧Instr.findNow d a l i=some none)∨∃ (v:LV) (j:Nat) (e:MapEntry),r=some v∧Instr.findNow d a l i=some (some (i+j,e.val))∧Rp β v e.val
 | [],l,r,i,he,h=>by simp only[Entries] at he;subst he;simp[cY] at h;subst h;exact .inl ⟨rfl,rfl⟩
 | e::es,l,r,i,he,h=>by
  obtain ⟨c,us,rfl,hc,hs⟩:=he
  simp only[cY] at h
  split at h
  ·rename_i h1
   simp only[ao] at h;subst h
   have:=(cB hk hc.1 h1).1
   exact .inr ⟨_,0,c,rfl,by simp[Instr.findNow,this],hc.2⟩
  ·rename_i h1
   have:=(cB hk hc.1 h1).1
   rcases da hk (i+1) hs h with ⟨h2,h3⟩ | ⟨v,j,e',h2,h3,h4⟩
   ·exact .inl ⟨h2,by simp[Instr.findNow,this,h3]⟩
   ·exact .inr ⟨v,j+1,e',h2,by simp[Instr.findNow,this,h3];omega,h4⟩
  ·simp at h
theorem np {d:TypeDesc} {a:Value}:∀ {l:List MapEntry} {i j:Nat} {e:Value},Instr.findNow d a l i=some (some (j,e))→i≤j
 | [],i,j,e,h=>by simp[Instr.findNow] at h
 | c::l,i,j,e,h=>by
  simp only[Instr.findNow] at h
  split at h
  ·simp at h;omega
  ·have:=np h;omega
  ·simp at h
theorem q6 {d:TypeDesc} {k:LV} {a:Value} (hk:jg d k a):∀ {es:List (LV × LV)} {l:List MapEntry} {v:LV} (i:Nat) {j:Nat} {e:Value},Entries β es l→Instr.findNow d a l i=some (some (i+j,e))→cY k es=some (some v)→
  ∃ ce,l[j]?=some ce∧ce.val=e∧ce.key=a∧pF k es=j
 | [],l,v,i,j,e,he,h,_=>by simp only[Entries] at he;subst he;simp[Instr.findNow] at h
 | x::es,l,v,i,j,e,he,h,hf=>by
  obtain ⟨c,us,rfl,hc,hs⟩:=he
  simp only[cY] at hf
  split at hf
  ·rename_i h1
   have:=cB hk hc.1 h1
   simp only[Instr.findNow,this.1,ao,Prod.mk.injEq] at h
   obtain ⟨h2,h3⟩:=h
   have:j=0:=by omega
   subst this
   exact ⟨c,rfl,h3,(cB hk hc.1 h1).2 rfl,by simp[pF,h1]⟩
  ·rename_i h1
   have:=(cB hk hc.1 h1).1
   simp only[Instr.findNow,this] at h
   have hj:0<j:=by
    rcases Nat.eq_zero_or_pos j with e0|e0
    ·subst e0
     have:=np h
     omega
    ·exact e0
   obtain ⟨j',rfl⟩:∃ j',j=j' + 1:=⟨j-1,by omega⟩
   obtain ⟨ce,h2,h3,h4,h5⟩:=q6 hk (i+1) (j:=j') hs (by rw[show i+1+j'=i+(j' + 1) by omega];exact h) hf
   exact ⟨ce,by simpa using h2,h3,h4,by simp[pF,h1,h5]⟩
  ·simp at hf
theorem nq {d:TypeDesc} {k v:LV} {a u:Value} (hk:jg d k a) (ha:Rp β k a) (hv:Rp β v u):∀ {es es':List (LV × LV)} {l:List MapEntry} (i:Nat),Entries β es l→ow k v es=some es'→
  (Instr.findNow d a l i=some none∧∀ n,Entries β es' (l++[{ key:=a,val:=u,born:=n }]))∨
  ∃ (j:Nat) (e:MapEntry),Instr.findNow d a l i=some (some (i+j,e.val))∧l[j]?=some e∧e.key=a∧Entries β es' (l.set j { e with key:=a,val:=u })
 | [],es',l,i,he,h=>by
  simp only[Entries] at he;subst he;simp[ow] at h;subst h
  exact .inl ⟨rfl,fun n=>⟨_,[],rfl,⟨ha,hv⟩,rfl⟩⟩
 | e::es,es',l,i,he,h=>by
  obtain ⟨c,us,rfl,hc,hs⟩:=he
  simp only[ow] at h
  split at h
  ·rename_i h1
   simp only[ao] at h;subst h
   have:=cB hk hc.1 h1
   exact .inr ⟨0,c,by simp[Instr.findNow,this.1],rfl,this.2 rfl,_,us,rfl,⟨ha,hv⟩,hs⟩
  ·rename_i h1
   have:=(cB hk hc.1 h1).1
   simp only[Option.map_eq_some_iff] at h
   obtain ⟨es2,h,rfl⟩:=h
   rcases nq hk ha hv (i+1) hs h with ⟨h2,h3⟩ | ⟨j,e',h2,h3,h4,h5⟩
   ·exact .inl ⟨by simp[Instr.findNow,this,h2],fun n=>⟨c,_,rfl,hc,h3 n⟩⟩
   ·exact .inr ⟨j+1,e',by simp[Instr.findNow,this,h2];omega,by simpa using h3,h4,c,_,by simp,hc,h5⟩
  ·simp at h
theorem nr {d:TypeDesc} {k:LV} {a:Value} (hk:jg d k a):∀ {es es':List (LV × LV)} {l:List MapEntry} (i:Nat),Entries β es l→wB k es=some es'→
  (Instr.findNow d a l i=some none∧Entries β es' l)∨∃ (j:Nat) (e:MapEntry),Instr.findNow d a l i=some (some (i+j,e.val))∧j<l.length∧Entries β es' (l.eraseIdx j)∧pF k es=j
 | [],es',l,i,he,h=>by
  simp only[Entries] at he;subst he;simp[wB] at h;subst h
  exact .inl ⟨rfl,rfl⟩
 | e::es,es',l,i,he,h=>by
  obtain ⟨c,us,rfl,hc,hs⟩:=he
  simp only[wB] at h
  split at h
  ·rename_i h1
   simp only[ao] at h;subst h
   have:=cB hk hc.1 h1
   exact .inr ⟨0,c,by simp[Instr.findNow,this.1],by simp,by simpa using hs,by simp[pF,h1]⟩
  ·rename_i h1
   have:=(cB hk hc.1 h1).1
   simp only[Option.map_eq_some_iff] at h
   obtain ⟨es2,h,rfl⟩:=h
   rcases nr hk (i+1) hs h with ⟨h2,h3⟩ | ⟨j,e',h2,h3,h5,h6⟩
   ·exact .inl ⟨by simp[Instr.findNow,this,h2],c,us,rfl,hc,h3⟩
   ·exact .inr ⟨j+1,e',by simp[Instr.findNow,this,h2];omega,by simpa using h3,⟨c,_,by simp,hc,h5⟩,by simp[pF,h1,h6]⟩
  ·simp at h
theorem Entries.snoc {β:Lay} {e:LV × LV} {c:MapEntry} (hc:Entry β e c):∀ {es:List (LV × LV)} {l:List MapEntry},Entries β es l→Entries β (es++[e]) (l++[c])
 | [],_,h=>by simp only[Entries] at h;subst h;exact ⟨c,[],rfl,hc,rfl⟩
 | _::_,_,⟨v,us,h,r,s⟩=>by subst h;exact ⟨v,_,rfl,r,Entries.snoc hc s⟩
theorem Entries.at {β:Lay}:∀ {es:List (LV × LV)} {l:List MapEntry} {i:Nat} {e:LV × LV},Entries β es l→es[i]?=some e→∃ c,l[i]?=some c∧Entry β e c
 | [],_,_,_,_,h=>by simp at h
 | _::_,_,0,_,⟨v,us,e,r,s⟩,h=>by subst e;simp at h;subst h;exact ⟨v,rfl,r⟩
 | _::_,_,i+1,_,⟨v,us,e,r,s⟩,h=>by subst e;obtain ⟨c,h1,h2⟩:=Entries.at s (by simpa using h);exact ⟨c,by simpa using h1,h2⟩
theorem Entries.set {β:Lay} {e:LV × LV} {c:MapEntry} (hc:Entry β e c):∀ {es:List (LV × LV)} {l:List MapEntry} {i:Nat},Entries β es l→Entries β (es.set i e) (l.set i c)
 | [],_,_,h=>by simp only[Entries] at h;subst h;simp[Entries]
 | _::_,_,0,⟨v,us,h,r,s⟩=>by subst h;exact ⟨c,us,rfl,hc,s⟩
 | _::_,_,i+1,⟨v,us,h,r,s⟩=>by subst h;exact ⟨v,_,rfl,r,Entries.set hc s⟩
theorem Rel.gV {o:Nat} {m:Md} {es:List (LV × LV)} {bs:List Nat} {n:Nat} {b:Bl} (h:Rel w0 β st w) (ho:st[o]?=some (.map m es bs n)) (hb:β o=some b) :
  ∃ c,w.heap[b.blk]?=some (.map c n)∧Entries β es c.toList∧ja c n∧c.toList.map (·.born)=bs:=by
 obtain ⟨b',hb',c,hh,he,_,hs⟩:=h.obj o _ ho
 rw[hb] at hb';cases hb'
 exact ⟨c,hh,he,hs⟩
theorem Entries.length {β:Lay}:∀ {es:List (LV × LV)} {l:List MapEntry},Entries β es l→l.length=es.length
 | [],_,h=>by simp only[Entries] at h;simp[h]
 | _::_,_,⟨_,_,e,_,s⟩=>by subst e;simp[Entries.length s]
theorem lN {β:Lay}:∀ {ks vs:List LV} {us ws:List Value},Rps β ks us→Rps β vs ws→ks.length=vs.length→Entries β (ks.zip vs) ((us.zip ws).map fun p=>{ key:=p.1,val:=p.2,born:=0 })
 | [],_,us,ws,h,_,_=>by simp only[Rps] at h;subst h;simp[Entries]
 | _::_,[],_,_,_,_,hl=>by simp at hl
 | k::ks,v::vs,us,ws,h1,h2,hl=>by
  obtain ⟨u,us',rfl,r1,s1⟩:=h1
  obtain ⟨x,ws',rfl,r2,s2⟩:=h2
  exact ⟨_,_,rfl,⟨r1,r2⟩,lN s1 s2 (by simpa using hl)⟩
theorem jR {β:Lay}:∀ {es:List (LV × LV)} {l l':List MapEntry},Entries β es l→l.map (fun e=>(e.key,e.val))=l'.map (fun e=>(e.key,e.val))→Entries β es l'
 | [],l,l',h,e=>by
  simp only[Entries] at h;subst h
  simp at e;subst e;rfl
 | x::es,l,l',h,e=>by
  obtain ⟨c,cs,rfl,hc,hs⟩:=h
  cases l' with
  | nil=>simp at e
  | cons c' cs'=>
   simp only[List.map_cons,List.cons.injEq,Prod.mk.injEq] at e
   exact ⟨c',cs',rfl,⟨e.1.1 ▸ hc.1,e.1.2 ▸ hc.2⟩,jR hs e.2⟩
theorem jS {β:Lay} {es es':List (LV × LV)} (hp:es'.Perm es):∀ {l:List MapEntry},Entries β es l→∃ l',l'.Perm l∧Entries β es' l':=by
 induction hp with
 | nil=>intro l h;exact ⟨l,.refl _,h⟩
 | cons x _ ih=>
  intro l h
  obtain ⟨c,cs,rfl,hc,hs⟩:=h
  obtain ⟨l',h1,h2⟩:=ih hs
  exact ⟨c::l',h1.cons c,c,l',rfl,hc,h2⟩
 | swap x y l0=>
  intro l h
  obtain ⟨c,cs,rfl,hc,d,ds,rfl,hd,hs⟩:=h
  exact ⟨d::c::ds,.swap _ _ _,d,_,rfl,hd,c,ds,rfl,hc,hs⟩
 | trans _ _ ih1 ih2=>
  intro l h
  obtain ⟨l1,p1,e1⟩:=ih2 h
  obtain ⟨l2,p2,e2⟩:=ih1 e1
  exact ⟨l2,p2.trans p1,e2⟩
theorem oC {β:Lay} {l l':List MapEntry} (hp:l'.Perm l):∀ {es:List (LV × LV)},Entries β es l→∃ es',es'.Perm es∧Entries β es' l':=by
 induction hp with
 | nil=>intro es h;exact ⟨es,.refl _,h⟩
 | cons x _ ih=>
  intro es h
  cases es with
  | nil=>simp[Entries] at h
  | cons e es=>
   obtain ⟨c,cs,e',hc,hs⟩:=h
   cases e'
   obtain ⟨es',h1,h2⟩:=ih hs
   exact ⟨e::es',h1.cons e,_,_,rfl,hc,h2⟩
 | swap x y l0=>
  intro es h
  cases es with
  | nil=>simp[Entries] at h
  | cons e es=>
   obtain ⟨c,cs,e1,hc,hs⟩:=h
   cases e1
   cases es with
   | nil=>simp[Entries] at hs
   | cons e2 es=>
    obtain ⟨d,ds,e3,hd,hs⟩:=hs
    cases e3
    exact ⟨e2::e::es,.swap _ _ _,_,_,rfl,hd,_,_,rfl,hc,hs⟩
 | trans _ _ ih1 ih2=>
  intro es h
  obtain ⟨l1,p1,e1⟩:=ih2 h
  obtain ⟨l2,p2,e2⟩:=ih1 e1
  exact ⟨l2,p2.trans p1,e2⟩
theorem lg {α γ:Type} {f:α→γ} {ps qs:List γ} (hp:ps.Perm qs):∀ {l:List α},l.map f=qs→∃ l':List α,l'.Perm l∧l'.map f=ps:=by
 induction hp with
 | nil=>intro l hq;simp at hq;subst hq;exact ⟨[],.refl _,rfl⟩
 | cons x _ ih=>
  intro l hq
  cases l with
  | nil=>simp at hq
  | cons e l=>
   simp only[List.map_cons,List.cons.injEq] at hq
   obtain ⟨l',p,e'⟩:=ih hq.2
   exact ⟨e::l',p.cons e,by simp[hq.1,e']⟩
 | swap x y l0=>
  intro l hq
  cases l with
  | nil=>simp at hq
  | cons e l=>
   cases l with
   | nil=>simp at hq
   | cons e2 l=>
    simp only[List.map_cons,List.cons.injEq] at hq
    exact ⟨e2::e::l,.swap _ _ _,by simp[hq.1,hq.2.1,hq.2.2]⟩
 | trans _ _ ih1 ih2=>
  intro l hq
  obtain ⟨l1,p1,e1⟩:=ih2 hq
  obtain ⟨l2,p2,e2⟩:=ih1 e1
  exact ⟨l2,p2.trans p1,e2⟩
theorem FzM.entries {β:Lay} {b:Nat} {ks vs:List LV} {us ws:List Value} (r1:Rps β ks us) (r2:Rps β vs ws) (hl:ks.length=vs.length) (h:FzM β b us ws) :
  ∃ es clk es',β.f b=some (.map es clk)∧ja es clk∧es'.Perm (ks.zip vs)∧Entries β es' es.toList:=by
 obtain ⟨es,clk,h1,h2,h3,h4,h5⟩:=h
 have hz:=lN r1 r2 hl
 obtain ⟨l',hp,he⟩:=lg (f:=fun e:MapEntry=>(e.key,e.val)) h4 rfl
 have he':Entries β (ks.zip vs) l':=jR hz (by rw[he,List.map_map];simp[Function.comp_def])
 obtain ⟨es',q1,q2⟩:=oC hp.symm he'
 exact ⟨es,clk,es',h1,h5,q1,q2⟩
theorem jh:∀ {ks:List LV} {seen:List (List UInt8)} {ss:List (List UInt8)},cA ks seen=some ss→ks=ss.map .str∧ss.Nodup∧∀ s ∈ ss,s ∉ seen
 | [],seen,ss,h=>by simp[cA] at h;subst h;simp
 | k::ks,seen,ss,h=>by
  cases k<;>simp only[cA] at h<;>try (simp at h;done)
  rename_i s
  split at h
  ·simp at h
  ·rename_i hs
   obtain ⟨ss',h1,rfl⟩:=Option.map_eq_some_iff.1 h
   obtain ⟨rfl,h2,h3⟩:=jh h1
   refine ⟨rfl,List.nodup_cons.2 ⟨fun hc=>h3 s hc (by simp),h2⟩,fun x hx=>?_⟩
   rcases List.mem_cons.1 hx with rfl|hx
   ·exact hs
   ·exact fun hc=>h3 x hx (List.mem_cons_of_mem _ hc)
theorem gJ {s:List UInt8}:∀ {es:List (LV × LV)} {ss:List (List UInt8)},es.map (·.1)=ss.map .str→(s ∉ ss∧cY (.str s) es=some none)∨∃ v,(LV.str s,v) ∈ es∧cY (.str s) es=some (some v)
 | [],ss,h=>by
  cases ss with
  | nil=>exact .inl ⟨by simp,rfl⟩
  | cons a ss=>simp at h
 | e::es,ss,h=>by
  cases ss with
  | nil=>simp at h
  | cons a ss=>
   obtain ⟨k,v⟩:=e
   simp only[List.map_cons,List.cons.injEq] at h
   obtain ⟨rfl,h⟩:=h
   by_cases hs:s=a
   ·subst hs
    exact .inr ⟨v,by simp,by simp[cY,fJ]⟩
   ·have hne:fJ (.str s) (.str a)=some false:=by simp[fJ,hs]
    rcases gJ (s:=s) h with ⟨h1,h2⟩ | ⟨v',h1,h2⟩
    ·exact .inl ⟨by simp[hs,h1],by simp[cY,hne,h2]⟩
    ·exact .inr ⟨v',List.mem_cons_of_mem _ h1,by simp[cY,hne,h2]⟩
theorem str_inj:Function.Injective (LV.str):=fun a b e=>by cases e;rfl
theorem sZ {s:List UInt8} {es es':List (LV × LV)} {ss:List (List UInt8)} (h:es.map (·.1)=ss.map .str) (hn:ss.Nodup) (hp:es'.Perm es):cY (.str s) es'=cY (.str s) es:=by
 have hm:=hp.map (·.1)
 have hm2:(es'.map (·.1)).Perm (ss.map .str):=h ▸ hm
 obtain ⟨ss',hps,hss⟩:=lg (f:=LV.str) hm2 rfl
 have uniq:∀ v v',(LV.str s,v) ∈ es→(LV.str s,v') ∈ es→v=v':=by
  have hn':(es.map (·.1)).Nodup:=by rw[h];exact List.Pairwise.map _ (fun a b hab e=>hab (str_inj e)) hn
  clear hm hp hss hps h hn
  induction es with
  | nil=>simp
  | cons e es ih=>
   intro v v' h1 h2
   simp only[List.map_cons,List.nodup_cons] at hn'
   rcases List.mem_cons.1 h1 with e1|h1
   ·rcases List.mem_cons.1 h2 with e2|h2
    ·rw[← e1] at e2;cases e2;rfl
    ·exact absurd (List.mem_map.2 ⟨_,h2,by rw[← e1]⟩) hn'.1
   ·rcases List.mem_cons.1 h2 with e2|h2
    ·exact absurd (List.mem_map.2 ⟨_,h1,by rw[← e2]⟩) hn'.1
    ·exact ih hn'.2 v v' h1 h2
 have key:∀ {l:List (LV × LV)} {tt:List (List UInt8)} {v:LV},l.map (·.1)=tt.map .str→(LV.str s,v) ∈ l→s ∈ tt:=by
  intro l tt v hl hv
  have:LV.str s ∈ l.map (·.1):=List.mem_map.2 ⟨_,hv,rfl⟩
  rw[hl] at this
  obtain ⟨a,ha,e⟩:=List.mem_map.1 this
  cases e;exact ha
 rcases gJ (s:=s) h with ⟨h1,h2⟩ | ⟨v,h1,h2⟩
 ·rcases gJ (s:=s) hss.symm with ⟨_,h4⟩ | ⟨v',h3,_⟩
  ·rw[h2,h4]
  ·exact absurd (hps.mem_iff.1 (key hss.symm h3)) h1
 ·rcases gJ (s:=s) hss.symm with ⟨h3,_⟩ | ⟨v',h3,h4⟩
  ·exact absurd (hps.mem_iff.2 (key h h1)) h3
  ·rw[h2,h4,uniq v v' h1 (hp.mem_iff.1 h3)]
theorem pM {ty:TypeId} {m k v:LV} {p q:Value} {ok:Bool} (h:Rel w0 β st w) (hm:Rp β m p) (hk:Rp β k q) (hl:pE P st ty m k ok=some v) :
  ∃ u,(Instr.lookup ty p q ok).run P w=.ok u w∧Rp β v u:=by
 unfold pE at hl
 split at hl
 ·rename_i kt e ht
  split at hl
  ·rename_i s hs
   unfold qL at hs
   split at hs
   ·rename_i d hd
    unfold jb at hl
    split at hl
    ·rename_i ks vs
     unfold ue at hl
     split at hl
     case isFalse=>cases hl
     rename_i hc
     obtain ⟨rfl,hpk,htk,hlen⟩:=hc
     have hka:=ie hk hpk hs
     obtain ⟨ss,hss⟩:=Option.isSome_iff_exists.1 htk
     obtain ⟨hks,hnd,_⟩:=jh hss
     obtain ⟨b,us,ws,rfl,r1,r2,hF⟩:=hm
     obtain ⟨es,clk,es',h1,h2,h3,h4⟩:=hF.entries r1 r2 hlen
     have hh:=h.froz _ _ h1
     have hfst:(ks.zip vs).map (·.1)=ss.map .str:=by rw[← hks];exact List.map_fst_zip (by omega)
     have hmf:cY k (ks.zip vs)=cY k es':=by
      unfold plainKey at hpk
      split at hpk
      ·exact (sZ hfst hnd h3).symm
      ·cases hpk
      ·cases hpk
     rw[hmf] at hl
     have run:∀ (r:Option (Nat × Value)),Instr.findNow d q es.toList 0=some r→(Instr.lookup ty (.map (some b)) q ok).run P w=((do
        let (v,ok') ← match r with
         | some (_,v)=>pure (v,true)
         | none=>pure (← zeroValue e,false)
        pure (if ok then .tuple #[v,.bool ok'] else v)):Sem Value).run P w:=by
      intro r hr
      unfold Instr.lookup
      simp only[ae,ai ht,ab,an,MapKept.run_getObj_map hh,dK hd hka,MapKept.run_findKey hd hr]
      cases r with
      | none=>rfl
      | some x=>rfl
     split at hl
     ·rename_i v' hf
      simp at hl;subst hl
      rcases da hka 0 h4 hf with ⟨h1,_⟩ | ⟨v2,j,e2,h1,h2,h3⟩
      ·simp at h1
      ·simp at h1;subst h1
       rw[run _ h2]
       cases ok
       ·exact ⟨_,rfl,h3⟩
       ·exact ⟨_,rfl,[_,_],rfl,_,_,rfl,h3,_,_,rfl,rfl,rfl⟩
     ·rename_i z hf hz
      simp at hl;subst hl
      rcases da hka 0 h4 hf with ⟨_,h2⟩ | ⟨v2,j,e2,h1,_,_⟩
      ·rw[run _ h2]
       obtain ⟨u',h4,h5,_⟩:=dW (w:=w) hz
       have h6:=cR (β:=β) h5
       simp only[ae,h4,ab,an]
       cases ok
       ·exact ⟨_,rfl,h6⟩
       ·exact ⟨_,rfl,[_,_],rfl,_,_,rfl,h6,_,_,rfl,rfl,rfl⟩
      ·simp at h1
     ·simp at hl
    unfold uf at hl
    split at hl
    ·rename_i hp
     have hka:=ie hk hp hs
     split at hl
     ·rename_i es hes
      have hmap:(p=.map none∧Entries β es [])∨∃ r c clock,p=.map (some r)∧w.heap[r]?=some (.map c clock)∧Entries β es c.toList:=by
       unfold mapOf at hes
       split at hes
       ·simp only[Rp] at hm;subst hm;simp at hes;subst hes
        exact .inl ⟨rfl,rfl⟩
       ·rename_i o
        split at hes
        ·rename_i md es2 _ _ ho
         simp at hes;subst hes
         obtain ⟨b,hb,rfl⟩:=hm
         obtain ⟨c,h1,h2,_⟩:=h.gV ho hb
         exact .inr ⟨_,c,_,rfl,h1,h2⟩
        ·simp at hes
       ·simp at hes
      have hrun:∃ c:List MapEntry,Entries β es c∧∀ (r:Option (Nat × Value)),Instr.findNow d q c 0=some r→(Instr.lookup ty p q ok).run P w=((do
        let (v,ok') ← match r with
         | some (_,v)=>pure (v,true)
         | none=>pure (← zeroValue e,false)
        pure (if ok then .tuple #[v,.bool ok'] else v)):Sem Value).run P w:=by
       rcases hmap with ⟨rfl,he⟩ | ⟨r,c,clock,rfl,h1,he⟩
       ·refine ⟨[],he,fun r hr=>?_⟩
        unfold Instr.lookup
        simp only[ae,ai ht,ab,an,dK hd hka,MapKept.run_findKey hd (l:=(#[]:Array MapEntry).toList) hr]
        cases r with
        | none=>rfl
        | some x=>rfl
       ·refine ⟨c.toList,he,fun r hr=>?_⟩
        unfold Instr.lookup
        simp only[ae,ai ht,ab,an,MapKept.run_getObj_map h1,dK hd hka,MapKept.run_findKey hd hr]
        cases r with
        | none=>rfl
        | some x=>rfl
      obtain ⟨c,hce,run⟩:=hrun
      split at hl
      ·rename_i v' hf
       simp at hl;subst hl
       rcases da hka 0 hce hf with ⟨h1,_⟩ | ⟨v2,j,e2,h1,h2,h3⟩
       ·simp at h1
       ·simp at h1;subst h1
        rw[run _ h2]
        cases ok
        ·exact ⟨_,rfl,h3⟩
        ·exact ⟨_,rfl,[_,_],rfl,_,_,rfl,h3,_,_,rfl,rfl,rfl⟩
      ·rename_i z hf hz
       simp at hl;subst hl
       rcases da hka 0 hce hf with ⟨_,h2⟩ | ⟨v2,j,e2,h1,_,_⟩
       ·rw[run _ h2]
        obtain ⟨u',h4,h5,_⟩:=dW (w:=w) hz
        have h6:=cR (β:=β) h5
        simp only[ae,h4,ab,an]
        cases ok
        ·exact ⟨_,rfl,h6⟩
        ·exact ⟨_,rfl,[_,_],rfl,_,_,rfl,h6,_,_,rfl,rfl,rfl⟩
       ·simp at h1
      ·simp at hl
     ·simp at hl
    ·simp at hl
   ·simp at hs
  ·simp at hl
 ·simp at hl
end
def bM (w:World) (b:Nat) (o:Obj):World:={ w with heap:=w.heap.setIfInBounds b o }
section
variable {β:Lay} {P:Program} {w w0:World} {st:aa}
theorem dL {b:Nat} {o x:Obj} (h:w.heap[b]?=some x):(bM w b o).heap[b]?=some o:=by
 have hlt:b<w.heap.size:=(Array.getElem?_eq_some_iff.1 h).1
 simp[bM,hlt]
theorem dZ {b k:Nat} {o:Obj} (h:k≠b):(bM w b o).heap[k]?=w.heap[k]?:=by
 simp[bM,Ne.symm h]
theorem eR {b:Nat} {o:Obj}:(bM w b o).heap.size=w.heap.size:=by simp[bM]
theorem s0 {b:Nat} {o o':Obj}:bM (bM w b o) b o'=bM w b o':=by simp[bM]
theorem vv {b:Nat} {o:Obj} (h:w.heap[b]?=some o):bM w b o=w:=by
 obtain ⟨hlt,hx⟩:=Array.getElem?_eq_some_iff.1 h
 cases w
 simp only[bM,World.mk.injEq,and_true]
 apply Array.ext
 ·simp
 ·intro i h1 h2
  rw[Array.getElem_setIfInBounds]
  split
  ·rename_i e;subst e;exact hx.symm
  ·rfl
theorem nt {b k:Nat} {c:Array Value} {e:TypeId} {fz:Nat × Nat} {v:Value} (h:w.heap[b]?=some (.cells c e fz)) :
  w.setCell ⟨b,k,none⟩ v=bM w b (.cells (c.setIfInBounds k v) e fz):=by
 obtain ⟨hlt,hx⟩:=Array.getElem?_eq_some_iff.1 h
 simp only[World.setCell,bM]
 congr 1
 apply Array.ext
 ·simp
 ·intro i h1 h2
  rw[Array.getElem_modify,Array.getElem_setIfInBounds]
  by_cases e:b=i
  ·subst e;rw[if_pos rfl,if_pos rfl];rw[hx];rfl
  ·rw[if_neg e,if_neg e]
theorem LV.vw {v:LV} {u:Value} (h:Rp β v u) (ho:v.one=true):u.oneCell'=true:=by
 cases v<;>simp[LV.one] at ho
 all_goals
  first
   | (simp only[Rp] at h;subst h;rfl)
   | (obtain ⟨_,_,_,_,rfl,_⟩:=h;rfl)
   | (obtain ⟨_,_,_,_,rfl,_,_⟩:=h;rfl)
   | (obtain ⟨_,_,_,rfl,_,_,_⟩:=h;rfl)
   | (obtain ⟨_,_,rfl⟩:=h;rfl)
   | (obtain ⟨_,_,_,rfl⟩:=h;rfl)
   | (obtain ⟨_,_,rfl,_⟩:=h;rfl)
   | (obtain ⟨_,rfl,_⟩:=h;rfl)
theorem gK:∀ {vs:List LV} {us:List Value},Rps β vs us→vs.all LV.one=true→∀ u ∈ us,u.oneCell'=true
 | [],us,h,_,u,hu=>by simp only[Rps] at h;subst h;simp at hu
 | v::vs,us,h,ho,u,hu=>by
  obtain ⟨u',us',rfl,r,s⟩:=h
  simp only[List.all_cons,aF] at ho
  rcases List.mem_cons.1 hu with e|e
  ·subst e;exact LV.vw r ho.1
  ·exact gK s ho.2 u e
theorem q7 (l:List Value) (k:Nat):bJ l k []=l:=by simp[bJ]
theorem pN {l:List Value} {k:Nat} {v:Value} {vs:List Value} (h:k<l.length):bJ (l.set k v) (k+1) vs=bJ l k (v::vs):=by
 unfold bJ
 rw[fV _ _ _ h,List.drop_set_of_lt (by omega)]
 simp[Nat.add_comm,Nat.add_left_comm]
theorem run_storeCells' {b k:Nat} {e:TypeId} {fz:Nat × Nat}:∀ (vs:List Value) (i:Nat) (c:Array Value) (w:World),w.heap[b]?=some (.cells c e fz)→k+i+vs.length≤c.size→
  (∀ j,j<c.size→¬(fz.1≤j∧j<fz.2))→(∀ v ∈ vs,v.oneCell'=true)→
  (storeCells ⟨b,k,none⟩ vs i).run P w=.ok () (bM w b (.cells ⟨bJ c.toList (k+i) vs⟩ e fz))
 | [],i,c,w,h,_,_,_=>by
  simp only[storeCells,an,q7]
  rw[vv h]
 | v::vs,i,c,w,h,hn,hf,ho=>by
  simp only[aN] at hn
  have hlt:k+i<c.size:=by omega
  have hc:w.cell? ⟨b,k+i,none⟩=some c[k+i]:=by simp[World.cell?,h,hlt]
  have hz:w.frozen? ⟨b,k+i,none⟩=false:=by
   have:=hf (k+i) hlt
   simp only[World.frozen?,h]
   simpa using this
  have hset:=nt (k:=k+i) (v:=v) h
  simp only[storeCells,ae,addr_add]
  rw[run_store P w _ v .plain (ho v (by simp)),hc]
  simp only[hz,Bool.false_eq_true,if_false,ab]
  rw[hset,run_storeCells' vs (i+1) (c.setIfInBounds (k+i) v) (bM w b (.cells (c.setIfInBounds (k+i) v) e fz)) (dL h) (by simp;omega) (by simpa using hf) (fun u hu=>ho u (by simp[hu]))]
  rw[s0,Array.toList_setIfInBounds,show k+(i+1)=k+i+1 from by omega,pN (by simpa using hlt)]
theorem Rel.BI {o:Nat} {m:Md} {l:List LV} {b:Bl} (h:Rel w0 β st w) (ho:st[o]?=some (.cells m l)) (hm:m.w=true) (hb:β o=some b) :
  ∃ c e fz,w.heap[b.blk]?=some (.cells c e fz)∧c.size=b.base+b.room∧l.length≤b.room∧Rps β l ((c.toList.drop b.base).take l.length)∧(∀ j,j<c.size→¬(fz.1≤j∧j<fz.2))∧Ad w0.heap.size m b c e fz:=by
 obtain ⟨b',hb',c,e,fz,hh,h1,h2,h3,h4⟩:=h.obj o _ ho
 rw[hb] at hb';cases hb'
 refine ⟨c,e,fz,hh,h1,h2,?_,(h4.1 hm).2,h4⟩
 apply Rps.kO
 ·simp;omega
 ·intro i x hx
  obtain ⟨u,hu,r⟩:=h3 i x hx
  have hi:i<l.length:=by
   rcases Nat.lt_or_ge i l.length with k|k
   ·exact k
   ·simp[List.getElem?_eq_none k] at hx
  exact ⟨u,by rw[List.getElem?_take,if_pos hi,List.getElem?_drop];simpa using hu,r⟩
theorem Rel.bu {o k:Nat} {md:Md} {l l':List LV} {b:Bl} {us:List Value} (h:Rel w0 β st w) (ho:st[o]?=some (.cells md l)) (hmd:md.w=true) (hb:β o=some b) (hk:k+us.length≤b.room)
  (ho1:∀ u ∈ us,u.oneCell'=true)
  (hl':l'.length≤b.room) (hrel:∀ m:List Value,m.length=b.room→Rps β l (m.take l.length)→Rps β l' ((bJ m k us).take l'.length)) :
  ∃ w',(storeCells ⟨b.blk,b.base+k,none⟩ us 0).run P w=.ok () w'∧Rel w0 β (st.set o (.cells md l')) w':=by
 obtain ⟨c,e,fz,hh,h1,h2,h3,h4,h5⟩:=h.BI ho hmd hb
 refine ⟨bM w b.blk (.cells ⟨bJ c.toList (b.base+k) us⟩ e fz),?_,?_⟩
 ·have:=run_storeCells' (P:=P) us 0 c w hh (by omega:b.base+k+0+us.length≤c.size) h4 ho1
  simpa using this
 ·have hlen:(bJ c.toList (b.base+k) us).length=c.size:=by
   unfold bJ;simp;omega
  refine h.upd ho hmd hb rfl rfl rfl eR (fun j hj=>dZ hj) ?_
  refine ⟨b,hb,⟨bJ c.toList (b.base+k) us⟩,e,fz,dL hh,by simpa[hlen] using h1,hl',?_,fun _=>⟨(h.obj o _ ho).mR hmd hb,by simpa[hlen] using h4⟩,h5.2.1,h5.2.2⟩
  have hdrop:(bJ c.toList (b.base+k) us).drop b.base=bJ (c.toList.drop b.base) k us:=by
   unfold bJ
   rw[List.append_assoc,List.append_assoc,List.drop_append_of_le_length (by simp;omega),List.drop_take,List.drop_drop]
   rw[show b.base+k-b.base=k from by omega,show b.base+(k+us.length)=b.base+k+us.length from by omega]
  have hr:=hrel (c.toList.drop b.base) (by simp;omega) h3
  intro i x hx
  obtain ⟨u,hu,r⟩:=hr.get hx
  refine ⟨u,?_,r⟩
  rw[← hdrop,List.getElem?_take] at hu
  split at hu
  ·rw[List.getElem?_drop] at hu
   simpa using hu
  ·simp at hu
end
end Go.CP
