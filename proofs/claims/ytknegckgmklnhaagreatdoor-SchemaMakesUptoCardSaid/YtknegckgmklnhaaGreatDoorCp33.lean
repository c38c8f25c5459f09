/- Parts of the proof. -/
import Derived.Test.YtknegckgmklnhaaGreatDoorCp34
import Derived.Lib.LaidU8
import Derived.Shelf.SlIter.Nil
namespace Go.CP
@[simp] theorem Cy {p q s:Prop}:xf (.bool true) p q s=p:=rfl
@[simp] theorem B6 {p q s:Prop}:xf (.bool false) p q s=q:=rfl
@[simp] theorem CS {p q s:Prop}:xf (.tup []) p q s=s:=rfl
def SlA (st:aa) (c:Nat) (x:LV) (rows:List (List LV)):Prop:=
 (rows=[]∧(x=.nils∨x=.emp))∨∃ o cap m,x=.sl o 0 rows.length (.ex cap)∧st[o]?=some (.cells m rows.flatten)∧∀ r ∈ rows,r.length=c
theorem SlA.fr {st st':aa} {c:Nat} {x:LV} {rows:List (List LV)} {S:Nat→Prop} (h:SlA st c x rows) (hf:Fr st st' S) (hs:∀ j,j<st.length→¬ S j):SlA st' c x rows:=by
 rcases h with h|⟨o,cap,m,h1,h2,h3⟩
 ·exact .inl h
 ·exact .inr ⟨o,cap,m,h1,hf.get h2 (hs o (cI h2)),h3⟩
theorem SlA.bD {st:aa} {c:Nat} {x:LV} {rows:List (List LV)} (h:SlA st c x rows):bD x=some (.int .i64 rows.length):=by
 rcases h with ⟨rfl,rfl|rfl⟩ | ⟨o,cap,m,rfl,_⟩<;>rfl
theorem nH {α:Type} {c:Nat}:∀ {rows:List (List α)},(∀ r ∈ rows,r.length=c)→∀ {i:Nat} {r:List α},rows[i]?=some r→(rows.flatten.drop (i*c)).take c=r∧(i+1)*c≤rows.flatten.length
 | [],_,i,r,h=>by simp at h
 | a::rows,hl,0,r,h=>by
  simp at h;subst h
  have:=hl a (by simp)
  simp[List.take_left' this];omega
 | a::rows,hl,i+1,r,h=>by
  have ha:=hl a (by simp)
  obtain ⟨h1,h2⟩:=nH (rows:=rows) (fun r hr=>hl r (by simp[hr])) (i:=i) (by simpa using h)
  rw[List.flatten_cons]
  have e:(i+1)*c=c+i*c:=by rw[Nat.add_mul,Nat.one_mul,Nat.add_comm]
  refine ⟨by rw[e,← List.drop_drop,List.drop_left' ha];exact h1,?_⟩
  rw[List.length_append,Nat.add_mul,Nat.one_mul];omega
theorem SlA.at {st:aa} {c:Nat} {x:LV} {rows:List (List LV)} (h:SlA st c x rows) {i:Nat} {r:List LV} (hr:rows[i]?=some r) {kk:IntKind} :
  ∃ o,bh c x (.int kk i)=some (.ptr o (i*c))∧ldA st (.ptr o (i*c)) c=some (.agg r)∧∀ j v,r[j]?=some v→ld1 st (.ptr o (i*c+j))=some v:=by
 rcases h with ⟨rfl,_⟩ | ⟨o,cap,m,rfl,h2,h3⟩
 ·simp at hr
 ·have hlt:=(List.getElem?_eq_some_iff.1 hr).1
  obtain ⟨e1,e2⟩:=nH h3 hr
  have hc:=h3 r (List.mem_of_getElem? hr)
  refine ⟨o,?_,?_,fun j v hv=>?_⟩
  ·simp only[bh]
   rw[if_pos ⟨by omega,by omega⟩];simp
  ·simp only[ldA,h2]
   rw[if_pos (by rw[Nat.add_mul,Nat.one_mul] at e2;exact e2),e1]
  ·simp only[ld1,h2]
   have hj:=(List.getElem?_eq_some_iff.1 hv).1
   have:((rows.flatten.drop (i*c)).take c)[j]?=some v:=by rw[e1];exact hv
   rw[List.getElem?_take,if_pos (by omega),List.getElem?_drop] at this
   exact this
theorem Typed.str {P:Program} {st:aa} {n:Nat} {t:TypeId} {xs:List LV} (h:Typed P st n t xs) (ht:P.underlying t=some .string):∃ s,xs=[.str s]∧s.length≤maxLen:=by
 cases n with
 | zero=>exact h.elim
 | succ n=>unfold Typed at h;rw[ht] at h;exact h
theorem Typed.int {P:Program} {st:aa} {n:Nat} {t:TypeId} {xs:List LV} {k:IntKind} (h:Typed P st n t xs) (ht:P.underlying t=some (.int k)):∃ m,xs=[.int k m]∧(Lit.int k m).wf=true:=by
 cases n with
 | zero=>exact h.elim
 | succ n=>unfold Typed at h;rw[ht] at h;exact h
theorem Typed.bool {P:Program} {st:aa} {n:Nat} {t:TypeId} {xs:List LV} (h:Typed P st n t xs) (ht:P.underlying t=some .bool):∃ b,xs=[.bool b]:=by
 cases n with
 | zero=>exact h.elim
 | succ n=>unfold Typed at h;rw[ht] at h;exact h
theorem mJ.int {P:Program} {st:aa} {t:TypeId} {k:IntKind} {x:LV} (h:mJ P st t x) (ht:P.underlying t=some (.int k)):∃ m,x=.int k m∧(Lit.int k m).wf=true:=by
 obtain ⟨n,cs,_,h2,h3⟩:=h
 rw[h2 (by simp[bQ,ht])] at h3
 cases n with
 | zero=>exact h3.elim
 | succ n=>unfold Typed at h3;rw[ht] at h3;simpa using h3
theorem mJ.bool {P:Program} {st:aa} {t:TypeId} {x:LV} (h:mJ P st t x) (ht:P.underlying t=some .bool):∃ b,x=.bool b:=by
 obtain ⟨n,cs,_,h2,h3⟩:=h
 rw[h2 (by simp[bQ,ht])] at h3
 cases n with
 | zero=>exact h3.elim
 | succ n=>unfold Typed at h3;rw[ht] at h3;simpa using h3
theorem mJ.str {P:Program} {st:aa} {t:TypeId} {x:LV} (h:mJ P st t x) (ht:P.underlying t=some .string):∃ s,x=.str s∧s.length≤maxLen:=by
 obtain ⟨n,cs,_,h2,h3⟩:=h
 rw[h2 (by simp[bQ,ht])] at h3
 cases n with
 | zero=>exact h3.elim
 | succ n=>unfold Typed at h3;rw[ht] at h3;simpa using h3
end Go.CP
namespace Go.CP
open Go.ChangeShapes Go.WideShapes Go.ChangeAt Go.WideMaps Go.WideElems Go.RowKit
def Gl (W:World) (p:Nat × List LV):Prop:=∃ (c:Array Value) (e:TypeId) (fz:Nat × Nat),W.heap[p.1]?=some (.cells c e fz)∧p.2.length=c.size∧∀ (i:Nat) (x:LV),p.2[i]?=some x→∃ u,c[i]?=some u∧∀ β,Rp β x u
def rX (gs:List (Nat × List LV)):aa:=gs.map fun p=>.cells (.gl p.1 p.2.length) p.2
theorem rY {P:Program} {W:World} {l:List (String × DataW Unit)} {name:String} {k:IntKind} {zs:List Int} {g:Nat} {t e:TypeId} {n:Nat} (h:laidMet P l W) (hm:(name,Lib.tabData k zs) ∈ l)
  (hg:P.globalNamed name=some g) (hty:(P.globals[g]?).map (·.type)=some t) (ht:P.underlying t=some (.array n e)) (he:P.underlying e=some (.int k)) (hce:P.cellsOf e=1) (hct:P.cellsOf t=n) :
  Gl W (g,zs.map fun z=>.int k z):=by
 obtain ⟨g',t',cs,fuel,p,hg',ht',hvar,hd⟩:=Lib.laidMet.reads h hm
 obtain rfl:=Option.some.inj (hg.symm.trans hg')
 obtain rfl:=Option.some.inj (hty.symm.trans ht')
 have hcs:=Lib.cells_of_tab ht he hce hct hd
 unfold World.var? at hvar
 rw[hg] at hvar
 simp only[Option.bind_some] at hvar
 split at hvar
 ·rename_i c el fz hh
  have hcc:c=cs:=Option.some.inj hvar
  subst hcc
  refine ⟨c,el,fz,hh,?_,?_⟩
  ·rw[← Array.length_toList,hcs];simp
  ·intro i x hx
   rw[List.getElem?_map] at hx
   obtain ⟨z,hz,rfl⟩:=Option.map_eq_some_iff.1 hx
   refine ⟨.int k z,?_,fun _=>rfl⟩
   rw[← Array.getElem?_toList,hcs,List.getElem?_map,hz];rfl
 ·cases hvar
theorem lI {P:Program} {W:World} {l:List (String × DataW Unit)} {name nm:String} {d:DataW Unit} {g:Nat} {t:TypeId} {ms:Array (String × TypeId)} (h:laidMet P l W) (hm:(name,.iface nm d) ∈ l)
  (hg:P.globalNamed name=some g) (hty:(P.globals[g]?).map (·.type)=some t) (ht:P.underlying t=some (.interface ms)) :
  ∃ u,Gl W (g,[.iface u .aQ]):=by
 obtain ⟨g',t',cs,fuel,p,hg',ht',hvar,hd⟩:=Lib.laidMet.reads h hm
 obtain rfl:=Option.some.inj (hg.symm.trans hg')
 obtain rfl:=Option.some.inj (hty.symm.trans ht')
 have hcs:∃ u v,cs.toList=[.iface u v]:=by
  cases fuel with
  | zero=>simp[DataW.trod] at hd
  | succ fuel=>
   unfold DataW.trod at hd
   rw[ht] at hd
   split at hd<;>simp_all
 obtain ⟨u,v,hcs⟩:=hcs
 unfold World.var? at hvar
 rw[hg] at hvar
 simp only[Option.bind_some] at hvar
 split at hvar
 ·rename_i c el fz hh
  have hcc:c=cs:=Option.some.inj hvar
  subst hcc
  refine ⟨u,c,el,fz,hh,?_,?_⟩
  ·rw[← Array.length_toList,hcs];simp
  ·intro i x hx
   cases i with
   | zero=>
    simp at hx;subst hx
    exact ⟨.iface u v,by rw[← Array.getElem?_toList,hcs];rfl,fun _=>⟨v,rfl,trivial⟩⟩
   | succ i=>simp at hx
 ·cases hvar
section
variable {H:Type} {enc:TypeId × Value→H} {P:Program}
end
theorem au.jE {P:Program} {f:FuncId} {xs:List LV} {st:aa} {v:LV} {R:LV→aa→Prop} (hc:cN P f)
  (h:∀ w0 β w vs,Rel w0 β st w→Rps β xs vs→Calls P f ⟨vs⟩ w fun e w'=>∃ u,e=.returned u∧Rp β v u∧Bw w.heap.size w w') (hR:R v st):au P f xs st R:=by
 refine .inl ⟨hc,fun w0 β w vs h1 h2=>(h w0 β w vs h1 h2).mono ?_⟩
 rintro e w' ⟨u,rfl,hu,hb⟩
 exact ⟨β,v,st,u,hR,rfl,hu,h1.gq hb,Lay.le.refl _⟩
theorem Rel.yL {w0 w:World} {β:Lay} {st:aa} {o g:Nat} {l:List LV} (h:Rel w0 β st w) (ho:st[o]?=some (.cells (.gl g l.length) l)) :
  ∃ (c:Array Value) (e:TypeId) (fz:Nat × Nat),w.heap[g]?=some (.cells c e fz)∧c.size=l.length∧∀ (i:Nat) (x:LV),l[i]?=some x→∃ u,c[i]?=some u∧Rp β x u:=by
 obtain ⟨b,hb,c,e,fz,hh,hs,_,hc,hm⟩:=h.obj o _ ho
 obtain ⟨h1,h2,h3⟩:=hm.2.2 g _ rfl
 refine ⟨c,e,fz,by rw[← h1];exact hh,by rw[hs,h2,h3,Nat.zero_add],fun i x hx=>?_⟩
 obtain ⟨u,hu,r⟩:=hc i x hx
 exact ⟨u,by rwa [h2,Nat.zero_add] at hu,r⟩
theorem Rel.wA {w0 w:World} {β:Lay} {st:aa} {o g i:Nat} {l:List LV} {x:LV} (h:Rel w0 β st w) (ho:st[o]?=some (.cells (.gl g l.length) l)) (hi:l[i]?=some x) :
  ∃ u,w.cell? ⟨g,i,none⟩=some u∧Rp β x u:=by
 obtain ⟨c,e,fz,hh,_,hc⟩:=h.yL ho
 obtain ⟨u,hu,r⟩:=hc i x hi
 exact ⟨u,by simp[World.cell?,hh,hu],r⟩
theorem Rel.rY {w0 w:World} {β:Lay} {st:aa} {o g:Nat} {P:Program} {name:String} {k:IntKind} {zs:List Int} (h:Rel w0 β st w) (ho:st[o]?=some (.cells (.gl g zs.length) (zs.map fun z=>.int k z)))
  (hg:P.globalNamed name=some g):Lib.TabIs P w name k zs:=by
 obtain ⟨c,e,fz,hh,hs,hc⟩:=h.yL (l:=zs.map fun z=>.int k z) (by rwa [List.length_map])
 unfold Lib.TabIs World.var?
 simp only[hg,Option.bind_some,hh]
 congr 1
 apply Array.ext_getElem?
 intro i
 rw[show ((zs.map fun z=>Value.int k z).toArray)[i]?=(zs[i]?).map (fun z=>Value.int k z) by simp]
 cases hz:zs[i]? with
 | none=>
  have:zs.length≤i:=List.getElem?_eq_none_iff.1 hz
  rw[Array.getElem?_eq_none (by rw[hs];simpa using this)];rfl
 | some z=>
  obtain ⟨u,hu,r⟩:=hc i (.int k z) (by rw[List.getElem?_map,hz];rfl)
  rw[hu,show u=.int k z from r];rfl
end Go.CP
namespace Go.CP
open Go.RowKit Go.Maps Go.Sort Go.Shelf Go.MapKept Go.WideElems
def kY:List (LV × LV)→Option (List (List UInt8))
 | []=>some []
 | (.str s,_)::es=>(kY es).map (s::·)
 | _=>none
theorem lJ {β:Lay}:∀ {es:List (LV × LV)} {l:List MapEntry} {ks:List (List UInt8)},Entries β es l→kY es=some ks→l.map (·.key)=ks.map Go.Proofs.encStr
 | [],l,ks,he,h=>by simp only[Entries] at he;subst he;simp[kY] at h;subst h;rfl
 | e::es,l,ks,he,h=>by
  obtain ⟨c,us,rfl,hc,hs⟩:=he
  obtain ⟨k,v⟩:=e
  unfold kY at h
  split at h
  ·rename_i e0;simp at e0
  ·rename_i s v' es' e0
   simp only[List.cons.injEq,Prod.mk.injEq] at e0
   obtain ⟨⟨rfl,rfl⟩,rfl⟩:=e0
   simp only[Option.map_eq_some_iff] at h
   obtain ⟨ks',h,rfl⟩:=h
   have:=lJ hs h
   simp only[List.map_cons,this]
   have hk:c.key=.string ⟨⟨s⟩⟩:=hc.1
   rw[hk]
  ·simp at h
def yM:Value→Option (DataW Unit × List MemPlace):=fun _=>some (.nil,[])
section
variable {w0 w:World} {β:Lay} {st:aa} {P:Program} {K:TypeId}
theorem yN (hK:P.underlying K=some .string) {x:MapEntry} {s:List UInt8} (hx:x.key=Go.Proofs.encStr s) (hs:s.length≤maxLen):rd (H:=Unit) P K yM x=some (.string s,.nil):=by
 have hm:mapKey P K x.key=some (.string s):=by
  rw[hx];unfold mapKey;rw[hK]
  show (if _ then _ else _)=_
  rw[if_pos (by simpa[ByteArray.size] using hs)]
 have:Go.keyOf P K x.key=some (.string s):=by unfold Go.keyOf;rw[hK];exact hm
 unfold rd
 rw[this];rfl
theorem Rel.AF {o:Nat} {m:Md} {es:List (LV × LV)} {bs:List Nat} {n:Nat} {ks:List (List UInt8)} {b:Bl} (hK:P.underlying K=some .string) (h:Rel w0 β st w) (ho:st[o]?=some (.map m es bs n)) (hb:β o=some b)
  (hks:kY es=some ks) (hnd:ks.Nodup) (hlen:∀ s ∈ ks,s.length≤maxLen) (hn:ks.length≤maxLen) :
  ∃ D0:DataW Unit,w.ownsMap P K yM b.blk ks.length D0∧(strKeys D0).Perm ks∧Maps.size D0=ks.length:=by
 obtain ⟨c,hh,he,hst,_⟩:=h.jm ho hb
 have hkeys:=lJ he hks
 have hcl:c.toList.length=ks.length:=by have:=congrArg List.length hkeys;simpa using this
 have hrd:∀ x ∈ c.toList,∃ s,s ∈ ks∧x.key=Go.Proofs.encStr s:=by
  intro x hx
  have:x.key ∈ c.toList.map (·.key):=List.mem_map_of_mem hx
  rw[hkeys] at this
  obtain ⟨s,hs,e⟩:=List.mem_map.1 this
  exact ⟨s,hs,e.symm⟩
 have hrg:c.toList.map (rg (H:=Unit) P K yM)=ks.map fun s=>(.string s,.nil):=by
  apply List.ext_getElem (by simpa using hcl)
  intro i h1 h2
  rw[List.getElem_map,List.getElem_map]
  have hi:i<ks.length:=by simpa using h2
  have e1:(c.toList.map (·.key))[i]'(by simpa using h1)=(ks.map Go.Proofs.encStr)[i]'(by simpa using hi):=by
   simp only[hkeys]
  rw[List.getElem_map,List.getElem_map] at e1
  unfold rg
  rw[yN hK e1 (hlen _ (List.getElem_mem _))];rfl
 refine ⟨.map ((ks.map fun s=>((.string s:Lit),(.nil:DataW Unit))).foldr DataW.insert []),⟨c,n,hh,⟨?_,⟨hst.1,hst.2,?_⟩,?_⟩,?_,?_⟩,?_,?_⟩
 ·rw[← Array.length_toList,hcl];exact hn
 ·rw[hkeys]
  exact List.pairwise_map.2 (hnd.imp fun hne e=>hne (encStr_inj e))
 ·intro x hx
  obtain ⟨s,hs,e⟩:=hrd x hx
  exact ⟨_,yN hK e (hlen s hs)⟩
 ·rw[← Array.length_toList,hcl];exact Nat.le_refl _
 ·rw[hrg]
 ·have:=(Go.WideShapes.sorted_perm (ks.map fun s=>((.string s:Lit),(.nil:DataW Unit)))).map (fun p=>strOf p.1)
  unfold strKeys
  refine this.trans ?_
  rw[List.map_map]
  have e:ks.map ((fun p:Lit × DataW Unit=>strOf p.1) ∘ fun s=>((.string s:Lit),(.nil:DataW Unit)))=ks:=by
   conv=>rhs;rw[← List.map_id ks]
   apply List.map_congr_left
   intro s _;rfl
  rw[e]
 ·have:=(Go.WideShapes.sorted_perm (ks.map fun s=>((.string s:Lit),(.nil:DataW Unit)))).length_eq
  simpa[Maps.size] using this
theorem qK {a g:FuncId} {M:TypeId} {x:LV} {R:LV→aa→Prop} (hc:cN P a)
  (hk:∀ (mb:Option Nat) (w:World),Calls P a #[.map mb] w fun e w'=>e=.returned (.func (.func g) #[] #[.pointer (some ⟨w.heap.size,0,none⟩)])∧w'=w.alloc (.cells #[.map mb] M))
  (hx:x=.nilm∨∃ o,x=.map o) (hR:R (.fn (.func g) [] [.ptr st.length 0]) (st++[.cells (.bt M) [x]])):au P a [x] st R:=by
 refine .inl ⟨hc,fun w0 β w vs h1 h2=>?_⟩
 obtain ⟨v,us,rfl,hv,hus⟩:=h2
 simp only[Rps] at hus;subst hus
 have hm:∃ mb,v=.map mb:=by
  rcases hx with rfl|⟨o,rfl⟩
  ·exact ⟨_,hv⟩
  ·obtain ⟨b,_,rfl⟩:=hv;exact ⟨_,rfl⟩
 obtain ⟨mb,rfl⟩:=hm
 refine (hk mb w).mono ?_
 rintro e w' ⟨rfl,rfl⟩
 have hle:β.le (β.put st.length ⟨w.heap.size,0,1⟩):=Lay.de (h1.dom _ (Nat.le_refl _))
 refine ⟨_,_,_,_,hR,rfl,⟨[],[_],rfl,rfl,_,_,rfl,⟨_,Lay.bx,rfl⟩,rfl⟩,(h1.grow _).push (b:=⟨w.heap.size,0,1⟩) ?_ ?_ fun _=>h1.fresh,hle⟩
 ·intro o y b' hy hl hb'
  obtain ⟨b'',hb'',hlt⟩:=(h1.obj o y hy).live hl
  rw[hb'] at hb'';cases hb''
  show b'.blk≠w.heap.size
  omega
 ·refine ⟨_,Lay.bx,#[.map mb],M,(0,0),by simp[eJ],by simp,by simp,?_,?_⟩
  ·intro i y hy
   cases i with
   | zero=>simp at hy;subst hy;exact ⟨_,rfl,hv.mono hle⟩
   | succ i=>simp at hy
  ·refine ⟨fun _=>⟨h1.below.size,fun j _=>by omega⟩,?_,?_⟩
   ·rintro t ⟨⟩;exact ⟨rfl,rfl⟩
   ·rintro _ _ ⟨⟩
theorem tz {c g:FuncId} {M:TypeId} {R:LV→aa→Prop} (hK:P.underlying K=some .string) (hc:cN P c)
  (hsort:∀ (lb:Array Value) (S:List (List UInt8)→Prop) (N:Nat) (w:World),N≤maxLen→N*16≤140737488355328→SeqGives Fence.wide 2 P g lb Go.Proofs.encStr S N w→
   Calls P c #[.func (.func g) #[] lb] w fun e w'=>∃ (v:Value) (ss:List (List UInt8)),e=.returned v∧S ss∧
    w'.ownsRow w.heap.size K 1 v ss.length ((ss.mergeSort (fun x y=>decide (x≤y))).map Go.Proofs.encStr)∧(v=.slice none 0 0↔ss=[])∧Below w.heap.size w w')
  (hgives:∀ (Bm b nn:Nat) (D0:DataW Unit) (w:World),Bm<w.heap.size→w.cell? ⟨Bm,0,none⟩=some (.map (some b))→w.ownsMap P K yM b nn D0→
   SeqGives Fence.wide 2 P g #[.pointer (some ⟨Bm,0,none⟩)] Go.Proofs.encStr (fun ss=>ss.Perm (strKeys D0)) (Maps.size D0) w)
  {o om:Nat} {m:Md} {es:List (LV × LV)} {bs:List Nat} {n:Nat} {ks:List (List UInt8)} (ho:st[o]?=some (.cells (.bt M) [.map om])) (hom:st[om]?=some (.map m es bs n)) (hks:kY es=some ks) (hnd:ks.Nodup)
  (hlen:∀ s ∈ ks,s.length≤maxLen) (hn:ks.length≤maxLen) (hn':ks.length*16≤140737488355328)
  (hR0:ks=[]→R .nils st) (hR1:ks≠[]→R (.sl st.length 0 ks.length (.rest 1)) (st++[.cells .rw ((ks.mergeSort leB).map .str)])):au P c [.fn (.func g) [] [.ptr o 0]] st R:=by
 refine .inl ⟨hc,fun w0 β w vs h1 h2=>?_⟩
 obtain ⟨v,us,rfl,hv,hus⟩:=h2
 simp only[Rps] at hus;subst hus
 obtain ⟨fs,cs,rfl,hfs,hcs⟩:=hv
 simp only[Rps] at hfs;subst hfs
 obtain ⟨pv,us',rfl,⟨b,hb,rfl⟩,hus'⟩:=hcs
 simp only[Rps] at hus';subst hus'
 obtain ⟨b2,hb2,cc,e,fz,hh,_,_,hcell,hmd⟩:=h1.obj o _ ho
 rw[hb] at hb2;cases hb2
 have hbase:b.base=0:=(hmd.2.1 M rfl).2
 obtain ⟨u,hu,hru⟩:=hcell 0 _ rfl
 obtain ⟨bm,hbm,rfl⟩:=hru
 rw[hbase] at hu ⊢
 have hlt:b.blk<w.heap.size:=by rcases Nat.lt_or_ge b.blk w.heap.size with k|k;exact k;simp[Array.getElem?_eq_none k] at hh
 obtain ⟨D0,hown,hperm,hsz⟩:=h1.AF hK hom hbm hks hnd hlen hn
 have hg:=hgives b.blk bm.blk ks.length D0 w hlt (by simp only[World.cell?,hh];exact hu) hown
 refine (hsort _ _ _ w (by rw[hsz];exact hn) (by rw[hsz];exact hn') hg).mono ?_
 rintro e' w' ⟨r,ss,rfl,hss,hrow,hnil,hbel⟩
 have hbw:Bw w.heap.size w w':=⟨hbel⟩
 have hpk:ss.Perm ks:=hss.trans hperm
 rcases Nat.eq_zero_or_pos ks.length with hz|hz
 ·have hk0:ks=[]:=List.eq_nil_of_length_eq_zero hz
  subst hk0
  have:ss=[]:=List.eq_nil_of_length_eq_zero (by rw[hpk.length_eq];rfl)
  exact ⟨β,.nils,st,_,hR0 rfl,rfl,hnil.2 this,h1.gq hbw,Lay.le.refl _⟩
 ·have hk1:ks≠[]:=by rintro rfl;simp at hz
  have hs1:ss≠[]:=by rintro rfl;have:=hpk.length_eq;simp at this;omega
  rcases hrow.2 with ⟨rfl,_⟩ | ⟨gb,cap,cur,rfl,hgb,hgh,hc1,hc2,hc3,hc4⟩
  ·exact absurd (hnil.1 rfl) hs1
  have hle:β.le (β.put st.length ⟨gb,0,cap⟩):=Lay.de (h1.dom _ (Nat.le_refl _))
  have hms:ss.mergeSort leB=ks.mergeSort leB:=mergeSort_of_perm hpk
  have hl:ss.length=ks.length:=hpk.length_eq
  rw[Nat.mul_one] at hc3 hc4
  refine ⟨_,_,_,_,hR1 hk1,rfl,⟨⟨gb,0,cap⟩,Lay.bx,?_,?_⟩,(h1.gq hbw).push (b:=⟨gb,0,cap⟩) ?_ ?_ fun _=>h1.AB (by show w.heap.size≤gb;omega),hle⟩
  ·show ks.length≤(cap-0) / 1
   rw[Nat.div_one];omega
  ·show Value.slice _ _ _=Value.slice _ _ ((cap-0) / 1)
   rw[Nat.div_one,hl];rfl
  ·intro o y b' hy hl hb'
   obtain ⟨b'',hb'',hlt⟩:=(h1.obj o y hy).live hl
   rw[hb'] at hb'';cases hb''
   show b'.blk≠gb
   omega
  ·refine ⟨_,Lay.bx,cur,K,(0,0),hgh,by rw[hc3];simp,by simp only[List.length_map,List.length_mergeSort];omega,?_,?_⟩
   ·intro i y hy
    rw[List.getElem?_map] at hy
    obtain ⟨s,hs,rfl⟩:=Option.map_eq_some_iff.1 hy
    refine ⟨.string ⟨⟨s⟩⟩,?_,rfl⟩
    have hi:i<ss.length:=by
     have:=(List.getElem?_eq_some_iff.1 hs).1
     rw[List.length_mergeSort] at this;omega
    have e1:(cur.toList.take ss.length)[i]?=some (Go.Proofs.encStr s):=by
     rw[hc4,List.getElem?_map]
     show Option.map _ ((ss.mergeSort leB)[i]?)=_
     rw[hms,hs];rfl
    rw[List.getElem?_take_of_lt hi] at e1
    show cur[0+i]?=_
    rw[Nat.zero_add,← Array.getElem?_toList,e1]
   ·exact ⟨fun _=>⟨Nat.le_trans h1.below.size hgb,fun j _=>by omega⟩,(by rintro t ⟨⟩),(by rintro _ _ ⟨⟩)⟩
end
end Go.CP
namespace Go.CP
inductive WkV:LV→LV→Prop
 | same (x:LV):WkV x x
 | aQ (x:LV):WkV x .aQ
 | txt (s:List UInt8):WkV (.str s) .txt
 | agg {xs ys:List LV} (h:xs.length=ys.length) (hp:∀ (i:Nat) (x y:LV),xs[i]?=some x→ys[i]?=some y→WkV x y):WkV (.agg xs) (.agg ys)
def WkL (xs ys:List LV):Prop:=xs.length=ys.length∧∀ (i:Nat) (x y:LV),xs[i]?=some x→ys[i]?=some y→WkV x y
theorem WkL.cons {x y:LV} {xs ys:List LV} (h:WkV x y) (hs:WkL xs ys):WkL (x::xs) (y::ys):=by
 refine ⟨by simp[hs.1],fun i a b h1 h2=>?_⟩
 cases i with
 | zero=>simp at h1 h2;subst h1;subst h2;exact h
 | succ i=>exact hs.2 i a b (by simpa using h1) (by simpa using h2)
def WkO:al→al→Prop
 | _,.dead=>True
 | .cells m l,.cells m' l'=>m=m'∧WkL l l'
 | x,y=>x=y
section
variable {w0 w:World} {β:Lay} {st st':aa} {P:Program}
theorem WkO.rw {x y:al} (h:WkO x y) (hy:y.rw=true):x.rw=true:=by
 cases y with
 | dead=>cases hy
 | cells m' l'=>
  cases x with
  | cells m l=>obtain ⟨rfl,_⟩:=h;exact hy
  | map=>cases h
  | iter=>cases h
  | fiter=>cases h
  | dead=>cases h
 | map=>cases x<;>first | (cases h;exact hy) | cases h
 | iter=>cases x<;>first | (cases h;exact hy) | cases h
 | fiter=>cases x<;>first | (cases h;exact hy) | cases h
end
end Go.CP
