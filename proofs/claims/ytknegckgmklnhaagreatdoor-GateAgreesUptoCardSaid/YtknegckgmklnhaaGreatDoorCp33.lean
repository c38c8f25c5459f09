/- Parts of the proof. -/
import Derived.Test.YtknegckgmklnhaaGreatDoorCp34
import Derived.Lib.LaidU8
import Derived.Shelf.SlIter.Nil
namespace Go.CP
@[simp] theorem BE {p q s:Prop}:vh (.bool true) p q s=p:=rfl
@[simp] theorem Au {p q s:Prop}:vh (.bool false) p q s=q:=rfl
@[simp] theorem BV {p q s:Prop}:vh (.tup []) p q s=s:=rfl
def SlA (st:aa) (c:Nat) (x:LV) (rows:List (List LV)):Prop:=
 (rows=[]∧(x=.nils∨x=.emp))∨∃ o cap m,x=.sl o 0 rows.length (.ex cap)∧st[o]?=some (.cells m rows.flatten)∧∀ r ∈ rows,r.length=c
theorem SlA.fr {st st':aa} {c:Nat} {x:LV} {rows:List (List LV)} {S:Nat→Prop} (h:SlA st c x rows) (hf:Fr st st' S) (hs:∀ j,j<st.length→¬ S j):SlA st' c x rows:=by
 rcases h with h|⟨o,cap,m,h1,h2,h3⟩
 ·exact .inl h
 ·exact .inr ⟨o,cap,m,h1,hf.get h2 (hs o (b6 h2)),h3⟩
theorem SlA.bg {st:aa} {c:Nat} {x:LV} {rows:List (List LV)} (h:SlA st c x rows):bg x=some (.int .i64 rows.length):=by
 rcases h with ⟨rfl,rfl|rfl⟩ | ⟨o,cap,m,rfl,_⟩<;>rfl
theorem iz {α:Type} {c:Nat}:∀ {rows:List (List α)},(∀ r ∈ rows,r.length=c)→∀ {i:Nat} {r:List α},rows[i]?=some r→(rows.flatten.drop (i*c)).take c=r∧(i+1)*c≤rows.flatten.length
 | [],_,i,r,h=>by simp at h
 | a::rows,hl,0,r,h=>by
  simp at h;subst h
  have:=hl a (by simp)
  simp[List.take_left' this];omega
 | a::rows,hl,i+1,r,h=>by
  have ha:=hl a (by simp)
  obtain ⟨h1,h2⟩:=iz (rows:=rows) (fun r hr=>hl r (by simp[hr])) (i:=i) (by simpa using h)
  rw[List.flatten_cons]
  have e:(i+1)*c=c+i*c:=by rw[Nat.add_mul,Nat.one_mul,Nat.add_comm]
  refine ⟨by rw[e,← List.drop_drop,List.drop_left' ha];exact h1,?_⟩
  rw[gg,Nat.add_mul,Nat.one_mul];omega
theorem SlA.at {st:aa} {c:Nat} {x:LV} {rows:List (List LV)} (h:SlA st c x rows) {i:Nat} {r:List LV} (hr:rows[i]?=some r) {kk:IntKind} :
  ∃ o,bF c x (.int kk i)=some (.ptr o (i*c))∧ldA st (.ptr o (i*c)) c=some (.agg r)∧∀ j v,r[j]?=some v→ld1 st (.ptr o (i*c+j))=some v:=by
 rcases h with ⟨rfl,_⟩ | ⟨o,cap,m,rfl,h2,h3⟩
 ·simp at hr
 ·have hlt:=(List.getElem?_eq_some_iff.1 hr).1
  obtain ⟨e1,e2⟩:=iz h3 hr
  have hc:=h3 r (cd hr)
  refine ⟨o,?_,?_,fun j v hv=>?_⟩
  ·simp only[bF]
   rw[if_pos ⟨by omega,by omega⟩];simp
  ·simp only[ldA,h2]
   rw[if_pos (by rw[Nat.add_mul,Nat.one_mul] at e2;exact e2),e1]
  ·simp only[ld1,h2]
   have hj:=(List.getElem?_eq_some_iff.1 hv).1
   have:((rows.flatten.drop (i*c)).take c)[j]?=some v:=by rw[e1];exact hv
   rw[List.getElem?_take,if_pos (by omega),List.getElem?_drop] at this
   exact this
theorem Typed.str {P:Program} {st:aa} {n:Nat} {t:TypeId} {xs:List LV} (h:Typed P st n t xs) (ht:P.underlying t=some .string):∃ s,xs=[.str s]∧s.length≤maxLen:=by
 cases n with
 | zero=>exact h.elim
 | succ n=>unfold Typed at h;rw[ht] at h;exact h
theorem Typed.int {P:Program} {st:aa} {n:Nat} {t:TypeId} {xs:List LV} {k:IntKind} (h:Typed P st n t xs) (ht:P.underlying t=some (.int k)):∃ m,xs=[.int k m]∧(Lit.int k m).wf=true:=by
 cases n with
 | zero=>exact h.elim
 | succ n=>unfold Typed at h;rw[ht] at h;exact h
theorem Typed.bool {P:Program} {st:aa} {n:Nat} {t:TypeId} {xs:List LV} (h:Typed P st n t xs) (ht:P.underlying t=some .bool):∃ b,xs=[.bool b]:=by
 cases n with
 | zero=>exact h.elim
 | succ n=>unfold Typed at h;rw[ht] at h;exact h
theorem Typed.struct {P:Program} {st:aa} {n:Nat} {t:TypeId} {xs:List LV} {fs:Array Field} (h:Typed P st n t xs) (ht:P.underlying t=some (.struct fs)) :
  ∃ m,xs.length=P.cellsOf t∧∀ f ∈ fs.toList,Typed P st m f.type ((xs.drop f.offset).take (P.cellsOf f.type)):=by
 cases n with
 | zero=>exact h.elim
 | succ n=>unfold Typed at h;rw[ht] at h;exact ⟨n,h⟩
theorem eG.struct {P:Program} {st:aa} {t:TypeId} {x:LV} {fs:Array Field} (h:eG P st t x) (ht:P.underlying t=some (.struct fs)) :
  ∃ m cs,x=.agg cs∧cs.length=P.cellsOf t∧∀ f ∈ fs.toList,Typed P st m f.type ((cs.drop f.offset).take (P.cellsOf f.type)):=by
 obtain ⟨n,cs,h1,_,h3⟩:=h
 rw[if_pos (by simp[bz,ht])] at h1
 obtain ⟨m,h4,h5⟩:=h3.struct ht
 exact ⟨m,cs,h1,h4,h5⟩
theorem eG.slice {P:Program} {st:aa} {t e:TypeId} {x:LV} (h:eG P st t x) (ht:P.underlying t=some (.slice e)) :
  ∃ rows n,SlA st (P.cellsOf e) x rows∧rows.length≤maxLen∧∀ r ∈ rows,Typed P st n e r:=by
 obtain ⟨n,cs,_,h2,h3⟩:=h
 have hs:bz P t=false:=by simp[bz,ht]
 rw[h2 hs] at h3
 cases n with
 | zero=>exact h3.elim
 | succ n=>
  unfold Typed at h3
  rw[ht] at h3
  rcases h3 with h|h|⟨o,cap,rows,h4,h5,h6,h7,h8,h9⟩
  ·simp at h;exact ⟨[],n,.inl ⟨rfl,.inl h⟩,by simp,by simp⟩
  ·simp at h;exact ⟨[],n,.inl ⟨rfl,.inr h⟩,by simp,by simp⟩
  ·simp at h4
   exact ⟨rows,n,.inr ⟨o,cap,.ro,h4,h8,fun r hr=>(h9 r hr).1⟩,by omega,fun r hr=>(h9 r hr).2⟩
theorem eG.int {P:Program} {st:aa} {t:TypeId} {k:IntKind} {x:LV} (h:eG P st t x) (ht:P.underlying t=some (.int k)):∃ m,x=.int k m∧(Lit.int k m).wf=true:=by
 obtain ⟨n,cs,_,h2,h3⟩:=h
 rw[h2 (by simp[bz,ht])] at h3
 cases n with
 | zero=>exact h3.elim
 | succ n=>unfold Typed at h3;rw[ht] at h3;simpa using h3
theorem eG.bool {P:Program} {st:aa} {t:TypeId} {x:LV} (h:eG P st t x) (ht:P.underlying t=some .bool):∃ b,x=.bool b:=by
 obtain ⟨n,cs,_,h2,h3⟩:=h
 rw[h2 (by simp[bz,ht])] at h3
 cases n with
 | zero=>exact h3.elim
 | succ n=>unfold Typed at h3;rw[ht] at h3;simpa using h3
theorem eG.str {P:Program} {st:aa} {t:TypeId} {x:LV} (h:eG P st t x) (ht:P.underlying t=some .string):∃ s,x=.str s∧s.length≤maxLen:=by
 obtain ⟨n,cs,_,h2,h3⟩:=h
 rw[h2 (by simp[bz,ht])] at h3
 cases n with
 | zero=>exact h3.elim
 | succ n=>unfold Typed at h3;rw[ht] at h3;simpa using h3
end Go.CP
namespace Go.CP
open Go.ChangeShapes Go.WideShapes Go.ChangeAt Go.WideMaps Go.WideElems Go.RowKit
def Gl (W:World) (p:Nat × List LV):Prop:=∃ (c:Array Value) (e:TypeId) (fz:Nat × Nat),W.heap[p.1]?=some (.cells c e fz)∧p.2.length=c.size∧∀ (i:Nat) (x:LV),p.2[i]?=some x→∃ u,c[i]?=some u∧∀ β,Rp β x u
def wT (gs:List (Nat × List LV)):aa:=gs.map fun p=>.cells (.gl p.1 p.2.length) p.2
section
variable {H:Type} {enc:TypeId × Value→H} {P:Program}
end
end Go.CP
namespace Go.CP
open Go.RowKit Go.Maps Go.Sort Go.Shelf Go.MapKept Go.WideElems
def fZ:List (LV × LV)→Option (List (List UInt8))
 | []=>some []
 | (.str s,_)::es=>(fZ es).map (s::·)
 | _=>none
theorem ko {β:Lay}:∀ {es:List (LV × LV)} {l:List MapEntry} {ks:List (List UInt8)},Entries β es l→fZ es=some ks→l.map (·.key)=ks.map Go.Proofs.encStr
 | [],l,ks,he,h=>by simp only[Entries] at he;subst he;simp[fZ] at h;subst h;rfl
 | e::es,l,ks,he,h=>by
  obtain ⟨c,us,rfl,hc,hs⟩:=he
  obtain ⟨k,v⟩:=e
  unfold fZ at h
  split at h
  ·rename_i e0;simp at e0
  ·rename_i s v' es' e0
   simp only[List.cons.injEq,Prod.mk.injEq] at e0
   obtain ⟨⟨rfl,rfl⟩,rfl⟩:=e0
   simp only[Option.map_eq_some_iff] at h
   obtain ⟨ks',h,rfl⟩:=h
   have:=ko hs h
   simp only[List.map_cons,this]
   have hk:c.key=.string ⟨⟨s⟩⟩:=hc.1
   rw[hk]
  ·simp at h
def vM:Value→Option (DataW Unit × List MemPlace):=fun _=>some (.nil,[])
section
variable {w0 w:World} {β:Lay} {st:aa} {P:Program} {K:TypeId}
theorem wV (hK:P.underlying K=some .string) {x:MapEntry} {s:List UInt8} (hx:x.key=Go.Proofs.encStr s) (hs:s.length≤maxLen):rd (H:=Unit) P K vM x=some (.string s,.nil):=by
 have hm:mapKey P K x.key=some (.string s):=by
  rw[hx];unfold mapKey;rw[hK]
  show (if _ then _ else _)=_
  rw[if_pos (by simpa[ByteArray.size] using hs)]
 have:Go.keyOf P K x.key=some (.string s):=by unfold Go.keyOf;rw[hK];exact hm
 unfold rd
 rw[this];rfl
theorem Rel.uy {o:Nat} {m:Md} {es:List (LV × LV)} {bs:List Nat} {n:Nat} {ks:List (List UInt8)} {b:Bl} (hK:P.underlying K=some .string) (h:Rel w0 β st w) (ho:st[o]?=some (.map m es bs n)) (hb:β o=some b)
  (hks:fZ es=some ks) (hnd:ks.Nodup) (hlen:∀ s ∈ ks,s.length≤maxLen) (hn:ks.length≤maxLen) :
  ∃ D0:DataW Unit,w.ownsMap P K vM b.blk ks.length D0∧(strKeys D0).Perm ks∧Maps.size D0=ks.length:=by
 obtain ⟨c,hh,he,hst,_⟩:=h.gV ho hb
 have hkeys:=ko he hks
 have hcl:c.toList.length=ks.length:=by have:=congrArg List.length hkeys;simpa using this
 have hrd:∀ x ∈ c.toList,∃ s,s ∈ ks∧x.key=Go.Proofs.encStr s:=by
  intro x hx
  have:x.key ∈ c.toList.map (·.key):=List.mem_map_of_mem hx
  rw[hkeys] at this
  obtain ⟨s,hs,e⟩:=List.mem_map.1 this
  exact ⟨s,hs,e.symm⟩
 have hrg:c.toList.map (rg (H:=Unit) P K vM)=ks.map fun s=>(.string s,.nil):=by
  apply List.ext_getElem (by simpa using hcl)
  intro i h1 h2
  rw[List.getElem_map,List.getElem_map]
  have hi:i<ks.length:=by simpa using h2
  have e1:(c.toList.map (·.key))[i]'(by simpa using h1)=(ks.map Go.Proofs.encStr)[i]'(by simpa using hi):=by
   simp only[hkeys]
  rw[List.getElem_map,List.getElem_map] at e1
  unfold rg
  rw[wV hK e1 (hlen _ (List.getElem_mem _))];rfl
 refine ⟨.map ((ks.map fun s=>((.string s:Lit),(.nil:DataW Unit))).foldr DataW.insert []),⟨c,n,hh,⟨?_,⟨hst.1,hst.2,?_⟩,?_⟩,?_,?_⟩,?_,?_⟩
 ·rw[← Array.length_toList,hcl];exact hn
 ·rw[hkeys]
  exact List.pairwise_map.2 (hnd.imp fun hne e=>hne (encStr_inj e))
 ·intro x hx
  obtain ⟨s,hs,e⟩:=hrd x hx
  exact ⟨_,wV hK e (hlen s hs)⟩
 ·rw[← Array.length_toList,hcl];exact Nat.le_refl _
 ·rw[hrg]
 ·have:=(Go.WideShapes.sorted_perm (ks.map fun s=>((.string s:Lit),(.nil:DataW Unit)))).map (fun p=>strOf p.1)
  unfold strKeys
  refine this.trans ?_
  rw[List.map_map]
  have e:ks.map ((fun p:Lit × DataW Unit=>strOf p.1) ∘ fun s=>((.string s:Lit),(.nil:DataW Unit)))=ks:=by
   conv=>rhs;rw[← List.map_id ks]
   apply List.map_congr_left
   intro s _;rfl
  rw[e]
 ·have:=(Go.WideShapes.sorted_perm (ks.map fun s=>((.string s:Lit),(.nil:DataW Unit)))).length_eq
  simpa[Maps.size] using this
theorem ly {a g:FuncId} {M:TypeId} {x:LV} {R:LV→aa→Prop} (hc:b5 P a)
  (hk:∀ (mb:Option Nat) (w:World),Calls P a #[.map mb] w fun e w'=>e=.returned (.func (.func g) #[] #[.pointer (some ⟨w.heap.size,0,none⟩)])∧w'=w.alloc (.cells #[.map mb] M))
  (hx:x=.nilm∨∃ o,x=.map o) (hR:R (.fn (.func g) [] [.ptr st.length 0]) (st++[.cells (.bt M) [x]])):ak P a [x] st R:=by
 refine .inl ⟨hc,fun w0 β w vs h1 h2=>?_⟩
 obtain ⟨v,us,rfl,hv,hus⟩:=h2
 simp only[Rps] at hus;subst hus
 have hm:∃ mb,v=.map mb:=by
  rcases hx with rfl|⟨o,rfl⟩
  ·exact ⟨_,hv⟩
  ·obtain ⟨b,_,rfl⟩:=hv;exact ⟨_,rfl⟩
 obtain ⟨mb,rfl⟩:=hm
 refine (hk mb w).mono ?_
 rintro e w' ⟨rfl,rfl⟩
 have hle:β.le (β.put st.length ⟨w.heap.size,0,1⟩):=Lay.cf (h1.dom _ (Nat.le_refl _))
 refine ⟨_,_,_,_,hR,rfl,⟨[],[_],rfl,rfl,_,_,rfl,⟨_,Lay.aM,rfl⟩,rfl⟩,(h1.grow _).push (b:=⟨w.heap.size,0,1⟩) ?_ ?_ fun _=>h1.fresh,hle⟩
 ·intro o y b' hy hl hb'
  obtain ⟨b'',hb'',hlt⟩:=(h1.obj o y hy).live hl
  rw[hb'] at hb'';cases hb''
  show b'.blk≠w.heap.size
  omega
 ·refine ⟨_,Lay.aM,#[.map mb],M,(0,0),by simp[cX],by simp,by simp,?_,?_⟩
  ·intro i y hy
   cases i with
   | zero=>simp at hy;subst hy;exact ⟨_,rfl,hv.mono hle⟩
   | succ i=>simp at hy
  ·refine ⟨fun _=>⟨h1.below.size,fun j _=>by omega⟩,?_,?_⟩
   ·rintro t ⟨⟩;exact ⟨rfl,rfl⟩
   ·rintro _ _ ⟨⟩
theorem rN {c g:FuncId} {M:TypeId} {R:LV→aa→Prop} (hK:P.underlying K=some .string) (hc:b5 P c)
  (hsort:∀ (lb:Array Value) (S:List (List UInt8)→Prop) (N:Nat) (w:World),N≤maxLen→N*16≤140737488355328→SeqGives Fence.wide 2 P g lb Go.Proofs.encStr S N w→
   Calls P c #[.func (.func g) #[] lb] w fun e w'=>∃ (v:Value) (ss:List (List UInt8)),e=.returned v∧S ss∧
    w'.ownsRow w.heap.size K 1 v ss.length ((ss.mergeSort (fun x y=>decide (x≤y))).map Go.Proofs.encStr)∧(v=.slice none 0 0↔ss=[])∧Below w.heap.size w w')
  (hgives:∀ (Bm b nn:Nat) (D0:DataW Unit) (w:World),Bm<w.heap.size→w.cell? ⟨Bm,0,none⟩=some (.map (some b))→w.ownsMap P K vM b nn D0→
   SeqGives Fence.wide 2 P g #[.pointer (some ⟨Bm,0,none⟩)] Go.Proofs.encStr (fun ss=>ss.Perm (strKeys D0)) (Maps.size D0) w)
  {o om:Nat} {m:Md} {es:List (LV × LV)} {bs:List Nat} {n:Nat} {ks:List (List UInt8)} (ho:st[o]?=some (.cells (.bt M) [.map om])) (hom:st[om]?=some (.map m es bs n)) (hks:fZ es=some ks) (hnd:ks.Nodup)
  (hlen:∀ s ∈ ks,s.length≤maxLen) (hn:ks.length≤maxLen) (hn':ks.length*16≤140737488355328)
  (hR0:ks=[]→R .nils st) (hR1:ks≠[]→R (.sl st.length 0 ks.length (.rest 1)) (st++[.cells .rw ((ks.mergeSort leB).map .str)])):ak P c [.fn (.func g) [] [.ptr o 0]] st R:=by
 refine .inl ⟨hc,fun w0 β w vs h1 h2=>?_⟩
 obtain ⟨v,us,rfl,hv,hus⟩:=h2
 simp only[Rps] at hus;subst hus
 obtain ⟨fs,cs,rfl,hfs,hcs⟩:=hv
 simp only[Rps] at hfs;subst hfs
 obtain ⟨pv,us',rfl,⟨b,hb,rfl⟩,hus'⟩:=hcs
 simp only[Rps] at hus';subst hus'
 obtain ⟨b2,hb2,cc,e,fz,hh,_,_,hcell,hmd⟩:=h1.obj o _ ho
 rw[hb] at hb2;cases hb2
 have hbase:b.base=0:=(hmd.2.1 M rfl).2
 obtain ⟨u,hu,hru⟩:=hcell 0 _ rfl
 obtain ⟨bm,hbm,rfl⟩:=hru
 rw[hbase] at hu ⊢
 have hlt:b.blk<w.heap.size:=by rcases Nat.lt_or_ge b.blk w.heap.size with k|k;exact k;simp[Array.getElem?_eq_none k] at hh
 obtain ⟨D0,hown,hperm,hsz⟩:=h1.uy hK hom hbm hks hnd hlen hn
 have hg:=hgives b.blk bm.blk ks.length D0 w hlt (by simp only[World.cell?,hh];exact hu) hown
 refine (hsort _ _ _ w (by rw[hsz];exact hn) (by rw[hsz];exact hn') hg).mono ?_
 rintro e' w' ⟨r,ss,rfl,hss,hrow,hnil,hbel⟩
 have hbw:Bw w.heap.size w w':=⟨hbel⟩
 have hpk:ss.Perm ks:=hss.trans hperm
 rcases Nat.eq_zero_or_pos ks.length with hz|hz
 ·have hk0:ks=[]:=List.eq_nil_of_length_eq_zero hz
  subst hk0
  have:ss=[]:=List.eq_nil_of_length_eq_zero (by rw[hpk.length_eq];rfl)
  exact ⟨β,.nils,st,_,hR0 rfl,rfl,hnil.2 this,h1.eF hbw,Lay.le.refl _⟩
 ·have hk1:ks≠[]:=by rintro rfl;simp at hz
  have hs1:ss≠[]:=by rintro rfl;have:=hpk.length_eq;simp at this;omega
  rcases hrow.2 with ⟨rfl,_⟩ | ⟨gb,cap,cur,rfl,hgb,hgh,hc1,hc2,hc3,hc4⟩
  ·exact absurd (hnil.1 rfl) hs1
  have hle:β.le (β.put st.length ⟨gb,0,cap⟩):=Lay.cf (h1.dom _ (Nat.le_refl _))
  have hms:ss.mergeSort leB=ks.mergeSort leB:=mergeSort_of_perm hpk
  have hl:ss.length=ks.length:=hpk.length_eq
  rw[Nat.mul_one] at hc3 hc4
  refine ⟨_,_,_,_,hR1 hk1,rfl,⟨⟨gb,0,cap⟩,Lay.aM,?_,?_⟩,(h1.eF hbw).push (b:=⟨gb,0,cap⟩) ?_ ?_ fun _=>h1.uw (by show w.heap.size≤gb;omega),hle⟩
  ·show ks.length≤(cap-0) / 1
   rw[Nat.div_one];omega
  ·show Value.slice _ _ _=Value.slice _ _ ((cap-0) / 1)
   rw[Nat.div_one,hl];rfl
  ·intro o y b' hy hl hb'
   obtain ⟨b'',hb'',hlt⟩:=(h1.obj o y hy).live hl
   rw[hb'] at hb'';cases hb''
   show b'.blk≠gb
   omega
  ·refine ⟨_,Lay.aM,cur,K,(0,0),hgh,by rw[hc3];simp,by simp only[cb,List.length_mergeSort];omega,?_,?_⟩
   ·intro i y hy
    rw[bU] at hy
    obtain ⟨s,hs,rfl⟩:=Option.map_eq_some_iff.1 hy
    refine ⟨.string ⟨⟨s⟩⟩,?_,rfl⟩
    have hi:i<ss.length:=by
     have:=(List.getElem?_eq_some_iff.1 hs).1
     rw[List.length_mergeSort] at this;omega
    have e1:(cur.toList.take ss.length)[i]?=some (Go.Proofs.encStr s):=by
     rw[hc4,bU]
     show Option.map _ ((ss.mergeSort leB)[i]?)=_
     rw[hms,hs];rfl
    rw[List.getElem?_take_of_lt hi] at e1
    show cur[0+i]?=_
    rw[av,← Array.getElem?_toList,e1]
   ·exact ⟨fun _=>⟨Nat.le_trans h1.below.size hgb,fun j _=>by omega⟩,(by rintro t ⟨⟩),(by rintro _ _ ⟨⟩)⟩
end
end Go.CP
namespace Go.CP
inductive WkV:LV→LV→Prop
 | same (x:LV):WkV x x
 | aJ (x:LV):WkV x .aJ
 | txt (s:List UInt8):WkV (.str s) .txt
 | agg {xs ys:List LV} (h:xs.length=ys.length) (hp:∀ (i:Nat) (x y:LV),xs[i]?=some x→ys[i]?=some y→WkV x y):WkV (.agg xs) (.agg ys)
def WkL (xs ys:List LV):Prop:=xs.length=ys.length∧∀ (i:Nat) (x y:LV),xs[i]?=some x→ys[i]?=some y→WkV x y
theorem WkL.refl (xs:List LV):WkL xs xs:=⟨rfl,fun i x y h1 h2=>by rw[h1] at h2;cases h2;exact .same x⟩
theorem WkL.nil:WkL [] []:=WkL.refl []
theorem WkL.cons {x y:LV} {xs ys:List LV} (h:WkV x y) (hs:WkL xs ys):WkL (x::xs) (y::ys):=by
 refine ⟨by simp[hs.1],fun i a b h1 h2=>?_⟩
 cases i with
 | zero=>simp at h1 h2;subst h1;subst h2;exact h
 | succ i=>exact hs.2 i a b (by simpa using h1) (by simpa using h2)
def WkO:al→al→Prop
 | _,.dead=>True
 | .cells m l,.cells m' l'=>m=m'∧WkL l l'
 | x,y=>x=y
def WkS (st st':aa):Prop:=st.length=st'.length∧∀ (i:Nat) (x y:al),st[i]?=some x→st'[i]?=some y→WkO x y
theorem WkO.refl (x:al):WkO x x:=by
 cases x<;>first|trivial|exact ⟨rfl,WkL.refl _⟩ | rfl
theorem WkS.refl (st:aa):WkS st st:=⟨rfl,fun i x y h1 h2=>by rw[h1] at h2;cases h2;exact WkO.refl x⟩
theorem WkS.set {st:aa} {o:Nat} {x y:al} (ho:st[o]?=some x) (h:WkO x y):WkS st (st.set o y):=by
 refine ⟨by simp,fun i a b h1 h2=>?_⟩
 rw[List.getElem?_set] at h2
 by_cases e:o=i
 ·subst e
  rw[ho] at h1;cases h1
  simp[(List.getElem?_eq_some_iff.1 ho).1] at h2
  subst h2;exact h
 ·simp only[e,if_false] at h2
  rw[h1] at h2;cases h2;exact WkO.refl _
section
variable {w0 w:World} {β:Lay} {st st':aa} {P:Program}
theorem WkO.rw {x y:al} (h:WkO x y) (hy:y.rw=true):x.rw=true:=by
 cases y with
 | dead=>cases hy
 | cells m' l'=>
  cases x with
  | cells m l=>obtain ⟨rfl,_⟩:=h;exact hy
  | map=>cases h
  | iter=>cases h
  | fiter=>cases h
  | dead=>cases h
 | map=>cases x<;>first | (cases h;exact hy) | cases h
 | iter=>cases x<;>first | (cases h;exact hy) | cases h
 | fiter=>cases x<;>first | (cases h;exact hy) | cases h
theorem WkO.live {x y:al} (h:WkO x y) (hy:y.live=true):x.live=true:=by
 cases y with
 | dead=>cases hy
 | cells m' l'=>cases x<;>first|rfl|cases h
 | map=>cases x<;>first|rfl|cases h
 | iter=>cases x<;>first|rfl|cases h
 | fiter=>cases x<;>first|rfl|cases h
end
end Go.CP
namespace Go.CP
open Go.ChangeShapes Go.WideShapes Go.ChangeAt Go.RowKit
def eh (w:World):Lay:=⟨fun _=>none,fun b=>w.heap[b]?,w.heap.size⟩
theorem Rel.heap (w:World):Rel w (eh w) [] w where
 below:=Bw.refl _ _
 dom:=fun _ _=>rfl
 obj:=fun _ _ h=>by simp at h
 sep:=fun _ _ _ _ _ _ h=>by simp at h
 base:=rfl
 froz:=fun _ _ h=>h
 sepf:=fun _ _ _ h=>by simp at h
section
variable {H:Type} {enc:TypeId × Value→H} {P:Program} {w0 w:World} {base:Nat} {sp:Nat→Bool} {held:Bool}
def bn (P:Program):Nat→TypeId→List LV→DataW H→Prop
 | 0,_,_,_=>False
 | n+1,t,xs,d=>match P.underlying t with
  | some .bool=>∃ b,xs=[.bool b]
  | some (.int k)=>∃ m,xs=[.int k m]∧(Lit.int k m).wf=true
  | some .string=>∃ s:List UInt8,xs=[.str s]∧s.length≤maxLen∧d=.lit (.string s)
  | some (.slice e)=>∃ (rows:List (List LV)) (elems:List (DataW H)),xs=[.isl rows.flatten rows.length none]∧elems.length=rows.length∧(rows=[]∨∃ rest,d=.slice elems rest)∧
    ∀ (i:Nat) (r:List LV) (di:DataW H),rows[i]?=some r→elems[i]?=some di→r.length=P.cellsOf e∧bn P n e r di
  | some (.struct fs)=>xs.length=P.cellsOf t∧∃ parts:List (DataW H),d=.agg parts∧parts.length=fs.size∧
    ∀ (i:Nat) (f:Field) (di:DataW H),fs[i]?=some f→parts[i]?=some di→bn P n f.type ((xs.drop f.offset).take (P.cellsOf f.type)) di
  | _=>False
theorem l9 {β:Lay} {cs:List Value} {Q:Field→List LV→Prop}:∀ {fs:List Field} {off fin:Nat},rM P off fs=some fin→cs.length=fin→
  (∀ f ∈ fs,∃ xs,Rps β xs ((cs.drop f.offset).take (P.cellsOf f.type))∧Q f xs)→(∀ f ∈ fs,f.offset+P.cellsOf f.type≤cs.length)→
  ∃ xs,Rps β xs (cs.drop off)∧∀ f ∈ fs,off≤f.offset∧Q f ((xs.drop (f.offset-off)).take (P.cellsOf f.type))
 | [],off,fin,ht,hl,_,_=>by
  simp only[rM,ao] at ht
  subst ht
  exact ⟨[],by rw[dw (by omega)];rfl,by simp⟩
 | f::fs,off,fin,ht,hl,hf,hb=>by
  simp only[rM] at ht
  split at ht
  ·rename_i e
   obtain ⟨x1,p1,t1⟩:=hf f (by simp)
   obtain ⟨x2,p2,t2⟩:=l9 (β:=β) (cs:=cs) (Q:=Q) ht hl (fun f' h'=>hf f' (List.mem_cons_of_mem _ h')) (fun f' h'=>hb f' (List.mem_cons_of_mem _ h'))
   have hbf:=hb f (by simp)
   have hx1:x1.length=P.cellsOf f.type:=by
    have:=p1.length
    simp at this;omega
   refine ⟨x1++x2,?_,?_⟩
   ·have:=p1.append p2
    rw[e] at this
    have e3:(cs.drop off).take (P.cellsOf f.type)++cs.drop (off+P.cellsOf f.type)=cs.drop off:=by
     rw[← List.drop_drop];exact List.take_append_drop _ _
    rwa [e3] at this
   ·intro f' h'
    rcases List.mem_cons.1 h' with e' | h'
    ·subst e'
     refine ⟨by omega,?_⟩
     rw[e,Nat.sub_self,List.drop_zero,List.take_left' hx1]
     exact t1
    ·obtain ⟨g1,g2⟩:=t2 f' h'
     refine ⟨by omega,?_⟩
     rw[show f'.offset-off=P.cellsOf f.type+(f'.offset-(off+P.cellsOf f.type)) by omega,← List.drop_drop,List.drop_left' hx1]
     exact g2
  ·cases ht
theorem rO {α:Type} {c:Nat} (hc:0<c):∀ {ls:List (List α)} {q:Nat},(∀ l ∈ ls,l.length=c)→q<ls.length*c→∃ l,ls[q / c]?=some l∧ls.flatten[q]?=l[q % c]?
 | [],q,_,h=>by simp at h
 | l::ls,q,hl,hq=>by
  have h0:=hl l (by simp)
  rcases Nat.lt_or_ge q c with k|k
  ·refine ⟨l,by rw[Nat.div_eq_of_lt k];rfl,?_⟩
   rw[List.flatten_cons,bH (by omega),Nat.mod_eq_of_lt k]
  ·obtain ⟨l',g1,g2⟩:=rO hc (ls:=ls) (q:=q-c) (fun l h=>hl l (List.mem_cons_of_mem _ h)) (by
    simp only[aN,Nat.add_mul,Nat.one_mul] at hq;omega)
   have hd:q / c=(q-c) / c+1:=by rw[Nat.div_eq_sub_div hc k]
   have hmd:q % c=(q-c) % c:=Nat.mod_eq_sub_mod k
   refine ⟨l',by rw[hd];simpa using g1,?_⟩
   rw[List.flatten_cons,List.getElem?_append_right (by omega),h0,g2,hmd]
theorem kp {α:Type} {c:Nat}:∀ {ls:List (List α)},(∀ l ∈ ls,l.length=c)→ls.flatten.length=ls.length*c
 | [],_=>by simp
 | l::ls,hl=>by
  rw[List.flatten_cons,gg,kp (ls:=ls) (fun l h=>hl l (List.mem_cons_of_mem _ h)),hl l (by simp),aN,Nat.add_mul,Nat.one_mul,Nat.add_comm]
theorem iU {S:List TypeId} (hS:S.all (okT P S)=true):∀ (fuel:Nat) {t:TypeId} {cs:List Value} {x:DataW H × List MemPlace},t ∈ S→DataW.trod enc P w base sp held fuel t cs=some x→
  ∃ xs,Rps (eh w) xs cs∧bn P fuel t xs x.1
 | 0,t,cs,x,ht,h=>by simp[DataW.trod] at h
 | n+1,t,cs,x,ht,h=>by
  have hok:=List.all_eq_true.1 hS t ht
  unfold okT at hok
  split at hok
  ·rename_i hu
   obtain ⟨b,rfl,rfl⟩:=DataW.trod_bool hu h
   exact ⟨[.bool b],Rps.one rfl,by unfold bn;rw[hu];exact ⟨b,rfl⟩⟩
  ·rename_i k hu
   obtain ⟨m,rfl,rfl,hw⟩:=DataW.trod_int hu h
   exact ⟨[.int k m],Rps.one rfl,by unfold bn;rw[hu];exact ⟨m,rfl,hw⟩⟩
  ·rename_i hu
   obtain ⟨s,rfl,rfl,hs⟩:=DataW.trod_string hu h
   exact ⟨[.str s.data.toList],Rps.one rfl,by unfold bn;rw[hu];exact ⟨_,rfl,by simpa using hs,rfl⟩⟩
  ·rename_i e hu
   simp only[aF,decide_eq_true_eq,List.contains_iff_mem] at hok
   obtain ⟨heS,hc⟩:=hok
   rcases DataW.trod_slice hu h with ⟨rfl,rfl⟩ | ⟨a,len,cap,elems,rest,m,hm,rfl,rfl,hba,hlc,hcap,hel,hels,_⟩
   ·exact ⟨[.isl [] 0 none],Rps.one ⟨[],rfl,none,0,rfl,Nat.le_refl _,fun _ e=>(by cases e),.inl ⟨rfl,fun _=>rfl⟩⟩,by unfold bn;rw[hu];exact ⟨[],[],rfl,rfl,.inl rfl,fun i r di h=>(by simp at h)⟩⟩
   ·cases hm
    have each:∀ i,i<len→∃ ci y,elems[i]?=some y∧w.cells? base (a.add (i*P.cellsOf e)) (P.cellsOf e)=some ci∧DataW.trod enc P w base sp held n e ci=some y:=by
     intro i hi
     have h1:=hels i hi
     have h2:∃ y,elems[i]?=some y:=⟨elems[i]'(by omega),ba (by omega)⟩
     obtain ⟨y,hy⟩:=h2
     rw[hy] at h1
     obtain ⟨ci,h3,h4⟩:=Option.bind_eq_some_iff.1 h1
     exact ⟨ci,y,hy,h3,h4⟩
    have rowsN:∀ k,k≤len→∃ (rows:List (List LV)) (vss:List (List Value)),rows.length=k∧vss.length=k∧
      (∀ (i:Nat) (r:List LV) (v:List Value),rows[i]?=some r→vss[i]?=some v→Rps (eh w) r v)∧(∀ (i:Nat) (v:List Value),vss[i]?=some v→w.cells? base (a.add (i*P.cellsOf e)) (P.cellsOf e)=some v)∧
      ∀ (i:Nat) (r:List LV),rows[i]?=some r→r.length=P.cellsOf e∧∃ y,elems[i]?=some y∧bn P n e r y.1:=by
     intro k
     induction k with
     | zero=>exact fun _=>⟨[],[],rfl,rfl,by simp,by simp,by simp⟩
     | succ k ih=>
      intro hk
      obtain ⟨rows,vss,n1,n2,p1,c1,t1⟩:=ih (by omega)
      obtain ⟨ci,y,hy,g1,g2⟩:=each k (by omega)
      obtain ⟨xs,p2,t2⟩:=iU hS n heS g2
      have get:∀ {α:Type} {l:List α} {z u:α} {i:Nat},l.length=k→(l++[z])[i]?=some u→(i<k∧l[i]?=some u)∨(i=k∧u=z):=by
       intro α l z u i hl hi
       rcases Nat.lt_trichotomy i k with q|q|q
       ·rw[bH (by omega)] at hi;exact .inl ⟨q,hi⟩
       ·subst q;rw[← hl] at hi;simp at hi;exact .inr ⟨rfl,hi.symm⟩
       ·rw[List.getElem?_eq_none (by simp;omega)] at hi;cases hi
      refine ⟨rows++[xs],vss++[ci],by simp[n1],by simp[n2],?_,?_,?_⟩
      ·intro i r v h1 h2
       rcases get n1 h1 with ⟨q,h1⟩ | ⟨q,rfl⟩
       ·rcases get n2 h2 with ⟨_,h2⟩ | ⟨q2,_⟩
        ·exact p1 i r v h1 h2
        ·omega
       ·rcases get n2 h2 with ⟨q2,_⟩ | ⟨_,rfl⟩
        ·omega
        ·exact p2
      ·intro i v h2
       rcases get n2 h2 with ⟨q,h2⟩ | ⟨rfl,rfl⟩
       ·exact c1 i v h2
       ·exact g1
      ·intro i r h1
       rcases get n1 h1 with ⟨q,h1⟩ | ⟨rfl,rfl⟩
       ·exact t1 i r h1
       ·refine ⟨?_,y,hy,t2⟩
        have:=p2.length
        have:=(World.cells?_some g1).2.1
        omega
    obtain ⟨rows,vss,n1,n2,p1,c1,t1⟩:=rowsN len (Nat.le_refl _)
    have hlenr:∀ r ∈ rows,r.length=P.cellsOf e:=fun r hr=>by
     obtain ⟨i,hi⟩:=List.getElem?_of_mem hr
     exact (t1 i r hi).1
    have hlenv:∀ v ∈ vss,v.length=P.cellsOf e:=by
     intro v hv
     obtain ⟨i,hi⟩:=List.getElem?_of_mem hv
     exact (World.cells?_some (c1 i v hi)).2.1
    have hall:=Rps.flatten (β:=eh w) (by rw[n1,n2]) p1
    refine ⟨[.isl rows.flatten rows.length none],Rps.one ⟨vss.flatten,hall,some a,cap,by rw[n1],by omega,fun k hk=>(by cases hk),?_⟩,?_⟩
    ·rcases Nat.eq_zero_or_pos len with h0|hpos
     ·exact .inl ⟨by omega,fun e=>by cases e⟩
     refine .inr ?_
     have cellAt:∀ i j,i<len→j<P.cellsOf e→∃ v u,vss[i]?=some v∧v[j]?=some u∧w.cell? ((a.add (i*P.cellsOf e)).add j)=some u:=by
      intro i j hi hj
      have hv:vss[i]?=some (vss[i]'(by omega)):=ba (by omega)
      obtain ⟨_,g2,g3⟩:=World.cells?_some (c1 i _ hv)
      have hu:(vss[i]'(by omega))[j]?=some ((vss[i]'(by omega))[j]'(by omega)):=ba (by omega)
      exact ⟨_,_,hv,hu,by rw[g3 j hj];exact hu⟩
     obtain ⟨v0,u0,_,_,hc0⟩:=cellAt 0 0 hpos hc
     have hspot:a.spot=none:=by
      simp only[Nat.zero_mul,Addr.add,if_true] at hc0
      unfold World.cell? at hc0
      split at hc0
      ·split at hc0
       ·cases hc0
       ·rename_i hs;simpa using hs
      ·cases hc0
     obtain ⟨c,ty,fz,hheap⟩:∃ c ty fz,w.heap[a.block]?=some (.cells c ty fz):=by
      simp only[Nat.zero_mul,Addr.add,if_true] at hc0
      unfold World.cell? at hc0
      split at hc0
      ·rename_i c ty fz hh;exact ⟨c,ty,fz,hh⟩
      ·cases hc0
     have cellC:∀ i j,i<len→j<P.cellsOf e→∃ v u,vss[i]?=some v∧v[j]?=some u∧c[a.off+(i*P.cellsOf e+j)]?=some u:=by
      intro i j hi hj
      obtain ⟨v,u,g1,g2,g3⟩:=cellAt i j hi hj
      refine ⟨v,u,g1,g2,?_⟩
      have hblk:((a.add (i*P.cellsOf e)).add j).block=a.block:=by
       unfold Addr.add;split<;>split<;>rfl
      have hoff:((a.add (i*P.cellsOf e)).add j).off=a.off+(i*P.cellsOf e+j):=by
       unfold Addr.add
       split<;>split<;>simp_all<;>omega
      unfold World.cell? at g3
      rw[hblk,hheap] at g3
      simp only at g3
      split at g3
      ·cases g3
      ·rw[hoff] at g3;exact g3
     refine ⟨a.block,a.off,by rw[← hspot],c,ty,fz,hheap,?_,?_⟩
     ·rw[kp hlenv,n2]
      obtain ⟨v,u,_,_,g⟩:=cellC (len-1) (P.cellsOf e-1) (by omega) (by omega)
      have:=(Array.getElem?_eq_some_iff.1 g).1
      have e1:len*P.cellsOf e=(len-1)*P.cellsOf e+P.cellsOf e:=by
       rw[← Nat.succ_mul];congr 1;omega
      omega
     ·intro q u hu
      have hq:q<vss.length*P.cellsOf e:=by
       rw[← kp hlenv];exact (List.getElem?_eq_some_iff.1 hu).1
      obtain ⟨l,g1,g2⟩:=rO hc hlenv hq
      have hi:q / P.cellsOf e<len:=by rw[Nat.div_lt_iff_lt_mul hc];rw[← n2];exact hq
      obtain ⟨v',u',k1,k2,k3⟩:=cellC (q / P.cellsOf e) (q % P.cellsOf e) hi (Nat.mod_lt _ hc)
      rw[g1] at k1;cases k1
      rw[g2,k2] at hu;cases hu
      rw[← k3]
      congr 2
      rw[Nat.mul_comm];exact (Nat.div_add_mod q (P.cellsOf e)).symm
    ·unfold bn
     rw[hu]
     refine ⟨rows,elems.map (·.1),rfl,by simp[hel,n1],.inr ⟨_,rfl⟩,fun i r di h1 h2=>?_⟩
     obtain ⟨h3,y,h4,h5⟩:=t1 i r h1
     rw[bU,h4] at h2
     cases h2
     exact ⟨h3,h5⟩
  ·rename_i fs hu
   simp only[aF,List.all_eq_true,List.contains_iff_mem,beq_iff_eq] at hok
   obtain ⟨hf,htile⟩:=hok
   obtain ⟨xs,m,hm,rfl,hl,hxl,hxs⟩:=DataW.trod_struct hu h
   cases hm
   have hb:=(ux htile).2
   obtain ⟨ys,p1,t1⟩:=l9 (β:=eh w) (Q:=fun f ys=>∀ (i:Nat) (y:DataW H × List MemPlace),fs[i]?=some f→xs[i]?=some y→bn P n f.type ys y.1) htile hl (fun f hfm=>by
    obtain ⟨i,hi,e'⟩:=List.getElem_of_mem hfm
    have hi':fs[i]?=some f:=by
     have:i<fs.size:=by simpa using hi
     rw[Array.getElem?_eq_getElem this]
     have:fs.toList[i]=fs[i]:=by simp
     rw[← this,e']
    have h1:=hxs i f hi'
    have h2:xs[i]?=some (xs[i]'(by rw[hxl];simpa using hi)):=ba _
    rw[h2] at h1
    obtain ⟨zs,q1,q2⟩:=iU hS n (hf f hfm) h1
    refine ⟨zs,q1,fun j y hj hy=>?_⟩
    obtain ⟨zs',q1',q2'⟩:=iU hS n (hf f hfm) (by rw[hxs j f hj,hy]:DataW.trod enc P w base sp held n f.type _=some y)
    have e2:xs[j]?=xs[i]?:=by rw[← hxs j f hj,← hxs i f hi']
    rw[hy,h2] at e2
    cases e2
    exact q2) (fun f hfm=>by rw[hl];exact hb f hfm)
   refine ⟨ys,by simpa using p1,?_⟩
   unfold bn
   rw[hu]
   refine ⟨?_,xs.map (·.1),rfl,by simp[hxl],fun i f di hi hdi=>?_⟩
   ·have:=p1.length
    simp at this
    omega
   ·rw[bU] at hdi
    obtain ⟨y,hy,rfl⟩:=Option.map_eq_some_iff.1 hdi
    have:=(t1 f (Array.mem_toList_iff.2 (Array.mem_of_getElem? hi))).2 i y hi hy
    simpa using this
  ·cases hok
end
end Go.CP
