/- Parts of the proof. -/
import Derived.Test.YtknegckgmklnhaaGreatDoorVaE
import Derived.Shelf.Strings.Builder1
import Derived.Shelf.Strings.Builder2
import Derived.Shelf.Strings.OnBuilder
import Derived.Shelf.Small.Bits
import Derived.Shelf.Small.Strs
import Derived.Shelf.Utf8.RuneCount
import Derived.Shelf.Strconv.Atoi
import Derived.Shelf.Strconv.Itoa0
import Derived.Shelf.Strconv.Itoa1
import Derived.Shelf.LaysM
import Derived.Shelf.Strconv.Itoa2
import Derived.Shelf.Strconv.Itoa3
import Derived.Shelf.Strconv.AtoiErrFast
import Derived.Shelf.Strconv.ParseIntEmpty
import Derived.Shelf.Strconv.AtoiFail
import Derived.Shelf.Strconv.Clone
import Derived.Shelf.Strconv.SyntaxError
import Derived.Shelf.LaysC
import Derived.Shelf.Strconv.ToError
import Derived.Shelf.Strconv.Lower
import Derived.Shelf.Strconv.ParseUint10
import Derived.Shelf.Strconv.ParseUint10Empty
import Derived.Shelf.Strconv.ParseUint10Any
import Derived.Shelf.Strconv.ParseInt10
import Derived.Shelf.Strconv.AtoiLong
import Derived.Shelf.Strconv.AtoiInnerAll
import Derived.Shelf.Strconv.RangeError
import Derived.Shelf.Strconv.ToErrorRange
import Derived.Shelf.Strconv.AtoiAll
import Derived.Shelf.Strconv.ErrVarAll
import Derived.Shelf.Strings.Search1
import Derived.Shelf.Strings.Search2
import Derived.Shelf.Strings.Search3
import Derived.Shelf.Strings.Cut
import Derived.Shelf.Strings.Count
import Derived.Shelf.Strings.Shaped
import Derived.Shelf.Strings.Split
import Derived.Shelf.Strings.SplitShaped
import Derived.Shelf.Unicode.Decode
import Derived.Shelf.Strings.RuneCount
import Derived.Shelf.Strings.Explode
import Derived.Shelf.Unicode.DecodeSlow
import Derived.Shelf.Unicode.DecodeAny
import Derived.Shelf.SlSorted.Search
namespace Go.Proofs.YtknegckgmklnhaaGreatDoor
open Go Go.CP
set_option maxRecDepth 100000
structure OIn (st0:aa) (o b:Nat) (st:aa) (fl fn fb:Option Nat) (L:List LV) (ns:List Tx) (ls:List Bool):Prop where
 fr:Fr st0 st (fun j=>j=o)
 nb:st0.length≤b
 hb:st[b]?=some (.cells .rw [i64 8,osl fl 1 L.length,osl fn 1 (ns.map LV.str).length,osl fb 1 (ls.map LV.bool).length])
 ol:bS .rw st fl 1 L.length L
 on:bS .rw st fn 1 (ns.map LV.str).length (ns.map .str)
 ob:bS .rw st fb 1 (ls.map LV.bool).length (ls.map .bool)
 gl:∀ j,fl=some j→st0.length≤j∧j≠b
 gn:∀ j,fn=some j→st0.length≤j∧j≠b
 gb:∀ j,fb=some j→st0.length≤j∧j≠b
 d1:∀ j,fl=some j→fn≠some j∧fb≠some j
 d2:∀ j,fn=some j→fb≠some j
 pl:LV.ar L=true
section
variable {st st' st0:aa} {o b:Nat} {s:Tx} {a d D n:Nat} {e:Int} {R:LV→aa→Prop} {fl fn fb:Option Nat} {L:List LV} {ns:List Tx} {ls:List Bool}
theorem OIn.two {fn2 fb2:Option Nat} {w:Tx} {g:Bool} {st4:aa} (h:OIn st0 o b st fl fn fb L ns ls) (ho:o<st0.length) (t:Two st st4 fn fb fn2 fb2 (ns.map LV.str++[LV.str w]) (ls.map LV.bool++[LV.bool g])) :
  ∃ st5 st6,stV st4 1 (.ptr b 2) (osl fn2 1 (ns.map LV.str++[LV.str w]).length)=some st5∧stV st5 1 (.ptr b 3) (osl fb2 1 (ls.map LV.bool++[LV.bool g]).length)=some st6∧
   OIn st0 o b st6 fl fn2 fb2 L (ns++[w]) (ls++[g])∧st6[o]?=st[o]?:=by
 have hbl:=b6 h.hb
 have l0:=h.fr.len
 have hb4:=t.fr.get h.hb (by rintro (e|e);exact (h.gn _ e).2 rfl;exact (h.gb _ e).2 rfl)
 have e5:stV st4 1 (.ptr b 2) (osl fn2 1 (ns.map LV.str++[LV.str w]).length)=some (st4.set b (.cells .rw [i64 8,osl fl 1 L.length,osl fn2 1 (ns.map LV.str++[LV.str w]).length,osl fb 1 (ls.map LV.bool).length])):=by
  rw[eY hb4 (by simp) (by cases fn2<;>rfl)];rfl
 have hb5:=cN (y:=.cells .rw [i64 8,osl fl 1 L.length,osl fn2 1 (ns.map LV.str++[LV.str w]).length,osl fb 1 (ls.map LV.bool).length]) hb4
 have e6:stV (st4.set b (.cells .rw [i64 8,osl fl 1 L.length,osl fn2 1 (ns.map LV.str++[LV.str w]).length,osl fb 1 (ls.map LV.bool).length])) 1 (.ptr b 3) (osl fb2 1 (ls.map LV.bool++[LV.bool g]).length) =
   some (st4.set b (.cells .rw [i64 8,osl fl 1 L.length,osl fn2 1 (ns.map LV.str++[LV.str w]).length,osl fb2 1 (ls.map LV.bool++[LV.bool g]).length])):=by
  rw[eY hb5 (by simp) (by cases fb2<;>rfl),List.set_set];rfl
 have F:Fr st4 (st4.set b (.cells .rw [i64 8,osl fl 1 L.length,osl fn2 1 (ns.map LV.str++[LV.str w]).length,osl fb2 1 (ls.map LV.bool++[LV.bool g]).length])) (fun j=>j=b):=Fr.set rfl
 have gn2:∀ j,fn2=some j→st0.length≤j∧j≠b:=fun j e=>by
  rcases t.gA j e with h1|h1
  ·exact h.gn j h1
  ·exact ⟨by omega,by omega⟩
 have gb2:∀ j,fb2=some j→st0.length≤j∧j≠b:=fun j e=>by
  rcases t.gB j e with h1|h1
  ·exact h.gb j h1
  ·exact ⟨by omega,by omega⟩
 refine ⟨_,_,e5,e6,⟨?_,h.nb,?_,?_,?_,?_,h.gl,gn2,gb2,fun j e=>⟨fun e2=>?_,fun e2=>?_⟩,t.ne,h.pl⟩,?_⟩
 ·exact (h.fr.trans t.fr fun j hj e=>by rcases e with e|e;(have:=(h.gn j e).1;omega);(have:=(h.gb j e).1;omega)).trans F fun j hj e=>by have:=h.nb;omega
 ·rw[List.map_append,List.map_append];exact cN hb4
 ·refine (h.ol.fr t.fr fun j e=>?_).fr F fun j e=>(h.gl j e).2
  rintro (e2|e2)
  ·exact (h.d1 j e).1 e2
  ·exact (h.d1 j e).2 e2
 ·rw[List.map_append];exact t.oA.fr F fun j e=>(gn2 j e).2
 ·rw[List.map_append];exact t.oB.fr F fun j e=>(gb2 j e).2
 ·rcases t.gA j e2 with h1|h1
  ·exact (h.d1 j e).1 h1
  ·have:=yi h.ol e;omega
 ·rcases t.gB j e2 with h1|h1
  ·exact (h.d1 j e).2 h1
  ·have:=yi h.ol e;omega
 ·have hol:o<st.length:=Nat.lt_of_lt_of_le ho l0
  rw[fy (by have:=h.nb;omega),t.fr.same o hol]
  rintro (e|e)
  ·have:=(h.gn o e).1;omega
  ·have:=(h.gb o e).1;omega
end
section
variable {st st' st0:aa} {o b:Nat} {s:Tx} {a d D n:Nat} {e:Int} {R:LV→aa→Prop} {fl fn fb:Option Nat} {L:List LV} {ns:List Tx} {ls:List Bool}
def CU (st0:aa) (o b:Nat) (s:Tx) (D:Nat) (R:LV→aa→Prop) (L:List LV) (ns:List Tx) (ls:List Bool):Prop:=
 ∀ st2 fl2 fn2 fb2 v w g a' e',e'≠0→a'≤s.length→OIn st0 o b st2 fl2 fn2 fb2 (L++[v]) (ns++[w]) (ls++[g])→Rd st2 o s a' e' D→R (.tup []) st2
section
variable (ho:o<st0.length) (ha:a≤s.length) (hl:L.length<2 ^ 20) (hln:ns.length<2 ^ 20) (hlb:ls.length<2 ^ 20) (h:OIn st0 o b st fl fn fb L ns ls) (hr:Rd st o s a e D) (hB:CU st0 o b s D R L ns ls)
include ho ha hl hln hlb h hr hB
end
end
section
variable {st st' st0:aa} {o b:Nat} {s:Tx} {a d D n:Nat} {e:Int} {R:LV→aa→Prop} {fl fn fb:Option Nat} {L:List LV} {ns:List Tx} {ls:List Bool}
theorem OIn.fin (h:OIn st0 o b st fl fn fb L ns ls) (hr:Rd st o s a e D) (hR:R (.iptr [i64 8,.isl L L.length none,.isl (ns.map .str) (ns.map LV.str).length none,.isl (ls.map .bool) (ls.map LV.bool).length none] 0) (st0.set o (rdO s a e D))):TQ st0 o R (.ptr b 0) st:=by
 have p1:LV.ar (ns.map LV.str)=true:=bP fun _ _=>rfl
 have p2:LV.ar (ls.map LV.bool)=true:=bP fun _ _=>rfl
 refine ⟨_,_,h.fr,hr,yh,?_,by simp[LV.plain,LV.ar,h.pl,p1,p2],hR⟩
 refine .inl ⟨b,.rw,_,rfl,(mA h.nb).trans h.hb,rfl,by simp,?_⟩
 simp only[aN,a8,List.take_succ_cons,List.take_zero]
 exact ⟨_,_,rfl,rfl,_,_,rfl,iB (h.ol.iG fun j e=>(h.gl j e).1) rfl (bx _ h.pl),_,_,rfl,iB (h.on.iG fun j e=>(h.gn j e).1) rfl (bx _ p1),_,_,rfl,iB (h.ob.iG fun j e=>(h.gb j e).1) rfl (bx _ p2),rfl⟩
end
end Go.Proofs.YtknegckgmklnhaaGreatDoor
namespace Go.CP
structure AT where
 nm:Tx
 ty:KT
 must:Bool
 own:Bool
 hide:Bool
 new:Bool
structure ST where
 ver:Int
 l:List AT
structure ST.ok (s:ST):Prop where
 ver:0≤s.ver∧s.ver≤1000
 len:s.l.length≤16
 rise:(s.l.map (·.nm)).Pairwise ltB
 nm:∀ a ∈ s.l,named a.nm=true
 ty:∀ a ∈ s.l,a.ty.wf 8
 mo:∀ a ∈ s.l,(a.must&&a.own)=false
end Go.CP
namespace Go.Proofs.YtknegckgmklnhaaGreatDoor
open Go Go.CP Go.RowKit
set_option maxRecDepth 100000
variable {R:LV→aa→Prop} {st:aa}
abbrev Cu:al:=.cells (.gl 3 Lib.pow10Tab.length) (Lib.pow10Tab.map fun z=>.int .u64 z)
abbrev Cv (u:TypeId):al:=.cells (.gl 1 1) [.iface u .aJ]
abbrev Cw (u:TypeId):al:=.cells (.gl 2 1) [.iface u .aJ]
end Go.Proofs.YtknegckgmklnhaaGreatDoor
namespace Go.Proofs.YtknegckgmklnhaaGreatDoor
open Go Go.CP
set_option maxRecDepth 100000
abbrev aX (nm:Tx) (tv:LV) (m o h n:Bool):List LV:=[.str nm,tv,.bool m,.bool o,.bool h,.bool n]
section
variable {st st':aa} {R:LV→aa→Prop}
def Bq (tv:LV) (tnil:Bool):Prop:=tv=.nilp∧tnil=true∨∃ t,tv=kV t∧tnil=false
theorem Bq.plain {tv:LV} {b:Bool} (h:Bq tv b):tv.plain=true:=by
 rcases h with ⟨rfl,_⟩ | ⟨t,rfl,_⟩
 ·rfl
 ·exact yg
end
structure Row where
 nm:Tx
 tv:LV
 tnil:Bool
 must:Bool
 own:Bool
 hide:Bool
 new:Bool
abbrev Row.cells (r:Row):List LV:=aX r.nm r.tv r.must r.own r.hide r.new
structure Row.ok (r:Row):Prop where
 tv:Bq r.tv r.tnil
 nm:r.nm.length≤2 ^ 32
def zZ:List Row→List LV
 | []=>[]
 | r::l=>r.cells++zZ l
def Cx:Nat→List Tx→List (LV × LV)
 | _,[]=>[]
 | j,n::ns=>(.str n,i64 j)::Cx (j+1) ns
section
variable {st st':aa} {R:LV→aa→Prop}
end
structure GlS (st:aa):Prop where
 p:st[0]?=some Cu
 n:∃ u,st[1]?=some (Cv u)
 f:∃ u,st[2]?=some (Cw u)
section
variable {st st':aa} {R:LV→aa→Prop}
theorem GlS.fr {S:Nat→Prop} (h:GlS st) (k:Fr st st' S) (h0:¬ S 0) (h1:¬ S 1) (h2:¬ S 2):GlS st':=
 ⟨k.get h.p h0,by obtain ⟨u,e⟩:=h.n;exact ⟨u,k.get e h1⟩,by obtain ⟨u,e⟩:=h.f;exact ⟨u,k.get e h2⟩⟩
theorem GlS.len (h:GlS st):3≤st.length:=by obtain ⟨u,e⟩:=h.f;have:=b6 e;omega
end
def z6 (a:AT):Row:=⟨a.nm,kV a.ty,false,a.must,a.own,a.hide,a.new⟩
def atC (l:List AT):List LV:=zZ (l.map z6)
section
variable {st st':aa} {R:LV→aa→Prop}
structure Sch (st:aa) (n0:Nat) (v:Int) (l:List AT) (B:Nat) (f:Option Nat) (M:Nat):Prop where
 b:st[B]?=some (.cells .rw [i64 v,osl f 6 l.length,.map M])
 o:bS .rw st f 6 l.length (atC l)
 m:st[M]?=some (.map .rw (Cx 0 ((l.map z6).map (·.nm))) (List.range l.length) l.length)
 nb:n0≤B
 nm:n0≤M
 nf:∀ o,f=some o→n0≤o
 ne:0<l.length∨f=none
 pw:(l.map (·.nm)).Pairwise ltB
end
section
variable {st st':aa} {R:LV→aa→Prop}
theorem yj {x y:al} (h:st[0]?=some x):(st++[y])[0]?=some x:=by rw[bH (b6 h)];exact h
end
section
variable {st st':aa} {R:LV→aa→Prop}
structure Fil (st:aa) (v:T) (f8 f9:Option Nat) (n:Nat) (ks vs:List LV):Prop where
 b0:st[0]?=some (.cells .rw [lvT v])
 b1:∃ y,st[1]?=some (.cells .rw [y])
 o8:bS .rw st f8 1 n ks
 o9:bS .rw st f9 1 n vs
 n8:∀ o,f8=some o→2≤o
 n9:∀ o,f9=some o→2≤o
 ne:∀ o,f8=some o→f9≠some o
theorem Fil.app {v:T} {f8 f9:Option Nat} {n:Nat} {ks vs:List LV} {y:al} (h:Fil st v f8 f9 n ks vs):Fil (st++[y]) v f8 f9 n ks vs:=
 ⟨yj h.b0,by obtain ⟨z,e⟩:=h.b1;exact ⟨z,by rw[bH (b6 e)];exact e⟩,h.o8.fr (Fr.app (S:=fun _=>False)) fun _ _ h=>h,h.o9.fr (Fr.app (S:=fun _=>False)) fun _ _ h=>h,h.n8,h.n9,h.ne⟩
structure Mid (st:aa) (v:T) (f8 f9:Option Nat) (n:Nat) (ks vs:List LV):Prop where
 b0:st[0]?=some (.cells .rw [lvT v])
 b1:∃ y,st[1]?=some (.cells .rw [y])
 o8:bS .rw st f8 1 (n+1) ks
 o9:bS .rw st f9 1 n vs
 n8:∀ o,f8=some o→2≤o
 n9:∀ o,f9=some o→2≤o
 ne:∀ o,f8=some o→f9≠some o
theorem Mid.app {v:T} {f8 f9:Option Nat} {n:Nat} {ks vs:List LV} {y:al} (h:Mid st v f8 f9 n ks vs):Mid (st++[y]) v f8 f9 n ks vs:=
 ⟨yj h.b0,by obtain ⟨z,e⟩:=h.b1;exact ⟨z,by rw[bH (b6 e)];exact e⟩,h.o8.fr (Fr.app (S:=fun _=>False)) fun _ _ h=>h,h.o9.fr (Fr.app (S:=fun _=>False)) fun _ _ h=>h,h.n8,h.n9,h.ne⟩
end
end Go.Proofs.YtknegckgmklnhaaGreatDoor
namespace Go.Proofs.YtknegckgmklnhaaGreatDoor
open Go Go.CP
set_option maxRecDepth 100000
mutual
def rkC:KT→List LV
 | .mk f l ns ls=>[i64 f,.isl (Br l) l.length none,.isl (ns.map .str) ns.length none,.isl (ls.map .bool) ls.length none]
def Br:List KT→List LV
 | []=>[]
 | t::ts=>rkC t++Br ts
end
section
variable {st st' st0:aa} {s:Tx} {a d n:Nat} {R:LV→aa→Prop}
end
end Go.Proofs.YtknegckgmklnhaaGreatDoor
namespace Go.Proofs.YtknegckgmklnhaaGreatDoor
open Go Go.CP
set_option maxRecDepth 100000
structure MIn (st:aa) (form:Nat) (fl fn fb:Option Nat) (l:List KT) (ns:List Tx) (ls:List Bool):Prop where
 h0:st[0]?=some (.cells .rw [i64 0,.nils,.nils,.nils])
 h1:st[1]?=some (.cells .rw [i64 0,i64 0])
 h2:st[2]?=some (.cells .rw [i64 form,osl fl 4 l.length,osl fn 1 (ns.map LV.str).length,osl fb 1 (ls.map LV.bool).length])
 ol:bS .rw st fl 4 l.length (Br l)
 on:bS .rw st fn 1 (ns.map LV.str).length (ns.map .str)
 ob:bS .rw st fb 1 (ls.map LV.bool).length (ls.map .bool)
 gl:∀ j,fl=some j→3≤j
 gn:∀ j,fn=some j→3≤j
 gb:∀ j,fb=some j→3≤j
 d1:∀ j,fl=some j→fn≠some j∧fb≠some j
 d2:∀ j,fn=some j→fb≠some j
section
variable {st st' st0:aa} {s:Tx} {a d D n form:Nat} {Q:LV→Prop} {fl fn fb:Option Nat} {l:List KT} {ns:List Tx} {ls:List Bool}
theorem MIn.fr (h:MIn st form fl fn fb l ns ls) (F:Fr st st' (fun _=>False)):MIn st' form fl fn fb l ns ls:=
 ⟨F.get h.h0 id,F.get h.h1 id,F.get h.h2 id,h.ol.fr F fun _ _ h=>h,h.on.fr F fun _ _ h=>h,h.ob.fr F fun _ _ h=>h,h.gl,h.gn,h.gb,h.d1,h.d2⟩
end
section
variable {st st' st0:aa} {s:Tx} {a d D n:Nat} {Q:LV→Prop}
structure WIn (st:aa):Prop where
 h0:st[0]?=some (.cells .rw [i64 0,.nils,.nils,.nils])
 h1:st[1]?=some (.cells .rw [i64 0,i64 0])
theorem WIn.fr (h:WIn st) (F:Fr st st' (fun j=>2≤j)):WIn st':=⟨F.get h.h0 (by omega),F.get h.h1 (by omega)⟩
end
section
variable {R:LV→aa→Prop} {z0:al} {nm tx:Tx} {t0 t1 t2 t3:LV} {m o h n:Bool}
def bC (a:AT):List LV:=.str a.nm::.str (kpr a.ty)::(rkC a.ty++[.bool a.must,.bool a.own,.bool a.hide,.bool a.new])
end
def bCs:List AT→List LV
 | []=>[]
 | a::l=>bC a++bCs l
structure RSt (st:aa) (v:Int) (l:List AT) (f:Option Nat):Prop where
 a:∃ x y,st[0]?=some (.cells .rw [x,y])
 b:st[1]?=some (.cells .rw [i64 v,osl f 10 l.length])
 o:bS .rw st f 10 l.length (bCs l)
 n:∀ o,f=some o→2≤o
section
variable {R:LV→aa→Prop} {st:aa}
theorem RSt.app {v:Int} {l:List AT} {f:Option Nat} {y:al} (h:RSt st v l f):RSt (st++[y]) v l f:=
 ⟨by obtain ⟨p,q,e⟩:=h.a;exact ⟨p,q,yj e⟩,by rw[bH (b6 h.b)];exact h.b,h.o.fr (Fr.app (S:=fun _=>False)) fun _ _ h=>h,h.n⟩
end
def Cy (x5 x6 x8 x9 x54:LV) (R:LV.RT) (st:aa):Prop:=LTg Tryz.prog (kindOf false) [.tmp 4] (du Tryz.f9 10) [] R (LV.jk 5 (x5::x6::.aJ::x8::x9::(LV.jk 44 (x54::(LV.jk 55 []))))) st
def w9 (a0 a1:LV) (R:LV.RT) (st:aa):Prop:=
 bd2 (cy st a1) fun v0 dO=>bd (ldA dO v0 7) fun v2=>LZ 24 [v2] dO fun v3 lE=>bd (aU BinOp.gtr v3 (i64 0)) fun v5=>aL v5 (LZ 17 [] lE fun v6 st7=>R v6 st7)
 (LZ 17 [] lE fun v8 lT=>bd (lun UnOp.not v8) fun v10=>aL v10 (LZ 17 [] lT fun v11 iN=>R v11 iN)
 (LZ 26 [a0] lT fun iS mK=>bd (ah iS 0) fun p7=>bd (ah iS 1) fun v16=>bd (ah iS 2) fun v17=>nw mK [i64 0,LV.nils] fun nE oF=>bd2 (lmk (stV oF 2 nE v16)) fun _v20 gT=>bd (ldA gT v0 7) fun v22=>LZ 27 [v22] gT fun v23 oR=>LZ 29 [v23] oR fun v25 rW=>nw rW [LV.nili] fun aC aT=>bd2 (lmk (stV aT 1 aC v25)) fun _v29 gE=>bd (aU BinOp.gtr v17 (i64 0)) fun v31=>aL v31 (R (LV.bool true) gE)
 (bd (ldA gE aC 1) fun v32=>LZ 42 [p7,v32] gE fun p8 bY=>bd (ah p8 0) fun v35=>bd (ah p8 1) fun v36=>nw bY [LV.nili] fun iF c7=>bd2 (lmk (stV c7 1 iF v35)) fun _v39 eQ=>bd (aU BinOp.neq v36 (i64 0)) fun v41=>aL v41
 (bd (ldA eQ iF 1) fun v42=>LZ 46 [v42] eQ fun v43 c8=>bd (aU BinOp.eql v43 (i64 0)) fun v45=>R v45 c8)
 (bd (ldA eQ iF 1) fun v46=>bd (aK 1 nE) fun p9=>bd (ld1 eQ p9) fun tO=>bd (bg tO) fun v49=>LZ 49 [v46] eQ fun v50 iD=>ld1 iD p9=some tO∧bd (bg v50) fun v52=>bd (aU BinOp.neq v52 v49) fun v53=>Cy p7 nE aC iF v53 R iD))))
structure LSt (st:aa) (A B C:Nat) (n:Int) (l:List AT) (v x:T):Prop where
 a:st[A]?=some (.cells .rw [i64 n,.isl (bCs l) l.length none])
 b:st[B]?=some (.cells .rw [lvT v])
 c:st[C]?=some (.cells .rw [lvT x])
section
variable {R:LV→aa→Prop} {st:aa}
theorem LSt.app {A B C:Nat} {n:Int} {l:List AT} {v x:T} {y:al} (h:LSt st A B C n l v x):LSt (st++[y]) A B C n l v x:=
 ⟨by rw[bH (b6 h.a)];exact h.a,by rw[bH (b6 h.b)];exact h.b,by rw[bH (b6 h.c)];exact h.c⟩
theorem gX {o:Nat} {v:T} (h:st[o]?=some (.cells .rw [lvT v])):ldA st (.ptr o 0) 1=some (vT v):=by rw[eE h (by simp)];rfl
end
end Go.Proofs.YtknegckgmklnhaaGreatDoor
namespace Go.CP
end Go.CP
namespace Go.Proofs.YtknegckgmklnhaaGreatDoor
open Go Go.CP
set_option maxRecDepth 100000
theorem Bs:bG (aV (aQ [(0,1)]) [LV.nili] [])=some (vT .null):=rfl
theorem iJ {st:aa} {o:Nat} {x:LV} {t:T} (h:st[o]?=some (.cells .rw [x])):stV st 1 (.ptr o 0) (vT t)=some (st.set o (.cells .rw [lvT t])):=
 dE (k:=0) (vs:=[lvT t]) (n:=1) h (by simp) (by simp[fj]) rfl
end Go.Proofs.YtknegckgmklnhaaGreatDoor
namespace Go.CP
theorem qD {α β:Type} {f:α→β} {a c:List β} (h:a.Perm c):∀ {b:List α},c=b.map f→∃ b':List α,b'.Perm b∧a=b'.map f:=by
 induction h with
 | nil=>
  intro b hb
  match b,hb with
  | [],_=>exact ⟨[],List.Perm.refl _,rfl⟩
 | cons x _ ih=>
  intro b hb
  match b,hb with
  | y::b,hb=>
   simp only[List.map_cons,List.cons.injEq] at hb
   obtain ⟨b',h1,h2⟩:=ih hb.2
   exact ⟨y::b',h1.cons y,by rw[h2,hb.1];rfl⟩
 | swap x y l=>
  intro b hb
  match b,hb with
  | u::v::b,hb=>
   simp only[List.map_cons,List.cons.injEq] at hb
   exact ⟨v::u::b,.swap u v b,by rw[hb.2.2,hb.1,hb.2.1];rfl⟩
 | trans _ _ ih1 ih2=>
  intro b hb
  obtain ⟨b1,h1,h2⟩:=ih2 hb
  obtain ⟨b2,h3,h4⟩:=ih1 h2
  exact ⟨b2,h3.trans h1,h4⟩
namespace T
def upd (k:List UInt8) (y:T):List (List UInt8 × T)→List (List UInt8 × T)
 | []=>[(k,y)]
 | e::es=>if e.1=k then (k,y)::es else e::upd k y es
theorem lF {k:List UInt8} {es:List (List UInt8 × T)} (h:k ∉ es.map (·.1)):es.filter (fun e=>decide (e.1≠k))=es:=by
 rw[List.filter_eq_self]
 intro e he
 simp only[ne_eq,decide_eq_true_eq]
 rintro rfl
 exact h (List.mem_map.2 ⟨e,he,rfl⟩)
theorem sw {k:List UInt8} {y:T}:∀ {es:List (List UInt8 × T)},(es.map (·.1)).Nodup→(upd k y es).Perm ((k,y)::es.filter (fun e=>decide (e.1≠k)))
 | [],_=>.refl _
 | e::es,h=>by
  simp only[List.map_cons,List.nodup_cons] at h
  unfold upd
  by_cases hk:e.1=k
  ·subst hk
   rw[if_pos rfl,List.filter_cons_of_neg (by simp),lF h.1]
  ·rw[if_neg hk,List.filter_cons_of_pos (by simpa using hk)]
   exact ((sw h.2).cons e).trans (.swap _ _ _)
theorem sx {k:List UInt8} {y:T}:∀ {es:List (List UInt8 × T)},(es.map (·.1)).Pairwise ltB→(ins k y es).Perm ((k,y)::es.filter (fun e=>decide (e.1≠k)))
 | [],_=>.refl _
 | e::es,h=>by
  simp only[List.map_cons,List.pairwise_cons] at h
  unfold ins
  by_cases hk:k=e.1
  ·subst hk
   rw[if_pos rfl,List.filter_cons_of_neg (by simp),lF fun c=>nZ (h.1 _ c) rfl]
  ·rw[if_neg hk]
   split
   ·rename_i hl
    rw[lF]
    simp only[List.map_cons,List.mem_cons,not_or]
    exact ⟨hk,fun c=>nZ (fG hl (h.1 _ c)) rfl⟩
   ·rw[List.filter_cons_of_pos (by simpa using Ne.symm hk)]
    exact ((sx h.2).cons e).trans (.swap _ _ _)
theorem zk {k:List UInt8} {y:T} {es es':List (List UInt8 × T)} (h:(es.map (·.1)).Pairwise ltB) (hp:es'.Perm es):(ins k y es).Perm (upd k y es'):=by
 have hn:(es'.map (·.1)).Nodup:=(hp.map _).nodup_iff.2 (cH h)
 exact (sx h).trans (((hp.filter _).cons _).symm.trans (sw hn).symm)
end T
end Go.CP
namespace Go.Proofs.YtknegckgmklnhaaGreatDoor
open Go Go.CP
set_option maxRecDepth 100000
theorem sy {k:Tx} {y:T}:∀ {es:List (Tx × T)},ow (.str k) (vT y) (mE es)=some (mE (T.upd k y es))
 | []=>rfl
 | e::es=>by
  have ih:=sy (k:=k) (y:=y) (es:=es)
  simp only[mE,List.map_cons,ow,fJ,T.upd]
  by_cases h:e.1=k
  ·have h1:(k==e.1)=true:=by simp[h]
   rw[if_pos h,h1]
   simp[]
  ·have h1:(k==e.1)=false:=by simpa using Ne.symm h
   rw[if_neg h,h1]
   simp only[mE] at ih
   simp only[ih]
   rfl
section
variable {st:aa} {R:LV→aa→Prop}
theorem yk {es:List (Tx × T)} (hR:∀ (es':List (Tx × T)) (bs:List Nat) (n:Nat),es'.Perm es→R (.map st.length) (st++[.map .rw (mE es') bs n])) :
  ak Tryz.prog 259 [.imap (es.map fun e=>.str e.1) (dI es)] st R:=by
 refine CQ _ ?_
 have e1:eqB .eql (uc (.imap (es.map fun e=>LV.str e.1) (dI es)) LV.nilm)=some (.bool false):=rfl
 simp only[Cq,e1,ad,aA]
 refine rP (fn:=Tryz.f288) Tryz.func288 (by kernel_rfl) (by kernel_rfl) (by kernel_rfl) (by kernel_rfl) (by simp[kB]) fun es0 bs n hp=>?_
 have hz:(es.map fun e=>LV.str e.1).zip (dI es)=mE es:=by
  rw[kA,List.zip_map']
 rw[hz] at hp
 obtain ⟨es',h1,rfl⟩:=qD hp rfl
 have ea:asC 173 (some LV.nilm) (.iface 173 (.map st.length)) false=some (.map st.length):=rfl
 simp only[ea,ad]
 exact hR es' bs n h1
end
end Go.Proofs.YtknegckgmklnhaaGreatDoor
