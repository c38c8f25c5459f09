/- Parts of the proof. -/
import Derived.Test.YtknegckgmklnhaaGreatDoorVbW6
import Derived.Test.YtknegckgmklnhaaGreatDoorVaS
import Derived.Shelf.SlSorted.Search
namespace Go.Proofs.YtknegckgmklnhaaGreatDoor
open Go Go.CP Go.RowKit
set_option maxRecDepth 100000
variable {R:LV→aa→Prop} {st:aa}
abbrev KM:aq:=.cells (.gl 3 Lib.pow10Tab.length) (Lib.pow10Tab.map fun z=>.int .u64 z)
abbrev KN (u:TypeId):aq:=.cells (.gl 1 1) [.iface u .aN]
abbrev KO (u:TypeId):aq:=.cells (.gl 2 1) [.iface u .aN]
theorem yP {f:Option Nat} {n:Nat} {xs:List Tx} {sep:Tx} (h:bD .rw st f 1 n (xs.map .str)) (hn:xs.length≤140737488355328) (hl:(Lib.join xs sep).length≤140737488355328) (hR:R (.str (Lib.join xs sep)) st) :
  ax Tryz.prog 108 [osl f 1 n,.str sep] st R:=by
 have hlen:n=xs.length:=by have:=h.1;simpa using this.symm
 refine ax.kU ⟨Tryz.f108,ba Tryz.f108,Tryz.func108,by kernel_rfl,by kernel_rfl⟩ ?_ hR
 intro w0 β w vs hr hp
 cases f with
 | none=>
  have hz:n=0:=h.2
  have hx:xs=[]:=List.eq_nil_of_length_eq_zero (by omega)
  subst hx
  obtain ⟨v1,us,rfl,h1,v2,us2,rfl,rfl,rfl⟩:=hp
  have h1:v1=.slice none 0 0:=h1
  subst h1
  refine (Tryz.strings_Join_none none 0 ⟨⟨sep⟩⟩ w).mono ?_
  rintro e w' ⟨rfl,rfl⟩
  exact ⟨_,rfl,rfl,Bw.refl _ _⟩
 | some o=>
  obtain ⟨rest,ho⟩:=h.2
  obtain ⟨v1,us,rfl,⟨bl,hb,hle,rfl⟩,v2,us2,rfl,rfl,rfl⟩:=hp
  obtain ⟨bl',hb',cc,e,fz,hh,hs,hle',hc,hm⟩:=hr.obj o _ ho
  rw[hb] at hb';cases hb'
  have hblk:bl.blk<w.heap.size:=by
   rcases Nat.lt_or_ge bl.blk w.heap.size with hlt|hge
   ·exact hlt
   ·rw[Array.getElem?_eq_none hge] at hh;cases hh
  have cell:∀ (j:Nat) (x:ByteArray),(xs.map fun s=>(⟨⟨s⟩⟩:ByteArray))[j]?=some x→w.cell? ⟨bl.blk,(bl.base+0)+j,none⟩=some (.string x):=by
   intro j x hx
   rw[List.getElem?_map] at hx
   cases hj:xs[j]? with
   | none=>rw[hj] at hx;cases hx
   | some s=>
    rw[hj] at hx
    simp only[Option.map_some,Option.some.injEq] at hx
    subst hx
    have hlt:=(List.getElem?_eq_some_iff.1 hj).1
    obtain ⟨u,hu,r⟩:=hr.cell ho hb (k:=j) (x:=.str s) (by rw[List.getElem?_append_left (by simpa using hlt),List.getElem?_map,hj];rfl)
    rw[show u=_ from r] at hu
    rw[Nat.add_zero];exact hu
  have hmm:((xs.map fun s=>(⟨⟨s⟩⟩:ByteArray)).map (·.data.toList))=xs:=by rw[List.map_map];exact List.map_id'' (fun _=>rfl) xs
  have hx:(xs.map fun s=>(⟨⟨s⟩⟩:ByteArray)).length=n:=by rw[List.length_map,hlen]
  have k:=Tryz.strings_Join bl.blk (bl.base+0) (dM.cap bl 0 (.rest 1)) (xs.map fun s=>⟨⟨s⟩⟩) ⟨⟨sep⟩⟩ w cell hblk (by simpa using hn) (by rw[hx];exact hle) (by rw[hmm];exact hl)
  rw[hx,hmm] at k
  refine k.mono ?_
  rintro e w' ⟨rfl,hbw⟩
  exact ⟨_,rfl,rfl,⟨hbw⟩⟩
theorem Hi (s:Tx) (c:UInt8):Pu Tryz.prog 187 [.str s,.str [c]] (i64 (Lib.indexByte s c)):=⟨fun {st R} hR=>by
 refine ax.kU ⟨Tryz.f187,ba Tryz.f187,Tryz.func187,by kernel_rfl,by kernel_rfl⟩ ?_ hR
 intro w0 β w vs hr hp
 obtain ⟨v1,us,rfl,rfl,v2,us2,rfl,rfl,rfl⟩:=hp
 refine (Tryz.stringslite_Index_one ⟨⟨s⟩⟩ c w).mono ?_
 rintro e w' ⟨rfl,rfl⟩
 exact ⟨_,rfl,rfl,Bw.refl _ _⟩⟩
theorem Hj (s:Tx) (c:UInt8):Pu Tryz.prog 195 [.str s,.str [c]] (i64 (Lib.indexByte s c)):=⟨fun {st R} hR=>by
 refine ax.kU ⟨Tryz.f195,ba Tryz.f195,Tryz.func195,by kernel_rfl,by kernel_rfl⟩ ?_ hR
 intro w0 β w vs hr hp
 obtain ⟨v1,us,rfl,rfl,v2,us2,rfl,rfl,rfl⟩:=hp
 refine (Tryz.strings_Index_one ⟨⟨s⟩⟩ c w).mono ?_
 rintro e w' ⟨rfl,rfl⟩
 exact ⟨_,rfl,rfl,Bw.refl _ _⟩⟩
theorem Hk (s:Tx) (c:UInt8):Pu Tryz.prog 237 [.str s,.str [c]] (i64 (s.count c:Nat)):=⟨fun {st R} hR=>by
 refine ax.kU ⟨Tryz.f237,ba Tryz.f237,Tryz.func237,by kernel_rfl,by kernel_rfl⟩ ?_ hR
 intro w0 β w vs hr hp
 obtain ⟨v1,us,rfl,rfl,v2,us2,rfl,rfl,rfl⟩:=hp
 refine (Tryz.strings_Count_one ⟨⟨s⟩⟩ c w).mono ?_
 rintro e w' ⟨rfl,rfl⟩
 exact ⟨_,rfl,rfl,Bw.refl _ _⟩⟩
theorem Ex {o:Nat} {n:Int} (h:st[o]?=some KM) (h0 : -9223372036854775808≤n) (h1:n≤9223372036854775807) (hR:R (.str (Lib.itoa n)) st):ax Tryz.prog 83 [i64 n] st R:=by
 refine ax.kU ⟨Tryz.f83,ba Tryz.f83,Tryz.func83,by kernel_rfl,by kernel_rfl⟩ ?_ hR
 intro w0 β w vs hr hp
 obtain ⟨v1,us,rfl,rfl,rfl⟩:=hp
 refine (Tryz.strconv_Itoa n h0 h1 w (hr.Ab h (by kernel_rfl))).mono ?_
 rintro e w' ⟨rfl,k,os,rfl⟩
 exact ⟨_,rfl,rfl,⟨below_grown_sl _ w k os (Nat.le_refl _)⟩⟩
theorem ur {o o':Nat} {u u':TypeId} {s:Tx} (h:st[o]?=some (KN u)) (h':st[o']?=some (KO u')) (hl:s.length≤281474976710656)
  (hR:∀ v,Lib.atoiAll s=.ok v→R (.tup [i64 v,.nili]) st) (hN:∀ n,(∀ v,Lib.atoiAll s≠.ok v)→R (.tup [i64 n,.iface 290 .aN]) st):ax Tryz.prog 145 [.str s] st R:=by
 have hc:cw Tryz.prog 145:=⟨Tryz.f145,ba Tryz.f145,Tryz.func145,by kernel_rfl,by kernel_rfl⟩
 cases hs:Lib.atoiAll s with
 | ok v=>
  refine ax.kU hc ?_ (hR v hs)
  intro w0 β w vs hr hp
  obtain ⟨v1,us,rfl,rfl,rfl⟩:=hp
  refine (Tryz.strconv_Atoi_ok ⟨⟨s⟩⟩ (show s.length≤_ by omega) v hs w).mono ?_
  rintro e w' ⟨rfl,hw⟩
  refine ⟨_,rfl,⟨_,rfl,_,_,rfl,rfl,_,_,rfl,rfl,rfl⟩,?_⟩
  rcases hw with rfl|⟨t,rfl⟩
  ·exact Bw.refl _ _
  ·exact ⟨Lib.bytesWorld_below _ _ _⟩
 | range=>
  refine ax.kU hc ?_ (hN (Lib.atoiSat s) fun v=>by rw[hs];simp)
  intro w0 β w vs hr hp
  obtain ⟨v1,us,rfl,rfl,rfl⟩:=hp
  obtain ⟨ev,hev,pe,he,_⟩:=hr.Ca (i:=0) (l:=[.iface u' .aN]) (x:=.iface u' .aN) h' rfl
  refine (Tryz.strconv_Atoi_range ⟨⟨s⟩⟩ hl hs ev w hev (.inr ⟨_,_,he⟩)).mono ?_
  rintro e w' ⟨N,rfl,_,_,hb⟩
  exact ⟨_,rfl,⟨_,rfl,_,_,rfl,rfl,_,_,rfl,⟨_,rfl,trivial⟩,rfl⟩,⟨hb⟩⟩
 | _=>
  refine ax.kU hc ?_ (hN 0 fun v=>by rw[hs];simp)
  intro w0 β w vs hr hp
  obtain ⟨v1,us,rfl,rfl,rfl⟩:=hp
  obtain ⟨ev,hev,pe,he,_⟩:=hr.Ca (i:=0) (l:=[.iface u .aN]) (x:=.iface u .aN) h rfl
  refine (Tryz.strconv_Atoi_syntax ⟨⟨s⟩⟩ hl hs ev w hev (.inr ⟨_,_,he⟩)).mono ?_
  rintro e w' ⟨N,rfl,_,_,hb⟩
  exact ⟨_,rfl,⟨_,rfl,_,_,rfl,rfl,_,_,rfl,⟨_,rfl,trivial⟩,rfl⟩,⟨hb⟩⟩
end Go.Proofs.YtknegckgmklnhaaGreatDoor
namespace Go.Proofs.YtknegckgmklnhaaGreatDoor
open Go Go.CP
set_option maxRecDepth 100000
section
variable {st st':aa} {R:LV→aa→Prop}
theorem kc0 {t:KT}:(kC t)[0]?=some (i64 t.f):=by rw[sG];rfl
theorem kc1 {t:KT}:(kC t)[1]?=some (.isl (kVs t.l) t.l.length none):=by rw[sG];rfl
theorem kc2 {t:KT}:(kC t)[2]?=some (sL t.ns):=by rw[sG];rfl
theorem kc3 {t:KT}:(kC t)[3]?=some (.isl (t.ls.map .bool) t.ls.length none):=by rw[sG];rfl
theorem lW {f:Option Nat} {n sz b:Nat} {acc new:List LV} (h:bD .rw st f sz n acc) (hs:new.length=sz) (h1:new.all LV.one=true) (hl:n<2 ^ 31) (hb:b≤256:=by decide) :
  ∃ st2 f2,ar (st++[.cells .rw new]) sz b .rw (osl f sz n) (.sl st.length 0 1 (.ex 1))=some (osl f2 sz (n+1),st2)∧bD .rw st2 f2 sz (n+1) (acc++new)∧Fr st st2 (fun j=>f=some j)∧(∀ j,f2=some j→f=some j∨st.length≤j):=by
 have k:=h.fr (st':=st++[.cells .rw new]) (S:=fun _=>False) Fr.app (fun _ _ h=>h)
 obtain ⟨st2,f2,q1,q2,q3,q4,_⟩:=k.append (x:=.sl st.length 0 1 (.ex 1)) (k:=1) (new:=new) (bytes:=b) (by simp[dJ,← hs]) (by omega) (by omega) h1 (cL (by omega) hb)
 exact ⟨st2,f2,q1,q2,(Fr.app (S:=fun j=>f=some j)).trans q3 fun _ _ h=>h,fun j hj=>(q4 j hj).imp id fun h=>by simp at h;omega⟩
theorem Ey {t:KT} {es:List (Tx × T)} (hv:(T.map es).ok) (hb:t.ns.length≤big) (hl:t.ls.length=t.ns.length):∀ (d i:Nat) (acc:List Tx) (f:Option Nat) (st:aa),i+d=t.ns.length→acc.length≤i→st[0]?=some (.cells .rw [lvT (.map es)])→bD .rw st f 1 acc.length (acc.map .str)→(∀ j,f=some j→0<j)→
  pk (kV t) (.ptr 0 0) (osl f 1 acc.length) (sL t.ns) (i64 t.ns.length) (i64 i) (fun r s=>dp s (sL (acc++missing (t.ns.drop i) (t.ls.drop i) es)) r) st:=by
 intro d
 induction d with
 | zero=>
  intro i acc f st hi _ _ ho _
  refine GC _ _ _ _ _ _ ?_
  have c1:¬ ((i:Int)<t.ns.length):=by omega
  simp only[AL,ae,aA,ab,c1,decide_false,af]
  rw[List.drop_eq_nil_of_le (by omega)]
  simp only[missing,List.append_nil]
  exact dZ ho rfl (bA _ (bB (f:=LV.str) fun _ _=>rfl))
 | succ d ih=>
  intro i acc f st hi ha h0 ho hf
  refine GC _ _ _ _ _ _ ?_
  have hlt:i<t.ns.length:=by omega
  have c1:((i:Int)<t.ns.length):=by omega
  have e1:aR 1 (sL t.ns) (i64 i)=some (.iptr (t.ns.map .str) (i*1)):=bW hlt
  have hg:(t.ns.map LV.str)[i*1]?=some (.str t.ns[i]):=by simp[hlt]
  have e2:aR 1 (.isl (t.ls.map .bool) t.ls.length none) (i64 i)=some (.iptr (t.ls.map .bool) (i*1)):=bW (by omega)
  have hg2:(t.ls.map LV.bool)[i*1]?=some (.bool (t.ls[i]'(by omega))):=by simp[hl,hlt]
  have hd:t.ns.drop i=t.ns[i]::t.ns.drop (i+1):=List.drop_eq_getElem_cons hlt
  have hd2:t.ls.drop i=t.ls[i]'(by omega)::t.ls.drop (i+1):=List.drop_eq_getElem_cons (by omega)
  have g:ldA st (.ptr 0 0) 1=some (vT (.map es)):=by rw[ck h0 (by simp)];rfl
  rw[hd,hd2,missing]
  generalize t.ns[i]=n at hg hd
  generalize t.ls[i]'(by omega)=l at hg2 hd2
  simp only[AL,ae,aA,ab,c1,decide_true,ah,e1,bF,hg,g]
  refine (nO hv n).call ?_
  have hw:=aI (show i<2 ^ 40 by unfold big at hb;omega)
  have e3:(T.map es).at n=T.find es n:=rfl
  simp only[aw,List.getElem?_cons_zero,List.getElem?_cons_succ,ab,bQ,cI,az,ag,aZ,bE,b6,Nat.zero_add,bF,kc3,e2,hg2,e3]
  generalize hz:(aq.cells Md.rw [lvT ((T.find es n).getD T.null)])=z
  have h0':(st++[z])[0]?=some (.cells .rw [lvT (.map es)]):=by rw[List.getElem?_append_left (bM h0)];exact h0
  have ho':=ho.fr (st':=st++[z]) (S:=fun _=>False) Fr.app (fun _ _ h=>h)
  cases hfn:T.find es n with
  | some w=>
   simp only[Option.isSome_some,Option.isNone_some,Bool.not_true,af,Bool.false_and,Bool.false_eq_true,if_false,aH,ab,hw]
   exact ih (i+1) acc f _ (by omega) (by omega) h0' ho' hf
  | none=>
   simp only[Option.isSome_none,Option.isNone_none,Bool.not_false,ah,Bool.true_and]
   cases l with
   | true=>
    simp only[Bool.not_true,af,Bool.false_eq_true,if_false,aH,ab,hw]
    exact ih (i+1) acc f _ (by omega) (by omega) h0' ho' hf
   | false=>
    have ef:ao (fun i=>some (i*1,1)) (List.replicate 1 [LV.str []]).flatten [(0,.str n)]=some [.str n]:=rfl
    simp only[Bool.not_false,ah,if_true,ef,bw,ag]
    obtain ⟨st2,f2,q1,q2,q3,q4⟩:=lW ho' (new:=[.str n]) rfl rfl (by unfold big at hb;omega) (b:=16)
    rw[q1]
    simp only[ag,aH,ab,hw]
    have hlen:0<(st++[z]).length:=bM h0'
    have k:=ih (i+1) (acc++[n]) f2 st2 (by omega) (by simp;omega) (q3.get h0' fun e=>by have:=hf 0 e;omega) (by simpa using q2) fun j hj=>(q4 j hj).elim (hf j) fun h=>by omega
    simpa using k
theorem Bc {t:KT} {es:List (Tx × T)} (hv:(T.map es).ok) (hb:t.ns.length≤big) (hl:t.ls.length=t.ns.length):Pu Tryz.prog 207 [kV t,vT (.map es)] (sL (missing t.ns t.ls es)):=by
 refine Pu.of (Pf _ _ ?_) jB (by simp only[LV.plain];exact bB (f:=LV.str) fun _ _=>rfl)
 simp only[N2,de,ag,iq,cW,DV,ab,Bool.not_false,ah,bE,b6,Nat.zero_add,bF,kc2,bn]
 exact Ey hv hb hl t.ns.length 0 [] none _ (by omega) (by simp) rfl bD.nil (fun _ h=>by cases h)
theorem qm {es:List (Tx × T)}:∀ {ns:List Tx} {ls:List Bool},(missing ns ls es).length≤ns.length
 | [],_=>by simp[missing]
 | _::_,[]=>by simp[missing]
 | n::ns,l::ls=>by
  have:=qm (es:=es) (ns:=ns) (ls:=ls)
  unfold missing
  split<;>simp<;>omega
def WrQ (d:Nat) (b:Bool) (v:LV):Prop:=∃ x k cs,v=.tup [x,.bool b]∧x=.isl cs k none∧cs.length=k*2∧LV.aB cs=true∧cs.all LV.one=true∧k≤d
theorem Bd {d:Nat} {b:Bool}:Dp (WrQ d b) (.tup [.nils,.bool b]) st:=
 ⟨.tup [.isl [] 0 none,.bool b],⟨_,rfl,_,_,rfl,.inr (.inr ⟨.inr rfl,rfl,rfl⟩),_,_,rfl,rfl,rfl⟩,rfl,_,0,[],rfl,rfl,rfl,rfl,rfl,by omega⟩
end
theorem jC {x y:Tx} (h:x.length+y.length≤4611686018427387904):bG .add (.str x) (.str y)=some (.str (x++y)):=by
 simp only[ca,tp]
 rw[if_neg (by show ¬ ((x.length+y.length:Nat):Int) > 9223372036854775807;omega)]
theorem lu:∀ {l:List Tx},gK l=Lib.join l [44]
 | []=>rfl
 | [a]=>(Lib.join_one a [44]).symm
 | a::b::l=>by
  rw[gK,lu (l:=b::l),Lib.join_cons,Lib.join_cons]
  simp[Lib.joinTail]
theorem jD {B:Nat}:∀ {l:List Tx},(∀ a ∈ l,a.length≤B)→(gK l).length≤l.length*(B+1)
 | [],_=>by simp[gK]
 | [a],h=>by have:=h a (by simp);simp only[gK,List.length_singleton];omega
 | a::b::l,h=>by
  have h1:=h a (by simp)
  have h2:=jD (l:=b::l) fun x hx=>h x (List.mem_cons_of_mem _ hx)
  simp only[gK,List.length_append,List.length_cons] at h2 ⊢
  have:(l.length+1+1)*(B+1)=(l.length+1)*(B+1)+(B+1):=by rw[Nat.add_mul,Nat.one_mul]
  omega
theorem lx:∀ {ns:List Tx} {ls:List Bool} {ts:List Tx},(cu ns ls ts).length=ts.length
 | [],_,_=>by simp[cu]
 | _::_,[],_=>by simp[cu]
 | _::_,_::_,[]=>by simp[cu]
 | _::_,_::_,_::_=>by simp[cu,lx]
theorem na {B L:Nat}:∀ {ns:List Tx} {ls:List Bool} {ts:List Tx},(∀ n ∈ ns,n.length≤L)→(∀ t ∈ ts,t.length≤B)→∀ x ∈ cu ns ls ts,x.length≤L+2+B
 | [],_,ts,_,h,x,hx=>by simp only[cu] at hx;have:=h x hx;omega
 | _::_,[],ts,_,h,x,hx=>by simp only[cu] at hx;have:=h x hx;omega
 | _::_,_::_,[],_,h,x,hx=>by simp[cu] at hx
 | n::ns,l::ls,t::ts,hn,h,x,hx=>by
  simp only[cu,List.mem_cons] at hx
  rcases hx with rfl|hx
  ·have:=hn n (by simp);have:=h t (by simp)
   unfold fM
   split<;>simp<;>omega
  ·exact na (fun a ha=>hn a (List.mem_cons_of_mem _ ha)) (fun a ha=>h a (List.mem_cons_of_mem _ ha)) x hx
theorem KT.sT {d:Nat} {t:KT} (h:t.wf (d+1)):t.f≤8∧(t.f<5→t.l=[])∧(t.f=5∨t.f=6→t.l.length=1)∧(t.f<8→t.ns=[]∧t.ls=[])∧(t.f=8→t.ns.length=t.l.length∧t.ls.length=t.l.length)∧t.l.length≤16∧t.ns.Pairwise ltB∧(∀ n ∈ t.ns,named n=true)∧∀ x ∈ t.l,x.wf d:=by
 cases t
 simp only[KT.wf] at h
 obtain ⟨a,b,c,e,f,g,i,j,k⟩:=h
 exact ⟨a,b,c,e,f,g,i,j,KT.nJ.1 k⟩
theorem lY {s:Tx} (h:named s=true):s.length≤20:=by
 simp only[named,Bool.and_eq_true,decide_eq_true_eq] at h;exact h.2
theorem Hl {t:KT}:kpr t=sq t.f (t.l.map kpr) t.ns t.ls:=by cases t;simp only[kpr,qL];rfl
theorem wF:∀ {d:Nat} {t:KT},t.wf d→(kpr t).length≤100*32 ^ d:=by
 intro d
 induction d with
 | zero=>intro t h;cases t;simp only[KT.wf] at h
 | succ d ih=>
  intro t h
  obtain ⟨a,b,c,e,f,g,_,j,k⟩:=KT.sT h
  rw[Hl]
  have hb:∀ x ∈ t.l.map kpr,x.length≤100*32 ^ d:=fun x hx=>by
   obtain ⟨y,hy,rfl⟩:=List.mem_map.1 hx
   exact ih (k y hy)
  have hp:1≤32 ^ d:=Nat.one_le_pow _ _ (by omega)
  have hpp:32 ^ (d+1)=32*32 ^ d:=by rw[Nat.pow_succ,Nat.mul_comm]
  rw[hpp]
  generalize 32 ^ d=P at hb hp
  have j1:=jD hb
  have j2:=jD (na (ls:=t.ls) (fun n hn=>lY (j n hn)) hb)
  have m1:t.l.length*(100*P+1)≤16*(100*P+1):=Nat.mul_le_mul_right _ g
  have m2:t.l.length*(20+2+100*P+1)≤16*(20+2+100*P+1):=Nat.mul_le_mul_right _ g
  rw[List.length_map] at j1
  rw[lx,List.length_map] at j2
  have h0:((t.l.map kpr).getD 0 []).length≤100*P:=by
   cases ht:t.l.map kpr with
   | nil=>simp
   | cons x l=>simp only[List.getD_cons_zero];exact hb x (by rw[ht];simp)
  have hw:(bu.getD t.f []).length≤5:=by
   have:t.f=0∨t.f=1∨t.f=2∨t.f=3∨t.f=4∨t.f=5∨t.f=6∨t.f=7∨t.f=8:=by omega
   rcases this with h|h|h|h|h|h|h|h|h<;>rw[h]<;>decide
  unfold sq
  split
  ·simp only[List.length_append,List.length_cons,List.length_nil];omega
  split
  ·simp only[List.length_append,List.length_cons,List.length_nil];omega
  split
  ·simp only[List.length_append,List.length_cons,List.length_nil];omega
  split
  ·simp only[List.length_append,List.length_cons,List.length_nil];omega
  ·omega
theorem qn:∀ {ns:List Tx} {ls:List Bool} {ts:List Tx} {i:Nat},ns.length=ts.length→ls.length=ts.length→(cu ns ls ts)[i]?=(match ns[i]?,ls[i]?,ts[i]? with
  | some n,some l,some x=>some (fM n l x)
  | _,_,_=>none)
 | [],[],[],i,_,_=>by simp[cu]
 | [],_::_,[],_,_,k=>by simp at k
 | [],_,_::_,_,h,_=>by simp at h
 | _::_,_,[],_,h,_=>by simp at h
 | _::_,[],_::_,_,_,k=>by simp at k
 | n::ns,l::ls,t::ts,i,h,k=>by
  cases i with
  | zero=>rfl
  | succ i=>
   simp only[cu,List.getElem?_cons_succ]
   exact qn (by simpa using h) (by simpa using k)
section
variable {st st':aa} {R:LV→aa→Prop}
theorem Hm {ts:List KT} (hb:ts.length≤big) (hp:∀ t ∈ ts,Pu Tryz.prog 38 [kV t] (.str (kpr t))) (hR:∀ f s,bD .rw s f 1 ts.length ((ts.map kpr).map .str)→R (osl f 1 ts.length) s) :
  ∀ (d i:Nat) (f:Option Nat) (st:aa),i+d=ts.length→bD .rw st f 1 i (((ts.map kpr).take i).map .str)→vX (osl f 1 i) (.isl (kVs ts) ts.length none) (i64 ts.length) (i64 i) R st:=by
 intro d
 induction d with
 | zero=>
  intro i f st hi ho
  refine Gn _ _ _ _ ?_
  have c1:¬ ((i:Int)<ts.length):=by omega
  simp only[AE,ae,aA,ab,c1,decide_false,af]
  have hi:i=ts.length:=by omega
  subst hi
  rw[List.take_of_length_le (by simp)] at ho
  exact hR _ _ ho
 | succ d ih=>
  intro i f st hi ho
  refine Gn _ _ _ _ ?_
  have hlt:i<ts.length:=by omega
  have c1:((i:Int)<ts.length):=by omega
  have e1:aR 1 (.isl (kVs ts) ts.length none) (i64 i)=some (.iptr (kVs ts) (i*1)):=bW hlt
  have hx:ts[i]?=some ts[i]:=List.getElem?_eq_getElem hlt
  have hk:(kVs ts)[i*1]?=some (kV ts[i]):=by rw[Nat.mul_one,wE,hx];rfl
  simp only[AE,ae,aA,ab,c1,decide_true,ah,e1,bF,hk]
  refine (hp _ (List.getElem_mem hlt)).call ?_
  have ef:ao (fun i=>some (i*1,1)) (List.replicate 1 [LV.str []]).flatten [(0,.str (kpr ts[i]))]=some [.str (kpr ts[i])]:=rfl
  rw[ef]
  simp only[bw,ag]
  obtain ⟨st2,f2,q1,q2,-,-⟩:=lW ho (new:=[.str (kpr ts[i])]) rfl rfl (by unfold big at hb;omega) (b:=16)
  rw[q1]
  simp only[ag,aH,ab,aI (show i<2 ^ 40 by unfold big at hb;omega)]
  refine ih (i+1) f2 st2 (by omega) ?_
  rw[List.take_add_one,List.getElem?_map,hx]
  simpa using q2
theorem Hn {ts:List KT} (hb:ts.length≤big) (hp:∀ t ∈ ts,Pu Tryz.prog 38 [kV t] (.str (kpr t))) (hR:∀ f s,bD .rw s f 1 ts.length ((ts.map kpr).map .str)→R (osl f 1 ts.length) s) :
  ax Tryz.prog 107 [.isl (kVs ts) ts.length none] st R:=by
 refine c107 _ ?_
 simp only[NW,bn,ab]
 exact Hm hb hp hR ts.length 0 none st (by omega) bD.nil
theorem bD.G5 {f:Option Nat} {n i:Nat} {cs:List LV} {x:LV} (h:bD .rw st f 1 n cs) (hi:i<n) (hx:x.one=true):∃ o st2,f=some o∧stV st 1 (.ptr o i) x=some st2∧bD .rw st2 f 1 n (cs.set i x):=by
 cases f with
 | none=>have:=h.2;simp only at this;omega
 | some o=>
  obtain ⟨rest,ho⟩:=h.2
  have hl:=h.1
  refine ⟨o,_,rfl,dz ho (by simp;omega) hx,by simpa using hl,rest,?_⟩
  rw[bx ho,List.set_append_left _ _ (by omega)]
theorem yQ {t:KT} {d:Nat} (hw:t.wf (d+1)) (h8:t.f=8) (hd:d≤7) (hR:∀ s,R (.str (123::(gK (cu t.ns t.ls (t.l.map kpr))++[125]))) s) :
  ∀ (k i:Nat) (f:Option Nat) (st:aa),i+k=t.l.length→bD .rw st f 1 t.l.length (((cu t.ns t.ls (t.l.map kpr)).take i++(t.l.map kpr).drop i).map .str)→
   sh (kV t) (osl f 1 t.l.length) (sL t.ns) (i64 t.ns.length) (i64 i) R st:=by
 obtain ⟨_,_,_,_,hq,g,_,hj,hk⟩:=KT.sT hw
 obtain ⟨l1,l2⟩:=hq h8
 have hG:∀ x ∈ t.l.map kpr,x.length≤100*32 ^ d:=fun x hx=>by
  obtain ⟨y,hy,rfl⟩:=List.mem_map.1 hx
  exact wF (hk y hy)
 have hjl:=jD (na (ls:=t.ls) (fun n hn=>lY (hj n hn)) hG)
 have hFl:(cu t.ns t.ls (t.l.map kpr)).length=t.l.length:=by rw[lx,List.length_map]
 have hget:∀ i:Nat,(cu t.ns t.ls (t.l.map kpr))[i]?=(match t.ns[i]?,t.ls[i]?,(t.l.map kpr)[i]? with
  | some n,some l,some x=>some (fM n l x)
  | _,_,_=>none):=fun i=>qn (by rw[List.length_map];omega) (by rw[List.length_map];omega)
 have hGl:(t.l.map kpr).length=t.l.length:=List.length_map ..
 generalize cu t.ns t.ls (t.l.map kpr)=F at hFl hget hR hjl
 generalize t.l.map kpr=G at hGl hget hG
 have hpow:32 ^ d≤32 ^ 7:=Nat.pow_le_pow_right (by omega) hd
 have hp7:32 ^ 7≤34359738368:=by decide
 have hjl':(Lib.join F [44]).length≤140737488355328:=by
  rw[← lu]
  have:F.length*(20+2+100*32 ^ d+1)≤16*(20+2+100*32 ^ 7+1):=Nat.mul_le_mul (by omega) (by omega)
  have h7:16*(20+2+100*32 ^ 7+1)≤140737488355328:=by decide
  omega
 intro k
 induction k with
 | zero=>
  intro i f st hi ho
  refine Gm _ _ _ _ _ ?_
  have c1:¬ ((i:Int)<t.ns.length):=by omega
  simp only[vW,ae,aA,ab,c1,decide_false,af]
  rw[List.take_of_length_le (by omega),List.drop_eq_nil_of_le (by omega),List.append_nil] at ho
  refine yP ho (by omega) hjl' ?_
  rw[← lu] at hjl' ⊢
  rw[jC (by simp only[List.length_cons,List.length_nil];omega),ab,jC (by simp only[List.length_append,List.length_cons,List.length_nil];omega),ab]
  exact hR st
 | succ k ih=>
  intro i f st hi ho
  refine Gm _ _ _ _ _ ?_
  have hlt:i<t.l.length:=by omega
  have c1:((i:Int)<t.ns.length):=by omega
  have e1:aR 1 (sL t.ns) (i64 i)=some (.iptr (t.ns.map .str) (i*1)):=bW (by omega)
  have hn:t.ns[i]?=some (t.ns[i]'(by omega)):=List.getElem?_eq_getElem (by omega)
  have hl:t.ls[i]?=some (t.ls[i]'(by omega)):=List.getElem?_eq_getElem (by omega)
  have hx:G[i]?=some (G[i]'(by omega)):=List.getElem?_eq_getElem (by omega)
  have hF:=hget i
  have hdr:G.drop i=G[i]'(by omega)::G.drop (i+1):=List.drop_eq_getElem_cons (by omega)
  generalize t.ns[i]'(by omega)=n at hn
  generalize t.ls[i]'(by omega)=l at hl
  generalize G[i]'(by omega)=x at hx hdr
  rw[hn,hl,hx] at hF
  simp only at hF
  have hg:(t.ns.map LV.str)[i*1]?=some (.str n):=by rw[Nat.mul_one,List.getElem?_map,hn];rfl
  have e2:aR 1 (.isl (t.ls.map .bool) t.ls.length none) (i64 i)=some (.iptr (t.ls.map .bool) (i*1)):=bW (by omega)
  have hg2:(t.ls.map LV.bool)[i*1]?=some (.bool l):=by rw[Nat.mul_one,List.getElem?_map,hl];rfl
  obtain ⟨o,hfo,e3⟩:=ho.ix (i:=(i:Int)) (kk:=.i64) (by omega) (by omega)
  subst hfo
  rw[hdr] at ho
  have hti:(F.take i).length=i:=by rw[List.length_take];omega
  have hld:((F.take i++x::G.drop (i+1)).map LV.str)[(i:Int).toNat*1]?=some (.str x):=by
   rw[Int.toNat_natCast,Nat.mul_one,List.getElem?_map,List.getElem?_append_right (by omega),hti,Nat.sub_self];rfl
  have h3:=ho.ld hld
  obtain ⟨o',st2,e,q1,q2⟩:=bD.G5 ho (i:=i) (x:=.str (fM n l x)) hlt rfl
  cases e
  have e4:((F.take i++x::G.drop (i+1)).map LV.str).set i (.str (fM n l x))=(F.take (i+1)++G.drop (i+1)).map LV.str:=by
   rw[← List.map_set,List.set_append_right _ _ (by omega),hti,Nat.sub_self,List.take_add_one,hF]
   simp
  rw[e4] at q2
  have hw1:=aI (show i<2 ^ 40 by omega)
  have hnl:=lY (hj n (List.mem_of_getElem? hn))
  have hxl:=hG x (List.mem_of_getElem? hx)
  have a1:∀ m:Tx,m.length≤2→bG .add (.str n) (.str m)=some (.str (n++m)):=fun m hm=>jC (by omega)
  have a2:∀ m:Tx,m.length≤2→bG .add (.str (n++m)) (.str x)=some (.str (n++m++x)):=fun m hm=>jC (by rw[List.length_append];omega)
  have a3:=a1 [63,58] (by decide)
  have a4:=a2 [63,58] (by decide)
  have a5:=a1 [58] (by decide)
  have a6:=a2 [58] (by decide)
  have hpt:(i:Int).toNat*1=i:=by simp
  rw[hpt] at e3 h3
  cases l with
  | true=>
   have ex:n++[63,58]++x=fM n true x:=by simp[fM]
   simp only[vW,ae,aA,ab,c1,decide_true,ah,e1,bF,hg,bE,b6,Nat.zero_add,kc3,e2,hg2,a3,a4,e3,h3,ex,q1,az,ag,aH,hw1]
   exact ih (i+1) (some o) st2 (by omega) q2
  | false=>
   have ex:n++[58]++x=fM n false x:=by simp[fM]
   simp only[vW,ae,aA,ab,c1,decide_true,ah,af,e1,bF,hg,bE,b6,Nat.zero_add,kc3,e2,hg2,a5,a6,e3,h3,ex,q1,az,ag,aH,hw1]
   exact ih (i+1) (some o) st2 (by omega) q2
theorem Ho:∀ {d:Nat} {t:KT},d≤8→t.wf d→Pu Tryz.prog 38 [kV t] (.str (kpr t)):=by
 intro d
 induction d with
 | zero=>intro t _ h;cases t;simp only[KT.wf] at h
 | succ d ih=>
  intro t hd h
  obtain ⟨a,b,c,e,f,g,_,j,k⟩:=KT.sT h
  refine Pu.of (c38 _ ?_) (by simp[LV.aB,LV.plain,eI]) rfl
  simp only[w38,iq,cW,cH,ab,af,bE,b6,Nat.zero_add,bF,kc1]
  refine Hn (by unfold big;omega) (fun x hx=>ih (by omega) (k x hx)) fun fo s ho=>?_
  rw[Hl]
  have e5:((t.f:Int)==5)=decide (t.f=5):=by by_cases h:t.f=5<;>simp[h];omega
  have e6:((t.f:Int)==6)=decide (t.f=6):=by by_cases h:t.f=6<;>simp[h];omega
  have e7:((t.f:Int)==7)=decide (t.f=7):=by by_cases h:t.f=7<;>simp[h];omega
  have e8:((t.f:Int)==8)=decide (t.f=8):=by by_cases h:t.f=8<;>simp[h];omega
  have hG:∀ x ∈ t.l.map kpr,x.length≤100*32 ^ d:=fun x hx=>by
   obtain ⟨y,hy,rfl⟩:=List.mem_map.1 hx
   exact wF (k y hy)
  have hjl:=jD hG
  have hpow:32 ^ d≤32 ^ 7:=Nat.pow_le_pow_right (by omega) (by omega)
  have hp7:32 ^ 7≤34359738368:=by decide
  have hx1:∀ {x:Tx} {a b:Tx},t.l.map kpr=[x]→a.length≤10→b.length≤10→(bd (bG .add (.str a) (.str x)) fun v=>bd (bG .add v (.str b)) fun w=>dp s (.str (a++(x++b))) w):=by
   intro x a b hx ha hb
   have:=hG x (by rw[hx];simp)
   rw[jC (by omega),ab,jC (by rw[List.length_append];omega),ab,List.append_assoc]
   exact rfl
  have first:t.f=5∨t.f=6→∃ x o,t.l.map kpr=[x]∧aR 1 (osl fo 1 t.l.length) (.int .i64 0)=some (.ptr o 0)∧ld1 s (.ptr o 0)=some (.str x):=by
   intro h
   have hl:=c h
   match hl1:t.l,hl with
   | [y],_=>
    rw[hl1] at ho
    obtain ⟨o,hfo,e3⟩:=ho.ix (i:=0) (kk:=.i64) (by omega) (by simp)
    subst hfo
    exact ⟨kpr y,o,rfl,e3,ho.ld (k:=0) rfl⟩
  simp only[ab,kc0,ae,aW,e5,e6,e7,e8,aM]
  refine ⟨fun h5=>?_,fun h5=>⟨fun h6=>?_,fun h6=>⟨fun h7=>?_,fun h7=>⟨fun h8=>?_,fun h8=>?_⟩⟩⟩⟩
  ·obtain ⟨x,o,q1,q2,q3⟩:=first (.inl (by omega))
   have:t.f=5:=by omega
   rw[q2,ab,q3,ab,q1,this]
   exact hx1 q1 (by decide) (by decide)
  ·obtain ⟨x,o,q1,q2,q3⟩:=first (.inr (by omega))
   have:t.f=6:=by omega
   rw[q2,ab,q3,ab,q1,this]
   exact hx1 q1 (by decide) (by decide)
  ·have:t.f=7:=by omega
   have hjl':(Lib.join (t.l.map kpr) [44]).length≤140737488355328:=by
    rw[← lu]
    rw[List.length_map] at hjl
    have:t.l.length*(100*32 ^ d+1)≤16*(100*32 ^ 7+1):=Nat.mul_le_mul (by omega) (by omega)
    have h7:16*(100*32 ^ 7+1)≤140737488355328:=by decide
    omega
   refine yP ho (by rw[List.length_map];omega) hjl' ?_
   rw[← lu] at hjl' ⊢
   rw[jC (by simp only[List.length_cons,List.length_nil];omega),ab,jC (by simp only[List.length_append,List.length_cons,List.length_nil];omega),ab,this]
   exact rfl
  ·simp only[kc2,bn,ab]
   refine yQ h (by omega) (by omega) (fun s=>?_) t.l.length 0 fo s (by omega) (by simpa using ho)
   have:t.f=8:=by omega
   rw[this]
   exact rfl
  ·have h5':t.f<5:=by omega
   refine yB.call ⟨by trivial,?_⟩
   have:t.f=0∨t.f=1∨t.f=2∨t.f=3∨t.f=4:=by omega
   rcases this with h|h|h|h|h<;>rw[h]<;>exact rfl
end
end Go.Proofs.YtknegckgmklnhaaGreatDoor
