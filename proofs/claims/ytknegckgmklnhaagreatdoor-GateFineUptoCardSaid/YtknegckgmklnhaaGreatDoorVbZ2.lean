/- Parts of the proof. -/
import Derived.Test.YtknegckgmklnhaaGreatDoorVbZ
import Derived.Test.YtknegckgmklnhaaGreatDoorVbW3
namespace Go.Proofs.YtknegckgmklnhaaGreatDoor
open Go Go.CP
set_option maxRecDepth 100000
section plain
theorem cR {c b:UInt8} {l:Tx}:splitB c (b::l)=if b=c then []::splitB c l else match splitB c l with
  | []=>[[b]]
  | p::ps=>(b::p)::ps:=rfl
theorem eo {c:UInt8}:∀ {s:Tx},(splitB c s).length=s.count c+1
 | []=>by simp[splitB]
 | b::l=>by
  have ih:=eo (c:=c) (s:=l)
  rw[cR]
  by_cases e:b=c
  ·simp[e,ih]
  ·have e':(b==c)=false:=by simpa using e
   simp only[e,if_false,List.count_cons,e',Bool.false_eq_true]
   split
   ·rename_i h;exact absurd h cA
   ·rename_i p ps h;rw[h] at ih;simpa using ih
theorem jX {c:UInt8}:∀ {s:Tx},Lib.indexByte s c = -1→splitB c s=[s]
 | [],_=>rfl
 | b::l,h=>by
  unfold Lib.indexByte at h
  rw[cR]
  split at h
  ·omega
  ·rename_i e
   rw[if_neg (by simpa using e)]
   have hg:=Lib.indexByte_ge l c
   split at h
   ·rename_i e2
    rw[jX (by simpa using e2)]
   ·rename_i e2
    have:Lib.indexByte l c≠-1:=by simpa using e2
    omega
theorem jY {c:UInt8}:∀ {s:Tx} {m:Nat},Lib.indexByte s c=m→splitB c s=s.take m::splitB c (s.drop (m+1))∧m<s.length
 | [],m,h=>by simp[Lib.indexByte] at h
 | b::l,m,h=>by
  unfold Lib.indexByte at h
  rw[cR]
  split at h
  ·rename_i e
   have:m=0:=by omega
   subst this
   rw[if_pos (by simpa using e)]
   exact ⟨rfl,by simp⟩
  ·rename_i e
   rw[if_neg (by simpa using e)]
   split at h
   ·omega
   ·rename_i e2
    cases m with
    | zero=>
     have hg:=Lib.indexByte_ge l c
     have:Lib.indexByte l c≠-1:=by simpa using e2
     omega
    | succ m=>
     obtain ⟨h1,h2⟩:=jY (c:=c) (s:=l) (m:=m) (by omega)
     rw[h1]
     exact ⟨rfl,by simpa using h2⟩
def og (c:UInt8) (s:Tx):LV:=match splitB c s with
 | a::b::_=>.tup [.str a,.str (s.drop (a.length+1)),.bool true]
 | _=>.tup [.str s,.str [],.bool false]
theorem sU {c:UInt8}:∀ {s:Tx},s.count c=0→splitB c s=[s]
 | [],_=>rfl
 | b::l,h=>by
  rw[List.count_cons] at h
  rw[cR]
  split at h
  ·omega
  ·rename_i e
   rw[if_neg (by simpa using e),sU (s:=l) (by omega)]
theorem Hp {A B:List LV} {x y:LV} {i:Nat} (h:A.length=i):(A++x::B).set i y=A++y::B:=by
 subst h
 induction A with
 | nil=>rfl
 | cons a A ih=>simp[ih]
def strs (l:List Tx):List LV:=l.map LV.str
end plain
section
variable {st st':aa} {R:LV→aa→Prop} {c:UInt8}
theorem Ez {k:IntKind} {a b:Int}:ke [.int k a,.int k b]=some (.int k (if b<a then b else a)):=rfl
theorem nd {s:Tx} {m:Nat} (h:m≤s.length):(ob3 none (some (i64 m)) none fun l h m=>cF (.str s) l h m)=some (.str (s.take m)):=by
 simp only[ob3,fg,Int.natCast_nonneg,if_true,Int.toNat_natCast,cF,Option.getD_none,Option.getD_some]
 rw[if_pos ⟨by omega,h⟩];simp
theorem Mq (s:Tx) (hs:s.length≤2 ^ 32):Pu Tryz.prog 143 [.str s,.str [c]] (og c s):=by
 refine Pu.of (c143 _ _ ?_) rfl (by unfold og;split<;>rfl)
 refine (Hi s c).call ?_
 have hg:=Lib.indexByte_ge s c
 by_cases hn:Lib.indexByte s c = -1
 ·have e:og c s=.tup [.str s,.str [],.bool false]:=by unfold og;rw[jX hn]
  rw[e,hn]
  exact bj (v:=.tup [.str s,.str [],.bool false]) _ rfl
 ·obtain ⟨m,hm⟩:∃ m:Nat,Lib.indexByte s c=m:=⟨(Lib.indexByte s c).toNat,by omega⟩
  obtain ⟨h1,h2⟩:=jY hm
  have e:og c s=.tup [.str (s.take m),.str (s.drop (m+1)),.bool true]:=by
   unfold og
   rw[h1]
   cases h:splitB c (s.drop (m+1)) with
   | nil=>exact absurd h cA
   | cons a l=>simp only[List.length_take];rw[Nat.min_eq_left (by omega)]
  rw[e,hm]
  have c1:((m:Int)≥0):=by omega
  have hw:IntKind.i64.wrap ((m:Int)+(([c]:Tx).length:Nat))=((m+1:Nat):Int):=by rw[wrap_i64 (by simp;omega) (by simp;omega)];simp
  simp only[ae,cY,ab,c1,decide_true,ah,nd (show m≤s.length by omega),a7,aH,hw,fO (show m+1≤s.length by omega)]
  exact bj (v:=.tup [.str _,.str _,.bool true]) _ rfl
theorem Hq {s:Tx}:∃ a b d,og c s=.tup [.str a,.str b,.bool d]:=by unfold og;split<;>exact ⟨_,_,_,rfl⟩
theorem KP (s:Tx) (hs:s.length≤2 ^ 32):Pu Tryz.prog 80 [.str s,.str [c]] (og c s):=by
 refine Pu.of (c80 _ _ ?_) rfl (by unfold og;split<;>rfl)
 refine (Mq s hs).call ?_
 obtain ⟨a,b,d,e⟩:=Hq (c:=c) (s:=s)
 rw[e]
 simp only[aw,List.getElem?_cons_zero,List.getElem?_cons_succ,ab]
 exact bj (v:=.tup [.str _,.str _,.bool _]) _ rfl
theorem Mr (s p:Tx):Pu Tryz.prog 144 [.str s,.str p] (.tup [.str (if p.isPrefixOf s then s.drop p.length else s),.bool (p.isPrefixOf s)]):=by
 have k:Pu Tryz.prog 188 [.str s,.str p] (.tup [.str (if p.isPrefixOf s then s.drop p.length else s),.bool (p.isPrefixOf s)]):=by
  refine Pu.of (O3 _ _ ?_) rfl rfl
  refine (ua s p).call ?_
  cases h:p.isPrefixOf s with
  | false=>exact bj (v:=.tup [.str _,.bool false]) _ rfl
  | true=>
   have hl:=(List.isPrefixOf_iff_prefix.1 h).length_le
   simp only[aZ,ab,Bool.not_true,af,a7,fO hl,if_true]
   exact bj (v:=.tup [.str _,.bool true]) _ rfl
 refine Pu.of (O1 _ _ ?_) rfl rfl
 refine k.call ?_
 simp only[aw,List.getElem?_cons_zero,List.getElem?_cons_succ,ab]
 exact bj (v:=.tup [.str _,.bool _]) _ rfl
theorem Be {s:Tx} {N o:Nat} (hN:N≤2 ^ 32) (hs:s.length≤2 ^ 32) (hR:∀ st',st'[o]?=some (.cells .rw (strs (splitB c s)))→R (.sl o 0 (N+1) (.ex (N+1))) st') :
  ∀ (n i:Nat) (pre:List Tx) (rest:Tx) (s1:aa),n=N-i→i≤N→pre.length=i→splitB c s=pre++splitB c rest→rest.count c=N-i→rest.length≤s.length→
   s1[o]?=some (.cells .rw (strs pre++List.replicate (N+1-i) (.str [])))→nI (.str rest) (.str [c]) (i64 0) (i64 (N:Nat)) (.sl o 0 (N+1) (.ex (N+1))) (i64 (i:Nat)) R s1:=by
 intro n
 induction n with
 | zero=>
  intro i pre rest s1 hn hi hp hsp hc hrl ho
  apply CI
  have hiN:i=N:=by omega
  subst hiN
  have hw:=aI (show i<2 ^ 40 by omega)
  have hix:aR 1 (.sl o 0 (i+1) (.ex (i+1))) (i64 i)=some (.ptr o i):=by rw[jR (by omega) (by omega)];simp
  have hset:(strs pre++List.replicate (i+1-i) (LV.str [])).set i (.str rest)=strs (splitB c s):=by
   rw[hsp,sU (by omega),show i+1-i=1 by omega]
   simp only[strs,List.map_append,List.replicate_one,List.map_cons,List.map_nil]
   exact Hp (by simp[hp])
  simp only[vS,ae,aA,ab,aM]
  refine ⟨fun h=>by omega,fun _=>?_⟩
  rw[hix,ab,dz ho (by simp[strs,hp]) rfl,hset]
  simp only[az,ag,aH,hw,ab]
  rw[show (ob3 none (some (i64 ((i+1:Nat):Int))) none fun l h m=>aO (s1.set o (.cells .rw (strs (splitB c s)))) 1 (.sl o 0 (i+1) (.ex (i+1))) l h m)=some (.sl o 0 (i+1) (.ex (i+1))) by
   simp only[ob3,fg,Int.natCast_nonneg,if_true,Int.toNat_natCast,aO,qu,mB,Option.getD_none,Option.getD_some]
   rw[if_pos ⟨by omega,by omega⟩]
   simp]
  rw[ab]
  exact hR _ (bx ho)
 | succ n ih=>
  intro i pre rest s1 hn hi hp hsp hc hrl ho
  apply CI
  have hw:=aI (show i<2 ^ 40 by omega)
  have hix:aR 1 (.sl o 0 (N+1) (.ex (N+1))) (i64 i)=some (.ptr o i):=by rw[jR (by omega) (by omega)];simp
  simp only[vS,ae,aA,ab,aM]
  refine ⟨fun _=>?_,fun h=>by omega⟩
  refine (Hj rest c).call ?_
  have hne:Lib.indexByte rest c≠-1:=by
   intro e
   have h1:=jX e
   have h2:=eo (c:=c) (s:=rest)
   rw[h1,hc] at h2
   simp at h2;omega
  have hge:=Lib.indexByte_ge rest c
  obtain ⟨m,hm⟩:∃ m:Nat,Lib.indexByte rest c=m:=⟨(Lib.indexByte rest c).toNat,by omega⟩
  obtain ⟨h1,h2⟩:=jY hm
  rw[hm]
  have hw0:IntKind.i64.wrap ((m:Int)+0)=(m:Nat):=by rw[wrap_i64 (by omega) (by omega)];simp
  have hw1:=aI (show m<2 ^ 40 by omega)
  simp only[ae,aA,ab,aM,aH,hw0]
  refine ⟨fun h=>by omega,fun _=>?_⟩
  rw[nd (by omega),ab,hix,ab,dz ho (by simp[strs,hp];omega) rfl]
  simp only[az,ag,a7,List.length_cons,List.length_nil,Nat.zero_add,ab,ae,aH]
  rw[show ((1:Nat):Int)=1 from rfl,hw1,fO (by omega),ab,hw]
  have hset:(strs pre++List.replicate (N+1-i) (LV.str [])).set i (.str (rest.take m))=strs (pre++[rest.take m])++List.replicate (N+1-(i+1)) (.str []):=by
   rw[show N+1-i=(N+1-(i+1))+1 by omega,List.replicate_succ]
   simp only[strs,List.map_append,List.map_cons,List.map_nil]
   rw[Hp (by simp[hp])]
   simp
  rw[hset]
  refine ih (i+1) (pre++[rest.take m]) (rest.drop (m+1)) _ (by omega) (by omega) (by simp[hp]) (by rw[hsp,h1];simp) ?_ (by simp;omega) (bx ho)
  have h3:=eo (c:=c) (s:=rest)
  have h4:=eo (c:=c) (s:=rest.drop (m+1))
  rw[h1] at h3
  simp at h3
  omega
theorem Hr (s:Tx) (hs:s.length≤2 ^ 32):Pu Tryz.prog 146 [.str s,.str [c]] (sL (splitB c s)):=by
 refine Pu.of (c146 _ _ (O5 _ _ _ _ ?_)) rfl (by simp only[LV.plain];exact bB (f:=LV.str) fun _ _=>rfl)
 have hc:s.count c≤s.length:=List.count_le_length
 simp only[NU,ae,aW,ab,ca,du,aA]
 rw[show ((-1:Int)==0)=false from rfl,show (([c]:Tx)==[])=false from rfl,show decide ((-1:Int)<0)=true from rfl]
 simp only[af,ah]
 refine (Hk s c).call ?_
 have hl:=eo (c:=c) (s:=s)
 generalize hN:s.count c=N at hc hl
 simp only[ae,aH,ab,a7,aI (show N<2 ^ 40 by omega),aI (show s.length<2 ^ 40 by omega),Ez]
 rw[if_neg (by omega)]
 have hmk:jG 16 [LV.str []] [] (i64 ((N+1:Nat):Int)) (i64 ((N+1:Nat):Int))=some (.sl 0 0 (N+1) (.ex (N+1)),[]++[.cells .rw (List.replicate (N+1) (.str []))]):=by
  simp only[jG]
  rw[if_pos ⟨by omega,by omega,by omega,by omega⟩]
  have hfl:∀ n:Nat,(List.replicate n [LV.str []]).flatten=List.replicate n (LV.str []):=by
   intro n
   induction n with
   | zero=>rfl
   | succ n ih=>rw[List.replicate_succ,List.flatten_cons,ih,List.replicate_succ];rfl
  rw[Int.toNat_natCast,hfl];rfl
 have hws:IntKind.i64.wrap (((N+1:Nat):Int)-1)=(N:Nat):=by rw[wrap_i64 (by omega) (by omega)];omega
 rw[hmk,ag,cX,hws,ab]
 refine Be (s:=s) (o:=0) (by omega) hs (fun st' h1=>?_) _ 0 [] s _ rfl (by omega) rfl rfl (by omega) (Nat.le_refl _) (by simp[strs])
 refine .inl ⟨0,0,.ex (N+1),.rw,_,by rw[hl],h1,rfl,by simp[strs],?_⟩
 rw[List.drop_zero,List.take_of_length_le (by simp[strs])]
 exact bA _ (bB (f:=LV.str) fun _ _=>rfl)
end
abbrev aX (nm:Tx) (tv:LV) (m o h n:Bool):List LV:=[.str nm,tv,.bool m,.bool o,.bool h,.bool n]
def aC (a:AT):List LV:=aX a.nm (kV a.ty) a.must a.own a.hide a.new
abbrev aV (a:AT):LV:=.agg (aC a)
section
variable {st st':aa} {R:LV→aa→Prop}
theorem ly {a:AT}:LV.aB (aC a)=true:=by simp[aC,LV.aB,LV.plain,eI]
theorem sW {a:AT}:(aC a).all LV.one=true:=rfl
theorem wG {a:AT}:(aC a).length=6:=rfl
theorem sX {a:AT}:(aV a).plain=true:=by simp only[LV.plain];exact ly
theorem Hs (nm:Tx) (tv:LV) (ht:tv.plain=true) (m o h n:Bool):Pu Tryz.prog 148 [.agg (aX nm tv m o h n)] (.str ((if m then 32::cB else [])++((if o then 32::dU else [])++((if h then 32::cC else [])++(if n then 32::dV else []))))):=by
 refine Pu.of (c148 _ ?_) (by simp[LV.aB,LV.plain,ht]) rfl
 cases m<;>cases o<;>cases h<;>cases n <;>
  exact sf _ _ _ (sf _ _ _ (sf _ _ _ (sf _ _ _ (sf _ _ _ rfl))))
def pC (tv:LV) (tnil:Bool):Prop:=tv=.nilp∧tnil=true∨∃ t,tv=kV t∧tnil=false
theorem pC.plain {tv:LV} {b:Bool} (h:pC tv b):tv.plain=true:=by
 rcases h with ⟨rfl,_⟩ | ⟨t,rfl,_⟩
 ·rfl
 ·exact dH
theorem pC.one {tv:LV} {b:Bool} (h:pC tv b):tv.one=true:=by
 rcases h with ⟨rfl,_⟩ | ⟨t,rfl,_⟩<;>rfl
theorem wH {nm:Tx} {tv:LV} {b m o h n:Bool} (ht:pC tv b):(aX nm tv m o h n).all LV.one=true:=by simp only[List.all_cons,ht.one,List.all_nil];rfl
def aWr (last nm:Tx) (tnil m o:Bool):Int:=
 if named nm=false then 7 else if nm=last then 9 else if Op.bytesLess nm last=true then 4 else if tnil then 6 else if m&&o then 1 else 0
theorem Ms {last:Tx} {a:AT}:aWr last a.nm false a.must a.own=iw last a:=rfl
theorem jE {cs:List LV}:b8 st (.agg cs)=some (.ptr st.length 0,st++[.cells .rw cs]):=rfl
theorem Ju {last nm:Tx} {tv:LV} {tnil m o h n:Bool} (ht:pC tv tnil) (hn:nm.length<2 ^ 40):Pu Tryz.prog 79 [.agg (aX nm tv m o h n),.str last] (i64 (aWr last nm tnil m o)):=by
 refine Pu.of (c79 _ _ ?_) (by simp[LV.aB,LV.plain,ht.plain]) rfl
 have g:∀ k:Nat,ld1 ([]++[aq.cells .rw (aX nm tv m o h n)]) (.ptr 0 k)=(aX nm tv m o h n)[k]?:=fun k=>aU rfl
 simp only[w79,jE,ag,List.length_nil,av,Nat.zero_add,ab,g,List.getElem?_cons_zero]
 refine (sF hn).call ?_
 simp only[aZ,ab,g,List.getElem?_cons_zero,List.getElem?_cons_succ,ca,du,oa]
 unfold aWr
 cases named nm with
 | false=>exact rfl
 | true=>
  simp only[Bool.not_true,af,Bool.true_eq_false,if_false]
  have e1:(nm==last)=decide (nm=last):=by by_cases h:nm=last<;>simp[h]
  rw[e1,aM]
  refine ⟨fun h1=>by rw[if_pos h1];exact rfl,fun h1=>?_⟩
  rw[if_neg h1]
  cases Op.bytesLess nm last with
  | true=>exact rfl
  | false=>
   simp only[af,Bool.false_eq_true,if_false]
   rcases ht with ⟨rfl,rfl⟩ | ⟨t,rfl,rfl⟩
   ·exact rfl
   ·simp only[iq,cW,cH,ab,af,Bool.false_eq_true,if_false]
    cases m<;>cases o<;>exact rfl
theorem Mt {a:AT} (hw:a.ty.wf 8) (hn:a.nm.length≤2 ^ 32):Pu Tryz.prog 84 [aV a] (.str (mw a++[10])):=by
 refine Pu.of (c84 _ ?_) (by simp only[LV.aB,Bool.and_true];exact sX) rfl
 have g:∀ k:Nat,ld1 ([]++[aq.cells .rw (aC a)]) (.ptr 0 k)=(aC a)[k]?:=fun k=>aU rfl
 have g6:ldA ([]++[aq.cells .rw (aC a)]) (.ptr 0 0) 6=some (aV a):=rfl
 have g0:(aC a)[0]?=some (.str a.nm):=rfl
 have g1:(aC a)[1]?=some (kV a.ty):=rfl
 have hk:=wF hw
 have hp:100*32 ^ 8≤109951162777600:=by decide
 have hm:(wo a).length≤20:=by unfold wo;cases a.must<;>cases a.own<;>cases a.hide<;>cases a.new<;>decide
 simp only[w84,jE,ag,List.length_nil,av,Nat.zero_add,ab,g,g0,g1,g6]
 rw[jC (by simp only[List.length_cons,List.length_nil];omega),ab,jC (by simp only[List.length_append,List.length_cons,List.length_nil];omega),ab]
 refine (Ho (Nat.le_refl 8) hw).call ⟨rfl,g 0,?_⟩
 rw[jC (by simp only[List.length_append,List.length_cons,List.length_nil];omega),ab]
 refine (Hs a.nm (kV a.ty) dH a.must a.own a.hide a.new).call ⟨g 0,?_⟩
 show bd (bG .add (.str _) (.str (wo a))) _
 rw[jC (by simp only[List.length_append,List.length_cons,List.length_nil];omega),ab,jC (by simp only[List.length_append,List.length_cons,List.length_nil];omega),ab]
 refine NM _ ?_
 show LV.str _=LV.str _
 unfold mw iV
 simp
end
theorem hU {c:UInt8}:∀ {s:Tx},∀ w ∈ splitB c s,w.length≤s.length
 | [],w,h=>by simp[splitB] at h;subst h;simp
 | b::l,w,h=>by
  have ih:=hU (c:=c) (s:=l)
  rw[cR] at h
  split at h
  ·rcases List.mem_cons.1 h with rfl|h
   ·simp
   ·have:=ih w h;simp;omega
  ·split at h
   ·rename_i e;exact absurd e cA
   ·rename_i p ps e
    rw[e] at ih
    rcases List.mem_cons.1 h with rfl|h
    ·have:=ih p (by simp);simp;omega
    ·have:=ih w (by simp[h]);simp;omega
theorem yR {s:Tx} {t:KT} (h:dI s=some t):t.wf 8:=by
 unfold dI at h
 split at h
 ·cases h
 ·split at h
  ·rename_i t' e
   simp only[Option.some.injEq] at h
   subst h
   exact (nN e).2
  ·cases h
def AtQ (s:Tx) (v:LV):Prop:=match eJ s with
 | some a=>v=.tup [aV a,.bool true]
 | none=>∃ nm tv tnil m o h n,pC tv tnil∧v=.tup [.agg (aX nm tv m o h n),.bool false]
theorem cS {r:List Tx} {i:Nat} {w x:Tx} (h:r[i]?=some w):(r.take (i+1)).contains x=((r.take i).contains x||x==w):=by
 have e:(x==w)=decide (x=w):=by by_cases h:x=w<;>simp[h]
 rw[List.take_add_one,h,e]
 simp
section
variable {st st':aa} {R:LV→aa→Prop}
theorem sY {o:Nat} {l cs:List LV} (h:st[o]?=some (.cells .rw l)) (hl:l.length=6) (hc:cs.length=6) (h1:cs.all LV.one=true):stV st 6 (.ptr o 0) (.agg cs)=some (st.set o (.cells .rw cs)):=by
 refine (eA h (by omega) h1 hc).trans ?_
 congr 3
 unfold bU
 rw[List.take_zero,List.nil_append,Nat.zero_add,List.drop_eq_nil_of_le (by omega),List.append_nil]
theorem ld6 {o:Nat} {m:Md} {l:List LV} (h:st[o]?=some (.cells m l)) (hl:l.length=6):ldA st (.ptr o 0) 6=some (.agg l):=by
 rw[ck h (by omega),List.drop_zero,List.take_of_length_le (by omega)]
theorem Bf {s nm:Tx} {tv:LV} {tnil:Bool} {e:Int} {r:List Tx} (hr:r.length≤2 ^ 32) (ht:pC tv tnil)
  (hK:∀ st,st[1]?=some (.cells .rw (aX nm tv (r.contains cB) (r.contains dU) (r.contains cC) (r.contains dV)))→(∃ l,st[0]?=some (.cells .rw l)∧l.length=6)→st.length=2→
   ki (.str s) (.ptr 0 0) (i64 e) (.ptr 1 0) (.isl (r.map .str) r.length none) (i64 r.length) (i64 r.length) R st) :
  ∀ (d i:Nat) (st:aa),i+d=r.length→st[1]?=some (.cells .rw (aX nm tv ((r.take i).contains cB) ((r.take i).contains dU) ((r.take i).contains cC) ((r.take i).contains dV)))→(∃ l,st[0]?=some (.cells .rw l)∧l.length=6)→st.length=2→
   ki (.str s) (.ptr 0 0) (i64 e) (.ptr 1 0) (.isl (r.map .str) r.length none) (i64 r.length) (i64 i) R st:=by
 intro d
 induction d with
 | zero=>
  intro i st hi h1 h0 hl
  have hi:i=r.length:=by omega
  subst hi
  rw[List.take_length] at h1
  exact hK st h1 h0 hl
 | succ d ih=>
  intro i st hi h1 h0 hl
  refine F7 _ _ _ _ _ _ _ ?_
  have hlt:i<r.length:=by omega
  have c1:((i:Int)<r.length):=by omega
  have e1:aR 1 (.isl (r.map .str) r.length none) (i64 i)=some (.iptr (r.map .str) (i*1)):=bW hlt
  have hx:r[i]?=some r[i]:=List.getElem?_eq_getElem hlt
  generalize r[i]=w at hx
  have hg:(r.map LV.str)[i*1]?=some (.str w):=by rw[Nat.mul_one,List.getElem?_map,hx];rfl
  have hw:=aI (show i<2 ^ 40 by omega)
  have go:∀ st2,st2[1]?=some (.cells .rw (aX nm tv ((r.take i).contains cB||cB==w) ((r.take i).contains dU||dU==w) ((r.take i).contains cC||cC==w) ((r.take i).contains dV||dV==w)))→(∃ l,st2[0]?=some (.cells .rw l)∧l.length=6)→st2.length=2→
    bd (ak .add (i64 i) (i64 1)) fun v=>ki (.str s) (.ptr 0 0) (i64 e) (.ptr 1 0) (.isl (r.map .str) r.length none) (i64 r.length) v R st2:=by
   intro st2 g1 g0 gl
   rw[← cS hx,← cS hx,← cS hx,← cS hx] at g1
   simp only[ae,aH,ab,hw]
   exact ih (i+1) st2 (by omega) g1 g0 gl
  have s0:∀ y,∃ l,(st.set 1 y)[0]?=some (.cells .rw l)∧l.length=6:=fun y=>by
   obtain ⟨l,a,b⟩:=h0
   exact ⟨l,by rw[List.getElem?_set_ne (by omega)];exact a,b⟩
  have sl:∀ y,(st.set 1 y).length=2:=fun y=>by simp[hl]
  simp only[CA,ae,aA,ab,c1,decide_true,ah,e1,bF,hg,ca,du,av,Nat.zero_add]
  have q2:=dz (k:=2) (v:=.bool true) h1 (by simp) rfl
  have q3:=dz (k:=3) (v:=.bool true) h1 (by simp) rfl
  have q4:=dz (k:=4) (v:=.bool true) h1 (by simp) rfl
  have q5:=dz (k:=5) (v:=.bool true) h1 (by simp) rfl
  simp only[q2,q3,q4,q5,az,ag]
  generalize (r.take i).contains cB=m at h1 go
  generalize (r.take i).contains dU=o at h1 go
  generalize (r.take i).contains cC=h at h1 go
  generalize (r.take i).contains dV=n at h1 go
  by_cases k1:w=cB
  ·subst k1
   refine go _ ?_ (s0 _) (sl _)
   rw[bx h1]
   simp[cB,dU,cC,dV]
  have b1:(w==[109,117,115,116])=false:=by simpa[cB] using k1
  have b1':(cB==w)=false:=by simpa using Ne.symm k1
  by_cases k2:w=dU
  ·subst k2
   refine go _ ?_ (s0 _) (sl _)
   rw[bx h1]
   simp[cB,dU,cC,dV]
  have b2:(w==[111,119,110])=false:=by simpa[dU] using k2
  have b2':(dU==w)=false:=by simpa using Ne.symm k2
  by_cases k3:w=cC
  ·subst k3
   refine go _ ?_ (s0 _) (sl _)
   rw[bx h1]
   simp[cB,dU,cC,dV]
  have b3:(w==[104,105,100,101])=false:=by simpa[cC] using k3
  have b3':(cC==w)=false:=by simpa using Ne.symm k3
  by_cases k4:w=dV
  ·subst k4
   refine go _ ?_ (s0 _) (sl _)
   rw[bx h1]
   simp[cB,dU,cC,dV]
  have b4:(w==[110,101,119])=false:=by simpa[dV] using k4
  have b4':(dV==w)=false:=by simpa using Ne.symm k4
  simp only[b1,b2,b3,b4,af]
  refine go _ ?_ h0 hl
  rw[b1',b2',b3',b4']
  simpa using h1
theorem Ht {s:Tx} (hs:s.length≤2 ^ 32):Pb Tryz.prog 82 [.str s] (AtQ s):=by
 refine Pb.of (c82 _ ?_) rfl
 have zag:aL (ao (ay [(0,1),(1,1),(2,1),(3,1),(4,1),(5,1)]) [LV.str [],LV.nilp,LV.bool false,LV.bool false,LV.bool false,LV.bool false] [])=some (.agg (aX [] .nilp false false false false)):=rfl
 simp only[w82,bQ,List.nil_append,List.length_nil]
 refine (Hr (c:=32) s hs).call ?_
 have hle:=hU (c:=32) (s:=s)
 have hcl:=eo (c:=32) (s:=s)
 have hcc:s.count 32≤s.length:=List.count_le_length
 have hp:∀ v,AtQ s v↔match eJ s with
  | some a=>v=.tup [aV a,.bool true]
  | none=>∃ nm tv tnil m o h n,pC tv tnil∧v=.tup [.agg (aX nm tv m o h n),.bool false]:=fun v=>Iff.rfl
 have bad:eJ s=none→∀ {st:aa} {x:LV} {nm tv tnil m o h n},pC tv tnil→x=.tup [.agg (aX nm tv m o h n),.bool false]→Dp (AtQ s) x st:=by
  intro e st x nm tv tnil m o h n ht hx
  subst hx
  have hpl:(LV.tup [.agg (aX nm tv m o h n),.bool false]).plain=true:=by simp[LV.plain,LV.aB,ht.plain]
  exact ⟨_,bj _ hpl,hpl,by rw[hp,e];exact ⟨nm,tv,tnil,m,o,h,n,ht,rfl⟩⟩
 have nil:pC .nilp true:=.inl ⟨rfl,rfl⟩
 generalize hws:splitB 32 s=ws at hle hcl
 simp only[bn,ab,ae,aA,aM]
 refine ⟨fun h3=>?_,fun h3=>?_⟩
 ·have e:eJ s=none:=by
   unfold eJ
   rw[hws]
   match ws,h3 with
   | [],_=>rfl
   | [_],_=>rfl
   | [_,_],_=>rfl
   | _::_::_::_,h=>simp only[List.length_cons] at h;omega
  rw[zag]
  simp only[ab]
  rw[sY (l:=aX [] .nilp false false false false) rfl rfl rfl rfl]
  simp only[az,ag]
  rw[ld6 (l:=aX [] .nilp false false false false) rfl rfl]
  exact bad e nil rfl
 ·obtain ⟨w0,w1,w2,r,rfl⟩:∃ w0 w1 w2 r,ws=w0::w1::w2::r:=by
   match ws,h3 with
   | [],h=>exact absurd (show ((([]:List Tx).length:Nat):Int)<3 by decide) h
   | [_],h=>exact absurd (show (((1:Nat)):Int)<3 by decide) h
   | [_,_],h=>exact absurd (show (((2:Nat)):Int)<3 by decide) h
   | w0::w1::w2::r,_=>exact ⟨w0,w1,w2,r,rfl⟩
  have i0:aR 1 (sL (w0::w1::w2::r)) (.int .i64 0)=some (.iptr ((w0::w1::w2::r).map .str) (0*1)):=bW (i:=0) (by simp)
  have i1:aR 1 (sL (w0::w1::w2::r)) (.int .i64 1)=some (.iptr ((w0::w1::w2::r).map .str) (1*1)):=bW (i:=1) (by simp)
  have i2:aR 1 (sL (w0::w1::w2::r)) (.int .i64 2)=some (.iptr ((w0::w1::w2::r).map .str) (2*1)):=bW (i:=2) (by simp)
  have g0:((w0::w1::w2::r).map LV.str)[0*1]?=some (.str w0):=rfl
  have g1:((w0::w1::w2::r).map LV.str)[1*1]?=some (.str w1):=rfl
  have g2:((w0::w1::w2::r).map LV.str)[2*1]?=some (.str w2):=rfl
  have e0:(!(w0==[97,116,116,114]))=decide (w0≠iV):=by
   show (!(w0==iV))=_
   by_cases h:w0=iV<;>simp[h]
  simp only[i0,ab,bF,g0,ca,kQ,e0,aM]
  have pa:eJ s=if w0≠iV then none else match dI w2 with
   | none=>none
   | some t=>if mw ⟨w1,t,r.contains cB,r.contains dU,r.contains cC,r.contains dV⟩=s then some ⟨w1,t,r.contains cB,r.contains dU,r.contains cC,r.contains dV⟩ else none:=by unfold eJ;rw[hws];rfl
  refine ⟨fun h0=>?_,fun h0=>?_⟩
  ·rw[zag]
   simp only[ab]
   rw[sY (l:=aX [] .nilp false false false false) rfl rfl rfl rfl]
   simp only[az,ag]
   rw[ld6 (l:=aX [] .nilp false false false false) rfl rfl]
   exact bad (by rw[pa,if_pos h0]) nil rfl
  ·rw[if_neg h0] at pa
   have hr3:r.length≤2 ^ 32:=by simp only[List.length_cons] at hcl;omega
   have hw1:w1.length≤2 ^ 32:=by have:=hle w1 (by simp);omega
   have hsl:∀ st:aa,(ob3 (some (i64 3)) none none fun l h m=>aO st 1 (sL (w0::w1::w2::r)) l h m)=some (.isl (r.map .str) r.length none):=by
    intro st
    simp[ob3,fg,aO,qu]
    exact List.take_of_length_le (by simp)
   simp only[i2,ab,bF,g2]
   have rest:∀ (tv:LV) (tnil:Bool) (e:Int) (a:Int),pC tv tnil→(∀ st,st[1]?=some (.cells .rw (aX w1 tv (r.contains cB) (r.contains dU) (r.contains cC) (r.contains dV)))→(∃ l,st[0]?=some (.cells .rw l)∧l.length=6)→st.length=2→
     ki (.str s) (.ptr 0 0) (i64 e) (.ptr 1 0) (.isl (r.map .str) r.length none) (i64 r.length) (i64 r.length) (Dp (AtQ s)) st)→
     bd (ai (.tup [tv,i64 a,i64 e]) 0) fun v21=>bd (ai (.tup [tv,i64 a,i64 e]) 1) fun _v22=>bd (ai (.tup [tv,i64 a,i64 e]) 2) fun v23=>bd (aR 1 (sL (w0::w1::w2::r)) (i64 1)) fun v24=>bd (ld1 [aq.cells .rw [LV.str [],LV.nilp,LV.bool false,LV.bool false,LV.bool false,LV.bool false]] v24) fun v25=>bd (aL (ao (ay [(0,1),(1,1),(2,1),(3,1),(4,1),(5,1)]) [LV.str [],LV.nilp,LV.bool false,LV.bool false,LV.bool false,LV.bool false] [(0,v25),(1,v21)])) fun v26=>bd2 (lmk (stV ([aq.cells .rw [LV.str [],LV.nilp,LV.bool false,LV.bool false,LV.bool false,LV.bool false]]++[aq.cells .rw [LV.str [],LV.nilp,LV.bool false,LV.bool false,LV.bool false,LV.bool false]]) 6 (.ptr 1 0) v26)) fun _v29 st30=>bd (ob3 (some (i64 3)) none none fun l h m=>aO st30 1 (sL (w0::w1::w2::r)) l h m) fun v31=>bd (bo v31) fun v32=>ki (.str s) (.ptr 0 0) v23 (.ptr 1 0) v31 v32 (i64 0) (Dp (AtQ s)) st30:=by
    intro tv tnil e a ht hK
    have ea:aL (ao (ay [(0,1),(1,1),(2,1),(3,1),(4,1),(5,1)]) [LV.str [],LV.nilp,LV.bool false,LV.bool false,LV.bool false,LV.bool false] [(0,.str w1),(1,tv)])=some (.agg (aX w1 tv false false false false)):=by
     rcases ht with ⟨rfl,_⟩ | ⟨t,rfl,_⟩<;>rfl
    simp only[aw,List.getElem?_cons_zero,List.getElem?_cons_succ,ab,i1,bF,g1,ea]
    rw[sY (l:=aX [] .nilp false false false false) rfl rfl rfl (wH ht)]
    simp only[az,ag,hsl,ab,bn]
    exact Bf hr3 ht hK r.length 0 _ (by omega) rfl ⟨_,rfl,rfl⟩ rfl
   refine AZ w2 (fun t ht=>?_) fun hn a e he=>?_
   ·have hwf:=yR ht
    simp only[ht] at pa
    refine rest (kV t) false 0 0 (.inr ⟨t,rfl,rfl⟩) fun st1 h1 h0' hl1=>?_
    obtain ⟨l0,h0l,h0n⟩:=h0'
    refine F7 _ _ _ _ _ _ _ ?_
    have c1:¬ ((r.length:Int)<r.length):=by omega
    have g6:=ld6 h1 rfl
    simp only[CA,ae,aA,ab,c1,decide_false,af,g6,aW]
    rw[show ((0:Int)==0)=true from rfl,ah,jC (by simp only[List.length_cons,List.length_nil];omega),ab]
    refine (Mt (a:=⟨w1,t,r.contains cB,r.contains dU,r.contains cC,r.contains dV⟩) hwf hw1).call ⟨g6,?_⟩
    simp only[ca,du,ab]
    rw[sY h0l h0n rfl rfl]
    simp only[az,ag]
    refine F9 _ _ ?_
    have h00:(st1.set 0 (aq.cells .rw (aX w1 (kV t) (r.contains cB) (r.contains dU) (r.contains cC) (r.contains dV))))[0]?=some (aq.cells .rw (aX w1 (kV t) (r.contains cB) (r.contains dU) (r.contains cC) (r.contains dV))):=bx h0l
    simp only[Ax]
    rw[ld6 h00 rfl,ab]
    by_cases hal:mw ⟨w1,t,r.contains cB,r.contains dU,r.contains cC,r.contains dV⟩=s
    ·rw[if_pos hal] at pa
     have:(mw ⟨w1,t,r.contains cB,r.contains dU,r.contains cC,r.contains dV⟩++[10]==s++[10])=true:=by rw[hal];simp
     rw[this]
     have hpl:(LV.tup [aV ⟨w1,t,r.contains cB,r.contains dU,r.contains cC,r.contains dV⟩,.bool true]).plain=true:=by simp only[LV.plain,LV.aB,ly];rfl
     exact ⟨_,bj _ hpl,hpl,by rw[hp,pa];rfl⟩
    ·rw[if_neg hal] at pa
     have:(mw ⟨w1,t,r.contains cB,r.contains dU,r.contains cC,r.contains dV⟩++[10]==s++[10])=false:=by
      rw[Bool.eq_false_iff]
      intro h
      exact hal (List.append_cancel_right (beq_iff_eq.1 h))
     rw[this]
     exact bad pa (.inr ⟨t,rfl,rfl⟩) rfl
   ·simp only[hn] at pa
    refine rest .nilp true e a (.inl ⟨rfl,rfl⟩) fun st1 h1 h0' hl1=>?_
    obtain ⟨l0,h0l,h0n⟩:=h0'
    refine F7 _ _ _ _ _ _ _ ?_
    have c1:¬ ((r.length:Int)<r.length):=by omega
    have g6:=ld6 h1 rfl
    have he':(e==0)=false:=by simpa using he
    simp only[CA,ae,aA,ab,c1,decide_false,af,g6,aW,he']
    rw[sY h0l h0n rfl rfl]
    simp only[az,ag]
    refine F9 _ _ ?_
    have h00:(st1.set 0 (aq.cells .rw (aX w1 .nilp (r.contains cB) (r.contains dU) (r.contains cC) (r.contains dV))))[0]?=some (aq.cells .rw (aX w1 .nilp (r.contains cB) (r.contains dU) (r.contains cC) (r.contains dV))):=bx h0l
    simp only[Ax]
    rw[ld6 h00 rfl,ab]
    exact bad pa (.inl ⟨rfl,rfl⟩) rfl
end
end Go.Proofs.YtknegckgmklnhaaGreatDoor
