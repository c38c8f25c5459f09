/- Parts of the proof. -/
import Derived.Test.YtknegckgmklnhaaGreatDoorVbR3
namespace Go.Proofs.YtknegckgmklnhaaGreatDoor
open Go Go.CP
set_option maxRecDepth 100000
abbrev Fld:=Tx × Bool × KT
def ez (p:Tx→Option (KT × Tx)) (last:Option Tx) (s:Tx):Option (Fld × Tx):=match gG s with
 | none=>none
 | some (nm,r0)=>if mN last nm=false then none else match (cB r0).2 with
  | []=>none
  | c::r2=>if c≠58 then none else match p r2 with
   | none=>none
   | some (x,r1)=>some ((nm,(cB r0).1,x),r1)
theorem nS {p:Tx→Option (KT × Tx)} {n:Nat} {last:Option Tx} {s:Tx}:cS p (n+1) last s=match ez p last s with
  | none=>none
  | some (e,r1)=>match r1 with
   | []=>none
   | c::r3=>if c=125 then some ([e],r3) else if c=44 then (match cS p n (some e.1) r3 with
    | none=>none
    | some (l,r4)=>some (e::l,r4)) else none:=by
 rw[cS]
 unfold ez
 cases gG s with
 | none=>rfl
 | some q=>
  obtain ⟨nm,r0⟩:=q
  simp only
  split
  ·rfl
  ·cases (cB r0).2 with
   | nil=>rfl
   | cons c r2=>
    simp only
    split
    ·rfl
    ·cases p r2 with
     | none=>rfl
     | some q=>rfl
section
variable {st st' st0:aa} {o b:Nat} {s:Tx} {a d D n:Nat} {e:Int} {R:LV→aa→Prop} {fl fn fb:Option Nat} {L:List LV} {ns:List Tx} {ls:List Bool}
theorem OIn.Gw (h:OIn st0 o b st fl fn fb L ns ls) (ho:o<st0.length) (hl:L.length<2 ^ 20) {v:LV} (hv:v.plain=true) (h1:v.one=true) {K:aa→Prop}
  (hK:∀ st2 fl2,OIn st0 o b st2 fl2 fn fb (L++[v]) ns ls→st2[o]?=st[o]?→K st2) :
  ld1 st (.ptr b 1)=some (osl fl 1 L.length)∧bd2 (aN st 1 (ao (fun i=>some (i*1,1)) (List.replicate 1 [LV.nilp]).flatten [(0,v)])) fun v23 st24=>
   ld1 st24 (.ptr b 1)=some (osl fl 1 L.length)∧bd2 (ar st24 1 8 Md.rw (osl fl 1 L.length) v23) fun v25 st26=>bd2 (lmk (stV st26 1 (.ptr b 1) v25)) fun _v29 st30=>K st30:=by
 have hl1:ld1 st (.ptr b 1)=some (osl fl 1 L.length):=by rw[a7 h.hb];rfl
 have ef:ao (fun i=>some (i*1,1)) (List.replicate 1 [LV.nilp]).flatten [(0,v)]=some [v]:=by
  cases v<;>first|rfl|cases h1
 rw[ef]
 simp only[aY,ag]
 have hb1:=bT (y:=.cells .rw [v]) h.hb
 have hl2:ld1 (st++[av.cells .rw [v]]) (.ptr b 1)=some (osl fl 1 L.length):=by rw[a7 hb1];rfl
 refine ⟨hl1,hl2,?_⟩
 have F1:Fr st (st++[av.cells .rw [v]]) (fun _=>False):=Fr.app
 obtain ⟨st2,f2,q1,q2,q3,q4⟩:=nR (bytes:=8) (h.ol.fr F1 fun _ _ h=>h) jq h1 hl (by omega)
 rw[q1]
 simp only[ag]
 have hbl:b<st.length:=bL h.hb
 have hb2:=q3.get hb1 (fun e=>(h.gl _ e).2 rfl)
 have e1:stV st2 1 (.ptr b 1) (osl f2 1 (L++[v]).length)=some (st2.set b (.cells .rw [i64 8,osl f2 1 (L++[v]).length,osl fn 1 (ns.map LV.str).length,osl fb 1 (ls.map LV.bool).length])):=by
  rw[cY hb2 (by simp) (by cases f2<;>rfl)];rfl
 rw[e1]
 simp only[ay,ag]
 have F:Fr st2 (st2.set b (.cells .rw [i64 8,osl f2 1 (L++[v]).length,osl fn 1 (ns.map LV.str).length,osl fb 1 (ls.map LV.bool).length])) (fun j=>j=b):=Fr.set rfl
 have F2:Fr st st2 (fun j=>fl=some j):=(F1.mono (S':=fun j=>fl=some j) fun _ _ h=>h.elim).trans q3 fun _ _ h=>h
 have l1:=F1.len
 have l0:=h.fr.len
 have fr2:Fr st0 st2 (fun j=>j=o):=h.fr.trans F2 fun j hj e=>by have:=(h.gl j e).1;omega
 have gl2:∀ j,f2=some j→st0.length≤j∧j≠b:=fun j e=>by
  rcases q4 j e with e|e
  ·exact h.gl j e
  ·exact ⟨by omega,by simp at e;omega⟩
 refine hK _ f2 ⟨fr2.trans F fun j hj e=>by have:=h.nb;omega,h.nb,bq hb2,q2.fr F fun j e=>(gl2 j e).2,(h.on.fr F2 fun j e e2=>(h.d1 j e2).1 e).fr F fun j e=>(h.gn j e).2,
  (h.ob.fr F2 fun j e e2=>(h.d1 j e2).2 e).fr F fun j e=>(h.gb j e).2,gl2,h.gn,h.gb,fun j e=>?_,h.d2,?_⟩ ?_
 ·rcases q4 j e with e1|e1
  ·exact h.d1 j e1
  ·refine ⟨fun e2=>?_,fun e2=>?_⟩
   ·have:=gC h.on e2;omega
   ·have:=gC h.ob e2;omega
 ·rw[cZ,h.pl];simp[LV.aB,hv]
 ·have hol:o<st.length:=Nat.lt_of_lt_of_le ho l0
  rw[br (by have:=h.nb;omega),F2.same o hol fun e=>by have:=(h.gl o e).1;omega]
def Gx (st0:aa) (o b:Nat) (s:Tx) (D:Nat) (R:LV→aa→Prop) (L:List LV) (ns:List Tx) (ls:List Bool):Prop:=
 ∀ st2 fl2 fn2 fb2 v w g a' e',e'≠0→a'≤s.length→OIn st0 o b st2 fl2 fn2 fb2 (L++[v]) (ns++[w]) (ls++[g])→Rd st2 o s a' e' D→R (.tup []) st2
theorem Gy (ih:fI d D) (hs:s.length≤4096) (ho:o<st0.length) (ha:a≤s.length) (hl:L.length<2 ^ 20) (h:OIn st0 o b st fl fn fb L ns ls) (hr:Rd st o s a 0 D)
  (h1:∀ t a' st2 fl2,a'≤s.length→pT d (s.drop a)=some (t,s.drop a')→OIn st0 o b st2 fl2 fn fb (L++[kV t]) ns ls→Rd st2 o s a' 0 D→R (.tup []) st2)
  (h2:pT d (s.drop a)=none→∀ st2 fl2 v a' e',e'≠0→a'≤s.length→OIn st0 o b st2 fl2 fn fb (L++[v]) ns ls→Rd st2 o s a' e' D→R (.tup []) st2):iJ (.ptr o 0) (.ptr b 0) R st:=by
 refine Cb _ _ ?_
 have hl1:ld1 st (.ptr b 1)=some (osl fl 1 L.length):=by rw[a7 h.hb];rfl
 simp only[u7,aF,ab,aq,Nat.zero_add,hl1]
 refine ih hs ha hr (fun t a1 ha1 hp=>?_) fun hp v a1 e1 hv hv1 he1 ha1=>?_
 ·have hr':Rd (st.set o (rdO s a1 0 D)) o s a1 0 D:=hr.set
  exact (h.rd ho).Gw ho hl dw rfl fun st2 f2 h2' ho2=>h1 t a1 st2 f2 ha1 hp h2' (ho2.trans hr')
 ·have hr':Rd (st.set o (rdO s a1 e1 D)) o s a1 e1 D:=hr.set
  exact (h.rd ho).Gw ho hl hv hv1 fun st2 f2 h2' ho2=>h2 hp st2 f2 v a1 e1 he1 ha1 h2' (ho2.trans hr')
theorem IJ (ho:o<st0.length) (he:e≠0) (hl:L.length<2 ^ 20) (h:OIn st0 o b st fl fn fb L ns ls) (hr:Rd st o s a e D)
  (h2:∀ st2 fl2 v,OIn st0 o b st2 fl2 fn fb (L++[v]) ns ls→Rd st2 o s a e D→R (.tup []) st2):iJ (.ptr o 0) (.ptr b 0) R st:=by
 refine Cb _ _ ?_
 have hl1:ld1 st (.ptr b 1)=some (osl fl 1 L.length):=by rw[a7 h.hb];rfl
 simp only[u7,aF,ab,aq,Nat.zero_add,hl1]
 refine si hr he ?_
 exact h.Gw ho hl rfl rfl fun st2 f2 h2' ho2=>h2 st2 f2 _ h2' (ho2.trans hr)
section
variable (ho:o<st0.length) (ha:a≤s.length) (hl:L.length<2 ^ 20) (hln:ns.length<2 ^ 20) (hlb:ls.length<2 ^ 20) (h:OIn st0 o b st fl fn fb L ns ls) (hr:Rd st o s a e D) (hB:Gx st0 o b s D R L ns ls)
include ho ha hl hln hlb h hr hB
theorem CC {w:Tx} {g:Bool} (he:e≠0):qE (.ptr o 0) (.ptr b 0) (.str w) (.bool g) R st:=by
 refine h.pair ho hln hlb fun st2 fn2 fb2 h2 e2=>?_
 exact IJ ho he hl h2 (e2.trans hr) fun st3 fl3 v h3 hr3=>hB st3 fl3 fn2 fb2 v w g a e he ha h3 hr3
theorem vE {w:Tx} {g:Bool} (he:e≠0):eE (.ptr o 0) (.ptr b 0) (.str w) (.bool g) R st:=by
 refine B9 _ _ _ _ ?_
 simp only[u6,aF,ab,aq,Nat.zero_add]
 exact ir (c:=58) hr he (CC ho ha hl hln hlb h hr hB he)
theorem Gz {w:Tx} (he:e≠0):rR (.ptr o 0) (.ptr b 0) (.str w) R st:=by
 refine Li _ _ _ ?_
 simp only[Fp,aF,ab,aq,Nat.zero_add]
 exact iq (c:=63) hr (.inl he) (vE ho ha hl hln hlb h hr hB he)
end
theorem yf (ih:fI d D) (hs:s.length≤4096) (ho:o<st0.length) (ha:a≤s.length) (hl:L.length<2 ^ 20) (hln:ns.length<2 ^ 20) (hlb:ls.length<2 ^ 20) (h:OIn st0 o b st fl fn fb L ns ls) (hr:Rd st o s a 0 D)
  {w:Tx} {g:Bool} {res:Option (Fld × Tx)} (hres:res=match s.drop a with
   | []=>none
   | c::r2=>if c≠58 then none else match pT d r2 with
    | none=>none
    | some (x,r1)=>some ((w,g,x),r1))
  (h1:∀ x a' st2 fl2 fn2 fb2,a'≤s.length→res=some ((w,g,x),s.drop a')→OIn st0 o b st2 fl2 fn2 fb2 (L++[kV x]) (ns++[w]) (ls++[g])→Rd st2 o s a' 0 D→R (.tup []) st2)
  (hB:res=none→Gx st0 o b s D R L ns ls):eE (.ptr o 0) (.ptr b 0) (.str w) (.bool g) R st:=by
 refine B9 _ _ _ _ ?_
 simp only[u6,aF,ab,aq,Nat.zero_add]
 by_cases hc:s[a]?=some 58
 ·refine k9 (c:=58) hr hc (by omega) ?_
  have hlt:=(List.getElem?_eq_some_iff.1 hc).1
  rw[drop_cons hc] at hres
  simp only[ne_eq,not_true,if_false] at hres
  have h':=h.rd ho (y:=rdO s (a+1) 0 D)
  have hr':Rd (st.set o (rdO s (a+1) 0 D)) o s (a+1) 0 D:=hr.set
  refine h'.pair ho hln hlb fun st2 fn2 fb2 h2 e2=>?_
  refine Gy ih hs ho (by omega) hl h2 (e2.trans hr') (fun t a1 st3 fl3 ha1 hp h3 hr3=>?_) fun hp st3 fl3 v a1 e1 he1 ha1 h3 hr3=>?_
  ·exact h1 t a1 st3 fl3 fn2 fb2 ha1 (by rw[hres,hp]) h3 hr3
  ·exact hB (by rw[hres,hp]) st3 fl3 fn2 fb2 v w g a1 e1 he1 ha1 h3 hr3
 ·refine nO (c:=58) hr hc ?_
  have hn:res=none:=by
   rw[hres]
   cases hd:s.drop a with
   | nil=>rfl
   | cons c r=>
    have hx:s[a]?=some c:=by rw[← bQ,hd];rfl
    have n1:c≠58:=fun e=>hc (by rw[hx,e])
    simp only[n1,ne_eq,not_false_eq_true,if_true]
  exact CC ho ha hl hln hlb (h.rd ho) hr.set (hB hn) (by decide)
theorem IK (ih:fI d D) (hs:s.length≤4096) (ho:o<st0.length) (ha:a≤s.length) (hl:L.length<2 ^ 20) (hln:ns.length<2 ^ 20) (hlb:ls.length<2 ^ 20) (h:OIn st0 o b st fl fn fb L ns ls) (hr:Rd st o s a 0 D)
  {w:Tx} {res:Option (Fld × Tx)} (hres:res=match (cB (s.drop a)).2 with
   | []=>none
   | c::r2=>if c≠58 then none else match pT d r2 with
    | none=>none
    | some (x,r1)=>some ((w,(cB (s.drop a)).1,x),r1))
  (h1:∀ g x a' st2 fl2 fn2 fb2,a'≤s.length→res=some ((w,g,x),s.drop a')→OIn st0 o b st2 fl2 fn2 fb2 (L++[kV x]) (ns++[w]) (ls++[g])→Rd st2 o s a' 0 D→R (.tup []) st2)
  (hB:res=none→Gx st0 o b s D R L ns ls) {K:LV→aa→Prop} (hK:∀ g s2,eE (.ptr o 0) (.ptr b 0) (.str w) (.bool g) R s2→K (.bool g) s2):az Tryz.prog 137 [.ptr o 0,.int .u8 63] st K:=by
 by_cases hc:s[a]?=some 63
 ·have hlt:=(List.getElem?_eq_some_iff.1 hc).1
  refine kZ (c:=63) hr hc (by omega) (hK _ _ ?_)
  rw[drop_cons hc,gk,if_pos rfl] at hres
  exact yf ih hs ho (by omega) hl hln hlb (h.rd ho) hr.set hres (fun x a' st2 fl2 fn2 fb2 q1 q2 q3 q4=>h1 _ x a' st2 fl2 fn2 fb2 q1 q2 q3 q4) hB
 ·refine iq (c:=63) hr (.inr hc) (hK _ _ ?_)
  have e1:cB (s.drop a)=(false,s.drop a):=by
   cases hd:s.drop a with
   | nil=>rfl
   | cons c r=>
    have hx:s[a]?=some c:=by rw[← bQ,hd];rfl
    rw[gk,if_neg (fun e=>hc (by rw[hx,e]))]
  rw[e1] at hres
  exact yf ih hs ho ha hl hln hlb h hr hres (fun x a' st2 fl2 fn2 fb2 q1 q2 q3 q4=>h1 _ x a' st2 fl2 fn2 fb2 q1 q2 q3 q4) hB
theorem AB (hs:s.length≤4096) (ho:o<st0.length) (ha:a≤s.length) (hl:L.length=16) (hln:ns.length<2 ^ 20) (hlb:ls.length<2 ^ 20) (h:OIn st0 o b st fl fn fb L ns ls) (hr:Rd st o s a 0 D)
  (hB:Gx st0 o b s D R L ns ls):az Tryz.prog 185 [.ptr o 0,.ptr b 0] st R:=by
 refine M0 _ _ ?_
 have hl1:ld1 st (.ptr b 1)=some (osl fl 1 L.length):=by rw[a7 h.hb];rfl
 have c1:((L.length:Int)==16)=true:=by rw[hl];rfl
 simp only[Lf,aF,ab,aq,Nat.zero_add,hr.l1,hl1,h.ol.bg,ae,aQ,c1,ai]
 refine fU hr ?_
 have h':=h.rd ho (y:=rdO s a 3 D)
 have hr':Rd (st.set o (rdO s a 3 D)) o s a 3 D:=hr.set
 refine Lg _ _ _ ?_
 simp only[Fm]
 refine Gv (by omega) ha (by decide) hr' fun w a1 ha1=>?_
 rw[List.set_set]
 have h2:=h.rd ho (y:=rdO s a1 3 D)
 have hr2:Rd (st.set o (rdO s a1 3 D)) o s a1 3 D:=hr.set
 have hl2:ld1 (st.set o (rdO s a1 3 D)) (.ptr b 2)=some (osl fn 1 (ns.map LV.str).length):=by rw[a7 h2.hb];rfl
 simp only[aF,ab,aq,Nat.zero_add,hl2,h2.on.bg,ae,cX]
 refine et hr2 ?_
 have e3:((3:Int) != 0)=true:=rfl
 simp only[e3,bF,ab,Bool.not_true,af]
 exact iq (c:=63) hr2 (.inl (by decide)) (vE ho ha1 (by omega) hln hlb h2 hr2 hB (by decide))
theorem AD {last w:Tx}:(Op.bytesLess w last||w==last) = !(Op.bytesLess last w):=by
 cases h1:Op.bytesLess last w
 ·cases h2:Op.bytesLess w last
  ·have:=r7 h2 h1;subst this;simp
  ·rfl
 ·have h2:=xR h1
  have h3:(w==last)=false:=by
   have:=Ar h1
   simpa using Ne.symm this
  rw[h2,h3];rfl
theorem AE (ih:fI d D) (hs:s.length≤4096) (ho:o<st0.length) (ha:a≤s.length) (hl:L.length<16) (hln:ns.length=L.length) (hlb:ls.length=L.length) (h:OIn st0 o b st fl fn fb L ns ls) (hr:Rd st o s a 0 D)
  (h1:∀ (f:Fld) a' st2 fl2 fn2 fb2,a'≤s.length→ez (pT d) ns.getLast? (s.drop a)=some (f,s.drop a')→OIn st0 o b st2 fl2 fn2 fb2 (L++[kV f.2.2]) (ns++[f.1]) (ls++[f.2.1])→Rd st2 o s a' 0 D→R (.tup []) st2)
  (hB:ez (pT d) ns.getLast? (s.drop a)=none→Gx st0 o b s D R L ns ls):az Tryz.prog 185 [.ptr o 0,.ptr b 0] st R:=by
 refine M0 _ _ ?_
 have hl1:ld1 st (.ptr b 1)=some (osl fl 1 L.length):=by rw[a7 h.hb];rfl
 have c1:((L.length:Int)==16)=false:=by
  have:(L.length:Int)≠16:=by omega
  simpa using this
 simp only[Lf,aF,ab,aq,Nat.zero_add,hr.l1,hl1,h.ol.bg,ae,aQ,c1,af]
 refine DS (by omega) ha hr (fun w r hw=>?_) fun hw w a1 e1 he1 ha1=>?_
 ·obtain ⟨w1,_,_⟩:=mO hw
  have hwl:a+w.length≤s.length:=by
   have:=congrArg List.length w1
   simp only[List.length_drop,List.length_append] at this
   omega
  have hr1:r=s.drop (a+w.length):=by
   rw[← List.drop_drop,w1];simp
  subst hr1
  have h':=h.rd ho (y:=rdO s (a+w.length) 0 D)
  have hr':Rd (st.set o (rdO s (a+w.length) 0 D)) o s (a+w.length) 0 D:=hr.set
  have hl2:ld1 (st.set o (rdO s (a+w.length) 0 D)) (.ptr b 2)=some (osl fn 1 (ns.map LV.str).length):=by rw[a7 h'.hb];rfl
  have hlm:(ns.map LV.str).length=L.length:=by simpa using hln
  have c2:IntKind.i64.wrap (((ns.map LV.str).length:Int)-1)=(L.length:Int)-1:=by rw[hlm,wrap_i64 (by omega) (by omega)]
  have go:mN ns.getLast? w=true→∀ {K:LV→aa→Prop},(∀ g s2,eE (.ptr o 0) (.ptr b 0) (.str w) (.bool g) R s2→K (.bool g) s2)→az Tryz.prog 137 [.ptr o 0,.int .u8 63] (st.set o (rdO s (a+w.length) 0 D)) K:=by
   intro hah K hK
   have hres:ez (pT d) ns.getLast? (s.drop a)=match (cB (s.drop (a+w.length))).2 with
     | []=>none
     | c::r2=>if c≠58 then none else match pT d r2 with
      | none=>none
      | some (x,r1)=>some ((w,(cB (s.drop (a+w.length))).1,x),r1):=by
    unfold ez
    rw[hw]
    simp only[hah]
    rfl
   exact IK ih hs ho hwl (by omega) (by omega) (by omega) h' hr' hres (fun g x a' st2 fl2 fn2 fb2 q1 q2 q3 q4=>h1 (w,g,x) a' st2 fl2 fn2 fb2 q1 q2 q3 q4) hB hK
  simp only[ab,hl2,h'.on.bg,ae,cX,c2]
  refine et hr' ?_
  simp only[bne_self_eq_false,bF,ab,Bool.not_false,ai,dt]
  by_cases h0:L.length=0
  ·have g1:¬ ((L.length:Int)-1≥0):=by omega
   have hn0:ns=[]:=List.eq_nil_of_length_eq_zero (by omega)
   simp only[g1,decide_false,af]
   exact go (by rw[hn0];rfl) fun g s2 hg=>hg
  ·obtain ⟨k,hk⟩:∃ k,L.length=k+1:=⟨L.length-1,by omega⟩
   have hlast:ns.getLast?=some (ns[k]'(by omega)):=by
    rw[List.getLast?_eq_getElem?]
    have:ns.length-1=k:=by omega
    rw[this]
    exact List.getElem?_eq_getElem (by omega)
   have hget:ns[k]?=some (ns[k]'(by omega)):=List.getElem?_eq_getElem (by omega)
   generalize ns[k]'(by omega)=last at hlast hget
   have e9:(L.length:Int)-1=(k:Int):=by omega
   have g1:((k:Int)≥0):=by omega
   obtain ⟨j,hj,hix⟩:=h'.on.ix (i:=(k:Int)) (kk:=.i64) (by omega) (by omega)
   have hld:ld1 (st.set o (rdO s (a+w.length) 0 D)) (.ptr j ((k:Int).toNat*1))=some (.str last):=by
    have hon:=h'.on
    subst hj
    refine hon.ld ?_
    simp only[Int.toNat_natCast,Nat.mul_one,List.getElem?_map,hget,Option.map_some]
   simp only[g1,decide_true,ai,ab,hl2,e9,hix,hld,bN,sN,AD]
   have hpa:mN ns.getLast? w=Op.bytesLess last w:=by rw[hlast];rfl
   rw[dq]
   refine ⟨fun hb=>?_,fun hb=>go (by rw[hpa];simpa using hb) fun g s2 hg=>hg⟩
   have hnone:ez (pT d) ns.getLast? (s.drop a)=none:=by
    unfold ez
    rw[hw]
    simp only[hpa]
    have hb':Op.bytesLess last w=false:=by simpa using hb
    simp only[hb',if_true]
   have h3:∀ e':Int,OIn st0 o b (st.set o (rdO s a e' D)) fl fn fb L ns ls:=fun e'=>h.rd ho
   have hr3:∀ e':Int,Rd (st.set o (rdO s a e' D)) o s a e' D:=fun e'=>hr.set
   rw[dq]
   refine ⟨fun _=>?_,fun _=>?_⟩
   ·refine Lh _ _ _ _ _ ?_
    simp only[Fo,aF,ab,aq,Nat.zero_add]
    refine fU hr' ?_
    rw[List.set_set]
    exact Gz ho ha (by omega) (by omega) (by omega) (h3 9) (hr3 9) (hB hnone) (by decide)
   ·refine fU hr' ?_
    rw[List.set_set]
    exact Gz ho ha (by omega) (by omega) (by omega) (h3 4) (hr3 4) (hB hnone) (by decide)
 ·have hnone:ez (pT d) ns.getLast? (s.drop a)=none:=by unfold ez;rw[hw]
  have h2:=h.rd ho (y:=rdO s a1 e1 D)
  have hr2:Rd (st.set o (rdO s a1 e1 D)) o s a1 e1 D:=hr.set
  have hl2:ld1 (st.set o (rdO s a1 e1 D)) (.ptr b 2)=some (osl fn 1 (ns.map LV.str).length):=by rw[a7 h2.hb];rfl
  simp only[ab,hl2,h2.on.bg,ae,cX]
  refine et hr2 ?_
  have e3:(e1 != 0)=true:=by simpa using he1
  simp only[e3,bF,ab,Bool.not_true,af]
  exact iq (c:=63) hr2 (.inl he1) (vE ho ha1 (by omega) (by omega) (by omega) h2 hr2 (hB hnone) he1)
end
section
variable {st st' st0:aa} {o b:Nat} {s:Tx} {a d D n:Nat} {e:Int} {R:LV→aa→Prop} {fl fn fb:Option Nat} {L:List LV} {ns:List Tx} {ls:List Bool}
theorem OIn.fin (h:OIn st0 o b st fl fn fb L ns ls) (hr:Rd st o s a e D) (hR:R (.iptr [i64 8,.isl L L.length none,.isl (ns.map .str) (ns.map LV.str).length none,.isl (ls.map .bool) (ls.map LV.bool).length none] 0) (st0.set o (rdO s a e D))):TQ st0 o R (.ptr b 0) st:=by
 have p1:LV.aB (ns.map LV.str)=true:=bD fun _ _=>rfl
 have p2:LV.aB (ls.map LV.bool)=true:=bD fun _ _=>rfl
 refine ⟨_,_,h.fr,hr,pg,?_,by simp[LV.plain,LV.aB,h.pl,p1,p2],hR⟩
 refine .inl ⟨b,.rw,_,rfl,(fR h.nb).trans h.hb,rfl,by simp,?_⟩
 simp only[List.length_cons,List.length_nil,List.take_succ_cons,List.take_zero]
 exact ⟨_,_,rfl,rfl,_,_,rfl,dA (h.ol.eW fun j e=>(h.gl j e).1) rfl (bA _ h.pl),_,_,rfl,dA (h.on.eW fun j e=>(h.gn j e).1) rfl (bA _ p1),_,_,rfl,dA (h.ob.eW fun j e=>(h.gb j e).1) rfl (bA _ p2),rfl⟩
def nT (d:Nat) (r:Tx):Option (List Fld × Tx):=if r.head?=some 125 then some ([],r.tail) else cS (pT d) 16 none r
abbrev kO (fs:List Fld):KT:=.mk 8 (fs.map (·.2.2)) (fs.map (·.1)) (fs.map (·.2.1))
theorem vF (h:OIn st0 o b st fl fn fb L ns ls) (hr:Rd st o s a e D) (he:e≠0) (ha:a≤s.length) (hR:∀ v a' e',v.plain=true→v.one=true→e'≠0→a'≤s.length→R v (st0.set o (rdO s a' e' D))):TQ st0 o R (.ptr b 0) st:=by
 have p1:LV.aB (ns.map LV.str)=true:=bD fun _ _=>rfl
 have p2:LV.aB (ls.map LV.bool)=true:=bD fun _ _=>rfl
 exact h.fin hr (hR _ _ _ (by simp[LV.plain,LV.aB,h.pl,p1,p2]) rfl he ha)
theorem iY (h:OIn st0 o b st fl fn fb L ns ls) (hr:Rd st o s a e D) (he:e≠0) (ha:a≤s.length) (hR:∀ v a' e',v.plain=true→v.one=true→e'≠0→a'≤s.length→R v (st0.set o (rdO s a' e' D))):rQ (.ptr o 0) (.ptr b 0) (TQ st0 o R) st:=by
 refine zV _ _ ?_
 simp only[u5,aF,ab,aq,Nat.zero_add]
 refine et hr ?_
 have e3:(e != 0)=true:=by simpa using he
 simp only[e3,bF,ab,Bool.not_true,af]
 exact vF h hr he ha hR
theorem vG {fs:List Fld}:(kVs (fs.map (·.2.2))).length=fs.length:=by rw[iO,List.length_map]
theorem yg (ih:fI d D) (hs:s.length≤4096) (ho:o<st0.length) {res:Option (List Fld × Tx)}
  (h1:∀ l a',a'≤s.length→res=some (l,s.drop a')→R (kV (kO l)) (st0.set o (rdO s a' 0 D)))
  (h2:res=none→∀ v a' e',v.plain=true→v.one=true→e'≠0→a'≤s.length→R v (st0.set o (rdO s a' e' D))) :
  ∀ (k:Nat) (acc:List Fld) (fl fn fb:Option Nat) (st:aa) (a:Nat),acc.length+k=16→a≤s.length→OIn st0 o b st fl fn fb (kVs (acc.map (·.2.2))) (acc.map (·.1)) (acc.map (·.2.1))→Rd st o s a 0 D→
   (res=match cS (pT d) k (acc.map (·.1)).getLast? (s.drop a) with
    | none=>none
    | some (l,r)=>some (acc++l,r))→rQ (.ptr o 0) (.ptr b 0) (TQ st0 o R) st:=by
 intro k
 induction k with
 | zero=>
  intro acc fl fn fb st a hk ha h hr hres
  have hres:res=none:=hres
  have hlen:acc.length=16:=by omega
  refine zV _ _ ?_
  simp only[u5,aF,ab,aq,Nat.zero_add]
  refine et hr ?_
  simp only[bne_self_eq_false,bF,ab,Bool.not_false,ai]
  refine AB hs ho ha (by rw[vG,hlen]) (by rw[List.length_map];omega) (by rw[List.length_map];omega) h hr ?_
  intro st2 fl2 fn2 fb2 v w g a1 e1 he1 ha1 h3 hr3
  refine iq (c:=125) hr3 (.inl he1) ?_
  simp only[af]
  refine ir (c:=44) hr3 he1 ?_
  exact iY h3 hr3 he1 ha1 (h2 hres)
 | succ k ihk=>
  intro acc fl fn fb st a hk ha h hr hres
  rw[nS] at hres
  refine zV _ _ ?_
  simp only[u5,aF,ab,aq,Nat.zero_add]
  refine et hr ?_
  simp only[bne_self_eq_false,bF,ab,Bool.not_false,ai]
  refine AE ih hs ho ha (by rw[vG];omega) (by rw[vG,List.length_map]) (by rw[vG,List.length_map]) h hr (fun f a1 st2 fl2 fn2 fb2 ha1 hp h3 hr3=>?_) fun hp=>?_
  ·rw[hp] at hres
   have h4:OIn st0 o b st2 fl2 fn2 fb2 (kVs ((acc++[f]).map (·.2.2))) ((acc++[f]).map (·.1)) ((acc++[f]).map (·.2.1)):=by
    rw[List.map_append,List.map_append,List.map_append,CB];exact h3
   by_cases hc:s[a1]?=some 125
   ·refine kZ (c:=125) hr3 hc (by omega) ?_
    simp only[ai]
    have hlt:=(List.getElem?_eq_some_iff.1 hc).1
    rw[drop_cons hc] at hres
    refine (h4.rd ho (y:=rdO s (a1+1) 0 D)).fin hr3.set ?_
    have:=h1 (acc++[f]) (a1+1) (by omega) (by simpa using hres)
    simp only[kV,kC] at this
    rw[iO]
    simp only[List.length_map] at this ⊢
    exact this
   ·refine iq (c:=125) hr3 (.inr hc) ?_
    simp only[af]
    by_cases hc2:s[a1]?=some 44
    ·refine k9 (c:=44) hr3 hc2 (by omega) ?_
     have hlt:=(List.getElem?_eq_some_iff.1 hc2).1
     refine ihk (acc++[f]) fl2 fn2 fb2 _ (a1+1) (by simp;omega) (by omega) (h4.rd ho (y:=rdO s (a1+1) 0 D)) hr3.set ?_
     rw[hres,drop_cons hc2]
     have n1:¬ (44:UInt8)=125:=by decide
     have hlast:((acc++[f]).map (·.1)).getLast?=some f.1:=by simp
     simp only[n1,if_false,if_true,hlast]
     cases cS (pT d) k (some f.1) (s.drop (a1+1)) with
     | none=>rfl
     | some p=>simp
    ·refine nO (c:=44) hr3 hc2 ?_
     refine iY (h4.rd ho (y:=rdO s a1 4 D)) hr3.set (by decide) ha1 (h2 ?_)
     rw[hres]
     cases hd:s.drop a1 with
     | nil=>rfl
     | cons c r=>
      have hx:s[a1]?=some c:=by rw[← bQ,hd];rfl
      have n1:¬ c=125:=fun e=>hc (by rw[hx,e])
      have n2:¬ c=44:=fun e=>hc2 (by rw[hx,e])
      simp only[n1,n2,if_false]
  ·rw[hp] at hres
   intro st2 fl2 fn2 fb2 v w g a1 e1 he1 ha1 h3 hr3
   refine iq (c:=125) hr3 (.inl he1) ?_
   simp only[af]
   refine ir (c:=44) hr3 he1 ?_
   exact iY h3 hr3 he1 ha1 (h2 hres)
theorem yh (ih:fI d D) (hs:s.length≤4096) (ha:a≤s.length) (hr:Rd st o s a 0 D)
  (h1:∀ l a',a'≤s.length→nT d (s.drop a)=some (l,s.drop a')→R (kV (kO l)) (st.set o (rdO s a' 0 D)))
  (h2:nT d (s.drop a)=none→∀ v a' e',v.plain=true→v.one=true→e'≠0→a'≤s.length→R v (st.set o (rdO s a' e' D))):az Tryz.prog 139 [.ptr o 0] st R:=by
 refine az.xK hr.lt ?_
 refine c139 _ ?_
 have e1:aP (ao (aA [(0,1),(1,1),(2,1),(3,1)]) [i64 0,LV.nils,LV.nils,LV.nils] [(0,i64 8)])=some (.agg [i64 8,.nils,.nils,.nils]):=rfl
 have e2:ca st (.agg [i64 8,.nils,.nils,.nils])=some (.ptr st.length 0,st++[.cells .rw [i64 8,.nils,.nils,.nils]]):=rfl
 simp only[MY,e1,ab,e2,ag,aF,aq,Nat.zero_add]
 have hr':Rd (st++[av.cells .rw [i64 8,.nils,.nils,.nils]]) o s a 0 D:=hr.app
 have hT:OIn st o st.length (st++[av.cells .rw [i64 8,.nils,.nils,.nils]]) none none none (kVs []) [] []:=
  ⟨Fr.app,Nat.le_refl _,aw,bB.nil,bB.nil,bB.nil,(fun _ h=>by cases h),(fun _ h=>by cases h),(fun _ h=>by cases h),(fun _ h=>by cases h),(fun _ h=>by cases h),rfl⟩
 by_cases hc:s[a]?=some 125
 ·refine kZ (c:=125) hr' hc (by omega) ?_
  simp only[ai]
  have hlt:=(List.getElem?_eq_some_iff.1 hc).1
  refine (hT.rd hr.lt (y:=rdO s (a+1) 0 D)).fin hr'.set ?_
  exact h1 [] (a+1) (by omega) (by unfold nT;rw[bQ,if_pos hc,drop_cons hc];rfl)
 ·refine iq (c:=125) hr' (.inr hc) ?_
  simp only[af]
  have hp:nT d (s.drop a)=cS (pT d) 16 none (s.drop a):=by unfold nT;rw[bQ,if_neg hc]
  refine yg ih hs hr.lt h1 h2 16 [] none none none _ a rfl ha hT hr' ?_
  rw[hp]
  show _=match cS (pT d) 16 none (s.drop a) with
   | none=>none
   | some (l,r)=>some ([]++l,r)
  cases cS (pT d) 16 none (s.drop a)<;>rfl
def sj (d:Nat) (r:Tx):Option (KT × Tx):=match r with
 | []=>none
 | c::r=>if c≠40 then none else match pT d r with
  | none=>none
  | some (x,r)=>match r with
   | []=>none
   | c::r=>if c=41 then some (x,r) else none
theorem yi (ih:fI d D) (hs:s.length≤4096) (ha:a≤s.length) (hr:Rd st o s a 0 D) {i:Nat}
  (h1:∀ x a',a'≤s.length→sj d (s.drop a)=some (x,s.drop a')→R (kV (.mk i [x] [] [])) (st.set o (rdO s a' 0 D)))
  (h2:sj d (s.drop a)=none→∀ v a' e',v.plain=true→v.one=true→e'≠0→a'≤s.length→R v (st.set o (rdO s a' e' D))):az Tryz.prog 141 [.ptr o 0,i64 i] st R:=by
 refine az.xK hr.lt ?_
 refine c141 _ _ ?_
 simp only[MZ,aF,ab,aq,Nat.zero_add]
 -- the end
 have fin:∀ {v:LV} {a':Nat} {e':Int} {s2:aa},v.plain=true→v.one=true→s2=st.set o (rdO s a' e' D)→R (.iptr [i64 i,.isl [v] 1 none,.isl [] 0 none,.isl [] 0 none] 0) (st.set o (rdO s a' e' D))→
   bd2 (aN s2 1 (ao (fun i=>some (i*1,1)) (List.replicate 1 [LV.nilp]).flatten [(0,v)])) fun v10 st11=>
    bd (aP (ao (aA [(0,1),(1,1),(2,1),(3,1)]) [i64 0,LV.nils,LV.nils,LV.nils] [(0,i64 i),(1,v10)])) fun v12=>bd2 (ca st11 v12) fun v13 st14=>TQ st o R v13 st14:=by
  rintro v a' e' s2 hv hv1 rfl hR
  have ef:ao (fun i=>some (i*1,1)) (List.replicate 1 [LV.nilp]).flatten [(0,v)]=some [v]:=by
   cases v<;>first|rfl|cases hv1
  rw[ef]
  simp only[aY,ag]
  generalize hS:st.set o (rdO s a' e' D)=S
  have hl:S.length=st.length:=by rw[← hS];simp
  have eg:aP (ao (aA [(0,1),(1,1),(2,1),(3,1)]) [i64 0,LV.nils,LV.nils,LV.nils] [(0,i64 i),(1,.sl S.length 0 1 (.ex 1))])=some (.agg [i64 i,.sl S.length 0 1 (.ex 1),.nils,.nils]):=rfl
  have eb:ca (S++[av.cells .rw [v]]) (.agg [i64 i,.sl S.length 0 1 (.ex 1),.nils,.nils])=some (.ptr (S++[av.cells .rw [v]]).length 0,S++[av.cells .rw [v]]++[.cells .rw [i64 i,.sl S.length 0 1 (.ex 1),.nils,.nils]]):=rfl
  rw[eg]
  simp only[ab]
  rw[eb]
  simp only[ag]
  have F:Fr st S (fun j=>j=o):=by rw[← hS];exact Fr.set rfl
  refine ⟨_,rdO s a' e' D,(F.trans (Fr.app (S:=fun j=>j=o)) fun _ _ h=>h).trans (Fr.app (S:=fun j=>j=o)) fun _ _ h=>h,?_,pg,?_,by simp[LV.plain,LV.aB,hv],hR⟩
  ·refine bT (bT ?_)
   rw[← hS];exact List.getElem?_set_self hr.lt
  ·refine .inl ⟨_,.rw,_,rfl,(fR (by simp;omega)).trans aw,rfl,by simp,?_⟩
   simp only[List.length_cons,List.length_nil,List.take_succ_cons,List.take_zero]
   refine ⟨_,_,rfl,rfl,_,_,rfl,.inl ⟨S.length,0,.ex 1,.rw,[v],rfl,(fR (by omega)).trans (bT aw),rfl,by simp,?_⟩,_,_,rfl,.inr (.inr ⟨.inr rfl,rfl,rfl⟩),_,_,rfl,.inr (.inr ⟨.inr rfl,rfl,rfl⟩),rfl⟩
   simp only[List.length_cons,List.length_nil,List.drop_zero,List.take_succ_cons,List.take_zero]
   exact ⟨_,_,rfl,bn _ hv,rfl⟩
 have wrong:∀ {v:LV} {a':Nat} {e':Int},v.plain=true→LV.plain (.iptr [i64 i,.isl [v] 1 none,.isl [] 0 none,.isl [] 0 none] 0)=true:=fun {v a' e'} hv=>by simp[LV.plain,LV.aB,hv]
 by_cases hc:s[a]?=some 40
 ·refine k9 (c:=40) hr hc (by omega) ?_
  have hlt:=(List.getElem?_eq_some_iff.1 hc).1
  have hr1:Rd (st.set o (rdO s (a+1) 0 D)) o s (a+1) 0 D:=hr.set
  have hp:sj d (s.drop a)=match pT d (s.drop (a+1)) with
    | none=>none
    | some (x,r)=>match r with
     | []=>none
     | c::r=>if c=41 then some (x,r) else none:=by
   rw[drop_cons hc,sj];simp only[ne_eq,not_true,if_false]
  refine ih hs (by omega) hr1 (fun t a1 ha1 hpt=>?_) fun hpt v a1 e1 hv hv1 he1 ha1=>?_
  ·rw[List.set_set]
   rw[hpt] at hp
   have hr2:Rd (st.set o (rdO s a1 0 D)) o s a1 0 D:=hr.set
   by_cases hc2:s[a1]?=some 41
   ·refine k9 (c:=41) hr2 hc2 (by omega) ?_
    rw[List.set_set]
    have hlt2:=(List.getElem?_eq_some_iff.1 hc2).1
    refine fin dw rfl rfl ?_
    exact h1 t (a1+1) (by omega) (by rw[hp,drop_cons hc2];simp)
   ·refine nO (c:=41) hr2 hc2 ?_
    rw[List.set_set]
    refine fin dw rfl rfl (h2 ?_ _ _ _ (wrong (a':=0) (e':=0) dw) rfl (by decide) ha1)
    rw[hp]
    cases hd:s.drop a1 with
    | nil=>rfl
    | cons c r=>
     have hx:s[a1]?=some c:=by rw[← bQ,hd];rfl
     have n1:¬ c=41:=fun e=>hc2 (by rw[hx,e])
     simp only[n1,if_false]
  ·rw[List.set_set]
   rw[hpt] at hp
   have hr2:Rd (st.set o (rdO s a1 e1 D)) o s a1 e1 D:=hr.set
   refine ir (c:=41) hr2 he1 ?_
   exact fin hv hv1 rfl (h2 hp _ _ _ (wrong (a':=0) (e':=0) hv) rfl he1 ha1)
 ·refine nO (c:=40) hr hc ?_
  have hr1:Rd (st.set o (rdO s a 4 D)) o s a 4 D:=hr.set
  refine si hr1 (by decide) ?_
  refine ir (c:=41) hr1 (by decide) ?_
  refine fin rfl rfl rfl (h2 ?_ _ _ _ (wrong (a':=0) (e':=0) rfl) rfl (by decide) ha)
  cases hd:s.drop a with
  | nil=>rfl
  | cons c r=>
   have hx:s[a]?=some c:=by rw[← bQ,hd];rfl
   have n1:c≠40:=fun e=>hc (by rw[hx,e])
   simp only[sj,n1,ne_eq,not_false_eq_true,if_true]
end
end Go.Proofs.YtknegckgmklnhaaGreatDoor
