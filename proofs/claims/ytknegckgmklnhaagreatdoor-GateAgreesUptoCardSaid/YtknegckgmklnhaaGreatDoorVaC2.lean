/- Parts of the proof. -/
import Derived.Test.YtknegckgmklnhaaGreatDoorVaK
namespace Go.Proofs.YtknegckgmklnhaaGreatDoor
open Go Go.CP
set_option maxRecDepth 100000
def oh (x:Int):Int:=min (max x (-9007199254740992)) 9007199254740992
def pos (es:List (List UInt8 × T)) (k:List UInt8):Nat:=(es.takeWhile fun e=>Op.bytesLess e.1 k).length
def ins (es:List (List UInt8 × T)) (k:List UInt8) (t:T):List (List UInt8 × T):=
 if (es[pos es k]?).map (·.1)=some k then es else es.take (pos es k)++(k,t)::es.drop (pos es k)
def et (l:List (List UInt8 × T)):List (List UInt8 × T):=l.foldl (fun es e=>ins es e.1 e.2) []
mutual
def cln:RV→T
 | .mk k b n m s l ks=>
  if k=1 then .unknown else if k=2 then .bool b else if k=3 then .int n else if k=4 then .point (oh n) (oh m) else if k=5 then .text s
  else if k=6 then .list (xN l) else if k=7 then .map (et (ks.zip (xN l))) else .null
def xN:List RV→List T
 | []=>[]
 | r::rs=>cln r::xN rs
end
theorem uY:∀ {l:List RV},xN l=l.map cln
 | []=>rfl
 | r::rs=>by simp[xN,uY (l:=rs)]
mutual
def rT:T→RV
 | .null=>.mk 0 false 0 0 [] [] []
 | .unknown=>.mk 1 false 0 0 [] [] []
 | .bool b=>.mk 2 b 0 0 [] [] []
 | .int n=>.mk 3 false n 0 [] [] []
 | .point a b=>.mk 4 false a b [] [] []
 | .text s=>.mk 5 false 0 0 s [] []
 | .list l=>.mk 6 false 0 0 [] (rTs l) []
 | .map es=>.mk 7 false 0 0 [] (rTm es) (es.map (·.1))
def rTs:List T→List RV
 | []=>[]
 | t::ts=>rT t::rTs ts
def rTm:List (List UInt8 × T)→List RV
 | []=>[]
 | e::es=>rT e.2::rTm es
end
theorem tT:∀ {l:List T},rTs l=l.map rT
 | []=>rfl
 | r::rs=>by simp[rTs,tT (l:=rs)]
theorem tU:∀ {l:List (List UInt8 × T)},rTm l=l.map fun e=>rT e.2
 | []=>rfl
 | r::rs=>by simp[rTm,tU (l:=rs)]
theorem uZ {a b:List RV}:rcs (a++b)=rcs a++rcs b:=by simp[qv]
theorem kG:∀ {l:List RV} {n:Nat},(rcs l).take (n*7)=rcs (l.take n)
 | [],n=>by simp[rcs]
 | r::rs,0=>by simp[rcs]
 | r::rs,n+1=>by
  rw[rcs,List.take_succ_cons,rcs,show (n+1)*7=(rc r).length+n*7 by rw[ga];omega,List.take_length_add_append,kG]
theorem kH:∀ {l:List RV} {n:Nat},(rcs l).drop (n*7)=rcs (l.drop n)
 | [],n=>by simp[rcs]
 | r::rs,0=>by simp
 | r::rs,n+1=>by
  rw[rcs,List.drop_succ_cons,show (n+1)*7=(rc r).length+n*7 by rw[ga];omega,List.drop_length_add_append,kH]
theorem tV {r:RV}:(rc r).all LV.one=true:=by rw[kF];rfl
theorem qx:∀ {l:List RV},(rcs l).all LV.one=true
 | []=>rfl
 | r::rs=>by rw[rcs,List.all_append,tV,qx];rfl
abbrev z7:List LV:=[.int .i64 0,.bool false,.int .i64 0,.int .i64 0,.str [],.nils,.nils]
theorem zV {x:RV}:aV (fun i=>some (i*7,7)) (List.replicate 1 z7).flatten [(0,vR x)]=some (rc x):=by cases x;rfl
theorem xO {st:aa} {o:Nat} {l:List LV} (h:st[o]?=some (.cells .rw l)) (hl:l.length=7):ldA st (.ptr o 0) 7=some (.agg l):=by
 rw[eE h (by omega)]
 congr 2
 rw[List.drop_zero,List.take_of_length_le (by omega)]
theorem xP {st:aa} {o:Nat} {l vs:List LV} (h:st[o]?=some (.cells .rw l)) (hl:l.length=7) (hv:vs.length=7) (h1:vs.all LV.one=true):stV st 7 (.ptr o 0) (.agg vs)=some (st.set o (.cells .rw vs)):=by
 have h:=dE (k:=0) (n:=7) h (by omega) h1 hv
 refine h.trans ?_
 congr 3
 simp only[bu,List.take_zero,aR,av]
 rw[dw (by omega),List.append_nil]
theorem qy {f:Option Nat} {sz n:Nat}:(osl f sz n).one=true:=by cases f<;>rfl
theorem qz {st:aa} {o sz:Nat} {cs:List LV} (ho:st[o]?=some (.cells .rw cs)) (h:cs.length=1*sz):fT st sz (.sl o 0 1 (.ex 1))=some (1,cs):=by
 simp only[fT,ho]
 rw[if_pos (by omega),List.drop_zero,List.take_of_length_le (by omega)]
theorem qA {st:aa} {sz:Nat} {cs:List LV} (h:cs.length=1*sz):fT (st++[.cells .rw cs]) sz (.sl st.length 0 1 (.ex 1))=some (1,cs):=qz bq h
theorem xQ {r:RV} (hr:r.ok) (hrec:∀ x ∈ r.l,Pu Tryz.prog 27 [vR x] (vR (rT (cln x)))) {R:LV→aa→Prop} {o1 o2 o3:Nat} (_h12:o1≠o2) (h13:o1≠o3) (h23:o2≠o3) {x5 x6 x7:LV} {z:List LV} (hz:z.length=7)
  (hR:∀ v s,dp s (vR (.mk 6 false 0 0 [] (r.l.map fun x=>rT (cln x)) [])) v→R v s) :
  ∀ (d i:Nat) (f:Option Nat) (st:aa),i+d=r.l.length→dC st o1 r→st[o2]?=some (.cells .rw z)→st[o3]?=some (.cells .rw [i64 6,.bool false,i64 0,i64 0,.str [],osl f 7 i,.nils])→
   bS .rw st f 7 i (rcs ((r.l.take i).map fun x=>rT (cln x)))→(∀ o,f=some o→o≠o1∧o≠o2∧o≠o3)→uQ (.ptr o1 0) (.ptr o2 0) (.ptr o3 0) (i64 i) x5 x6 x7 R st:=by
 intro d
 induction d with
 | zero=>
  intro i f st hi hb h2 h3 ho hf
  apply zS
  have:¬ ((i:Int)<r.l.length):=by omega
  have hi':i=r.l.length:=by omega
  have e1:=xO h3 rfl
  have e2:=xP (vs:=[i64 6,.bool false,i64 0,i64 0,.str [],osl f 7 i,.nils]) h2 hz rfl (by cases f<;>rfl)
  have e3:=xO (st:=st.set o2 (.cells .rw [i64 6,.bool false,i64 0,i64 0,.str [],osl f 7 i,.nils])) (cN h2) rfl
  simp only[uS,aP,av,ad,hb.l,bj,aq,aY,bD,e1,e2,aB,aj,e3]
  refine ⟨fun h=>absurd h this,fun _=>hR _ _ ?_⟩
  have ho':=ho.fr (st':=st.set o2 (.cells .rw [i64 6,.bool false,i64 0,i64 0,.str [],osl f 7 i,.nils])) (S:=fun j=>j=o2) (Fr.set rfl) (fun o e=>(hf o e).2.1)
  rw[List.take_of_length_le (by omega)] at ho'
  have hd:=iB ho' rfl (bx _ iW)
  subst hi'
  refine ⟨_,rfl,_,_,rfl,rfl,_,_,rfl,rfl,_,_,rfl,rfl,_,_,rfl,rfl,_,_,rfl,rfl,_,_,rfl,?_,_,_,rfl,.inr (.inr ⟨.inr rfl,rfl,rfl⟩),rfl⟩
  rw[cb];exact hd
 | succ d ih=>
  intro i f st hi hb h2 h3 ho hf
  apply zS
  have hlt:i<r.l.length:=by omega
  have hx:r.l[i]?=some r.l[i]:=ba hlt
  have hp:=hrec _ (List.getElem_mem hlt)
  generalize r.l[i]=x at hx hp
  have e1:bF 7 (rL r.l) (i64 i)=some (.iptr (rcs r.l) (i*7)):=dj hlt
  have e2:ld1 st (.ptr o3 5)=some (osl f 7 i):=by rw[dr h3];rfl
  have hbig:=(RV.qw hr).1
  have e2':ld1 (st++[.cells .rw (rc (rT (cln x)))]) (.ptr o3 5)=some (osl f 7 i):=by rw[dr (cF h3)];rfl
  have ho1:=ho.fr (st':=st++[.cells .rw (rc (rT (cln x)))]) (S:=fun _=>False) Fr.app (fun _ _ h=>h)
  obtain ⟨st2,f2,g1,g2,g3,g4,-⟩:=ho1.append (x:=.sl st.length 0 1 (.ex 1)) (k:=1) (new:=rc (rT (cln x))) (bytes:=96) (qA (by rw[ga])) (by omega) (by rw[ga]) tV (eo (by unfold big at hbig;omega) (by omega))
  have hlt1:=b6 (show st[o1]?=some _ from hb)
  have hlt2:=b6 h2
  have hlt3:=b6 h3
  have nf:∀ o,f=some o→¬ (o=o1∨o=o2∨o=o3):=fun o e h=>by have:=hf o e;rcases h with h|h|h<;>simp_all
  have kept:∀ {j:Nat} {y:al},st[j]?=some y→(j=o1∨j=o2∨j=o3)→st2[j]?=some y:=fun {j y} hy hj=>g3.get (cF hy) (fun e=>nf j e hj)
  have k3:=kept h3 (.inr (.inr rfl))
  have e4:stV st2 1 (.ptr o3 5) (osl f2 7 (i+1))=some (st2.set o3 (.cells .rw [i64 6,.bool false,i64 0,i64 0,.str [],osl f2 7 (i+1),.nils])):=by
   rw[eY k3 (by simp) qy];rfl
  simp only[uS,aP,av,ad,hb.l,bj,aq,aY,bD,e1,iX hx,e2]
  refine ⟨fun _=>hp.call ⟨e2,?_⟩,fun h=>absurd (by omega:(i:Int)<r.l.length) h⟩
  rw[zV]
  simp only[eD,aj,e2',g1,true_and,ad,e4,aB,bI,bR (show i<2 ^ 40 by unfold big at hbig;omega)]
  have hf2:∀ o,f2=some o→o≠o1∧o≠o2∧o≠o3:=fun o e=>by
   rcases g4 o e with h|h
   ·exact hf o h
   ·simp at h;omega
  refine ih (i+1) f2 _ (by omega) ?_ ?_ ?_ ?_ hf2
  ·exact (fy (Ne.symm h13)).trans (kept hb (.inl rfl))
  ·exact (fy (Ne.symm h23)).trans (kept h2 (.inr (.inl rfl)))
  ·exact cN k3
  ·have e5:(r.l.take (i+1)).map (fun x=>rT (cln x))=(r.l.take i).map (fun x=>rT (cln x))++[rT (cln x)]:=by
    rw[List.take_add_one,hx];simp
   rw[e5,uZ,show rcs [rT (cln x)]=rc (rT (cln x)) by simp[rcs]]
   exact g2.fr (S:=fun j=>j=o3) (Fr.set rfl) (fun o e=>(hf2 o e).2.2)
structure sj (st:aa) (r:RV) (o1 o2 o5:Nat) (z:List LV) (fL fK:Option Nat) (es:List (List UInt8 × T)):Prop where
 b:dC st o1 r
 h2:st[o2]?=some (.cells .rw z)
 h5:st[o5]?=some (.cells .rw [i64 7,.bool false,i64 0,i64 0,.str [],osl fL 7 es.length,osl fK 1 es.length])
 oL:bS .rw st fL 7 es.length (rcs (es.map fun e=>rT e.2))
 oK:bS .rw st fK 1 es.length (es.map fun e=>.str e.1)
 nL:∀ o,fL=some o→o≠o1∧o≠o2∧o≠o5
 nK:∀ o,fK=some o→o≠o1∧o≠o2∧o≠o5
abbrev Ext (st st':aa):Prop:=Fr st st' (fun _=>False)
theorem Ext.more {st s s':aa} (h:Ext st s) (y:al) (e:s'=s++[y]):Ext st s':=by subst e;exact h.trans Fr.app fun _ _ h=>h
theorem Ext.late {st s s':aa} {a:Nat} (h:Ext st s) (h':Fr s s' (fun j=>j=a)) (ha:st.length≤a):Ext st s':=h.trans h' fun j hj e=>by omega
theorem Ext.own {st s:aa} {f:Option Nat} {sz n:Nat} {cs:List LV} (h:Ext st s) (ho:bS .rw st f sz n cs):bS .rw s f sz n cs:=ho.fr h fun _ _ k=>k
theorem Ext.get {st s:aa} {o:Nat} {y:al} (h:Ext st s) (ho:st[o]?=some y):s[o]?=some y:=Fr.get h ho fun k=>k
theorem kI {st:aa} {f:Option Nat} {sz n:Nat} {cs:List LV} (h:bS .rw st f sz n cs):f=none→n=0:=fun e=>by subst e;exact h.2
theorem sk {l:List (List UInt8 × T)}:(l.map fun e=>LV.str e.1).all LV.one=true:=by
 rw[List.all_eq_true];intro x hx;obtain ⟨e,_,rfl⟩:=List.mem_map.1 hx;rfl
theorem t27 {st0:aa} {r:RV} {o1 o2 o5:Nat} {z:List LV} {fL fK:Option Nat} {es:List (List UInt8 × T)} (hI:sj st0 r o1 o2 o5 z fL fK es) (h15:o1≠o5) (h25:o2≠o5) {i:Nat} {x:RV} (hx:r.l[i]?=some x) (hl:r.l.length≤big)
  (hp:Pu Tryz.prog 27 [vR x] (vR (rT (cln x)))) {k:List UInt8} {p:Nat} (hpl:p≤es.length) (hb:es.length≤big) {st:aa} {g:LV} {a:Nat} (hE:Ext st0 st) (ha:st0.length≤a)
  (hg:Gr st a g 1 (p+1) ((es.map fun e=>LV.str e.1).take (p*1)++[.str k])) {x3 x4:LV} {R:LV→aa→Prop}
  (next:∀ st' fL' fK' x7,sj st' r o1 o2 o5 z fL' fK' (es.take p++(k,cln x)::es.drop p)→kD (.ptr o1 0) (.ptr o2 0) x3 x4 (.ptr o5 0) (i64 (i+1:Nat)) x7 R st') :
  T27 (.ptr o1 0) (.ptr o2 0) x3 x4 (.ptr o5 0) (i64 i) (i64 p) R g st:=by
 have hlt:=(List.getElem?_eq_some_iff.1 hx).1
 have n1:=b6 (show st0[o1]?=_ from hI.b)
 have n2:=b6 hI.h2
 have n5:=b6 hI.h5
 have hal:=hg.lt
 have hst:=hE.len
 obtain ⟨y1,r1,q1⟩:=uX (f:=fL) (sz:=7) (n:=es.length) (k:=p) (by omega) hpl (kI hI.oL)
 obtain ⟨y2,r2,q2⟩:=pe (f:=fK) (sz:=1) (n:=es.length) (k:=p) (by omega) hpl (kI hI.oK)
 obtain ⟨y3,r3,q3⟩:=pe (f:=fL) (sz:=7) (n:=es.length) (k:=p) (by omega) hpl (kI hI.oL)
 have e1:bF 7 (rL r.l) (i64 i)=some (.iptr (rcs r.l) (i*7)):=dj hlt
 -- the values ahead
 have E1:Ext st0 (st++[.cells .rw []]):=hE.more _ rfl
 have l1:(st++[al.cells .rw []]).length=st.length+1:=by simp
 have rm:∀ {j b:Nat},j≤es.length+2→b≤256→dn j b=true:=fun {j b} h h'=>eo (by unfold big at hb;omega) h'
 obtain ⟨s2,A2,b2,a1,a2,a3,a4⟩:=(Gr.new (st:=st) (sz:=7)).append (bytes:=96) (q1 (E1.own hI.oL)) (by rw[kG,uV];simp;omega) (by rw[kG];exact qx) (rm (by omega) (by omega))
 have E2:Ext st0 s2:=E1.late a3 (by omega)
 have l2:=a3.len
 have hb2:=a2.lt
 -- the new value
 have G3:=a2.fr (st':=s2++[.cells .rw (rc (rT (cln x)))]) (S:=fun _=>False) Fr.app (fun h=>h)
 have E3:Ext st0 (s2++[.cells .rw (rc (rT (cln x)))]):=E2.more _ rfl
 have l3:(s2++[al.cells .rw (rc (rT (cln x)))]).length=s2.length+1:=by simp
 obtain ⟨s4,A4,b4,c1,c2,c3,c4⟩:=G3.append (bytes:=96) (qA (st:=s2) (sz:=7) (cs:=rc (rT (cln x))) (by rw[ga])) (by rw[ga]) tV (rm (by omega) (by omega))
 have E4:Ext st0 s4:=E3.late c3 (by omega)
 have l4:=c3.len
 have hb4:=c2.lt
 -- the keys behind
 have g1:Gr s4 a g 1 (p+1) _:=(((hg.fr (S:=fun _=>False) Fr.app (fun h=>h)).fr a3 (by omega)).fr (S:=fun _=>False) (Fr.app (y:=.cells .rw (rc (rT (cln x))))) (fun h=>h)).fr c3 (by omega)
 obtain ⟨s5,A5,a5,d1,d2,d3,d4⟩:=g1.append (bytes:=16) (q2 (E4.own hI.oK)) (by simp) (by rw[List.all_eq_true];intro x hx;exact List.all_eq_true.1 sk x (List.mem_of_mem_drop hx)) (rm (by omega) (by omega))
 have E5:Ext st0 s5:=E4.late d3 (by omega)
 have l5:=d3.len
 have ha5:=d2.lt
 obtain ⟨w1,w2⟩:=d2.own (by omega)
 subst w1
 have g4:Gr s5 b4 A4 7 _ _:=c2.fr d3 (by omega)
 have k5:=E5.get hI.h5
 have f1:stV s5 1 (.ptr o5 6) (osl (some a5) 1 (p+1+(es.length-p)))=some (s5.set o5 (.cells .rw [i64 7,.bool false,i64 0,i64 0,.str [],osl fL 7 es.length,osl (some a5) 1 (p+1+(es.length-p))])):=by
  rw[eY k5 (by simp) qy];rfl
 have F6:Fr s5 (s5.set o5 (.cells .rw [i64 7,.bool false,i64 0,i64 0,.str [],osl fL 7 es.length,osl (some a5) 1 (p+1+(es.length-p))])) (fun j=>j=o5):=Fr.set rfl
 have k6:=cN (y:=al.cells .rw [i64 7,.bool false,i64 0,i64 0,.str [],osl fL 7 es.length,osl (some a5) 1 (p+1+(es.length-p))]) k5
 have l6:=F6.len
 generalize s5.set o5 _=s6 at f1 F6 k6 l6
 have g5:=g4.fr F6 (by omega)
 have o6:=(E5.own hI.oL).fr F6 (fun o e=>(hI.nL o e).2.2)
 obtain ⟨s7,A7,b7,t1,t2,t3,t4⟩:=g5.append (bytes:=96) (q3 o6) (by rw[kH,uV];simp) (by rw[kH];exact qx) (rm (by omega) (by omega))
 have l7:=t3.len
 have hb7:=t2.lt
 obtain ⟨w3,w4⟩:=t2.own (by omega)
 subst w3
 have k7:=t3.get k6 (by omega)
 have f2:stV s7 1 (.ptr o5 5) (osl (some b7) 7 (0+p+1+(es.length-p)))=some (s7.set o5 (.cells .rw [i64 7,.bool false,i64 0,i64 0,.str [],osl (some b7) 7 (0+p+1+(es.length-p)),osl (some a5) 1 (p+1+(es.length-p))])):=by
  rw[eY k7 (by simp) qy];rfl
 have F8:Fr s7 (s7.set o5 (.cells .rw [i64 7,.bool false,i64 0,i64 0,.str [],osl (some b7) 7 (0+p+1+(es.length-p)),osl (some a5) 1 (p+1+(es.length-p))])) (fun j=>j=o5):=Fr.set rfl
 have k8:=cN (y:=al.cells .rw [i64 7,.bool false,i64 0,i64 0,.str [],osl (some b7) 7 (0+p+1+(es.length-p)),osl (some a5) 1 (p+1+(es.length-p))]) k7
 generalize s7.set o5 _=s8 at f2 F8 k8
 rw[av] at f2
 have v5:∀ {s:aa},Ext st0 s→ld1 s (.ptr o5 5)=some (osl fL 7 es.length):=fun h=>by rw[dr (h.get hI.h5)];rfl
 have v6:∀ {s:aa},Ext st0 s→ld1 s (.ptr o5 6)=some (osl fK 1 es.length):=fun h=>by rw[dr (h.get hI.h5)];rfl
 have v15:∀ {s:aa},Ext st0 s→ld1 s (.ptr o1 5)=some (rL r.l):=fun h=>dC.l (h.get hI.b)
 have v65:ld1 s6 (.ptr o5 5)=some (osl fL 7 es.length):=by rw[dr k6];rfl
 have ef:∀ {z:List LV},aV (fun i=>some (i*7,7)) (List.replicate 0 z).flatten []=some []:=rfl
 simp only[T27,aP,av,ad,v5 hE,xL,r1,v15 hE,e1,iX hx,ef,eD,aj,true_and,v15 E1,v5 E1,a1,v15 E2]
 refine hp.call ?_
 rw[zV]
 simp only[eD,aj,c1,av,ad,v6 E4,xM,r2,d1,f1,aB,v65,r3,t1,f2,aq,bI,bR (show i<2 ^ 40 by unfold big at hl;omega)]
 have en:(es.take p++(k,cln x)::es.drop p).length=es.length+1:=by simp;omega
 have m1:0+p+1+(es.length-p)=es.length+1:=by omega
 have m2:p+1+(es.length-p)=es.length+1:=by omega
 rw[m1] at k8 w4
 rw[m2] at k8 w2
 have hb7':b7≠o5:=by omega
 refine next s8 (some b7) (some a5) _ ⟨?_,?_,by rw[en];exact k8,?_,?_,?_,?_⟩
 ·exact F8.get (t3.get (F6.get (E5.get hI.b) h15) (by omega)) h15
 ·exact F8.get (t3.get (F6.get (E5.get hI.h2) h25) (by omega)) h25
 ·rw[en]
  refine bS.fr ?_ F8 (by rintro o ⟨⟩;exact hb7')
  have:rcs ((es.take p++(k,cln x)::es.drop p).map fun e=>rT e.2)=([]++(rcs (es.map fun e=>rT e.2)).take (p*7)++rc (rT (cln x)))++(rcs (es.map fun e=>rT e.2)).drop (p*7):=by
   rw[kG,kH,List.map_append,List.map_cons,uZ,rcs,List.map_take,List.map_drop]
   simp
  rw[this];exact w4
 ·rw[en]
  have w2':=((w2.fr F6 (by rintro o ⟨⟩;omega)).fr t3 (by rintro o ⟨⟩;omega)).fr F8 (by rintro o ⟨⟩;omega)
  have:((es.take p++(k,cln x)::es.drop p).map fun e=>LV.str e.1)=((es.map fun e=>LV.str e.1).take (p*1)++[.str k])++(es.map fun e=>LV.str e.1).drop (p*1):=by
   rw[Nat.mul_one,List.map_append,List.map_cons,List.map_take,List.map_drop];simp
  rw[this];exact w2'
 ·rintro o ⟨⟩;omega
 ·rintro o ⟨⟩;omega
theorem i27 {st:aa} {r:RV} {o1 o2 o5:Nat} {z:List LV} {fL fK:Option Nat} {es:List (List UInt8 × T)} (hI:sj st r o1 o2 o5 z fL fK es) (h15:o1≠o5) (h25:o2≠o5) {i:Nat} {x:RV} (hx:r.l[i]?=some x) (hl:r.l.length≤big)
  (hp:Pu Tryz.prog 27 [vR x] (vR (rT (cln x)))) {k:List UInt8} (hk:r.ks[i]?=some k) {p:Nat} (hpl:p≤es.length) (hb:es.length≤big) {x3 x4:LV} {R:LV→aa→Prop}
  (next:∀ st' fL' fK' x7,sj st' r o1 o2 o5 z fL' fK' (es.take p++(k,cln x)::es.drop p)→kD (.ptr o1 0) (.ptr o2 0) x3 x4 (.ptr o5 0) (i64 (i+1:Nat)) x7 R st') :
  I27 (.ptr o1 0) (.ptr o2 0) x3 x4 (.ptr o5 0) (i64 i) (i64 p) R st:=by
 have hlt:=(List.getElem?_eq_some_iff.1 hk).1
 obtain ⟨y1,r1,q1⟩:=uX (f:=fK) (sz:=1) (n:=es.length) (k:=p) (by omega) hpl (kI hI.oK)
 have e1:bF 1 (sI r.ks) (i64 i)=some (.iptr (r.ks.map .str) (i*1)):=dj hlt
 have hks:(r.ks.map LV.str)[i*1]?=some (.str k):=by simp[hk]
 have v6:∀ {s:aa},Ext st s→ld1 s (.ptr o5 6)=some (osl fK 1 es.length):=fun h=>by rw[dr (h.get hI.h5)];rfl
 have v16:∀ {s:aa},Ext st s→ld1 s (.ptr o1 6)=some (sI r.ks):=fun h=>dC.ks (h.get hI.b)
 have rm:∀ {j:Nat},j≤es.length+2→dn j 16=true:=fun {j} h=>eo (by unfold big at hb;omega) (by omega)
 have ef:∀ {z:List LV},aV (fun i=>some (i*1,1)) (List.replicate 0 z).flatten []=some []:=rfl
 have ek:aV (fun i=>some (i*1,1)) (List.replicate 1 [LV.str []]).flatten [(0,.str k)]=some [.str k]:=rfl
 have ln:((es.map fun e=>LV.str e.1).take (p*1)).length=p*1:=by simp;omega
 have on:((es.map fun e=>LV.str e.1).take (p*1)).all LV.one=true:=by rw[List.all_eq_true];intro x hx;exact List.all_eq_true.1 sk x (List.mem_of_mem_take hx)
 have R0:Ext st st:=Fr.refl
 have la:∀ {s:aa} {y:al},(s++[y]).length=s.length+1:=by simp
 simp only[I27,aP,av,ad,v6 R0,xL,r1,v16 R0,e1,fD,hks,ek,ef,eD,aj,true_and]
 refine ⟨?_,?_⟩
 ·have E1:Ext st (st++[.cells .rw [.str k]]):=R0.more _ rfl
  have E2:Ext st (st++[.cells .rw [.str k]]++[.cells .rw []]):=E1.more _ rfl
  obtain ⟨s3,A3,a3,c1,c2,c3,c4⟩:=(Gr.new (st:=st++[.cells .rw [.str k]]) (sz:=1)).append (bytes:=16) (q1 (E2.own hI.oK)) ln on (rm (by omega))
  have g3:s3[st.length]?=some (.cells .rw [.str k]):=c3.get (cF bq) (by simp)
  have E3:Ext st s3:=E2.late c3 (by simp)
  obtain ⟨s4,A4,a4,d1,d2,d3,d4⟩:=c2.append (bytes:=16) (qz (sz:=1) g3 rfl) rfl rfl (rm (by omega))
  simp only[v6 E1,v16 E2,v6 E2,true_and,c1,aj,v16 E3,d1]
  have hc3:=c3.len
  simp only[la] at hc3
  have hc4:st.length≤a3:=by rcases c4 with h|h<;>(try simp only[la] at h)<;>omega
  refine t27 hI h15 h25 hx hl hp hpl hb (E3.late d3 hc4) (a:=a4) (by rcases d4 with h|h<;>omega) ?_ next
  rw[show p+1=0+p+1 by omega];simpa using d2
 have E1:Ext st (st++[.cells .rw []]):=R0.more _ rfl
 simp only[v16 E1,v6 E1,true_and]
 refine ⟨?_,?_⟩
 ·have E2:Ext st (st++[.cells .rw []]++[.cells .rw [.str k]]):=E1.more _ rfl
  obtain ⟨s3,A3,a3,c1,c2,c3,c4⟩:=((Gr.new (st:=st) (sz:=1)).fr (st':=st++[.cells .rw []]++[.cells .rw [.str k]]) (S:=fun _=>False) Fr.app (fun h=>h)).append (bytes:=16) (q1 (E2.own hI.oK)) ln on (rm (by omega))
  have g3:s3[(st++[al.cells .rw []]).length]?=some (.cells .rw [.str k]):=c3.get bq (by simp)
  have E3:Ext st s3:=E2.late c3 (by simp)
  obtain ⟨s4,A4,a4,d1,d2,d3,d4⟩:=c2.append (bytes:=16) (qz (sz:=1) g3 rfl) rfl rfl (rm (by omega))
  simp only[v6 E2,true_and,c1,aj,v16 E3,d1]
  have hc3:=c3.len
  simp only[la] at hc3
  have hc4:st.length≤a3:=by rcases c4 with h|h<;>(try simp only[la] at h)<;>omega
  refine t27 hI h15 h25 hx hl hp hpl hb (E3.late d3 hc4) (a:=a4) (by rcases d4 with h|h<;>omega) ?_ next
  rw[show p+1=0+p+1 by omega];simpa using d2
 ·obtain ⟨s3,A3,a3,c1,c2,c3,c4⟩:=(Gr.new (st:=st) (sz:=1)).append (bytes:=16) (q1 (E1.own hI.oK)) ln on (rm (by omega))
  have E3:Ext st s3:=E1.late c3 (by simp)
  have E4:Ext st (s3++[.cells .rw [.str k]]):=E3.more _ rfl
  obtain ⟨s4,A4,a4,d1,d2,d3,d4⟩:=(c2.fr (st':=s3++[.cells .rw [.str k]]) (S:=fun _=>False) Fr.app (fun h=>h)).append (bytes:=16) (qz (sz:=1) (o:=s3.length) bq rfl) rfl rfl (rm (by omega))
  simp only[v6 E4,true_and,c1,aj,v16 E3,d1]
  have hc3:=c3.len
  simp only[la] at hc3
  have hc4:st.length≤a3:=by rcases c4 with h|h<;>(try simp only[la] at h)<;>omega
  refine t27 hI h15 h25 hx hl hp hpl hb (E4.late d3 hc4) (a:=a4) (by rcases d4 with h|h<;>(try simp only[la] at h)<;>omega) ?_ next
  rw[show p+1=0+p+1 by omega];simpa using d2
theorem sn {x y:List UInt8}:sM .lss x y=some (.bool (Op.bytesLess x y)):=rfl
theorem xR {es:List (List UInt8 × T)} {k:List UInt8}:pos es k≤es.length:=by
 unfold pos
 exact (List.takeWhile_sublist _).length_le
theorem gd {α:Type} {q:α→Bool}:∀ {l:List α} {j:Nat} {x:α},j<(l.takeWhile q).length→l[j]?=some x→q x=true
 | [],j,x,h,_=>by simp at h
 | a::l,j,x,h,hx=>by
  by_cases ha:q a=true
  ·rw[List.takeWhile_cons_of_pos ha] at h
   cases j with
   | zero=>simp at hx;subst hx;exact ha
   | succ j=>exact gd (l:=l) (by simpa using h) (by simpa using hx)
  ·rw[List.takeWhile_cons_of_neg ha] at h;simp at h
theorem fH {α:Type} {q:α→Bool}:∀ {l:List α} {x:α},l[(l.takeWhile q).length]?=some x→q x=false
 | [],x,hx=>by simp at hx
 | a::l,x,hx=>by
  by_cases ha:q a=true
  ·rw[List.takeWhile_cons_of_pos ha] at hx
   exact fH (l:=l) (by simpa using hx)
  ·rw[List.takeWhile_cons_of_neg ha] at hx
   simp at hx;subst hx;simpa using ha
theorem Ce {st:aa} {r:RV} {o1 o2 o5:Nat} {z:List LV} {fL fK:Option Nat} {es:List (List UInt8 × T)} (hI:sj st r o1 o2 o5 z fL fK es) (h15:o1≠o5) (h25:o2≠o5) {i:Nat} {x:RV} (hx:r.l[i]?=some x) (hl:r.l.length≤big)
  (hp:Pu Tryz.prog 27 [vR x] (vR (rT (cln x)))) {k:List UInt8} (hk:r.ks[i]?=some k) (hb:es.length≤big) {x3 x4:LV} {R:LV→aa→Prop}
  (next:∀ st' fL' fK' x7,sj st' r o1 o2 o5 z fL' fK' (ins es k (cln x))→kD (.ptr o1 0) (.ptr o2 0) x3 x4 (.ptr o5 0) (i64 (i+1:Nat)) x7 R st') :
  ∀ (d j:Nat),j+d=pos es k→uR (.ptr o1 0) (.ptr o2 0) x3 x4 (.ptr o5 0) (i64 i) (i64 j) R st:=by
 have hlt:=(List.getElem?_eq_some_iff.1 hk).1
 have hlt':=(List.getElem?_eq_some_iff.1 hx).1
 have hpl:=xR (es:=es) (k:=k)
 have e1:bF 1 (sI r.ks) (i64 i)=some (.iptr (r.ks.map .str) (i*1)):=dj hlt
 have hks:(r.ks.map LV.str)[i*1]?=some (.str k):=by simp[hk]
 have v6:ld1 st (.ptr o5 6)=some (osl fK 1 es.length):=by rw[dr hI.h5];rfl
 have v16:ld1 st (.ptr o1 6)=some (sI r.ks):=dC.ks hI.b
 have at_:∀ {j:Nat} {e:List UInt8 × T},es[j]?=some e→∃ o,bF 1 (osl fK 1 es.length) (i64 j)=some (.ptr o (j*1))∧ld1 st (.ptr o (j*1))=some (.str e.1):=by
  intro j e hj
  have hj':=(List.getElem?_eq_some_iff.1 hj).1
  obtain ⟨o,rfl,h1⟩:=hI.oK.ix (i:=j) (kk:=.i64) (by omega) (by omega)
  refine ⟨o,by simpa using h1,hI.oK.ld ?_⟩
  simp[hj]
 intro d
 induction d with
 | zero=>
  intro j hj
  have hj':j=pos es k:=by omega
  apply zU
  rcases Nat.lt_or_ge j es.length with hlen|hlen
  ·obtain ⟨e,hje⟩:∃ e,es[j]?=some e:=⟨_,ba hlen⟩
   obtain ⟨o,g1,g2⟩:=at_ hje
   have hst:Op.bytesLess e.1 k=false:=fH (q:=fun e:List UInt8 × T=>Op.bytesLess e.1 k) (l:=es) (x:=e) (by rw[hj'] at hje;exact hje)
   have c1:((j:Int)<es.length):=by omega
   simp only[se,aP,av,ad,v6,hI.oK.bg,aq,aY,c1,dT,aH,g1,g2,v16,e1,fD,hks,gv,sn,hst,aA,kf]
   rw[bA]
   refine ⟨fun h=>?_,fun h=>?_⟩
   ·have he:e.1=k:=by simpa using h
    simp only[bI,ad,bR (show i<2 ^ 40 by unfold big at hl;omega)]
    refine next _ fL fK _ ?_
    unfold ins
    rw[if_pos (by rw[← hj',hje];simp[he])]
    exact hI
   ·have he:e.1≠k:=by simpa using h
    refine i27 hI h15 h25 hx hl hp hk (by omega) hb fun st' fL' fK' x7 h=>next st' fL' fK' x7 ?_
    unfold ins
    rw[if_neg (by rw[← hj',hje];simp[he]),← hj']
    exact h
  ·have c1:¬ ((j:Int)<es.length):=by omega
   simp only[se,aP,av,ad,v6,hI.oK.bg,aq,aY,c1,ft,aA]
   refine i27 hI h15 h25 hx hl hp hk (by omega) hb fun st' fL' fK' x7 h=>next st' fL' fK' x7 ?_
   unfold ins
   rw[if_neg (by rw[← hj',List.getElem?_eq_none (by omega)];simp),← hj']
   exact h
 | succ d ih=>
  intro j hj
  have hlen:j<es.length:=by omega
  obtain ⟨e,hje⟩:∃ e,es[j]?=some e:=⟨_,ba hlen⟩
  obtain ⟨o,g1,g2⟩:=at_ hje
  have hst:Op.bytesLess e.1 k=true:=gd (q:=fun e:List UInt8 × T=>Op.bytesLess e.1 k) (l:=es) (j:=j) (by show j<pos es k;omega) hje
  have c1:((j:Int)<es.length):=by omega
  apply zU
  simp only[se,aP,av,ad,v6,hI.oK.bg,aq,aY,c1,dT,aH,g1,g2,v16,e1,fD,hks,gv,sn,hst,bI,bR (show j<2 ^ 40 by unfold big at hb;omega)]
  exact ih (j+1) (by omega)
theorem zb {es:List (List UInt8 × T)} {k:List UInt8} {t:T}:(ins es k t).length≤es.length+1:=by
 unfold ins
 have:=xR (es:=es) (k:=k)
 split
 ·omega
 ·simp;omega
theorem so {l:List (List UInt8 × T)} {e:List UInt8 × T}:et (l++[e])=ins (et l) e.1 e.2:=by simp[et]
theorem oi {l:List (List UInt8 × T)}:(et l).length≤l.length:=by
 have h:∀ (l es:List (List UInt8 × T)),(l.foldl (fun es e=>ins es e.1 e.2) es).length≤es.length+l.length:=by
  intro l
  induction l with
  | nil=>intro es;simp
  | cons e l ih=>
   intro es
   have h1:=ih (ins es e.1 e.2)
   have h2:=zb (es:=es) (k:=e.1) (t:=e.2)
   simp only[List.foldl_cons,aN];omega
 have:=h l []
 simpa[et] using this
theorem Cf {r:RV} (hr:r.ok) (hrec:∀ x ∈ r.l,Pu Tryz.prog 27 [vR x] (vR (rT (cln x)))) {R:LV→aa→Prop} {o1 o2 o5:Nat} (_h12:o1≠o2) (h15:o1≠o5) (h25:o2≠o5) {x3 x4:LV} {z:List LV} (hz:z.length=7)
  (hR:∀ v s,dp s (vR (rT (.map (et (r.ks.zip (r.l.map cln)))))) v→R v s) :
  ∀ (d i:Nat) (fL fK:Option Nat) (st:aa) (x7:LV),i+d=min r.l.length r.ks.length→sj st r o1 o2 o5 z fL fK (et ((r.ks.zip (r.l.map cln)).take i))→kD (.ptr o1 0) (.ptr o2 0) x3 x4 (.ptr o5 0) (i64 i) x7 R st:=by
 have hbig:=(RV.qw hr).1
 have fin:∀ (i:Nat) (fL fK:Option Nat) (st:aa),i=min r.l.length r.ks.length→sj st r o1 o2 o5 z fL fK (et ((r.ks.zip (r.l.map cln)).take i))→
   bd (ldA st (.ptr o5 0) 7) fun v12=>bd2 (lmk (stV st 7 (.ptr o2 0) v12)) fun _v13 st14=>bd (ldA st14 (.ptr o2 0) 7) fun v15=>R v15 st14:=by
  intro i fL fK st hi hI
  rw[List.take_of_length_le (by simp;omega)] at hI
  have e1:=xO hI.h5 rfl
  generalize et (r.ks.zip (r.l.map cln))=es at hI hR e1
  have e2:=xP (vs:=[i64 7,.bool false,i64 0,i64 0,.str [],osl fL 7 es.length,osl fK 1 es.length]) hI.h2 hz rfl (by cases fL<;>cases fK<;>rfl)
  have e3:=xO (st:=st.set o2 (.cells .rw [i64 7,.bool false,i64 0,i64 0,.str [],osl fL 7 es.length,osl fK 1 es.length])) (cN hI.h2) rfl
  have F:Fr st (st.set o2 (.cells .rw [i64 7,.bool false,i64 0,i64 0,.str [],osl fL 7 es.length,osl fK 1 es.length])) (fun j=>j=o2):=Fr.set rfl
  simp only[e1,ad,e2,aB,aj,e3]
  refine hR _ _ ?_
  have hL:=iB (hI.oL.fr F fun o e=>(hI.nL o e).2.1) rfl (bx _ iW)
  have hK:=iB (hI.oK.fr F fun o e=>(hI.nK o e).2.1) rfl (bx _ (bP fun _ _=>rfl))
  simp only[rT,tU]
  refine ⟨_,rfl,_,_,rfl,rfl,_,_,rfl,rfl,_,_,rfl,rfl,_,_,rfl,rfl,_,_,rfl,rfl,_,_,rfl,?_,_,_,rfl,?_,rfl⟩
  ·rw[cb];exact hL
  ·show dp _ (.isl _ (es.map (·.1)).length none) _
   rw[cb,List.map_map];exact hK
 intro d
 induction d with
 | zero=>
  intro i fL fK st x7 hi hI
  apply zT
  have f:=fin i fL fK st (by omega) hI
  simp only[uT,aP,av,ad,hI.b.l,hI.b.ks,bj,aq,aY,bD]
  refine ⟨fun h1=>⟨fun h2=>?_,fun _=>f⟩,fun _=>f⟩
  omega
 | succ d ih=>
  intro i fL fK st x7 hi hI
  apply zT
  have hl1:i<r.l.length:=by omega
  have hl2:i<r.ks.length:=by omega
  have c1:((i:Int)<r.l.length):=by omega
  have c2:((i:Int)<r.ks.length):=by omega
  simp only[uT,aP,av,ad,hI.b.l,hI.b.ks,bj,aq,aY,c1,c2,dT,aH]
  have hx:r.l[i]?=some r.l[i]:=ba hl1
  have hk:r.ks[i]?=some r.ks[i]:=ba hl2
  have hp:=hrec _ (List.getElem_mem hl1)
  generalize r.l[i]=x at hx hp
  generalize r.ks[i]=k at hk
  have hlen:(et ((r.ks.zip (r.l.map cln)).take i)).length≤big:=by
   have:=oi (l:=(r.ks.zip (r.l.map cln)).take i)
   rw[List.length_take] at this;omega
  refine Ce hI h15 h25 hx hbig hp hk hlen (fun st' fL' fK' x7 h=>ih (i+1) fL' fK' st' x7 (by omega) ?_) _ 0 (av _)
  have e:(r.ks.zip (r.l.map cln)).take (i+1)=(r.ks.zip (r.l.map cln)).take i++[(k,cln x)]:=by
   rw[List.take_add_one]
   have:(r.ks.zip (r.l.map cln))[i]?=some (k,cln x):=by
    rw[List.getElem?_zip_eq_some];simp[hk,hx]
   rw[this];rfl
  rw[e,so];exact h
theorem xS {r:RV}:cln r=if r.k=1 then .unknown else if r.k=2 then .bool r.b else if r.k=3 then .int r.n else if r.k=4 then .point (oh r.n) (oh r.m) else if r.k=5 then .text r.s
  else if r.k=6 then .list (r.l.map cln) else if r.k=7 then .map (et (r.ks.zip (r.l.map cln))) else .null:=by
 cases r;rw[cln,uY];rfl
theorem dpR {s:aa} {r:RV} {a b c d e:LV} (h:rc r=[a,b,c,d,e,.isl [] 0 none,.isl [] 0 none]) (pa:LV.ar [a,b,c,d,e]=true):dp s (vR r) (.agg [a,b,c,d,e,.nils,.nils]):=by
 unfold vR
 rw[h]
 have h0:=bx s pa
 refine ⟨_,rfl,?_⟩
 have h1:dps s [LV.isl [] 0 none,.isl [] 0 none] [.nils,.nils]:=⟨_,_,rfl,.inr (.inr ⟨.inr rfl,rfl,rfl⟩),_,_,rfl,.inr (.inr ⟨.inr rfl,rfl,rfl⟩),rfl⟩
 exact uA h0 h1
theorem xT:∀ {r:RV},r.ok→Pu Tryz.prog 27 [vR r] (vR (rT (cln r))):=fun {r}=>by
 refine RV.ind (p:=fun r=>r.ok→Pu Tryz.prog 27 [vR r] (vR (rT (cln r)))) ?_ _ r (Nat.lt_succ_self _)
 intro r ih hr
 have hrec:∀ x ∈ r.l,Pu Tryz.prog 27 [vR x] (vR (rT (cln x))):=fun x hx=>ih x hx ((RV.qw hr).2 x hx)
 refine Pu.of (c27 _ ?_) gF si
 have hb:dC [al.cells .rw (rc r),.cells .rw z7] 0 r:=rfl
 have h2:([al.cells .rw (rc r),.cells .rw z7]:aa)[1]?=some (.cells .rw z7):=rfl
 have set2:∀ {q:Option LV} {a b c d e:LV},q=some (.agg [a,b,c,d,e,.nils,.nils])→[a,b,c,d,e].all LV.one=true→∀ {Q:LV→aa→Prop},(∀ s,Q (.agg [a,b,c,d,e,.nils,.nils]) s)→
   bd q fun v7=>bd2 (lmk (stV [al.cells .rw (rc r),.cells .rw z7] 7 (.ptr 1 0) v7)) fun _v st9=>bd (ldA st9 (.ptr 1 0) 7) fun v10=>Q v10 st9:=by
  rintro q a b c d e rfl h1 Q hQ
  simp only[ad]
  rw[xP h2 rfl rfl (by simp only[List.all_cons,List.all_nil,Bool.and_true,aF] at h1 ⊢;exact ⟨h1.1,h1.2.1,h1.2.2.1,h1.2.2.2.1,h1.2.2.2.2,rfl,rfl⟩)]
  simp only[aB,aj]
  rw[xO (cN h2) rfl]
  exact hQ _
 simp only[w27,iY,aj,dB,aP,av,ad,aR,List.cons_append,a8,aN]
 simp only[hb.k,hb.b,hb.n,hb.m,hb.s,ad,aq,cP,bA,lD,Bc]
 rw[xS]
 refine ⟨fun h=>?_,fun h=>⟨fun g=>?_,fun g=>⟨fun q=>?_,fun q=>⟨fun w=>?_,fun w=>⟨fun u=>?_,fun u=>⟨fun y=>?_,fun y=>⟨fun x=>?_,fun x=>?_⟩⟩⟩⟩⟩⟩⟩<;>simp only[beq_iff_eq,beq_eq_false_iff_ne,ne_eq] at h<;>try simp only[beq_iff_eq,beq_eq_false_iff_ne,ne_eq] at g
 all_goals try simp only[beq_iff_eq,beq_eq_false_iff_ne,ne_eq] at q
 all_goals try simp only[beq_iff_eq,beq_eq_false_iff_ne,ne_eq] at w
 all_goals try simp only[beq_iff_eq,beq_eq_false_iff_ne,ne_eq] at u
 all_goals try simp only[beq_iff_eq,beq_eq_false_iff_ne,ne_eq] at y
 all_goals try simp only[beq_iff_eq,beq_eq_false_iff_ne,ne_eq] at x
 ·rw[if_pos h]
  exact set2 (Q:=fun v s=>dp s (vR (rT _)) v) rfl rfl fun s=>dpR rfl rfl
 ·rw[if_neg h,if_pos g]
  exact set2 (Q:=fun v s=>dp s (vR (rT _)) v) rfl rfl fun s=>dpR rfl rfl
 ·rw[if_neg h,if_neg g,if_pos q]
  exact set2 (Q:=fun v s=>dp s (vR (rT _)) v) rfl rfl fun s=>dpR rfl rfl
 ·rw[if_neg h,if_neg g,if_neg q,if_pos w]
  exact set2 (Q:=fun v s=>dp s (vR (rT _)) v) rfl rfl fun s=>dpR rfl rfl
 ·rw[if_neg h,if_neg g,if_neg q,if_neg w,if_pos u]
  exact set2 (Q:=fun v s=>dp s (vR (rT _)) v) rfl rfl fun s=>dpR rfl rfl
 ·rw[if_neg h,if_neg g,if_neg q,if_neg w,if_neg u,if_pos y]
  have h3:=xP (st:=[al.cells .rw (rc r),.cells .rw z7,.cells .rw z7]) (o:=2) (l:=z7) (vs:=[i64 6,.bool false,i64 0,i64 0,.str [],.nils,.nils]) rfl rfl rfl rfl
  have e:bG (aV (aQ [(0,1),(1,1),(2,1),(3,1),(4,1),(5,1),(6,1)]) z7 [(0,i64 6)])=some (.agg [i64 6,.bool false,i64 0,i64 0,.str [],.nils,.nils]):=rfl
  simp only[e,h3,ad,aB,aj]
  refine xQ hr hrec (z:=z7) (by decide) (by decide) (by decide) rfl ?_ r.l.length 0 none _ (by omega) rfl rfl rfl bS.nil (fun _ h=>by cases h)
  intro v s hd
  simp only[rT,tT,List.map_map];exact hd
 ·rw[if_neg h,if_neg g,if_neg q,if_neg w,if_neg u,if_neg y,if_pos x]
  have h3:=xP (st:=[al.cells .rw (rc r),.cells .rw z7,.cells .rw z7]) (o:=2) (l:=z7) (vs:=[i64 7,.bool false,i64 0,i64 0,.str [],.nils,.nils]) rfl rfl rfl rfl
  have e:bG (aV (aQ [(0,1),(1,1),(2,1),(3,1),(4,1),(5,1),(6,1)]) z7 [(0,i64 7)])=some (.agg [i64 7,.bool false,i64 0,i64 0,.str [],.nils,.nils]):=rfl
  simp only[e,h3,ad,aB,aj]
  refine Cf hr hrec (z:=z7) (by decide) (by decide) (by decide) rfl ?_ (min r.l.length r.ks.length) 0 none none _ _ (by omega) ⟨rfl,rfl,rfl,bS.nil,bS.nil,(fun _ h=>by cases h),(fun _ h=>by cases h)⟩
  exact fun v s hd=>hd
 ·rw[if_neg h,if_neg g,if_neg q,if_neg w,if_neg u,if_neg y,if_neg x]
  exact set2 (Q:=fun v s=>dp s (vR (rT _)) v) rfl rfl fun s=>dpR rfl rfl
end Go.Proofs.YtknegckgmklnhaaGreatDoor
