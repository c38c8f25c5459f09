/- Parts of the proof. -/
import Derived.Test.YtknegckgmklnhaaGreatDoorVaV6
namespace Go.CP
theorem uN {f:Option Nat} {sz n k:Nat} (hsz:0<sz) (hk:k≤n) (hn:f=none→n=0) :
  ∃ y,(∀ st,cp st sz (osl f sz n) none (some k) none=some y)∧∀ {m0:Md} {st:aa} {cs:List LV},bH m0 st f sz n cs→fF st sz y=some (k,cs.take (k*sz)):=by
 cases f with
 | none=>
  obtain rfl:=hn rfl
  obtain rfl:k=0:=by omega
  refine ⟨.nils,fun st=>rfl,fun {m0 st cs} h=>?_⟩
  simp[fF]
 | some o=>
  refine ⟨.sl o 0 k (.rest sz),fun st=>?_,fun {m0 st cs} h=>?_⟩
  ·simp[osl,cp,nW,kG,hk,hsz]
  ·obtain ⟨rest,h2⟩:=h.2
   have hl:=h.1
   have hle:k*sz≤n*sz:=Nat.mul_le_mul_right _ hk
   simp only[fF,h2]
   rw[if_pos (by simp;omega),List.drop_zero,List.take_append_of_le_length (by omega)]
theorem oO {f:Option Nat} {sz n k:Nat} (hsz:0<sz) (hk:k≤n) (hn:f=none→n=0) :
  ∃ y,(∀ st,cp st sz (osl f sz n) (some k) none none=some y)∧∀ {m0:Md} {st:aa} {cs:List LV},bH m0 st f sz n cs→fF st sz y=some (n-k,cs.drop (k*sz)):=by
 cases f with
 | none=>
  obtain rfl:=hn rfl
  obtain rfl:k=0:=by omega
  refine ⟨.nils,fun st=>rfl,fun {m0 st cs} h=>?_⟩
  have:cs=[]:=by have:=h.1;simp at this;exact this
  simp[fF,this]
 | some o=>
  rcases Nat.eq_zero_or_pos k with rfl|h0
  ·refine ⟨.sl o 0 n (.rest sz),fun st=>?_,fun {m0 st cs} h=>?_⟩
   ·simp[osl,cp,nW,kG,hsz]
   ·obtain ⟨rest,h2⟩:=h.2
    have hl:=h.1
    simp only[fF,h2]
    rw[if_pos (by simp;omega),List.drop_zero,List.take_append_of_le_length (by omega),List.take_of_length_le (by omega)]
    simp
  rcases Nat.lt_or_ge k n with hlt|hge
  ·refine ⟨.sl o (0+k*sz) (n-k) (.rest sz),fun st=>?_,fun {m0 st cs} h=>?_⟩
   ·have h1:¬ k=0:=by omega
    simp[osl,cp,nW,kG,hsz,hk,hlt,h1]
   ·obtain ⟨rest,h2⟩:=h.2
    have hl:=h.1
    have e1:k*sz+(n-k)*sz=n*sz:=by rw[← Nat.add_mul];congr 1;omega
    simp only[fF,h2]
    rw[if_pos (by simp;omega),av,List.drop_append_of_le_length (by omega),List.take_append_of_le_length (by simp;omega),List.take_of_length_le (by simp;omega)]
  ·refine ⟨.emp,fun st=>?_,fun {m0 st cs} h=>?_⟩
   ·have h1:¬ k=0:=by omega
    have h2:¬ k<n:=by omega
    simp[osl,cp,nW,kG,hsz,hk,h1,h2]
   ·have hl:=h.1
    have e1:n-k=0:=by omega
    rw[e1,dy (by rw[hl];exact Nat.mul_le_mul_right _ hge)];rfl
theorem xd {k:Nat} {F:Option Nat→Option Nat→Option Nat→Option LV}:ob3 none (some (.int .i64 (k:Int))) none F=F none (some k) none:=by
 simp[ob3,gK]
theorem xe {k:Nat} {F:Option Nat→Option Nat→Option Nat→Option LV}:ob3 (some (.int .i64 (k:Int))) none none F=F (some k) none none:=by
 simp[ob3,gK]
def Gr (st:aa) (a:Nat) (A:LV) (sz n:Nat) (cs:List LV):Prop:=
 (n=0∧cs=[]∧A=.sl a 0 0 (.ex 0)∧st[a]?=some (.cells .rw []))∨(A=osl (some a) sz n∧bH .rw st (some a) sz n cs)
theorem Gr.lt {st:aa} {a:Nat} {A:LV} {sz n:Nat} {cs:List LV} (h:Gr st a A sz n cs):a<st.length:=by
 rcases h with ⟨_,_,_,h⟩ | ⟨_,h⟩
 ·exact bR h
 ·exact h.lt
theorem Gr.fr {st st':aa} {a:Nat} {A:LV} {sz n:Nat} {cs:List LV} (h:Gr st a A sz n cs) {S:Nat→Prop} (hf:Fr st st' S) (hs:¬ S a):Gr st' a A sz n cs:=by
 rcases h with ⟨h1,h2,h3,h⟩ | ⟨h1,h⟩
 ·exact .inl ⟨h1,h2,h3,hf.get h hs⟩
 ·exact .inr ⟨h1,h.fr hf (by rintro o ⟨⟩;exact hs)⟩
theorem Gr.own {st:aa} {a:Nat} {A:LV} {sz n:Nat} {cs:List LV} (h:Gr st a A sz n cs) (hn:0<n):A=osl (some a) sz n∧bH .rw st (some a) sz n cs:=by
 rcases h with ⟨h1,_⟩ | h
 ·omega
 ·exact h
theorem Gr.new {st:aa} {sz:Nat}:Gr (st++[.cells .rw []]) st.length (.sl st.length 0 0 (.ex 0)) sz 0 []:=.inl ⟨rfl,rfl,rfl,by simp⟩
theorem Gr.append {st:aa} {a:Nat} {A:LV} {sz n bytes:Nat} {cs new:List LV} {x:LV} {k:Nat} (h:Gr st a A sz n cs) (hx:fF st sz x=some (k,new)) (hn:new.length=k*sz) (h1:new.all LV.one=true)
  (hr:dB (n+k) bytes=true) :
  ∃ st2 A2 a2,aY st sz bytes .rw A x=some (A2,st2)∧Gr st2 a2 A2 sz (n+k) (cs++new)∧Fr st st2 (fun j=>j=a)∧(a2=a∨st.length≤a2):=by
 rcases Nat.eq_zero_or_pos k with rfl|hk
 ·have:new=[]:=by simpa using hn
  subst this
  refine ⟨st,A,a,?_,by simpa using h,Fr.refl,.inl rfl⟩
  rcases h with ⟨_,_,rfl,_⟩ | ⟨rfl,_⟩<;>simp[aY,hx,osl]
 ·rcases h with ⟨rfl,rfl,rfl,ha⟩ | ⟨rfl,ho⟩
  ·refine ⟨st++[.cells .rw ([]++new)],.sl st.length 0 (0+k) (.rest sz),st.length,?_,.inr ⟨rfl,?_,[],by simp⟩,Fr.app,.inr (Nat.le_refl _)⟩
   ·have hk0:¬ k=0:=by omega
    have hk1:¬ 0+k≤0:=by omega
    simp only[aY,hx,ha,hk0,if_false,hk1]
    rw[if_pos ⟨hr,by simp⟩];simp
   ·simp[hn]
  ·obtain ⟨st2,f2,e1,e2,e3,e4,_⟩:=ho.append (bytes:=bytes) hx hk hn h1 hr
   cases f2 with
   | none=>have:=e2.2;simp only at this;omega
   | some o2=>
    refine ⟨st2,_,o2,e1,.inr ⟨rfl,e2⟩,e3.mono fun j _ hj=>(Option.some.inj hj).symm,?_⟩
    rcases e4 o2 rfl with e|e
    ·exact .inl (Option.some.inj e).symm
    ·exact .inr e
end Go.CP
namespace Go.Proofs.YtknegckgmklnhaaGreatDoor
open Go Go.CP
set_option maxRecDepth 100000
def kq (x:Int):Int:=min (max x (-9007199254740992)) 9007199254740992
def pos (es:List (List UInt8 × T)) (k:List UInt8):Nat:=(es.takeWhile fun e=>Op.bytesLess e.1 k).length
def ins (es:List (List UInt8 × T)) (k:List UInt8) (t:T):List (List UInt8 × T):=
 if (es[pos es k]?).map (·.1)=some k then es else es.take (pos es k)++(k,t)::es.drop (pos es k)
def cH (l:List (List UInt8 × T)):List (List UInt8 × T):=l.foldl (fun es e=>ins es e.1 e.2) []
mutual
def cln:RV→T
 | .mk k b n m s l ks=>
  if k=1 then .unknown else if k=2 then .bool b else if k=3 then .int n else if k=4 then .point (kq n) (kq m) else if k=5 then .text s
  else if k=6 then .list (xf l) else if k=7 then .map (cH (ks.zip (xf l))) else .null
def xf:List RV→List T
 | []=>[]
 | r::rs=>cln r::xf rs
end
theorem uO:∀ {l:List RV},xf l=l.map cln
 | []=>rfl
 | r::rs=>by simp[xf,uO (l:=rs)]
mutual
def rT:T→RV
 | .null=>.mk 0 false 0 0 [] [] []
 | .unknown=>.mk 1 false 0 0 [] [] []
 | .bool b=>.mk 2 b 0 0 [] [] []
 | .int n=>.mk 3 false n 0 [] [] []
 | .point a b=>.mk 4 false a b [] [] []
 | .text s=>.mk 5 false 0 0 s [] []
 | .list l=>.mk 6 false 0 0 [] (rTs l) []
 | .map es=>.mk 7 false 0 0 [] (rTm es) (es.map (·.1))
def rTs:List T→List RV
 | []=>[]
 | t::ts=>rT t::rTs ts
def rTm:List (List UInt8 × T)→List RV
 | []=>[]
 | e::es=>rT e.2::rTm es
end
theorem nH:∀ {l:List T},rTs l=l.map rT
 | []=>rfl
 | r::rs=>by simp[rTs,nH (l:=rs)]
theorem fg:∀ {l:List (List UInt8 × T)},rTm l=l.map fun e=>rT e.2
 | []=>rfl
 | r::rs=>by simp[rTm,fg (l:=rs)]
theorem pW {a b:List RV}:rcs (a++b)=rcs a++rcs b:=by simp[pU]
theorem kr:∀ {l:List RV} {n:Nat},(rcs l).take (n*7)=rcs (l.take n)
 | [],n=>by simp[rcs]
 | r::rs,0=>by simp[rcs]
 | r::rs,n+1=>by
  rw[rcs,List.take_succ_cons,rcs,show (n+1)*7=(rc r).length+n*7 by rw[cG];omega,List.take_length_add_append,kr]
theorem ku:∀ {l:List RV} {n:Nat},(rcs l).drop (n*7)=rcs (l.drop n)
 | [],n=>by simp[rcs]
 | r::rs,0=>by simp
 | r::rs,n+1=>by
  rw[rcs,List.drop_succ_cons,show (n+1)*7=(rc r).length+n*7 by rw[cG];omega,List.drop_length_add_append,ku]
theorem fC {r:RV}:(rc r).all LV.one=true:=by rw[ko];rfl
theorem pX:∀ {l:List RV},(rcs l).all LV.one=true
 | []=>rfl
 | r::rs=>by rw[rcs,List.all_append,fC,pX];rfl
abbrev z7:List LV:=[.int .i64 0,.bool false,.int .i64 0,.int .i64 0,.str [],.nils,.nils]
theorem rN {x:RV}:aN (fun i=>some (i*7,7)) (List.replicate 1 z7).flatten [(0,vR x)]=some (rc x):=by cases x;rfl
theorem tp {st:aa} {o:Nat} {l:List LV} (h:st[o]?=some (.cells .rw l)) (hl:l.length=7):ldA st (.ptr o 0) 7=some (.agg l):=by
 rw[dJ h (by omega)]
 congr 2
 rw[List.drop_zero,List.take_of_length_le (by omega)]
theorem mr {st:aa} {o:Nat} {l vs:List LV} (h:st[o]?=some (.cells .rw l)) (hl:l.length=7) (hv:vs.length=7) (h1:vs.all LV.one=true):stV st 7 (.ptr o 0) (.agg vs)=some (st.set o (.cells .rw vs)):=by
 have h:=eg (k:=0) (n:=7) h (by omega) h1 hv
 refine h.trans ?_
 congr 3
 simp only[bz,List.take_zero,bw,av]
 rw[dy (by omega),List.append_nil]
theorem kv {f:Option Nat} {sz n:Nat}:(osl f sz n).one=true:=by cases f<;>rfl
theorem pY {st:aa} {o sz:Nat} {cs:List LV} (ho:st[o]?=some (.cells .rw cs)) (h:cs.length=1*sz):fF st sz (.sl o 0 1 (.ex 1))=some (1,cs):=by
 simp only[fF,ho]
 rw[if_pos (by omega),List.drop_zero,List.take_of_length_le (by omega)]
theorem kx {st:aa} {sz:Nat} {cs:List LV} (h:cs.length=1*sz):fF (st++[.cells .rw cs]) sz (.sl st.length 0 1 (.ex 1))=some (1,cs):=pY aH h
theorem xg {r:RV} (hr:r.ok) (hrec:∀ x ∈ r.l,Pu Tryz.prog 27 [vR x] (vR (rT (cln x)))) {R:LV→aa→Prop} {o1 o2 o3:Nat} (h12:o1≠o2) (h13:o1≠o3) (h23:o2≠o3) {x5 x6 x7:LV} {z:List LV} (hz:z.length=7)
  (hR:∀ v s,dp s (vR (.mk 6 false 0 0 [] (r.l.map fun x=>rT (cln x)) [])) v→R v s) :
  ∀ (d i:Nat) (f:Option Nat) (st:aa),i+d=r.l.length→bA st o1 r→st[o2]?=some (.cells .rw z)→st[o3]?=some (.cells .rw [i64 6,.bool false,i64 0,i64 0,.str [],osl f 7 i,.nils])→
   bH .rw st f 7 i (rcs ((r.l.take i).map fun x=>rT (cln x)))→(∀ o,f=some o→o≠o1∧o≠o2∧o≠o3)→uG (.ptr o1 0) (.ptr o2 0) (.ptr o3 0) (i64 i) x5 x6 x7 R st:=by
 intro d
 induction d with
 | zero=>
  intro i f st hi hb h2 h3 ho hf
  apply zv
  have:¬ ((i:Int)<r.l.length):=by omega
  have hi':i=r.l.length:=by omega
  have e1:=tp h3 rfl
  have e2:=mr (vs:=[i64 6,.bool false,i64 0,i64 0,.str [],osl f 7 i,.nils]) h2 hz rfl (by cases f<;>rfl)
  have e3:=tp (st:=st.set o2 (.cells .rw [i64 6,.bool false,i64 0,i64 0,.str [],osl f 7 i,.nils])) (bQ h2) rfl
  simp only[uI,aF,av,ae,hb.l,aP,an,aO,a7,e1,e2,aB,aj,e3]
  refine ⟨fun h=>absurd h this,fun _=>hR _ _ ?_⟩
  have ho':=ho.fr (st':=st.set o2 (.cells .rw [i64 6,.bool false,i64 0,i64 0,.str [],osl f 7 i,.nils])) (S:=fun j=>j=o2) (Fr.set rfl) (fun o e=>(hf o e).2.1)
  rw[List.take_of_length_le (by omega)] at ho'
  have hd:=eY ho' rfl (bq _ iP)
  subst hi'
  refine ⟨_,rfl,_,_,rfl,rfl,_,_,rfl,rfl,_,_,rfl,rfl,_,_,rfl,rfl,_,_,rfl,rfl,_,_,rfl,?_,_,_,rfl,.inr (.inr ⟨.inr rfl,rfl,rfl⟩),rfl⟩
  rw[aU];exact hd
 | succ d ih=>
  intro i f st hi hb h2 h3 ho hf
  apply zv
  have hlt:i<r.l.length:=by omega
  have hx:r.l[i]?=some r.l[i]:=bh hlt
  have hp:=hrec _ (List.getElem_mem hlt)
  generalize r.l[i]=x at hx hp
  have e1:bo 7 (rL r.l) (i64 i)=some (.iptr (rcs r.l) (i*7)):=dd hlt
  have e2:ld1 st (.ptr o3 5)=some (osl f 7 i):=by rw[ck h3];rfl
  have hbig:=(RV.pV hr).1
  have e2':ld1 (st++[.cells .rw (rc (rT (cln x)))]) (.ptr o3 5)=some (osl f 7 i):=by rw[ck (cb h3)];rfl
  have ho1:=ho.fr (st':=st++[.cells .rw (rc (rT (cln x)))]) (S:=fun _=>False) Fr.app (fun _ _ h=>h)
  obtain ⟨st2,f2,g1,g2,g3,g4,-⟩:=ho1.append (x:=.sl st.length 0 1 (.ex 1)) (k:=1) (new:=rc (rT (cln x))) (bytes:=96) (kx (by rw[cG])) (by omega) (by rw[cG]) fC (dN (by unfold big at hbig;omega) (by omega))
  have hlt1:=bR (show st[o1]?=some _ from hb)
  have hlt2:=bR h2
  have hlt3:=bR h3
  have nf:∀ o,f=some o→¬ (o=o1∨o=o2∨o=o3):=fun o e h=>by have:=hf o e;rcases h with h|h|h<;>simp_all
  have kept:∀ {j:Nat} {y:ah},st[j]?=some y→(j=o1∨j=o2∨j=o3)→st2[j]?=some y:=fun {j y} hy hj=>g3.get (cb hy) (fun e=>nf j e hj)
  have k3:=kept h3 (.inr (.inr rfl))
  have e4:stV st2 1 (.ptr o3 5) (osl f2 7 (i+1))=some (st2.set o3 (.cells .rw [i64 6,.bool false,i64 0,i64 0,.str [],osl f2 7 (i+1),.nils])):=by
   rw[ia k3 (by simp) kv];rfl
  simp only[uI,aF,av,ae,hb.l,aP,an,aO,a7,e1,fu hx,e2]
  refine ⟨fun _=>hp.call ⟨e2,?_⟩,fun h=>absurd (by omega:(i:Int)<r.l.length) h⟩
  rw[rN]
  simp only[cj,aj,e2',g1,true_and,ae,e4,aB,bx,bO (show i<2 ^ 40 by unfold big at hbig;omega)]
  have hf2:∀ o,f2=some o→o≠o1∧o≠o2∧o≠o3:=fun o e=>by
   rcases g4 o e with h|h
   ·exact hf o h
   ·simp at h;omega
  refine ih (i+1) f2 _ (by omega) ?_ ?_ ?_ ?_ hf2
  ·exact (bn (Ne.symm h13)).trans (kept hb (.inl rfl))
  ·exact (bn (Ne.symm h23)).trans (kept h2 (.inr (.inl rfl)))
  ·exact bQ k3
  ·have e5:(r.l.take (i+1)).map (fun x=>rT (cln x))=(r.l.take i).map (fun x=>rT (cln x))++[rT (cln x)]:=by
    rw[List.take_add_one,hx];simp
   rw[e5,pW,show rcs [rT (cln x)]=rc (rT (cln x)) by simp[rcs]]
   exact g2.fr (S:=fun j=>j=o3) (Fr.set rfl) (fun o e=>(hf2 o e).2.2)
structure rO (st:aa) (r:RV) (o1 o2 o5:Nat) (z:List LV) (fL fK:Option Nat) (es:List (List UInt8 × T)):Prop where
 b:bA st o1 r
 h2:st[o2]?=some (.cells .rw z)
 h5:st[o5]?=some (.cells .rw [i64 7,.bool false,i64 0,i64 0,.str [],osl fL 7 es.length,osl fK 1 es.length])
 oL:bH .rw st fL 7 es.length (rcs (es.map fun e=>rT e.2))
 oK:bH .rw st fK 1 es.length (es.map fun e=>.str e.1)
 nL:∀ o,fL=some o→o≠o1∧o≠o2∧o≠o5
 nK:∀ o,fK=some o→o≠o1∧o≠o2∧o≠o5
abbrev Ext (st st':aa):Prop:=Fr st st' (fun _=>False)
theorem Ext.more {st s s':aa} (h:Ext st s) (y:ah) (e:s'=s++[y]):Ext st s':=by subst e;exact h.trans Fr.app fun _ _ h=>h
theorem Ext.late {st s s':aa} {a:Nat} (h:Ext st s) (h':Fr s s' (fun j=>j=a)) (ha:st.length≤a):Ext st s':=h.trans h' fun j hj e=>by omega
theorem Ext.own {st s:aa} {f:Option Nat} {sz n:Nat} {cs:List LV} (h:Ext st s) (ho:bH .rw st f sz n cs):bH .rw s f sz n cs:=ho.fr h fun _ _ k=>k
theorem Ext.get {st s:aa} {o:Nat} {y:ah} (h:Ext st s) (ho:st[o]?=some y):s[o]?=some y:=Fr.get h ho fun k=>k
theorem ky {st:aa} {f:Option Nat} {sz n:Nat} {cs:List LV} (h:bH .rw st f sz n cs):f=none→n=0:=fun e=>by subst e;exact h.2
theorem rP {l:List (List UInt8 × T)}:(l.map fun e=>LV.str e.1).all LV.one=true:=by
 rw[List.all_eq_true];intro x hx;obtain ⟨e,_,rfl⟩:=List.mem_map.1 hx;rfl
theorem t27 {st0:aa} {r:RV} {o1 o2 o5:Nat} {z:List LV} {fL fK:Option Nat} {es:List (List UInt8 × T)} (hI:rO st0 r o1 o2 o5 z fL fK es) (h15:o1≠o5) (h25:o2≠o5) {i:Nat} {x:RV} (hx:r.l[i]?=some x) (hl:r.l.length≤big)
  (hp:Pu Tryz.prog 27 [vR x] (vR (rT (cln x)))) {k:List UInt8} {p:Nat} (hpl:p≤es.length) (hb:es.length≤big) {st:aa} {g:LV} {a:Nat} (hE:Ext st0 st) (ha:st0.length≤a)
  (hg:Gr st a g 1 (p+1) ((es.map fun e=>LV.str e.1).take (p*1)++[.str k])) {x3 x4:LV} {R:LV→aa→Prop}
  (next:∀ st' fL' fK' x7,rO st' r o1 o2 o5 z fL' fK' (es.take p++(k,cln x)::es.drop p)→kc (.ptr o1 0) (.ptr o2 0) x3 x4 (.ptr o5 0) (i64 (i+1:Nat)) x7 R st') :
  T27 (.ptr o1 0) (.ptr o2 0) x3 x4 (.ptr o5 0) (i64 i) (i64 p) R g st:=by
 have hlt:=(List.getElem?_eq_some_iff.1 hx).1
 have n1:=bR (show st0[o1]?=_ from hI.b)
 have n2:=bR hI.h2
 have n5:=bR hI.h5
 have hal:=hg.lt
 have hst:=hE.len
 obtain ⟨y1,r1,q1⟩:=uN (f:=fL) (sz:=7) (n:=es.length) (k:=p) (by omega) hpl (ky hI.oL)
 obtain ⟨y2,r2,q2⟩:=oO (f:=fK) (sz:=1) (n:=es.length) (k:=p) (by omega) hpl (ky hI.oK)
 obtain ⟨y3,r3,q3⟩:=oO (f:=fL) (sz:=7) (n:=es.length) (k:=p) (by omega) hpl (ky hI.oL)
 have e1:bo 7 (rL r.l) (i64 i)=some (.iptr (rcs r.l) (i*7)):=dd hlt
 -- the values ahead
 have E1:Ext st0 (st++[.cells .rw []]):=hE.more _ rfl
 have l1:(st++[ah.cells .rw []]).length=st.length+1:=by simp
 have rm:∀ {j b:Nat},j≤es.length+2→b≤256→dB j b=true:=fun {j b} h h'=>dN (by unfold big at hb;omega) h'
 obtain ⟨s2,A2,b2,a1,a2,a3,a4⟩:=(Gr.new (st:=st) (sz:=7)).append (bytes:=96) (q1 (E1.own hI.oL)) (by rw[kr,uL];simp;omega) (by rw[kr];exact pX) (rm (by omega) (by omega))
 have E2:Ext st0 s2:=E1.late a3 (by omega)
 have l2:=a3.len
 have hb2:=a2.lt
 -- the new value
 have G3:=a2.fr (st':=s2++[.cells .rw (rc (rT (cln x)))]) (S:=fun _=>False) Fr.app (fun h=>h)
 have E3:Ext st0 (s2++[.cells .rw (rc (rT (cln x)))]):=E2.more _ rfl
 have l3:(s2++[ah.cells .rw (rc (rT (cln x)))]).length=s2.length+1:=by simp
 obtain ⟨s4,A4,b4,c1,c2,c3,c4⟩:=G3.append (bytes:=96) (kx (st:=s2) (sz:=7) (cs:=rc (rT (cln x))) (by rw[cG])) (by rw[cG]) fC (rm (by omega) (by omega))
 have E4:Ext st0 s4:=E3.late c3 (by omega)
 have l4:=c3.len
 have hb4:=c2.lt
 -- the keys behind
 have g1:Gr s4 a g 1 (p+1) _:=(((hg.fr (S:=fun _=>False) Fr.app (fun h=>h)).fr a3 (by omega)).fr (S:=fun _=>False) (Fr.app (y:=.cells .rw (rc (rT (cln x))))) (fun h=>h)).fr c3 (by omega)
 obtain ⟨s5,A5,a5,d1,d2,d3,d4⟩:=g1.append (bytes:=16) (q2 (E4.own hI.oK)) (by simp) (by rw[List.all_eq_true];intro x hx;exact List.all_eq_true.1 rP x (List.mem_of_mem_drop hx)) (rm (by omega) (by omega))
 have E5:Ext st0 s5:=E4.late d3 (by omega)
 have l5:=d3.len
 have ha5:=d2.lt
 obtain ⟨w1,w2⟩:=d2.own (by omega)
 subst w1
 have g4:Gr s5 b4 A4 7 _ _:=c2.fr d3 (by omega)
 have k5:=E5.get hI.h5
 have f1:stV s5 1 (.ptr o5 6) (osl (some a5) 1 (p+1+(es.length-p)))=some (s5.set o5 (.cells .rw [i64 7,.bool false,i64 0,i64 0,.str [],osl fL 7 es.length,osl (some a5) 1 (p+1+(es.length-p))])):=by
  rw[ia k5 (by simp) kv];rfl
 have F6:Fr s5 (s5.set o5 (.cells .rw [i64 7,.bool false,i64 0,i64 0,.str [],osl fL 7 es.length,osl (some a5) 1 (p+1+(es.length-p))])) (fun j=>j=o5):=Fr.set rfl
 have k6:=bQ (y:=ah.cells .rw [i64 7,.bool false,i64 0,i64 0,.str [],osl fL 7 es.length,osl (some a5) 1 (p+1+(es.length-p))]) k5
 have l6:=F6.len
 generalize s5.set o5 _=s6 at f1 F6 k6 l6
 have g5:=g4.fr F6 (by omega)
 have o6:=(E5.own hI.oL).fr F6 (fun o e=>(hI.nL o e).2.2)
 obtain ⟨s7,A7,b7,t1,t2,t3,t4⟩:=g5.append (bytes:=96) (q3 o6) (by rw[ku,uL];simp) (by rw[ku];exact pX) (rm (by omega) (by omega))
 have l7:=t3.len
 have hb7:=t2.lt
 obtain ⟨w3,w4⟩:=t2.own (by omega)
 subst w3
 have k7:=t3.get k6 (by omega)
 have f2:stV s7 1 (.ptr o5 5) (osl (some b7) 7 (0+p+1+(es.length-p)))=some (s7.set o5 (.cells .rw [i64 7,.bool false,i64 0,i64 0,.str [],osl (some b7) 7 (0+p+1+(es.length-p)),osl (some a5) 1 (p+1+(es.length-p))])):=by
  rw[ia k7 (by simp) kv];rfl
 have F8:Fr s7 (s7.set o5 (.cells .rw [i64 7,.bool false,i64 0,i64 0,.str [],osl (some b7) 7 (0+p+1+(es.length-p)),osl (some a5) 1 (p+1+(es.length-p))])) (fun j=>j=o5):=Fr.set rfl
 have k8:=bQ (y:=ah.cells .rw [i64 7,.bool false,i64 0,i64 0,.str [],osl (some b7) 7 (0+p+1+(es.length-p)),osl (some a5) 1 (p+1+(es.length-p))]) k7
 generalize s7.set o5 _=s8 at f2 F8 k8
 rw[av] at f2
 have v5:∀ {s:aa},Ext st0 s→ld1 s (.ptr o5 5)=some (osl fL 7 es.length):=fun h=>by rw[ck (h.get hI.h5)];rfl
 have v6:∀ {s:aa},Ext st0 s→ld1 s (.ptr o5 6)=some (osl fK 1 es.length):=fun h=>by rw[ck (h.get hI.h5)];rfl
 have v15:∀ {s:aa},Ext st0 s→ld1 s (.ptr o1 5)=some (rL r.l):=fun h=>bA.l (h.get hI.b)
 have v65:ld1 s6 (.ptr o5 5)=some (osl fL 7 es.length):=by rw[ck k6];rfl
 have ef:∀ {z:List LV},aN (fun i=>some (i*7,7)) (List.replicate 0 z).flatten []=some []:=rfl
 simp only[T27,aF,av,ae,v5 hE,xd,r1,v15 hE,e1,fu hx,ef,cj,aj,true_and,v15 E1,v5 E1,a1,v15 E2]
 refine hp.call ?_
 rw[rN]
 simp only[cj,aj,c1,av,ae,v6 E4,xe,r2,d1,f1,aB,v65,r3,t1,f2,an,bx,bO (show i<2 ^ 40 by unfold big at hl;omega)]
 have en:(es.take p++(k,cln x)::es.drop p).length=es.length+1:=by simp;omega
 have m1:0+p+1+(es.length-p)=es.length+1:=by omega
 have m2:p+1+(es.length-p)=es.length+1:=by omega
 rw[m1] at k8 w4
 rw[m2] at k8 w2
 have hb7':b7≠o5:=by omega
 refine next s8 (some b7) (some a5) _ ⟨?_,?_,by rw[en];exact k8,?_,?_,?_,?_⟩
 ·exact F8.get (t3.get (F6.get (E5.get hI.b) h15) (by omega)) h15
 ·exact F8.get (t3.get (F6.get (E5.get hI.h2) h25) (by omega)) h25
 ·rw[en]
  refine bH.fr ?_ F8 (by rintro o ⟨⟩;exact hb7')
  have:rcs ((es.take p++(k,cln x)::es.drop p).map fun e=>rT e.2)=([]++(rcs (es.map fun e=>rT e.2)).take (p*7)++rc (rT (cln x)))++(rcs (es.map fun e=>rT e.2)).drop (p*7):=by
   rw[kr,ku,List.map_append,List.map_cons,pW,rcs,List.map_take,List.map_drop]
   simp
  rw[this];exact w4
 ·rw[en]
  have w2':=((w2.fr F6 (by rintro o ⟨⟩;omega)).fr t3 (by rintro o ⟨⟩;omega)).fr F8 (by rintro o ⟨⟩;omega)
  have:((es.take p++(k,cln x)::es.drop p).map fun e=>LV.str e.1)=((es.map fun e=>LV.str e.1).take (p*1)++[.str k])++(es.map fun e=>LV.str e.1).drop (p*1):=by
   rw[Nat.mul_one,List.map_append,List.map_cons,List.map_take,List.map_drop];simp
  rw[this];exact w2'
 ·rintro o ⟨⟩;omega
 ·rintro o ⟨⟩;omega
theorem i27 {st:aa} {r:RV} {o1 o2 o5:Nat} {z:List LV} {fL fK:Option Nat} {es:List (List UInt8 × T)} (hI:rO st r o1 o2 o5 z fL fK es) (h15:o1≠o5) (h25:o2≠o5) {i:Nat} {x:RV} (hx:r.l[i]?=some x) (hl:r.l.length≤big)
  (hp:Pu Tryz.prog 27 [vR x] (vR (rT (cln x)))) {k:List UInt8} (hk:r.ks[i]?=some k) {p:Nat} (hpl:p≤es.length) (hb:es.length≤big) {x3 x4:LV} {R:LV→aa→Prop}
  (next:∀ st' fL' fK' x7,rO st' r o1 o2 o5 z fL' fK' (es.take p++(k,cln x)::es.drop p)→kc (.ptr o1 0) (.ptr o2 0) x3 x4 (.ptr o5 0) (i64 (i+1:Nat)) x7 R st') :
  I27 (.ptr o1 0) (.ptr o2 0) x3 x4 (.ptr o5 0) (i64 i) (i64 p) R st:=by
 have hlt:=(List.getElem?_eq_some_iff.1 hk).1
 obtain ⟨y1,r1,q1⟩:=uN (f:=fK) (sz:=1) (n:=es.length) (k:=p) (by omega) hpl (ky hI.oK)
 have e1:bo 1 (sI r.ks) (i64 i)=some (.iptr (r.ks.map .str) (i*1)):=dd hlt
 have hks:(r.ks.map LV.str)[i*1]?=some (.str k):=by simp[hk]
 have v6:∀ {s:aa},Ext st s→ld1 s (.ptr o5 6)=some (osl fK 1 es.length):=fun h=>by rw[ck (h.get hI.h5)];rfl
 have v16:∀ {s:aa},Ext st s→ld1 s (.ptr o1 6)=some (sI r.ks):=fun h=>bA.ks (h.get hI.b)
 have rm:∀ {j:Nat},j≤es.length+2→dB j 16=true:=fun {j} h=>dN (by unfold big at hb;omega) (by omega)
 have ef:∀ {z:List LV},aN (fun i=>some (i*1,1)) (List.replicate 0 z).flatten []=some []:=rfl
 have ek:aN (fun i=>some (i*1,1)) (List.replicate 1 [LV.str []]).flatten [(0,.str k)]=some [.str k]:=rfl
 have ln:((es.map fun e=>LV.str e.1).take (p*1)).length=p*1:=by simp;omega
 have on:((es.map fun e=>LV.str e.1).take (p*1)).all LV.one=true:=by rw[List.all_eq_true];intro x hx;exact List.all_eq_true.1 rP x (List.mem_of_mem_take hx)
 have R0:Ext st st:=Fr.refl
 have la:∀ {s:aa} {y:ah},(s++[y]).length=s.length+1:=by simp
 simp only[I27,aF,av,ae,v6 R0,xd,r1,v16 R0,e1,cm,hks,ek,ef,cj,aj,true_and]
 refine ⟨?_,?_⟩
 ·have E1:Ext st (st++[.cells .rw [.str k]]):=R0.more _ rfl
  have E2:Ext st (st++[.cells .rw [.str k]]++[.cells .rw []]):=E1.more _ rfl
  obtain ⟨s3,A3,a3,c1,c2,c3,c4⟩:=(Gr.new (st:=st++[.cells .rw [.str k]]) (sz:=1)).append (bytes:=16) (q1 (E2.own hI.oK)) ln on (rm (by omega))
  have g3:s3[st.length]?=some (.cells .rw [.str k]):=c3.get (cb aH) (by simp)
  have E3:Ext st s3:=E2.late c3 (by simp)
  obtain ⟨s4,A4,a4,d1,d2,d3,d4⟩:=c2.append (bytes:=16) (pY (sz:=1) g3 rfl) rfl rfl (rm (by omega))
  simp only[v6 E1,v16 E2,v6 E2,true_and,c1,aj,v16 E3,d1]
  have hc3:=c3.len
  simp only[la] at hc3
  have hc4:st.length≤a3:=by rcases c4 with h|h<;>(try simp only[la] at h)<;>omega
  refine t27 hI h15 h25 hx hl hp hpl hb (E3.late d3 hc4) (a:=a4) (by rcases d4 with h|h<;>omega) ?_ next
  rw[show p+1=0+p+1 by omega];simpa using d2
 have E1:Ext st (st++[.cells .rw []]):=R0.more _ rfl
 simp only[v16 E1,v6 E1,true_and]
 refine ⟨?_,?_⟩
 ·have E2:Ext st (st++[.cells .rw []]++[.cells .rw [.str k]]):=E1.more _ rfl
  obtain ⟨s3,A3,a3,c1,c2,c3,c4⟩:=((Gr.new (st:=st) (sz:=1)).fr (st':=st++[.cells .rw []]++[.cells .rw [.str k]]) (S:=fun _=>False) Fr.app (fun h=>h)).append (bytes:=16) (q1 (E2.own hI.oK)) ln on (rm (by omega))
  have g3:s3[(st++[ah.cells .rw []]).length]?=some (.cells .rw [.str k]):=c3.get aH (by simp)
  have E3:Ext st s3:=E2.late c3 (by simp)
  obtain ⟨s4,A4,a4,d1,d2,d3,d4⟩:=c2.append (bytes:=16) (pY (sz:=1) g3 rfl) rfl rfl (rm (by omega))
  simp only[v6 E2,true_and,c1,aj,v16 E3,d1]
  have hc3:=c3.len
  simp only[la] at hc3
  have hc4:st.length≤a3:=by rcases c4 with h|h<;>(try simp only[la] at h)<;>omega
  refine t27 hI h15 h25 hx hl hp hpl hb (E3.late d3 hc4) (a:=a4) (by rcases d4 with h|h<;>omega) ?_ next
  rw[show p+1=0+p+1 by omega];simpa using d2
 ·obtain ⟨s3,A3,a3,c1,c2,c3,c4⟩:=(Gr.new (st:=st) (sz:=1)).append (bytes:=16) (q1 (E1.own hI.oK)) ln on (rm (by omega))
  have E3:Ext st s3:=E1.late c3 (by simp)
  have E4:Ext st (s3++[.cells .rw [.str k]]):=E3.more _ rfl
  obtain ⟨s4,A4,a4,d1,d2,d3,d4⟩:=(c2.fr (st':=s3++[.cells .rw [.str k]]) (S:=fun _=>False) Fr.app (fun h=>h)).append (bytes:=16) (pY (sz:=1) (o:=s3.length) aH rfl) rfl rfl (rm (by omega))
  simp only[v6 E4,true_and,c1,aj,v16 E3,d1]
  have hc3:=c3.len
  simp only[la] at hc3
  have hc4:st.length≤a3:=by rcases c4 with h|h<;>(try simp only[la] at h)<;>omega
  refine t27 hI h15 h25 hx hl hp hpl hb (E4.late d3 hc4) (a:=a4) (by rcases d4 with h|h<;>(try simp only[la] at h)<;>omega) ?_ next
  rw[show p+1=0+p+1 by omega];simpa using d2
theorem rQ {x y:List UInt8}:so .lss x y=some (.bool (Op.bytesLess x y)):=rfl
theorem xh {es:List (List UInt8 × T)} {k:List UInt8}:pos es k≤es.length:=by
 unfold pos
 exact (List.takeWhile_sublist _).length_le
theorem fD {α:Type} {q:α→Bool}:∀ {l:List α} {j:Nat} {x:α},j<(l.takeWhile q).length→l[j]?=some x→q x=true
 | [],j,x,h,_=>by simp at h
 | a::l,j,x,h,hx=>by
  by_cases ha:q a=true
  ·rw[List.takeWhile_cons_of_pos ha] at h
   cases j with
   | zero=>simp at hx;subst hx;exact ha
   | succ j=>exact fD (l:=l) (by simpa using h) (by simpa using hx)
  ·rw[List.takeWhile_cons_of_neg ha] at h;simp at h
theorem fh {α:Type} {q:α→Bool}:∀ {l:List α} {x:α},l[(l.takeWhile q).length]?=some x→q x=false
 | [],x,hx=>by simp at hx
 | a::l,x,hx=>by
  by_cases ha:q a=true
  ·rw[List.takeWhile_cons_of_pos ha] at hx
   exact fh (l:=l) (by simpa using hx)
  ·rw[List.takeWhile_cons_of_neg ha] at hx
   simp at hx;subst hx;simpa using ha
theorem B3 {st:aa} {r:RV} {o1 o2 o5:Nat} {z:List LV} {fL fK:Option Nat} {es:List (List UInt8 × T)} (hI:rO st r o1 o2 o5 z fL fK es) (h15:o1≠o5) (h25:o2≠o5) {i:Nat} {x:RV} (hx:r.l[i]?=some x) (hl:r.l.length≤big)
  (hp:Pu Tryz.prog 27 [vR x] (vR (rT (cln x)))) {k:List UInt8} (hk:r.ks[i]?=some k) (hb:es.length≤big) {x3 x4:LV} {R:LV→aa→Prop}
  (next:∀ st' fL' fK' x7,rO st' r o1 o2 o5 z fL' fK' (ins es k (cln x))→kc (.ptr o1 0) (.ptr o2 0) x3 x4 (.ptr o5 0) (i64 (i+1:Nat)) x7 R st') :
  ∀ (d j:Nat),j+d=pos es k→uH (.ptr o1 0) (.ptr o2 0) x3 x4 (.ptr o5 0) (i64 i) (i64 j) R st:=by
 have hlt:=(List.getElem?_eq_some_iff.1 hk).1
 have hlt':=(List.getElem?_eq_some_iff.1 hx).1
 have hpl:=xh (es:=es) (k:=k)
 have e1:bo 1 (sI r.ks) (i64 i)=some (.iptr (r.ks.map .str) (i*1)):=dd hlt
 have hks:(r.ks.map LV.str)[i*1]?=some (.str k):=by simp[hk]
 have v6:ld1 st (.ptr o5 6)=some (osl fK 1 es.length):=by rw[ck hI.h5];rfl
 have v16:ld1 st (.ptr o1 6)=some (sI r.ks):=bA.ks hI.b
 have at_:∀ {j:Nat} {e:List UInt8 × T},es[j]?=some e→∃ o,bo 1 (osl fK 1 es.length) (i64 j)=some (.ptr o (j*1))∧ld1 st (.ptr o (j*1))=some (.str e.1):=by
  intro j e hj
  have hj':=(List.getElem?_eq_some_iff.1 hj).1
  obtain ⟨o,rfl,h1⟩:=hI.oK.ix (i:=j) (kk:=.i64) (by omega) (by omega)
  refine ⟨o,by simpa using h1,hI.oK.ld ?_⟩
  simp[hj]
 intro d
 induction d with
 | zero=>
  intro j hj
  have hj':j=pos es k:=by omega
  apply zx
  rcases Nat.lt_or_ge j es.length with hlen|hlen
  ·obtain ⟨e,hje⟩:∃ e,es[j]?=some e:=⟨_,bh hlen⟩
   obtain ⟨o,g1,g2⟩:=at_ hje
   have hst:Op.bytesLess e.1 k=false:=fh (q:=fun e:List UInt8 × T=>Op.bytesLess e.1 k) (l:=es) (x:=e) (by rw[hj'] at hje;exact hje)
   have c1:((j:Int)<es.length):=by omega
   simp only[rE,aF,av,ae,v6,hI.oK.bj,an,aO,c1,dh,a8,g1,g2,v16,e1,cm,hks,hZ,rQ,hst,ax,qT]
   rw[ec]
   refine ⟨fun h=>?_,fun h=>?_⟩
   ·have he:e.1=k:=by simpa using h
    simp only[bx,ae,bO (show i<2 ^ 40 by unfold big at hl;omega)]
    refine next _ fL fK _ ?_
    unfold ins
    rw[if_pos (by rw[← hj',hje];simp[he])]
    exact hI
   ·have he:e.1≠k:=by simpa using h
    refine i27 hI h15 h25 hx hl hp hk (by omega) hb fun st' fL' fK' x7 h=>next st' fL' fK' x7 ?_
    unfold ins
    rw[if_neg (by rw[← hj',hje];simp[he]),← hj']
    exact h
  ·have c1:¬ ((j:Int)<es.length):=by omega
   simp only[rE,aF,av,ae,v6,hI.oK.bj,an,aO,c1,dz,ax]
   refine i27 hI h15 h25 hx hl hp hk (by omega) hb fun st' fL' fK' x7 h=>next st' fL' fK' x7 ?_
   unfold ins
   rw[if_neg (by rw[← hj',List.getElem?_eq_none (by omega)];simp),← hj']
   exact h
 | succ d ih=>
  intro j hj
  have hlen:j<es.length:=by omega
  obtain ⟨e,hje⟩:∃ e,es[j]?=some e:=⟨_,bh hlen⟩
  obtain ⟨o,g1,g2⟩:=at_ hje
  have hst:Op.bytesLess e.1 k=true:=fD (q:=fun e:List UInt8 × T=>Op.bytesLess e.1 k) (l:=es) (j:=j) (by show j<pos es k;omega) hje
  have c1:((j:Int)<es.length):=by omega
  apply zx
  simp only[rE,aF,av,ae,v6,hI.oK.bj,an,aO,c1,dh,a8,g1,g2,v16,e1,cm,hks,hZ,rQ,hst,bx,bO (show j<2 ^ 40 by unfold big at hb;omega)]
  exact ih (j+1) (by omega)
end Go.Proofs.YtknegckgmklnhaaGreatDoor
