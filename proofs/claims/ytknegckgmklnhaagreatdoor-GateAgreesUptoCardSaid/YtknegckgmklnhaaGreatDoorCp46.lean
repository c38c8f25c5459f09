/- Parts of the proof. -/
import Derived.Test.YtknegckgmklnhaaGreatDoorVaC2
namespace Go.CP
section
open Classical
noncomputable def Lay.tW (β:Lay) (o:Nat) (w:World):Lay:=⟨β.o,fun b=>if ∃ bl,β o=some bl∧bl.blk=b then w.heap[b]? else β.f b,β.n⟩
theorem u3 {w0 w:World} {β:Lay} {st:aa} {o:Nat} {y:al} (h:Rel w0 β st w) (ho:st[o]?=some y) (hy:y.rw=true):β.le (β.tW o w):=by
 refine ⟨fun _ _ e=>e,fun b x e=>?_,rfl,fun b x e l=>?_⟩
 ·show (if ∃ bl,β o=some bl∧bl.blk=b then w.heap[b]? else β.f b)=some x
  split
  ·exact h.froz b x e
  ·exact e
 ·have e':(if ∃ bl,β o=some bl∧bl.blk=b then w.heap[b]? else β.f b)=some x:=e
  split at e'
  ·rename_i hF
   obtain ⟨bl,h3,h4⟩:=hF
   have:=(h.obj o y ho).mR hy h3
   rw[h4,← h.base] at this
   omega
  ·exact e'
theorem Rel.tW {w0 w:World} {β:Lay} {st:aa} {o:Nat} {y:al} (h:Rel w0 β st w) (ho:st[o]?=some y) (hy:y.rw=true):Rel w0 (β.tW o w) (st.set o .dead) w:=by
 have hle:=u3 h ho hy
 have get:∀ {i:Nat} {z:al},(st.set o .dead)[i]?=some z→(i=o∧z=.dead)∨(i≠o∧st[i]?=some z):=by
  intro i z hz
  by_cases e:i=o
  ·subst e
   rw[List.getElem?_set_self (List.getElem?_eq_some_iff.1 ho).1] at hz
   exact .inl ⟨rfl,(Option.some.inj hz).symm⟩
  ·rw[List.getElem?_set_ne (Ne.symm e)] at hz
   exact .inr ⟨e,hz⟩
 refine ⟨h.below,fun i hi=>h.dom i (by simpa using hi),fun i z hz=>?_,fun i i' z z' b b' hz hzr hz' hzl hne hb hb'=>?_,h.base,fun b x e=>?_,fun i z b hz hzr hb=>?_⟩
 ·rcases get hz with ⟨rfl,rfl⟩ | ⟨_,hz⟩
  ·trivial
  ·exact (h.obj i z hz).mono hle
 ·rcases get hz with ⟨rfl,rfl⟩ | ⟨_,hz⟩
  ·cases hzr
  ·rcases get hz' with ⟨rfl,rfl⟩ | ⟨_,hz'⟩
   ·cases hzl
   ·exact h.sep i i' z z' b b' hz hzr hz' hzl hne hb hb'
 ·have e':(if ∃ bl,β o=some bl∧bl.blk=b then w.heap[b]? else β.f b)=some x:=e
  split at e'
  ·exact e'
  ·exact h.froz b x e'
 ·rcases get hz with ⟨rfl,rfl⟩ | ⟨hne,hz⟩
  ·cases hzr
  ·show (if ∃ bl,β o=some bl∧bl.blk=b.blk then w.heap[b.blk]? else β.f b.blk)=none
   rw[if_neg ?_]
   ·exact h.sepf i z b hz hzr hb
   ·rintro ⟨bl,h1,h2⟩
    exact h.sep i o z y b bl hz hzr ho (al.ey hy) hne hb h1 h2.symm
theorem tX {w0 w:World} {β:Lay} {st:aa} (h:Rel w0 β st w) {o:Nat} {m:Md} {l:List LV} {b:Bl} (ho:st[o]?=some (.cells m l)) (hb:β o=some b) {k n:Nat} (hk:k+n≤l.length) :
  ∃ us:List Value,Rps β ((l.drop k).take n) us∧FzC (β.tW o w) b.blk (b.base+k) us:=by
 obtain ⟨b',hb',c,e,fz,hh,h1,h2,h3,h4⟩:=h.obj o _ ho
 rw[hb] at hb';cases hb'
 have hfz:(β.tW o w).f b.blk=some (.cells c e fz):=by
  show (if ∃ bl,β o=some bl∧bl.blk=b.blk then w.heap[b.blk]? else β.f b.blk)=_
  rw[if_pos ⟨b,hb,rfl⟩,hh]
 have hl:((l.drop k).take n).length=n:=by simp;omega
 refine ⟨(c.toList.drop (b.base+k)).take n,Rps.kO (by simp;omega) fun i x hx=>?_,c,e,fz,hfz,by simp;omega,fun i u hu=>?_⟩
 ·rw[List.getElem?_take,List.getElem?_drop] at hx
  split at hx
  ·rename_i hi
   obtain ⟨u,hu,r⟩:=h3 _ _ hx
   refine ⟨u,?_,r⟩
   rw[List.getElem?_take,if_pos hi,List.getElem?_drop,Array.getElem?_toList]
   rw[← hu];congr 1;omega
  ·cases hx
 ·rw[List.getElem?_take] at hu
  split at hu
  ·rw[List.getElem?_drop,Array.getElem?_toList] at hu;exact hu
  ·cases hu
end
theorem ak.zW {P:Program} {f:FuncId} {xs xs':List LV} {st st':aa} {R:LV→aa→Prop} (h:ak P f xs' st' R)
  (hr:∀ w0 β w vs,Rel w0 β st w→Rps β xs vs→∃ β',Rel w0 β' st' w∧Rps β' xs' vs∧β.le β'):ak P f xs st R:=by
 rcases h with h|h
 ·refine .inl ⟨h.1,fun w0 β w vs h1 h2=>?_⟩
  obtain ⟨β',k1,k2,k3⟩:=hr w0 β w vs h1 h2
  refine (h.2 w0 β' w vs k1 k2).mono ?_
  rintro e w' ⟨β2,r,st2,u,hd,rfl,h4,h5,h6⟩
  exact ⟨β2,r,st2,u,hd,rfl,h4,h5,k3.trans h6⟩
 ·refine .inr fun w0 β w vs h1 h2=>?_
  obtain ⟨β',k1,k2,k3⟩:=hr w0 β w vs h1 h2
  obtain ⟨u,w',h3,β2,r,st2,hd,h5,h6,h7⟩:=h w0 β' w vs k1 k2
  exact ⟨u,w',h3,β2,r,st2,hd,h5,h6,k3.trans h7⟩
theorem Rps.split {β:Lay}:∀ {a b:List LV} {vs:List Value},Rps β (a++b) vs→∃ u v,vs=u++v∧Rps β a u∧Rps β b v
 | [],b,vs,h=>⟨[],vs,rfl,rfl,h⟩
 | x::a,b,vs,h=>by
  obtain ⟨v,us,rfl,h1,h2⟩:=h
  obtain ⟨u,v',rfl,h3,h4⟩:=Rps.split h2
  exact ⟨v::u,v',rfl,⟨v,u,rfl,h1,h3⟩,h4⟩
theorem ak.Cg {P:Program} {g:FuncId} {ws bs:List LV} {st:aa} {f:Option Nat} {sz n:Nat} {cs:List LV} {R:LV→aa→Prop} (ho:bS .rw st f sz n cs)
  (h:∀ st',Fr st st' (fun j=>f=some j)→ak P g (ws++.isl cs n none::bs) st' R):ak P g (ws++osl f sz n::bs) st R:=by
 cases f with
 | none=>
  obtain ⟨hl,rfl⟩:=ho
  have hc:cs=[]:=by simpa using hl
  subst hc
  refine (h st Fr.refl).zW fun w0 β w vs h1 h2=>⟨β,h1,?_,Lay.le.refl β⟩
  obtain ⟨u,v,rfl,h3,h4⟩:=Rps.split h2
  obtain ⟨x,xs,rfl,h5,h6⟩:=h4
  refine h3.append ⟨x,xs,rfl,?_,h6⟩
  rw[show x=.slice none 0 0 from h5]
  exact ⟨[],rfl,none,0,rfl,Nat.le_refl _,fun _ e=>(by cases e),.inl ⟨rfl,fun _=>rfl⟩⟩
 | some o=>
  obtain ⟨hl,rest,h2⟩:=ho
  refine (h (st.set o .dead) (Fr.set rfl)).zW fun w0 β w vs h1 hv=>?_
  have hle:=u3 h1 h2 (rfl:al.rw (.cells .rw (cs++rest))=true)
  refine ⟨β.tW o w,h1.tW h2 rfl,?_,hle⟩
  obtain ⟨u,v,rfl,h3,h4⟩:=Rps.split hv
  obtain ⟨x,xs,rfl,⟨b,hb,hcap,rfl⟩,h6⟩:=h4
  refine (h3.mono hle).append ⟨_,xs,rfl,?_,h6.mono hle⟩
  obtain ⟨us,r1,r2⟩:=tX h1 h2 hb (k:=0) (n:=cs.length) (by simp)
  rw[List.drop_zero,List.take_left] at r1
  exact ⟨us,r1.mono hle,_,_,rfl,hcap,fun _ e=>(by cases e),.inr ⟨b.blk,b.base+0,rfl,r2⟩⟩
end Go.CP
namespace Go.Proofs.YtknegckgmklnhaaGreatDoor
open Go Go.CP
set_option maxRecDepth 100000
theorem mk1 {st:aa} {x v:LV} {q:Option LV} (hq:q=some (.agg [v])) (hv:v.one=true) {Q:LV→aa→Prop} (h:∀ s,Q (.agg [v]) s) :
  bd q fun v2=>bd2 (lmk (stV (st++[.cells .rw [x]]) 1 (.ptr st.length 0) v2)) fun _v st4=>bd (ldA st4 (.ptr st.length 0) 1) fun v5=>Q v5 st4:=by
 subst hq
 have e:=dE (st:=st++[al.cells .rw [x]]) (o:=st.length) (k:=0) (m:=.rw) (l:=[x]) (vs:=[v]) (n:=1) bq (by simp) (by simp[hv]) rfl
 simp only[ad]
 rw[e]
 simp only[aB,aj]
 rw[eE (cN bq) (by simp[bu])]
 exact h _
theorem oo:Pu Tryz.prog 69 [] (vT .unknown):=Pu.of (c69 (mk1 (st:=[]) (v:=.iface 169 (.agg [])) rfl rfl (Q:=fun v s=>dp s (vT .unknown) v) fun s=>bO s bW)) rfl bW
theorem Ch (b:Bool):Pu Tryz.prog 92 [.bool b] (vT (.bool b)):=Pu.of (c92 _ (mk1 (st:=[]) (v:=.iface 4 (.bool b)) rfl rfl (Q:=fun v s=>dp s (vT (.bool b)) v) fun s=>bO s bW)) rfl bW
theorem Bg (n:Int):Pu Tryz.prog 73 [i64 n] (vT (.int n)):=Pu.of (c73 _ (mk1 (st:=[]) (v:=.iface 3 (i64 n)) rfl rfl (Q:=fun v s=>dp s (vT (.int n)) v) fun s=>bO s bW)) rfl bW
theorem zc (x:List UInt8):Pu Tryz.prog 91 [.str x] (vT (.text x)):=Pu.of (c91 _ (mk1 (st:=[]) (v:=.iface 9 (.str x)) rfl rfl (Q:=fun v s=>dp s (vT (.text x)) v) fun s=>bO s bW)) rfl bW
theorem u4 {n:Int} (h : -9007199254740992≤n∧n≤9007199254740992):Pu Tryz.prog 156 [i64 n] (.bool true):=by
 refine Pu.of (c156 _ ?_) rfl rfl
 have h1:n≥-9007199254740992:=h.1
 simp only[AK,aq,eV,wO,ad,h1,h.2,dT,aH]
 exact rfl
theorem xU {a b:Int} (ha : -9007199254740992≤a∧a≤9007199254740992) (hb : -9007199254740992≤b∧b≤9007199254740992):Pu Tryz.prog 93 [i64 a,i64 b] (.tup [vT (.point a b),i64 0]):=by
 refine Pu.of (c93 _ _ ?_) rfl rfl
 simp only[w93,dB]
 refine (u4 ha).call ?_
 simp only[cM,ad,dU,aA]
 refine (u4 hb).call ?_
 have e1:vm .f64 (i64 a)=some (.flt .f64 (fb a)):=rfl
 have e2:vm .f64 (i64 b)=some (.flt .f64 (fb b)):=rfl
 have e3:uh (.flt .f64 (fb a)) (.flt .f64 (fb b))=some (.cplx .f64 (fb a) (fb b)):=rfl
 simp only[cM,ad,dU,aA,e1,e2,e3]
 exact mk1 (st:=[]) (v:=.iface 170 (.cplx .f64 (fb a) (fb b))) rfl rfl (Q:=fun v s=>dp s (.tup [vT (.point a b),i64 0]) (.tup [v,i64 0])) fun s=>bO s (by simp[LV.plain,LV.ar])
theorem Ci {t:T}:(rT t).k=t.kind:=by cases t<;>rfl
theorem Cj {t:T}:(rT t).l=t.items.map rT:=by
 cases t<;>simp[rT,RV.l,T.items,tT,tU]
theorem Ck {t:T}:(rT t).ks=t.keys:=by cases t<;>rfl
theorem Bh {st:aa} {o:Nat} {x v:LV} (ho:st[o]?=some (.cells .rw [x])) (hv:v.one=true) {Q:LV→aa→Prop} (h:∀ s,Q (.agg [v]) s) :
  bd2 (lmk (stV st 1 (.ptr o 0) (.agg [v]))) fun _v st4=>bd (ldA st4 (.ptr o 0) 1) fun v5=>Q v5 st4:=by
 have e:=dE (k:=0) (vs:=[v]) (n:=1) ho (by simp) (by simp[hv]) rfl
 rw[e]
 simp only[aB,aj]
 rw[eE (cN ho) (by simp[bu])]
 exact h _
theorem xV {t:T} (ht:t.ok) (hb:t.items.length≤big) (hk:t.kind=6∨t.kind=7) (hrec:∀ x ∈ t.items,Pu Tryz.prog 29 [vR (rT x)] (vT x)) {R:LV→aa→Prop} {o1 o2:Nat} (_h12:o1≠o2) {x0:LV} (hR:∀ s,R (vT t) s) :
  ∀ (d i:Nat) (f:Option Nat) (st:aa),i+d=t.items.length→dC st o1 (rT t)→st[o2]?=some (.cells .rw [x0])→bS .rw st f 1 i (cn (t.items.take i))→(∀ o,f=some o→o≠o1∧o≠o2)→
   rU (.ptr o1 0) (.ptr o2 0) (osl f 1 i) (i64 i) R st:=by
 intro d
 induction d with
 | zero=>
  intro i f st hi hbx h2 ho hf
  apply zN
  have hl:=hbx.l
  rw[Cj] at hl
  have hks:=hbx.ks
  rw[Ck] at hks
  have hkk:=hbx.k
  rw[Ci] at hkk
  have:¬ ((i:Int)<(t.items.map rT).length):=by simp;omega
  simp only[uH,aP,av,ad,hl,bj,aq,aY,this,ft,aA,hkk,cP,hks]
  rw[bA]
  refine ⟨fun h=>?_,fun h=>?_⟩
  ·have h6:t.kind=6:=by simpa using h
   obtain ⟨l,rfl⟩:∃ l,t=.list l:=by cases t<;>simp_all [T.kind]
   have hi':i=l.length:=by simp only[T.items] at hi;omega
   subst hi'
   simp only[T.items,List.take_length] at ho
   refine ak.Cg (ws:=[]) (bs:=[]) ho fun st' hF=>?_
   refine (yY hb).call ?_
   exact Bh (hF.get h2 (fun e=>(hf _ e).2 rfl)) fj hR
  ·have h6:¬ t.kind=6:=by simpa using h
   obtain ⟨es,rfl⟩:∃ es,t=.map es:=by cases t<;>simp_all [T.kind]
   have hn:=cH ht.2.2
   have hi':i=(es.map (·.2)).length:=by simp only[T.items] at hi;omega
   subst hi'
   simp only[T.items,List.take_length] at ho
   refine ak.Cg (ws:=[sI (T.map es).keys]) (bs:=[]) ho fun st' hF=>?_
   simp only[T.items,cb] at hb
   refine (A8 hn hb).call ?_
   simp only[aO,bh,bE,ad,dB,kE,aB,aj,fS]
   exact Bh (cF (hF.get h2 (fun e=>(hf _ e).2 rfl))) fj hR
 | succ d ih=>
  intro i f st hi hbx h2 ho hf
  apply zN
  have hl:=hbx.l
  rw[Cj] at hl
  have hlt:i<t.items.length:=by omega
  have hx:t.items[i]?=some t.items[i]:=ba hlt
  have hp:=hrec _ (List.getElem_mem hlt)
  generalize t.items[i]=x at hx hp
  have hx':(t.items.map rT)[i]?=some (rT x):=by simp[hx]
  have e1:bF 7 (rL (t.items.map rT)) (i64 i)=some (.iptr (rcs (t.items.map rT)) (i*7)):=dj (by simpa using hlt)
  have c1:((i:Int)<(t.items.map rT).length):=by simp;omega
  simp only[uH,aP,av,ad,hl,bj,aq,aY,c1,dT,aH,e1,iX hx']
  refine hp.call ?_
  have e2:aV (fun i=>some (i*1,1)) (List.replicate 1 [LV.nili]).flatten [(0,vT x)]=some [lvT x]:=rfl
  rw[e2]
  simp only[eD,aj]
  have ho1:=ho.fr (st':=st++[.cells .rw [lvT x]]) (S:=fun _=>False) Fr.app (fun _ _ h=>h)
  obtain ⟨st2,f2,g1,g2,g3,g4,-⟩:=ho1.append (x:=.sl st.length 0 1 (.ex 1)) (k:=1) (new:=[lvT x]) (bytes:=16) (qA rfl) (by omega) rfl (by simp[fj]) (eo (by unfold big at hb;omega) (by omega))
  rw[g1]
  simp only[aj,bI,ad,bR (show i<2 ^ 40 by unfold big at hb;omega)]
  have n1:=b6 (show st[o1]?=_ from hbx)
  have n2:=b6 h2
  refine ih (i+1) f2 st2 (by omega) (g3.get (cF hbx) (fun e=>(hf _ e).1 rfl)) (g3.get (cF h2) (fun e=>(hf _ e).2 rfl)) ?_ (fun o e=>?_)
  ·have e3:t.items.take (i+1)=t.items.take i++[x]:=by
    rw[List.take_add_one,hx];rfl
   rw[e3,oa];exact g2
  ·rcases g4 o e with h|h
   ·exact hf o h
   ·simp at h;omega
theorem zX:∀ (n:Nat) (t:T),SizeOf.sizeOf t<n→t.ok→Pu Tryz.prog 29 [vR (rT t)] (vT t)
 | 0,_,h,_=>by omega
 | n+1,t,hn,ht=>by
  have hrec:∀ x ∈ t.items,Pu Tryz.prog 29 [vR (rT x)] (vT x):=fun x hx=>zX n x (by have:=T.eH hx;omega) (T.gD ht x hx)
  refine Pu.of (c29 _ ?_) gF bW
  have hb:dC [al.cells .rw (rc (rT t)),.cells .rw [.nili]] 0 (rT t):=rfl
  have hk:=hb.k
  rw[Ci] at hk
  simp only[w29,iY,aj,dB,aP,av,ad,aR,List.cons_append,a8,aN,hk]
  have fin:∀ {st:aa},st[1]?=some (.cells .rw [.nili])→bd2 (lmk (stV st 1 (.ptr 1 0) (vT t))) fun _v st4=>bd (ldA st4 (.ptr 1 0) 1) fun v5=>dp st4 (vT t) v5:=fun h=>Bh h fj (Q:=fun v s=>dp s (vT t) v) fun s=>bO s bW
  cases t<;>simp only[T.kind,aq,cP,ad]
  ·exact xB.call (fin rfl)
  ·exact oo.call (fin rfl)
  ·simp only[hb.b];exact (Ch _).call (fin rfl)
  ·simp only[hb.n];exact (Bg _).call (fin rfl)
  ·simp only[hb.n,hb.m]
   refine (xU ht.1 ht.2).call ?_
   simp only[aO,bh,bE,ad,kE,aB,aj,fS]
   exact fin rfl
  ·simp only[hb.s];exact (zc _).call (fin rfl)
  ·exact xV (x0:=.nili) ht ht.1 (.inl rfl) hrec (by decide) (R:=fun v s=>dp s _ v) (fun s=>bO s bW) _ 0 none _ (av _) hb rfl bS.nil (fun _ h=>by cases h)
  ·exact xV (x0:=.nili) ht (by simpa[T.items] using ht.1) (.inr rfl) hrec (by decide) (R:=fun v s=>dp s _ v) (fun s=>bO s bW) _ 0 none _ (av _) hb rfl bS.nil (fun _ h=>by cases h)
end Go.Proofs.YtknegckgmklnhaaGreatDoor
namespace Go.CP
theorem xW {neg:Bool} {n:Nat}:Ieee.Toward.even.cut neg n 0=n:=by
 simp only[Ieee.Toward.cut,Nat.zero_min,Nat.shiftLeft_zero,Nat.div_one,Nat.mod_one]
 simp
theorem xX {neg:Bool} {rung:Nat} (h1:2 ^ 52≤rung) (h2:rung<2047*2 ^ 52):Ieee.double.read (Ieee.double.word neg rung)=.number neg (2 ^ 52+rung % 2 ^ 52) (-1074+((rung / 2 ^ 52-1:Nat):Int)):=by
 have e1:Ieee.double.signWeight=2 ^ 63:=rfl
 have e2:Ieee.double.binade=2 ^ 52:=rfl
 have e3:Ieee.double.infRung=2047*2 ^ 52:=rfl
 have e4:Ieee.double.leastPlace = -1074:=rfl
 have hr:Ieee.double.word neg rung % 2 ^ 63=rung:=by
  cases neg
  ·show rung % 2 ^ 63=rung;omega
  ·show (Ieee.double.signWeight+rung) % 2 ^ 63=rung;rw[e1];omega
 have hs:(Ieee.double.word neg rung / 2 ^ 63 % 2==1)=neg:=by
  cases neg
  ·show (rung / 2 ^ 63 % 2==1)=false
   have:rung / 2 ^ 63=0:=by omega
   rw[this];rfl
  ·show ((Ieee.double.signWeight+rung) / 2 ^ 63 % 2==1)=true
   have:(Ieee.double.signWeight+rung) / 2 ^ 63=1:=by rw[e1];omega
   rw[this];rfl
 unfold Ieee.Format.read
 simp only[e1,e2,e3,e4,hr,hs]
 rw[if_neg (by omega),if_pos h2]
theorem Bi {neg:Bool}:Ieee.Toward.even.cut neg (9007199254740992 <<< 0) 1=4503599627370496:=by
 cases neg<;>rfl
theorem pf {x C K N a b c:Nat} (h1:K=N*2 ^ a) (h2:a+b=c) (hC:2 ^ c=C) (hx:2 ^ b=x):K*x=N*C:=by
 subst h1 hC hx
 rw[Nat.mul_assoc,← Nat.pow_add,h2]
theorem kept {neg:Bool} {N L:Nat} (hL1:2 ^ L≤N) (hL2:N<2 ^ (L+1)) (hN:N≤2 ^ 53) (hL53:L≤53) {C D:Nat} (hC:2 ^ 1074=C) (hD:2 ^ (L+1022)=D) :
  ∃ K,Ieee.Toward.even.cut neg (N <<< (0-((L:Int)-52)).toNat) (((L:Int)-52)-0).toNat=K∧2 ^ 52≤K∧K<2 ^ 53∧K*D=N*C:=by
 rcases Nat.lt_or_ge 52 L with k|k
 ·have hL:L=53:=by omega
  subst hL
  have hN53:N=9007199254740992:=by omega
  subst hN53
  refine ⟨4503599627370496,Bi,by omega,by omega,?_⟩
  have h1:(9007199254740992:Nat)=4503599627370496*2 ^ 1:=by omega
  exact (pf (K:=9007199254740992) (N:=4503599627370496) (a:=1) (b:=1074) (c:=53+1022) h1 (by omega) hD hC).symm
 ·have e6:(0-((L:Int)-52)).toNat=52-L:=by omega
  have e7:(((L:Int)-52)-0).toNat=0:=by omega
  rw[e6,e7,xW,Nat.shiftLeft_eq]
  have p1:2 ^ L*2 ^ (52-L)=2 ^ 52:=by rw[← Nat.pow_add,show L+(52-L)=52 by omega]
  have p2:2 ^ (L+1)*2 ^ (52-L)=2 ^ 53:=by rw[← Nat.pow_add,show L+1+(52-L)=53 by omega]
  refine ⟨_,rfl,?_,?_,pf rfl (by omega) hC hD⟩
  ·rw[← p1];exact Nat.mul_le_mul_right _ hL1
  ·rw[← p2];exact Nat.mul_lt_mul_of_pos_right hL2 (Nat.pow_pos (by omega))
theorem Cl {L K B:Nat} (hB:B=4503599627370496) (hL:L≤53) (h1:B≤K) (h2:K<2*B):B≤(L+1022)*B+K∧(L+1022)*B+K<2047*B∧B+((L+1022)*B+K) % B=K∧((L+1022)*B+K) / B-1=L+1022:=by
 subst hB
 refine ⟨by omega,by omega,by omega,by omega⟩
theorem wi {neg:Bool} {N L:Nat} (hpos:0<N) (hLL:N.log2=L) (hL53:L≤53) {K:Nat} (hK:Ieee.Toward.even.cut neg (N <<< (0-((L:Int)-52)).toNat) (((L:Int)-52)-0).toNat=K) (hK1:2 ^ 52≤K) (hK2:K<2 ^ 53) :
  Ieee.double.read (Ieee.double.nearest neg N 0)=.number neg K ((L:Int)-52):=by
 have e2:Ieee.double.binade=2 ^ 52:=rfl
 have e3:Ieee.double.infRung=2047*2 ^ 52:=rfl
 have e4:Ieee.double.leastPlace = -1074:=rfl
 have e5:((Ieee.double.fractionBits:Nat):Int)=52:=rfl
 have hlast:max ((0:Int)+(L:Nat)-52) (-1074)=(L:Int)-52:=by omega
 unfold Ieee.Format.nearest
 rw[if_neg (by omega)]
 simp only[hLL,e2,e3,e4,e5,hlast]
 rw[hK]
 have e8:((L:Int)-52 - -1074).toNat=L+1022:=by omega
 rw[e8]
 obtain ⟨r1,r2,r3,r4⟩:=Cl (L:=L) (K:=K) (B:=2 ^ 52) rfl hL53 hK1 hK2
 have hw:=xX (neg:=neg) r1 r2
 rw[r3,r4] at hw
 rw[Nat.min_eq_left (Nat.le_of_lt r2),hw]
 have e12:(-1074+((L+1022:Nat):Int))=(L:Int)-52:=by omega
 rw[e12]
theorem pg {n:Int} (h:n.natAbs≤2 ^ 53) {C:Nat} (hC:2 ^ 1074=C):∃ (m:Nat) (i:Int),Ieee.double.read (FloatKind.f64.nearest n)=.number (decide (n<0)) m i∧-1074≤i∧m*2 ^ (i+1074).toNat=n.natAbs*C:=by
 show ∃ (m:Nat) (i:Int),Ieee.double.read (Ieee.double.nearest (decide (n<0)) n.natAbs 0)=_∧_
 generalize hneg:decide (n<0)=neg
 generalize hN:n.natAbs=N at h
 rcases Nat.eq_zero_or_pos N with h0|hpos
 ·subst h0
  have hn:neg=false:=by rw[← hneg];exact decide_eq_false (by omega)
  subst hn
  exact ⟨0,-1074,rfl,by omega,by simp⟩
 have hL1:2 ^ N.log2≤N:=Nat.log2_self_le (by omega)
 have hL2:N<2 ^ (N.log2+1):=Nat.lt_log2_self
 generalize hLL:N.log2=L at hL1 hL2
 have hL53:L≤53:=by
  rcases Nat.lt_or_ge 53 L with k|k
  ·have:2 ^ 54≤2 ^ L:=Nat.pow_le_pow_right (by omega) k
   omega
  ·exact k
 obtain ⟨K,hK,hK1,hK2,hKv⟩:=kept (neg:=neg) hL1 hL2 h hL53 hC rfl
 refine ⟨K,(L:Int)-52,wi hpos hLL hL53 hK hK1 hK2,by omega,?_⟩
 have e11:((L:Int)-52+1074).toNat=L+1022:=by omega
 rw[e11];exact hKv
theorem kJ {n:Int} {m C:Nat} {i base:Int} (hb : -1074≤base) (hi:base≤i) (h:m*2 ^ (i+1074).toNat=n.natAbs*C) :
  Ieee.signed (decide (n<0)) m (i-base).toNat*((2 ^ (base+1074).toNat:Nat):Int)=n*(C:Int):=by
 have e:m*2 ^ (i-base).toNat*2 ^ (base+1074).toNat=n.natAbs*C:=by
  rw[Nat.mul_assoc,← Nat.pow_add,← h];congr 2;omega
 unfold Ieee.signed
 rw[Nat.shiftLeft_eq]
 by_cases hn:n<0
 ·rw[decide_eq_true hn,if_pos rfl,Int.neg_mul,← Int.natCast_mul,e,Int.natCast_mul]
  have:n = -(n.natAbs:Int):=by omega
  rw[show n*(C:Int) = -((n.natAbs:Int)*C) by rw[← Int.neg_mul,← this]]
 ·rw[decide_eq_false hn,if_neg (by simp),← Int.natCast_mul,e,Int.natCast_mul]
  have:n=(n.natAbs:Int):=by omega
  rw[← this]
theorem zd (n:Nat):∃ C:Nat,2 ^ n=C∧0<C:=⟨_,rfl,Nat.pow_pos (by omega)⟩
theorem kK {a b:Int} (ha:a.natAbs≤2 ^ 53) (hb:b.natAbs≤2 ^ 53):Op.floatEq .f64 (FloatKind.f64.nearest a) (FloatKind.f64.nearest b)=decide (a=b):=by
 obtain ⟨C,hC,hc⟩:=zd 1074
 obtain ⟨m,i,r1,i1,v1⟩:=pg ha hC
 obtain ⟨m',j,r2,j1,v2⟩:=pg hb hC
 clear hC
 show (Ieee.double.order _ _==some .eq)=_
 unfold Ieee.Format.order
 rw[r1,r2]
 simp only[Ieee.Datum.order]
 have s1:=kJ (n:=a) (base:=min i j) (by omega) (by omega) v1
 have s2:=kJ (n:=b) (base:=min i j) (by omega) (by omega) v2
 have hp:(0:Int)<((2 ^ (min i j+1074).toNat:Nat):Int):=by
  have:0<2 ^ (min i j+1074).toNat:=Nat.pow_pos (by omega)
  omega
 generalize ((2 ^ (min i j+1074).toNat:Nat):Int)=D at s1 s2 hp
 generalize Ieee.signed (decide (a<0)) m (i-min i j).toNat=x at s1
 generalize Ieee.signed (decide (b<0)) m' (j-min i j).toNat=y at s2
 have key:x=y↔a=b:=by
  constructor
  ·intro e
   rw[e,s2] at s1
   exact (Int.eq_of_mul_eq_mul_right (by omega) s1).symm
  ·intro e
   rw[e,← s2] at s1
   exact Int.eq_of_mul_eq_mul_right (by omega) s1
 by_cases hxy:x=y
 ·rw[decide_eq_true (key.1 hxy),hxy,Int.compare_eq_eq.2 rfl];rfl
 ·rw[decide_eq_false fun e=>hxy (key.2 e)]
  have:compare x y≠.eq:=fun e=>hxy (Int.compare_eq_eq.1 e)
  cases hc:compare x y<;>simp_all<;>rfl
end Go.CP
namespace Go.Proofs.YtknegckgmklnhaaGreatDoor
open Go Go.CP Classical
set_option maxRecDepth 100000
theorem oq {α:Type}:∀ {l:List α} {p:α × List α},p ∈ fa l→(p.1::p.2).Perm l
 | [],p,h=>by simp[fa] at h
 | x::xs,p,h=>by
  simp only[fa,List.mem_cons,qH] at h
  rcases h with rfl|⟨q,hq,rfl⟩
  ·exact .refl _
  ·exact (List.Perm.swap x q.1 q.2).trans ((oq hq).cons x)
theorem ph {α β:Type} {f:α→β}:∀ {l:List α},fa (l.map f)=(fa l).map fun p=>(f p.1,p.2.map f)
 | []=>rfl
 | x::xs=>by
  simp only[List.map_cons,fa,ph (l:=xs),List.map_map]
  rfl
theorem Cm {es:List (List UInt8 × T)}:(es.map fun e=>LV.str e.1).zip (dI es)=mE es:=by
 rw[kA]
 induction es with
 | nil=>rfl
 | cons e es ih=>simp only[List.map_cons,List.zip_cons_cons,ih,mE]
def InE (p:T→T→Prop) (es' rest:List (List UInt8 × T)):Prop:=∀ e ∈ rest,∃ y,T.find es' e.1=some y∧p e.2 y
theorem ze {es es':List (List UInt8 × T)} {p:T→T→Prop} (hn:(es'.map (·.1)).Nodup) {g:FuncId} (hg:∀ e ∈ es,∀ y,T.find es' e.1=some y→Pu Tryz.prog g [vT e.2,vT y] (.bool (decide (p e.2 y)))) {R:LV→aa→Prop} :
  ∀ (n:Nat) (rest:List (List UInt8 × T)),rest.length=n→(∀ e ∈ rest,e ∈ es)→∀ (st:aa) (o:Nat) (cur:Option (LV × LV)),st[o]?=some (.fiter cur (mE rest))→(∀ s,R (.bool (decide (InE p es' rest))) s)→
   qb (.imap (es'.map fun e=>.str e.1) (dI es')) (.fn (.func g) [] []) (.ptr o 0) R st:=by
 intro n
 induction n with
 | zero=>
  intro rest hl _ st o cur ho hR
  obtain rfl:=List.eq_nil_of_length_eq_zero hl
  apply xg
  have e:cJ st (.ptr o 0)=some [(.tup [.bool false],st)]:=by simp only[cJ,ho,mE,List.map_nil]
  have:=hR st
  rw[decide_eq_true (show InE p es' [] from fun e h=>by cases h)] at this
  simp only[qg,fU,e,ad,wE,aO,bh,aA,and_true]
  exact this
 | succ n ih=>
  intro rest hl hsub st o cur ho hR
  apply xg
  obtain ⟨x,xs,rfl⟩:∃ x xs,rest=x::xs:=by
   cases rest with
   | nil=>simp at hl
   | cons x xs=>exact ⟨x,xs,rfl⟩
  have e:cJ st (.ptr o 0)=some ((fa (mE (x::xs))).map fun q=>(.tup [.bool true,q.1.1,q.1.2],st.set o (.fiter (some q.1) q.2))):=by
   simp only[cJ,ho,mE,List.map_cons]
  simp only[qg,fU,e,ad]
  refine ug fun q hq=>?_
  obtain ⟨q',hq',rfl⟩:=List.mem_map.1 hq
  simp only[mE] at hq'
  rw[ph] at hq'
  obtain ⟨⟨⟨k,t⟩,l⟩,hpk,rfl⟩:=List.mem_map.1 hq'
  have hperm:=oq hpk
  have ho1:(st.set o (.fiter (some (.str k,vT t)) (mE l)))[o]?=some (.fiter (some (.str k,vT t)) (mE l)):=cN ho
  have hin:(k,t) ∈ x::xs:=hperm.mem_iff.1 List.mem_cons_self
  generalize st.set o (.fiter (some (.str k,vT t)) (mE l))=st1 at ho1
  have e2:kU st1 (.ptr o 0)=some (.tup [.str k,vT t]):=by simp only[kU,ho1]
  simp only[aO,bh,bE,ad,aH,e2,dB,kE,aB,aj,qp hn,if_true]
  have hl2:l.length=n:=by have:=hperm.length_eq;simp at this hl;omega
  rcases hf:T.find es' k with _|y
  ·simp only[Option.getD_none,Option.isSome_none,cM,ad,eN,aH]
   have:=hR (st1++[.cells .rw [lvT t]]++[.cells .rw [lvT .null]])
   rwa [decide_eq_false (fun h=>by obtain ⟨y,h1,_⟩:=h _ hin;rw[hf] at h1;cases h1)] at this
  ·have e3:jO (.fn (.func g) [] []) [vT t,vT y]=some (g,[vT t,vT y]):=rfl
   simp only[Option.getD_some,Option.isSome_some,aj,cM,ad,dU,aA,fS,oc,e3]
   refine (hg _ (hsub _ hin) y hf).call ?_
   simp only[cM,ad,bA]
   refine ⟨fun h=>?_,fun h=>?_⟩
   ·have hp:¬ p t y:=by simpa using h
    have:=hR (st1++[.cells .rw [lvT t]]++[.cells .rw [lvT y]])
    rwa [decide_eq_false (fun h=>by obtain ⟨y',h1,h2⟩:=h _ hin;rw[hf] at h1;cases h1;exact hp h2)] at this
   ·have hp:p t y:=by simpa using h
    refine ih l hl2 (fun e he=>hsub e (hperm.mem_iff.1 (List.mem_cons_of_mem _ he))) _ o _ (cF (cF ho1)) fun s=>?_
    have:=hR s
    have e4:InE p es' (x::xs)=InE p es' l:=propext ⟨fun h e he=>h e (hperm.mem_iff.1 (List.mem_cons_of_mem _ he)),fun h e he=>by
     rcases List.mem_cons.1 (hperm.mem_iff.2 he) with rfl|he
     ·exact ⟨y,hf,hp⟩
     ·exact h e he⟩
    rwa [e4] at this
theorem Bj {es es':List (List UInt8 × T)} {p:T→T→Prop} (hn:(es'.map (·.1)).Nodup) {g:FuncId} (hg:∀ e ∈ es,∀ y,T.find es' e.1=some y→Pu Tryz.prog g [vT e.2,vT y] (.bool (decide (p e.2 y)))) :
  Pu Tryz.prog 114 [.imap (es.map fun e=>.str e.1) (dI es),.imap (es'.map fun e=>.str e.1) (dI es'),.fn (.func g) [] []] (.bool (decide (es.length=es'.length∧InE p es' es))):=by
 refine Pu.of (CG _ _ _ ?_) (by simp only[LV.ar,LV.plain,jJ,Bool.and_true,bP (f:=fun e:List UInt8 × T=>LV.str e.1) fun _ _=>rfl]) rfl
 have e1:∀ {es:List (List UInt8 × T)} {st:aa},kW st (.imap (es.map fun e=>.str e.1) (dI es))=some (i64 es.length):=fun {es st}=>by simp only[kW,cb]
 simp only[AQ,e1,ad,aq,cC,bA]
 refine ⟨fun h=>?_,fun h=>?_⟩
 ·have hne:es.length≠es'.length:=fun e=>by simp[e] at h
  rw[decide_eq_false (fun k=>hne k.1)];rfl
 ·have he:es.length=es'.length:=by
   have h1:(es.length:Int)=es'.length:=by simpa using h
   omega
  have e2:∀ {st:aa},kT Tryz.prog st 173 (.imap (es.map fun e=>.str e.1) (dI es))=some (.ptr st.length 0,st++[.fiter none (mE es)]):=fun {st}=>by
   unfold kT
   rw[Tryz.underlying173]
   simp only[cb,kB,if_true,Cm]
  rw[e2]
  simp only[aj]
  refine ze hn hg es.length es rfl (fun _ h=>h) _ _ none (by simp) fun s=>?_
  by_cases hI:InE p es' es
  ·rw[decide_eq_true hI,decide_eq_true ⟨he,hI⟩];rfl
  ·rw[decide_eq_false hI,decide_eq_false fun h=>hI h.2];rfl
theorem xY {x y:Bool}:e9 Tryz.prog 4 (.bool x) (.bool y)=some (x==y):=by kernel_rfl
theorem zf {x y:Int}:e9 Tryz.prog 3 (.int .i64 x) (.int .i64 y)=some (x==y):=by kernel_rfl
theorem zg {x y:List UInt8}:e9 Tryz.prog 9 (.str x) (.str y)=some (x==y):=by kernel_rfl
theorem xZ {a b c d:Nat}:e9 Tryz.prog 170 (.cplx .f64 a b) (.cplx .f64 c d)=some (Op.floatEq .f64 a c&&Op.floatEq .f64 b d):=by kernel_rfl
theorem u5:∀ {a b:List (List UInt8)},a.Nodup→(∀ x ∈ a,x ∈ b)→a.length≤b.length
 | [],_,_,_=>by simp
 | x::a,b,h,hs=>by
  rw[List.nodup_cons] at h
  have hx:=hs x (by simp)
  have h1:=u5 (a:=a) (b:=b.erase x) h.2 fun y hy=>by
   have hne:y≠x:=fun e=>h.1 (e ▸ hy)
   exact (List.mem_erase_of_ne hne).2 (hs y (List.mem_cons_of_mem _ hy))
  rw[List.length_erase_of_mem hx] at h1
  have:=List.length_pos_of_mem hx
  simp only[aN];omega
theorem u6:∀ {es es':List (List UInt8 × T)},(es.map (·.1)).Pairwise ltB→(es'.map (·.1)).Pairwise ltB→es.length=es'.length→(∀ e ∈ es,e ∈ es')→es=es'
 | [],[],_,_,_,_=>rfl
 | [],_::_,_,_,h,_=>by simp at h
 | _::_,[],_,_,h,_=>by simp at h
 | e::l,e'::l',h,h',hl,hs=>by
  simp only[List.map_cons,List.pairwise_cons] at h h'
  have hll:l.length=l'.length:=by simpa using hl
  rcases List.mem_cons.1 (hs e (by simp)) with rfl|he
  ·congr 1
   refine u6 h.2 h'.2 hll fun x hx=>?_
   rcases List.mem_cons.1 (hs x (List.mem_cons_of_mem _ hx)) with rfl|hx'
   ·exact absurd rfl (nZ (h.1 x.1 (List.mem_map.2 ⟨x,hx,rfl⟩)))
   ·exact hx'
  ·exfalso
   have h1:ltB e'.1 e.1:=h'.1 e.1 (List.mem_map.2 ⟨e,he,rfl⟩)
   have h2:∀ x ∈ (e::l).map (·.1),x ∈ l'.map (·.1):=by
    intro x hx
    obtain ⟨y,hy,rfl⟩:=List.mem_map.1 hx
    have h3:ltB e'.1 y.1:=by
     rcases List.mem_cons.1 hy with rfl|hy
     ·exact h1
     ·exact fG h1 (h.1 y.1 (List.mem_map.2 ⟨y,hy,rfl⟩))
    rcases List.mem_cons.1 (hs y hy) with rfl|hy'
    ·exact absurd rfl (nZ h3)
    ·exact List.mem_map.2 ⟨y,hy',rfl⟩
   have h4:=u5 (a:=(e::l).map (·.1)) (by
    refine cH ?_
    simp only[List.map_cons,List.pairwise_cons];exact h) h2
   simp at h4;omega
theorem ya {es es':List (List UInt8 × T)} (h:(es.map (·.1)).Pairwise ltB) (h':(es'.map (·.1)).Pairwise ltB):(es.length=es'.length∧InE (· = ·) es' es)↔T.map es=T.map es':=by
 constructor
 ·rintro ⟨h1,h2⟩
  rw[u6 h h' h1 fun e he=>by
   obtain ⟨y,h3,h4⟩:=h2 e he
   have:=T.ky h3
   rw[← h4] at this;exact this]
 ·intro e
  cases e
  exact ⟨rfl,fun e he=>⟨e.2,T.mg (cH h) he,rfl⟩⟩
def scalar:T→Prop
 | .list _ | .map _=>False
 | _=>True
theorem Cn {a b:T} (ha:a.ok) (hb:b.ok) (sa:scalar a) (sb:scalar b):mi true (e9 Tryz.prog) (lvT a) (lvT b)=some (decide (a=b)):=by
 have dt:∀ {p:Prop},p→some true=some (decide p):=fun h=>by rw[decide_eq_true h]
 have df:∀ {p:Prop},¬ p→some false=some (decide p):=fun h=>by rw[decide_eq_false h]
 have db:∀ {p:Prop} {c:Bool},(c=true↔p)→some c=some (decide p):=fun {p c} h=>by
  cases c
  ·exact df fun hp=>by have:=h.2 hp;cases this
  ·exact dt (h.1 rfl)
 cases a<;>cases b<;>first|exact sa.elim|exact sb.elim|exact df (by simp) | exact dt rfl|skip
 ·rename_i x y
  exact (show mi true (e9 Tryz.prog) (lvT (.bool x)) (lvT (.bool y))=some (x==y) from xY).trans (db (by simp))
 ·rename_i x y
  exact (show mi true (e9 Tryz.prog) (lvT (.int x)) (lvT (.int y))=some (x==y) from zf).trans (db (by simp))
 ·rename_i x y z w
  refine (show mi true (e9 Tryz.prog) (lvT (.point x y)) (lvT (.point z w))=some (Op.floatEq .f64 (fb x) (fb z)&&Op.floatEq .f64 (fb y) (fb w)) from xZ).trans ?_
  simp only[T.ok] at ha hb
  rw[show fb x=FloatKind.f64.nearest x from rfl,show fb z=FloatKind.f64.nearest z from rfl,show fb y=FloatKind.f64.nearest y from rfl,show fb w=FloatKind.f64.nearest w from rfl,
   kK (by omega) (by omega),kK (by omega) (by omega)]
  exact db (by simp)
 ·rename_i x y
  exact (show mi true (e9 Tryz.prog) (lvT (.text x)) (lvT (.text y))=some (x==y) from zg).trans (db (by simp))
theorem u7 {a:T}:asC 171 (some .nils) (lvT a) true=some (.tup [match a with | .list l=>vL l|_=>.nils,.bool (match a with | .list _=>true|_=>false)]):=by cases a<;>rfl
theorem Bk {a:T}:asC 173 (some .nilm) (lvT a) true=some (.tup [match a with | .map es=>.imap (es.map fun e=>.str e.1) (dI es) | _=>.nilm,.bool (match a with | .map _=>true|_=>false)]):=by cases a<;>rfl
theorem u9:∀ (n:Nat) (a b:T),SizeOf.sizeOf a<n→a.ok→b.ok→Pu Tryz.prog 48 [vT a,vT b] (.bool (decide (a=b)))
 | 0,_,_,h,_,_=>by omega
 | n+1,a,b,hn,ha,hb=>by
  have hrec:∀ x ∈ a.items,∀ y,y.ok→Pu Tryz.prog 48 [vT x,vT y] (.bool (decide (x=y))):=fun x hx y hy=>u9 n x y (by have:=T.eH hx;omega) (T.gD ha x hx) hy
  refine Pu.of (c48 _ _ ?_) (by simp only[LV.ar,LV.plain,bQ,Bool.and_true]) rfl
  have lb:∀ {st:aa} {t:T},cy st (vT t)=some (.ptr st.length 0,st++[.cells .rw [lvT t]]):=rfl
  have g0:ld1 [al.cells .rw [lvT a],.cells .rw [lvT b]] (.ptr 0 0)=some (lvT a):=rfl
  have g1:ld1 [al.cells .rw [lvT a],.cells .rw [lvT b]] (.ptr 1 0)=some (lvT b):=rfl
  simp only[w48,lb,aj,aP,av,aR,List.cons_append,a8,aN,g0,g1,ad,u7,Bk,aO,bh,bE]
  have no:∀ {p:Prop} {st:aa},¬ p→dp st (.bool (decide p)) (.bool false):=fun h=>by rw[decide_eq_false h];rfl
  have yes:∀ {p q:Prop} {dq:Decidable q} {st:aa},(q↔p)→dp st (.bool (decide p)) (.bool (@decide q dq)):=fun {p q dq st} h=>by
   by_cases hp:p
   ·rw[decide_eq_true hp,decide_eq_true (h.2 hp)];rfl
   ·rw[decide_eq_false hp,decide_eq_false fun hq=>hp (h.1 hq)];rfl
  by_cases sa:scalar a
  ·by_cases sb:scalar b
   ·have he:=Cn ha hb sa sb
    cases a<;>first|exact sa.elim|skip
    all_goals cases b<;>first|exact sb.elim|skip
    all_goals simp only[aA,oM,cond_false,ad,he,wN,vF]
    all_goals exact rfl
   ·cases b<;>first|exact (sb trivial).elim|skip
    all_goals cases a<;>first|exact sa.elim|skip
    all_goals simp only[aA,aH,oM,cond_false,cond_true,ad]
    all_goals exact no (by simp)
  ·cases a<;>first|exact (sa trivial).elim|skip
   ·rename_i l
    cases b<;>simp only[aA,aH]<;>first|exact no (by simp) | skip
    rename_i l'
    refine (A9 (p:=(· = ·)) (l:=l) (l':=l') ha.1 fun i x y hx hy=>hrec x (cd hx) y (T.gD hb y (cd hy))).call ?_
    exact yes (dR.eq.trans (by simp))
   ·rename_i es
    cases b<;>simp only[aA,aH]<;>first|exact no (by simp) | skip
    rename_i es'
    refine (Bj (p:=(· = ·)) (cH hb.2.2) fun e he y hy=>hrec e.2 (List.mem_map.2 ⟨e,he,rfl⟩) y ((T.fi.1 hb.2.1 _ (T.ky hy)).2)).call ?_
    exact yes (ya ha.2.2 hb.2.2)
end Go.Proofs.YtknegckgmklnhaaGreatDoor
