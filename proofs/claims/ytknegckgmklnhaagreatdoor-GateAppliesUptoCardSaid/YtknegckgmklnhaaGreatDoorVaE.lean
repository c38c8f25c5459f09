/- Parts of the proof. -/
import Derived.Test.YtknegckgmklnhaaGreatDoorCp46
import Derived.Test.YtknegckgmklnhaaGreatDoorVbR7
import Derived.Test.YtknegckgmklnhaaGreatDoorVbW6
import Derived.Shelf.SlSorted.Search
namespace Go.Proofs.YtknegckgmklnhaaGreatDoor
open Go Go.CP
set_option maxRecDepth 100000
mutual
def every (q:T→Bool):T→Bool
 | .list l=>q (.list l)&&xR q l
 | .map es=>q (.map es)&&xS q es
 | .null=>q .null
 | .unknown=>q .unknown
 | .bool b=>q (.bool b)
 | .int n=>q (.int n)
 | .point a b=>q (.point a b)
 | .text s=>q (.text s)
def xR (q:T→Bool):List T→Bool
 | []=>true
 | t::ts=>every q t&&xR q ts
def xS (q:T→Bool):List (List UInt8 × T)→Bool
 | []=>true
 | e::es=>every q e.2&&xS q es
end
theorem vp {q:T→Bool}:∀ {l:List T},xR q l=l.all (every q)
 | []=>rfl
 | t::ts=>by simp[xR,vp (l:=ts)]
theorem vq {q:T→Bool}:∀ {l:List (List UInt8 × T)},xS q l=(l.map (·.2)).all (every q)
 | []=>rfl
 | t::ts=>by simp[xS,vq (l:=ts)]
theorem pk {q:T→Bool} {t:T}:every q t=(q t&&t.items.all (every q)):=by
 cases t<;>simp[every,T.items,vp,vq]
theorem dV {st:aa} {t:T}:cu st (vT t)=some (.ptr st.length 0,st++[.cells .rw [lvT t]]):=rfl
theorem KR {q:T→Bool} {g:FuncId} {x:T} (hx:Pu Tryz.prog 119 [vT x,.fn (.func g) [] []] (.bool (every q x))) {st:aa} {o:Nat} (ho:st[o]?=some (.cells .rw [.fn (.func g) [] []])) {R:LV→aa→Prop}
  (hR:∀ s,s[o]?=some (.cells .rw [.fn (.func g) [] []])→R (.bool (!(every q x))) s):aw Tryz.prog 178 [vT x,.ptr o 0] st R:=by
 refine QM _ _ ?_
 have e1:ld1 (st++[.cells .rw [lvT x]]) (.ptr o 0)=some (.fn (.func g) [] []):=by rw[bx (cb ho)];rfl
 simp only[Nz,dV,af,iH,ab,e1]
 refine hx.call ?_
 simp only[bw,ab]
 exact hR _ (cb ho)
theorem KS {q:T→Bool} {g:FuncId} {l:List T} (hb:l.length≤big) (hl:∀ x ∈ l,Pu Tryz.prog 119 [vT x,.fn (.func g) [] []] (.bool (every q x))) {o:Nat} {R:LV→aa→Prop}
  (h1:∀ (k:Nat) s,l.all (every q)=false→R (i64 k) s) (h2:∀ s,l.all (every q)=true→R (i64 (-1)) s) :
  ∀ (d i:Nat) (st:aa),i+d=l.length→(l.take i).all (every q)=true→st[o]?=some (.cells .rw [.fn (.func g) [] []])→tj (vL l) (.fn (.func 178) [] [.ptr o 0]) (i64 l.length) (i64 i) R st:=by
 intro d
 induction d with
 | zero=>
  intro i st hi ht ho
  apply G4
  have:¬ ((i:Int)<l.length):=by omega
  simp only[wL,ad,au,ab,this,a8,ae]
  rw[List.take_of_length_le (by omega)] at ht
  exact h2 _ ht
 | succ d ih=>
  intro i st hi ht ho
  apply G4
  have hlt:i<l.length:=by omega
  have c1:(i:Int)<l.length:=by omega
  have hx:l[i]?=some l[i]:=bg hlt
  have hp:=hl _ (List.getElem_mem hlt)
  generalize l[i]=x at hx hp
  have e1:bn 1 (vL l) (i64 i)=some (.iptr (fh l) (i*1)):=cj hlt
  have e2:qe (.fn (.func 178) [] [.ptr o 0]) [vT x]=some (178,[vT x,.ptr o 0]):=rfl
  simp only[wL,ad,au,ab,c1,aZ,ah,e1,tR hx,e2,af]
  refine KR hp ho fun s hs=>?_
  rcases hq:every q x with _|_
  ·simp only[bL,ah]
   exact h1 i s (List.all_eq_false.2 ⟨x,cr hx,by simp[hq]⟩)
  ·simp only[bM,ae,aH,ab,aK (show i<2 ^ 40 by unfold big at hb;omega)]
   refine ih (i+1) s (by omega) ?_ hs
   rw[List.take_add_one,List.all_append,ht,hx]
   simp[hq]
theorem Ew {q:T→Bool} {g:FuncId} (hg:∀ t:T,Pu Tryz.prog g [vT t] (.bool (q t))):∀ (n:Nat) (t:T),SizeOf.sizeOf t<n→t.ok→Pu Tryz.prog 119 [vT t,.fn (.func g) [] []] (.bool (every q t))
 | 0,_,h,_=>by omega
 | n+1,t,hn,ht=>by
  have hrec:∀ x ∈ t.items,Pu Tryz.prog 119 [vT x,.fn (.func g) [] []] (.bool (every q x)):=fun x hx=>Ew hg n x (by have:=T.fB hx;omega) (T.dY ht x hx)
  have hb:t.items.length≤big:=by
   cases t<;>simp only[T.items,aR,Nat.zero_le,bH]
   ·exact ht.1
   ·exact ht.1
  refine Pu.of (c119 _ _ ?_) (by simp only[LV.aG,LV.plain,eX,Bool.and_true]) rfl
  have lb2:cu [ar.cells .rw [lvT t]] (.fn (.func g) [] [])=some (.ptr 1 0,[ar.cells .rw [lvT t],.cells .rw [.fn (.func g) [] []]]):=rfl
  have g0:ldA [ar.cells .rw [lvT t],.cells .rw [.fn (.func g) [] []]] (.ptr 0 0) 1=some (vT t):=rfl
  have g1:ld1 [ar.cells .rw [lvT t],.cells .rw [.fn (.func g) [] []]] (.ptr 1 0)=some (.fn (.func g) [] []):=rfl
  have e2:qe (.fn (.func g) [] []) [vT t]=some (g,[vT t]):=rfl
  simp only[Nx,dV,af,bD,aR,lb2,g0,g1,e2,ab]
  refine (hg t).call ?_
  rw[pk]
  rcases hq:q t with _|_
  ·simp only[ae,Bool.false_and];exact rfl
  ·simp only[ah,g0,ab,Bool.true_and]
   refine (jV ht).call ?_
   refine QL _ _ ?_
   show aw Tryz.prog 216 _ _ _
   refine QN _ _ ?_
   show tj (vL t.items) _ (i64 t.items.length) (i64 (0:Nat)) _ _
   refine KS (q:=q) (g:=g) (o:=1) hb hrec (fun k s h=>?_) (fun s h=>?_) t.items.length 0 _ (by omega) rfl rfl
   ·have c:((k:Int)≥0):=by omega
    simp only[ad,dN,ab,c,aZ,bw,bM,h]
    exact rfl
   ·have c:¬ ((-1:Int)≥0):=by omega
    simp only[ad,dN,ab,c,a8,bw,bL,h]
    exact rfl
def cK (t:T):Bool:=t.kind != 1
theorem IG (t:T):Pu Tryz.prog 120 [vT t] (.bool (cK t)):=by
 refine Pu.of (QK _ ?_) jU rfl
 simp only[Ny,dV,af,iH,ab]
 refine (kN t).call ?_
 simp only[ad,bJ,ab]
 exact rfl
theorem Ah {t:T} (h:t.ok):Pu Tryz.prog 55 [vT t] (.bool (every cK t)):=by
 refine Pu.of (c55 _ ?_) jU rfl
 simp only[w55,dV,af,iH,ab]
 refine (Ew IG _ t (Nat.lt_succ_self _) h).call ?_
 exact rfl
end Go.Proofs.YtknegckgmklnhaaGreatDoor
namespace Go.CP
theorem aw.Qo {P:Program} {f:FuncId} {xs:List LV} {st:aa} {R:LV→aa→Prop} (h:aw P f xs [] fun r s=>∃ v,dp s v r∧v.plain=true∧R v st) (hx:LV.aG xs=true):aw P f xs st R:=by
 have go:∀ {w0:World} {β:Lay} {w w':World} {u:Value} {β':Lay} {r v:LV} {st':aa},Rel w0 β st w→dp st' v r→v.plain=true→Rp β' r u→Rel w β' st' w'→(β.bare w.heap.size).le β'→
   ∃ β2,Rp β2 v u∧Rel w0 β2 st w'∧β.le β2:=by
  intro w0 β w w' u β' r v st' h1 hd hv hr hrel hle
  have e:=GP hrel hle fun _=>rfl
  obtain ⟨k1,k2⟩:=h1.behind hrel.below e (td hrel)
  exact ⟨_,Rp.et (β:=β'.frz st' w') (β':=β.fz (β'.frz st' w')) (fun _ _ e=>e) hv (lN hrel hd hr),k1,k2⟩
 rcases h with h|h
 ·refine .inl ⟨h.1,fun w0 β w vs h1 h2=>?_⟩
  refine (h.2 w _ w vs h1.bare (Rps.et (β:=β) (β':=β.bare w.heap.size) (fun _ _ e=>e) hx h2)).mono ?_
  rintro e w' ⟨β',r,st',u,⟨v,hd,hv,hR⟩,rfl,h4,h5,h6⟩
  obtain ⟨β2,k1,k2,k3⟩:=go h1 hd hv h4 h5 h6
  exact ⟨β2,v,st,u,hR,rfl,k1,k2,k3⟩
 ·refine .inr fun w0 β w vs h1 h2=>?_
  obtain ⟨u,w',h3,β',r,st',⟨v,hd,hv,hR⟩,h5,h6,h7⟩:=h w _ w vs h1.bare (Rps.et (β:=β) (β':=β.bare w.heap.size) (fun _ _ e=>e) hx h2)
  obtain ⟨β2,k1,k2,k3⟩:=go h1 hd hv h5 h6 h7
  exact ⟨u,w',h3,β2,v,st,hR,k1,k2,k3⟩
structure Pb (P:Program) (f:FuncId) (xs:List LV) (Q:LV→Prop):Prop where
 call:∀ {st:aa} {R:LV→aa→Prop},(∀ v,Q v→R v st)→aw P f xs st R
def Dp (Q:LV→Prop) (r:LV) (s:aa):Prop:=∃ v,dp s v r∧v.plain=true∧Q v
theorem Pb.of {P:Program} {f:FuncId} {xs:List LV} {Q:LV→Prop} (h:aw P f xs [] (Dp Q)) (hx:LV.aG xs=true):Pb P f xs Q:=
 ⟨fun hR=>aw.Qo (h.mono fun _ _ ⟨v,h1,h2,h3⟩=>⟨v,h1,h2,hR v h3⟩) hx⟩
end Go.CP
namespace Go.Proofs.YtknegckgmklnhaaGreatDoor
open Go Go.CP
set_option maxRecDepth 100000
section
variable {st st':aa} {R:LV→aa→Prop}
theorem kb {t:KT} {v:T}:LV.aG [kV t,vT v]=true:=by simp[LV.aG,eu,cB]
theorem kl0 {t:KT}:ld1 st (.iptr (kC t) 0)=some (i64 t.f):=by rw[bA,tZ];rfl
theorem kl1 {t:KT}:ld1 st (.iptr (kC t) 1)=some (.isl (kVs t.l) t.l.length none):=by rw[bA,tZ];rfl
theorem kl2 {t:KT}:ld1 st (.iptr (kC t) 2)=some (sL t.ns):=by rw[bA,tZ];rfl
theorem xT (k:Tx):Pu Tryz.prog 214 [.str k] (.agg [.str k,i64 (-1)]):=by
 refine Pu.of (Rq _ ?_) rfl rfl
 have e:bh (aB (aF [(0,1),(1,1)]) [LV.str [],i64 0] [(0,.str k),(1,i64 (-1))])=some (.agg [.str k,i64 (-1)]):=rfl
 have p:stV [ar.cells .rw [LV.str [],i64 0]] 2 (.ptr 0 0) (.agg [.str k,i64 (-1)])=some [ar.cells .rw [.str k,i64 (-1)]]:=rfl
 have g:ldA [ar.cells .rw [LV.str k,i64 (-1)]] (.ptr 0 0) 2=some (.agg [.str k,i64 (-1)]):=rfl
 simp only[Qe,cv,bD,aR,e,ab,p,aA,af,g]
 exact bu _ rfl
theorem KU (i:Int):Pu Tryz.prog 215 [i64 i] (.agg [.str [],i64 i]):=by
 refine Pu.of (Rr _ ?_) rfl rfl
 have e:bh (aB (aF [(0,1),(1,1)]) [LV.str [],i64 0] [(1,i64 i)])=some (.agg [.str [],i64 i]):=rfl
 have p:stV [ar.cells .rw [LV.str [],i64 0]] 2 (.ptr 0 0) (.agg [.str [],i64 i])=some [ar.cells .rw [.str [],i64 i]]:=rfl
 have g:ldA [ar.cells .rw [LV.str [],i64 i]] (.ptr 0 0) 2=some (.agg [.str [],i64 i]):=rfl
 simp only[Qf,cv,bD,aR,e,ab,p,aA,af,g]
 exact bu _ rfl
def StQ (n:Nat) (v:LV):Prop:=∃ cs,v=.isl cs n none∧cs.length=n*2∧LV.aG cs=true∧cs.all LV.one=true
theorem Ex {f:Option Nat} {n:Nat} {acc:List LV} {x y:LV} (h:ca .rw st f 2 n acc) (hx:x.one=true) (hy:y.one=true) (hl:n<2 ^ 31) :
  ∃ st2 f2,bo (st++[.cells .rw [x,y]]) 2 24 .rw (osl f 2 n) (.sl st.length 0 1 (.ex 1))=some (osl f2 2 (n+1),st2)∧ca .rw st2 f2 2 (n+1) (acc++[x,y]):=by
 have h1:=h.fr (st':=st++[.cells .rw [x,y]]) (S:=fun _=>False) Fr.app (fun _ _ h=>h)
 obtain ⟨st2,f2,q1,q2,_⟩:=h1.append (x:=.sl st.length 0 1 (.ex 1)) (k:=1) (new:=[x,y]) (bytes:=24) (by simp[eA]) (by omega) rfl (by simp[hx,hy]) (dR (by omega) (by omega))
 exact ⟨st2,f2,q1,q2⟩
theorem FY {ks:List Tx} (hb:ks.length≤big):∀ (d i:Nat) (f:Option Nat) (acc:List LV) (st:aa),i+d=ks.length→ca .rw st f 2 i acc→LV.aG acc=true→acc.all LV.one=true→
  tG (osl f 2 i) (sL ks) (i64 ks.length) (i64 i) (Dp (StQ ks.length)) st:=by
 intro d
 induction d with
 | zero=>
  intro i f acc st hi ho hp h1
  refine H2 _ _ _ _ ?_
  have c1:¬ ((i:Int)<ks.length):=by omega
  simp only[B9,ad,au,ab,c1,a8,ae]
  have hi:i=ks.length:=by omega
  subst hi
  exact ⟨.isl acc ks.length none,eL ho rfl (bU _ hp),by simp[LV.plain,hp],acc,rfl,ho.1,hp,h1⟩
 | succ d ih=>
  intro i f acc st hi ho hp h1
  refine H2 _ _ _ _ ?_
  have hlt:i<ks.length:=by omega
  have c1:((i:Int)<ks.length):=by omega
  have e1:bn 1 (sL ks) (i64 i)=some (.iptr (ks.map .str) (i*1)):=cj hlt
  have hg:(ks.map LV.str)[i*1]?=some (.str ks[i]):=by simp[hlt]
  simp only[B9,ad,au,ab,c1,aZ,ah,e1,bA,hg]
  refine (xT _).call ?_
  have ef:aB (fun i=>some (i*2,2)) (List.replicate 1 [LV.str [],i64 0]).flatten [(0,.agg [.str ks[i],i64 (-1)])]=some [.str ks[i],i64 (-1)]:=rfl
  rw[ef]
  simp only[bE,af]
  obtain ⟨st2,f2,q1,q2⟩:=Ex ho (x:=.str ks[i]) (y:=i64 (-1)) rfl rfl (by unfold big at hb;omega)
  rw[q1]
  simp only[af,aH,ab,aK (show i<2 ^ 40 by unfold big at hb;omega)]
  exact ih (i+1) f2 _ st2 (by omega) q2 (by rw[dP,hp];rfl) (by rw[List.all_append,h1];rfl)
theorem KV {ks:List Tx} (hb:ks.length≤big):Pb Tryz.prog 175 [sL ks] (StQ ks.length):=by
 refine Pb.of (c175 _ ?_) (by simp only[LV.aG,LV.plain,bV (f:=LV.str) fun _ _=>rfl,Bool.and_true])
 show tG (osl none 2 0) (sL ks) (i64 ks.length) (i64 (0:Nat)) _ _
 exact FY hb ks.length 0 none [] _ (by omega) ca.nil rfl rfl
theorem Ai {n:Nat} (hb:n≤big):∀ (d i:Nat) (f:Option Nat) (acc:List LV) (st:aa),i+d=n→ca .rw st f 2 i acc→LV.aG acc=true→acc.all LV.one=true→
  tH (osl f 2 i) (i64 n) (i64 i) (Dp (StQ n)) st:=by
 intro d
 induction d with
 | zero=>
  intro i f acc st hi ho hp h1
  refine H3 _ _ _ ?_
  have c1:¬ ((i:Int)<n):=by omega
  simp only[Ca,ad,au,ab,c1,a8,ae]
  have hi:i=n:=by omega
  subst hi
  exact ⟨.isl acc i none,eL ho rfl (bU _ hp),by simp[LV.plain,hp],acc,rfl,ho.1,hp,h1⟩
 | succ d ih=>
  intro i f acc st hi ho hp h1
  refine H3 _ _ _ ?_
  have c1:((i:Int)<n):=by omega
  simp only[Ca,ad,au,ab,c1,aZ,ah]
  refine (KU _).call ?_
  have ef:aB (fun i=>some (i*2,2)) (List.replicate 1 [LV.str [],i64 0]).flatten [(0,.agg [.str [],i64 i])]=some [.str [],i64 i]:=rfl
  rw[ef]
  simp only[bE,af]
  obtain ⟨st2,f2,q1,q2⟩:=Ex ho (x:=.str []) (y:=i64 i) rfl rfl (by unfold big at hb;omega)
  rw[q1]
  simp only[af,aH,ab,aK (show i<2 ^ 40 by unfold big at hb;omega)]
  exact ih (i+1) f2 _ st2 (by omega) q2 (by rw[dP,hp];rfl) (by rw[List.all_append,h1];rfl)
theorem FZ {n:Nat} (hb:n≤big):Pb Tryz.prog 176 [i64 n] (StQ n):=by
 refine Pb.of (Rl _ ?_) rfl
 show tH (osl none 2 0) (i64 n) (i64 (0:Nat)) _ _
 exact Ai hb n 0 none [] _ (by omega) ca.nil rfl rfl
def ixI (k:Tx) (ns:List Tx):Int:=match eP k ns 0 with
 | some i=>i
 | none=>-1
theorem uh {k:Tx} {ns:List Tx} (hb:ns.length≤big) (hR:R (i64 (ixI k ns)) st):∀ (d i:Nat),i+d=ns.length→eP k ns 0=eP k (ns.drop i) i→tI (sL ns) (.str k) (i64 ns.length) (i64 i) R st
 | 0,i,hi,hp=>by
  refine H4 _ _ _ _ ?_
  have c1:¬ ((i:Int)<ns.length):=by omega
  have e:ixI k ns = -1:=by unfold ixI;rw[hp,bR (by omega)];rfl
  rw[e] at hR
  simp only[Cb,ad,au,ab,c1,a8,ae]
  exact hR
 | d+1,i,hi,hp=>by
  refine H4 _ _ _ _ ?_
  have hlt:i<ns.length:=by omega
  have c1:((i:Int)<ns.length):=by omega
  have e1:bn 1 (sL ns) (i64 i)=some (.iptr (ns.map .str) (i*1)):=cj hlt
  have hg:(ns.map LV.str)[i*1]?=some (.str ns[i]):=by simp[hlt]
  have hd:ns.drop i=ns[i]::ns.drop (i+1):=b6 hlt
  generalize ns[i]=n at hg hd
  simp only[Cb,ad,au,ab,c1,aZ,ah,e1,bA,hg,ct,da]
  rw[hd,eP] at hp
  by_cases h:n=k
  ·subst h
   rw[if_pos rfl] at hp
   have e:ixI n ns=i:=by unfold ixI;rw[hp]
   rw[e] at hR
   simp only[beq_self_eq_true,ah]
   exact hR
  ·rw[if_neg h] at hp
   have e2:(k==n)=false:=by simpa using Ne.symm h
   simp only[e2,ae,aH,ab,aK (show i<2 ^ 40 by unfold big at hb;omega)]
   exact uh hb hR d (i+1) (by omega) hp
theorem IH {k:Tx} {ns:List Tx} (hb:ns.length≤big):Pu Tryz.prog 158 [sL ns,.str k] (i64 (ixI k ns)):=by
 refine Pu.of (Rn _ _ ?_) (by simp only[LV.aG,LV.plain,bV (f:=LV.str) fun _ _=>rfl,Bool.and_true]) rfl
 show tI (sL ns) (.str k) (i64 ns.length) (i64 (0:Nat)) _ _
 exact uh hb (R:=fun v s=>dp s (i64 (ixI k ns)) v) rfl ns.length 0 (by omega) rfl
theorem r6 {k:Tx}:∀ {ns:List Tx} {i j:Nat},eP k ns i=some j→i≤j∧j<i+ns.length∧ns[j-i]?=some k
 | n::ns,i,j,h=>by
  unfold eP at h
  split at h
  ·rename_i e
   simp only[aM] at h
   subst h;subst e
   simp
  ·obtain ⟨h1,h2,h3⟩:=r6 h
   refine ⟨by omega,by simp;omega,?_⟩
   have:j-i=(j-(i+1))+1:=by omega
   rw[this];simpa using h3
theorem xU {l:List KT} {i:Nat}:(kVs l)[i]?=(l[i]?).map kV:=by rw[xG];simp
theorem II {t:KT} {k:Tx} (hb:t.ns.length≤big) (hl:t.ns.length=t.l.length):Pu Tryz.prog 213 [kV t,.str k] (match (eP k t.ns 0).bind (t.l[·]?) with
  | some x=>.tup [kV x,.bool true]
  | none=>.tup [.nilp,.bool false]):=by
 refine Pu.of (c213 _ _ ?_) (by simp[LV.aG,LV.plain,fm]) (by split<;>simp[LV.plain,LV.aG,fm])
 simp only[Pq,iY,dL,dz,ab,ae,cf,b9,aj,kl2]
 refine (IH hb).call ?_
 unfold ixI
 cases h:eP k t.ns 0 with
 | none=>
  have c1:((-1:Int)<0):=by omega
  simp only[ad,au,ab,c1,aZ,ah,Option.bind_none]
  exact bu _ rfl
 | some i=>
  obtain ⟨_,h2,_⟩:=r6 h
  have c1:¬ ((i:Int)<0):=by omega
  have hlt:i<t.l.length:=by omega
  have e1:bn 1 (.isl (kVs t.l) t.l.length none) (i64 i)=some (.iptr (kVs t.l) (i*1)):=cj hlt
  have hx:t.l[i]?=some t.l[i]:=bg hlt
  simp only[ad,au,ab,c1,a8,ae,kl1]
  simp only[ab,e1,bA,Nat.mul_one,xU,hx,Option.map_some,Option.bind_some]
  exact bu (v:=.tup [kV t.l[i],.bool true]) _ (by simp[LV.plain,LV.aG,fm])
theorem IJ {t:KT}:Pu Tryz.prog 167 [kV t] (i64 (fI t.f)):=by
 refine Pu.of (c167 _ ?_) (by simp[LV.aG,LV.plain,fm]) rfl
 have e6:((t.f:Int)==6)=decide (t.f=6):=by by_cases h:t.f=6<;>simp[h];omega
 have e8:((t.f:Int)==8)=decide (t.f=8):=by by_cases h:t.f=8<;>simp[h];omega
 simp only[Pp,iY,dL,dz,ab,ae,cf,b9,aj,kl0,ad,au,bj,e6,e8,aL]
 unfold fI
 refine ⟨fun h=>?_,fun h=>⟨fun h6=>?_,fun h6=>⟨fun h8=>?_,fun h8=>?_⟩⟩⟩
 ·rw[if_pos (by omega)];exact (rfl:_=_)
 ·rw[if_neg (by omega),if_pos (.inl h6)];exact (rfl:_=_)
 ·rw[if_neg (by omega),if_pos (.inr h8)];exact (rfl:_=_)
 ·rw[if_neg (by omega),if_neg (by intro h;rcases h with h|h;exact h6 h;exact h8 h)];exact (rfl:_=_)
def intOf:T→Int
 | .int n=>n
 | _=>0
theorem IK (t:T):Pu Tryz.prog 98 [vT t] (.tup [i64 (intOf t),.bool (decide (t.kind=3))]):=by
 refine Pu.of (c98 _ ?_) jU rfl
 cases t<;>exact bu (v:=.tup [i64 _,.bool _]) _ rfl
theorem KW (n:Int):Pu Tryz.prog 156 [i64 n] (.bool (decide (-9007199254740992≤n∧n≤9007199254740992))):=by
 refine Pu.of (c156 _ ?_) rfl rfl
 simp only[J5,ad,dN,eo,ab]
 rw[aL]
 refine ⟨fun h=>?_,fun h=>?_⟩
 ·have:decide (-9007199254740992≤n∧n≤9007199254740992)=decide (n≤9007199254740992):=decide_eq_decide.2 (by omega)
  rw[this];exact (rfl:_=_)
 ·have:decide (-9007199254740992≤n∧n≤9007199254740992)=false:=decide_eq_false (by omega)
  rw[this];exact (rfl:_=_)
theorem F5 {n:Int} (h:¬ (-9007199254740992≤n∧n≤9007199254740992)):Pu Tryz.prog 93 [i64 n,i64 0] (.tup [vT .null,i64 2]):=by
 refine Pu.of (c93 _ _ ?_) rfl rfl
 simp only[w93,cv]
 refine (KW n).call ?_
 rw[decide_eq_false h]
 simp only[bw,ab,bL,ah]
 exact mk1 (st:=[]) (v:=.nili) rfl rfl (Q:=fun v s=>dp s (.tup [vT .null,i64 2]) (.tup [v,i64 2])) fun s=>bu s rfl
theorem KX {v:T}:Pu Tryz.prog 212 [vT v] (.bool (jZ v)):=by
 refine Pu.of (c212 _ ?_) jU rfl
 have g:ldA ([]++[ar.cells .rw [lvT v]]) (.ptr 0 0) 1=some (vT v):=rfl
 simp only[Qc,dV,af,aR,g,ab]
 refine (IK v).call ?_
 simp only[av,aN,aO,ab]
 have fin:∀ {w:T} {e:Int} {s:aa} {b:Bool},(b=true→jZ v=decide (e=0))→(b=false→jZ v=false)→nw s [LV.nili] fun v11 st12=>bd2 (lmk (stV st12 1 v11 (vT w))) fun _v13 st14=>aq (.bool b) (bd (al BinOp.eql (i64 e) (i64 0)) fun v15=>dp st14 (.bool (jZ v)) v15) (dp st14 (.bool (jZ v)) (LV.bool false)):=by
  intro w e s b h1 h2
  simp only[cv,eY,aA,af,ad,bj,ab]
  cases b with
  | true=>
   rw[h1 rfl]
   have:(e==0)=decide (e=0):=by by_cases h:e=0<;>simp[h]
   simp only[ah,this];exact rfl
  | false=>rw[h2 rfl];exact rfl
 by_cases hn:∃ n,v=.int n
 ·obtain ⟨n,rfl⟩:=hn
  by_cases hr : -9007199254740992≤n∧n≤9007199254740992
  ·refine (ue hr (by omega)).call ?_
   simp only[av,aN,aO,ab]
   exact fin (fun _=>by simp only[jZ];exact decide_eq_true hr) fun h=>by cases h
  ·refine (F5 hr).call ?_
   simp only[av,aN,aO,ab]
   exact fin (fun _=>by simp only[jZ];rw[decide_eq_false hr];rfl) fun h=>by cases h
 ·have e0:intOf v=0:=by cases v<;>first|rfl | (exact absurd ⟨_,rfl⟩ hn)
  have ek:decide (v.kind=3)=false:=by cases v<;>first|rfl | (exact absurd ⟨_,rfl⟩ hn)
  have en:jZ v=false:=by cases v<;>first|rfl | (exact absurd ⟨_,rfl⟩ hn)
  rw[e0,ek]
  refine (ue (a:=0) (b:=0) (by omega) (by omega)).call ?_
  simp only[av,aN,aO,ab]
  exact fin (fun h=>by cases h) fun _=>en
theorem IL {t:KT} {v:T}:Pu Tryz.prog 172 [kV t,vT v] (.bool (kQ t.f v)):=by
 refine Pu.of (Rg _ _ ?_) kb rfl
 have g:ldA ([]++[ar.cells .rw [lvT v]]) (.ptr 0 0) 1=some (vT v):=rfl
 simp only[PY,dV,af,aR,g,ab]
 refine (kN v).call ?_
 have e1:((t.f:Int)==1)=decide (t.f=1):=by by_cases h:t.f=1<;>simp[h];omega
 have e2:((t.f:Int)==2)=decide (t.f=2):=by by_cases h:t.f=2<;>simp[h];omega
 have e3:((t.f:Int)==3)=decide (t.f=3):=by by_cases h:t.f=3<;>simp[h];omega
 have e4:((t.f:Int)==4)=decide (t.f=4):=by by_cases h:t.f=4<;>simp[h];omega
 have ek:∀ n:Int,(v.kind==n)=decide (v.kind=n):=fun n=>by by_cases h:v.kind=n<;>simp[h]
 simp only[cf,b9,aj,kl0,ab,ad,bj,e1,e2,e3,e4,ek,aL]
 unfold kQ
 refine ⟨fun h1=>?_,fun h1=>⟨fun h2=>?_,fun h2=>⟨fun h3=>⟨fun h4=>?_,fun h4=>?_⟩,fun h3=>⟨fun h4=>?_,fun h4=>?_⟩⟩⟩⟩
 ·rw[if_pos (by omega)];exact rfl
 ·rw[if_neg (by omega),if_pos (by omega)];exact rfl
 ·rw[if_neg (by omega),if_neg (by omega),if_pos (by omega),decide_eq_true (by omega)];exact rfl
 ·rw[if_neg (by omega),if_neg (by omega),if_pos (by omega),decide_eq_false (by omega),Bool.false_or]
  exact KX.call (bu _ rfl)
 ·rw[if_neg (by omega),if_neg (by omega),if_neg (by omega),if_pos (by omega)];exact rfl
 ·rw[if_neg (by omega),if_neg (by omega),if_neg (by omega),if_neg (by omega)];exact rfl
end
end Go.Proofs.YtknegckgmklnhaaGreatDoor
namespace Go.Proofs.YtknegckgmklnhaaGreatDoor
open Go Go.CP Go.RowKit
set_option maxRecDepth 100000
variable {R:LV→aa→Prop} {st:aa}
abbrev ME:ar:=.cells (.gl 3 Lib.pow10Tab.length) (Lib.pow10Tab.map fun z=>.int .u64 z)
abbrev MF (u:TypeId):ar:=.cells (.gl 1 1) [.iface u .aY]
abbrev MG (u:TypeId):ar:=.cells (.gl 2 1) [.iface u .aY]
theorem Aj {f:Option Nat} {n:Nat} {xs:List Tx} {sep:Tx} (h:ca .rw st f 1 n (xs.map .str)) (hn:xs.length≤140737488355328) (hl:(Lib.join xs sep).length≤140737488355328) (hR:R (.str (Lib.join xs sep)) st) :
  aw Tryz.prog 108 [osl f 1 n,.str sep] st R:=by
 have hlen:n=xs.length:=by have:=h.1;simpa using this.symm
 refine aw.lO ⟨Tryz.f108,bG Tryz.f108,Tryz.func108,by kernel_rfl,by kernel_rfl⟩ ?_ hR
 intro w0 β w vs hr hp
 cases f with
 | none=>
  have hz:n=0:=h.2
  have hx:xs=[]:=List.eq_nil_of_length_eq_zero (by omega)
  subst hx
  obtain ⟨v1,us,rfl,h1,v2,us2,rfl,rfl,rfl⟩:=hp
  have h1:v1=.slice none 0 0:=h1
  subst h1
  refine (Tryz.strings_Join_none none 0 ⟨⟨sep⟩⟩ w).mono ?_
  rintro e w' ⟨rfl,rfl⟩
  exact ⟨_,rfl,rfl,Bw.refl _ _⟩
 | some o=>
  obtain ⟨rest,ho⟩:=h.2
  obtain ⟨v1,us,rfl,⟨bl,hb,hle,rfl⟩,v2,us2,rfl,rfl,rfl⟩:=hp
  obtain ⟨bl',hb',cc,e,fz,hh,hs,hle',hc,hm⟩:=hr.obj o _ ho
  rw[hb] at hb';cases hb'
  have hblk:bl.blk<w.heap.size:=by
   rcases Nat.lt_or_ge bl.blk w.heap.size with hlt|hge
   ·exact hlt
   ·rw[Array.getElem?_eq_none hge] at hh;cases hh
  have cell:∀ (j:Nat) (x:ByteArray),(xs.map fun s=>(⟨⟨s⟩⟩:ByteArray))[j]?=some x→w.cell? ⟨bl.blk,(bl.base+0)+j,none⟩=some (.string x):=by
   intro j x hx
   rw[bT] at hx
   cases hj:xs[j]? with
   | none=>rw[hj] at hx;cases hx
   | some s=>
    rw[hj] at hx
    simp only[Option.map_some,aM] at hx
    subst hx
    have hlt:=(List.getElem?_eq_some_iff.1 hj).1
    obtain ⟨u,hu,r⟩:=hr.cell ho hb (k:=j) (x:=.str s) (by rw[bW (by simpa using hlt),bT,hj];rfl)
    rw[show u=_ from r] at hu
    rw[Nat.add_zero];exact hu
  have hmm:((xs.map fun s=>(⟨⟨s⟩⟩:ByteArray)).map (·.data.toList))=xs:=by rw[List.map_map];exact List.map_id'' (fun _=>rfl) xs
  have hx:(xs.map fun s=>(⟨⟨s⟩⟩:ByteArray)).length=n:=by rw[bH,hlen]
  have k:=Tryz.strings_Join bl.blk (bl.base+0) (ez.cap bl 0 (.rest 1)) (xs.map fun s=>⟨⟨s⟩⟩) ⟨⟨sep⟩⟩ w cell hblk (by simpa using hn) (by rw[hx];exact hle) (by rw[hmm];exact hl)
  rw[hx,hmm] at k
  refine k.mono ?_
  rintro e w' ⟨rfl,hbw⟩
  exact ⟨_,rfl,rfl,⟨hbw⟩⟩
theorem IM (s:Tx) (c:UInt8):Pu Tryz.prog 187 [.str s,.str [c]] (i64 (Lib.indexByte s c)):=⟨fun {st R} hR=>by
 refine aw.lO ⟨Tryz.f187,bG Tryz.f187,Tryz.func187,by kernel_rfl,by kernel_rfl⟩ ?_ hR
 intro w0 β w vs hr hp
 obtain ⟨v1,us,rfl,rfl,v2,us2,rfl,rfl,rfl⟩:=hp
 refine (Tryz.stringslite_Index_one ⟨⟨s⟩⟩ c w).mono ?_
 rintro e w' ⟨rfl,rfl⟩
 exact ⟨_,rfl,rfl,Bw.refl _ _⟩⟩
theorem IP (s:Tx) (c:UInt8):Pu Tryz.prog 195 [.str s,.str [c]] (i64 (Lib.indexByte s c)):=⟨fun {st R} hR=>by
 refine aw.lO ⟨Tryz.f195,bG Tryz.f195,Tryz.func195,by kernel_rfl,by kernel_rfl⟩ ?_ hR
 intro w0 β w vs hr hp
 obtain ⟨v1,us,rfl,rfl,v2,us2,rfl,rfl,rfl⟩:=hp
 refine (Tryz.strings_Index_one ⟨⟨s⟩⟩ c w).mono ?_
 rintro e w' ⟨rfl,rfl⟩
 exact ⟨_,rfl,rfl,Bw.refl _ _⟩⟩
theorem IQ (s:Tx) (c:UInt8):Pu Tryz.prog 237 [.str s,.str [c]] (i64 (s.count c:Nat)):=⟨fun {st R} hR=>by
 refine aw.lO ⟨Tryz.f237,bG Tryz.f237,Tryz.func237,by kernel_rfl,by kernel_rfl⟩ ?_ hR
 intro w0 β w vs hr hp
 obtain ⟨v1,us,rfl,rfl,v2,us2,rfl,rfl,rfl⟩:=hp
 refine (Tryz.strings_Count_one ⟨⟨s⟩⟩ c w).mono ?_
 rintro e w' ⟨rfl,rfl⟩
 exact ⟨_,rfl,rfl,Bw.refl _ _⟩⟩
theorem F7 {o:Nat} {n:Int} (h:st[o]?=some ME) (h0 : -9223372036854775808≤n) (h1:n≤9223372036854775807) (hR:R (.str (Lib.itoa n)) st):aw Tryz.prog 83 [i64 n] st R:=by
 refine aw.lO ⟨Tryz.f83,bG Tryz.f83,Tryz.func83,by kernel_rfl,by kernel_rfl⟩ ?_ hR
 intro w0 β w vs hr hp
 obtain ⟨v1,us,rfl,rfl,rfl⟩:=hp
 refine (Tryz.strconv_Itoa n h0 h1 w (hr.BC h (by kernel_rfl))).mono ?_
 rintro e w' ⟨rfl,k,os,rfl⟩
 exact ⟨_,rfl,rfl,⟨below_grown_sl _ w k os (Nat.le_refl _)⟩⟩
theorem vr {o o':Nat} {u u':TypeId} {s:Tx} (h:st[o]?=some (MF u)) (h':st[o']?=some (MG u')) (hl:s.length≤281474976710656)
  (hR:∀ v,Lib.atoiAll s=.ok v→R (.tup [i64 v,.nili]) st) (hN:∀ n,(∀ v,Lib.atoiAll s≠.ok v)→R (.tup [i64 n,.iface 290 .aY]) st):aw Tryz.prog 145 [.str s] st R:=by
 have hc:cZ Tryz.prog 145:=⟨Tryz.f145,bG Tryz.f145,Tryz.func145,by kernel_rfl,by kernel_rfl⟩
 cases hs:Lib.atoiAll s with
 | ok v=>
  refine aw.lO hc ?_ (hR v hs)
  intro w0 β w vs hr hp
  obtain ⟨v1,us,rfl,rfl,rfl⟩:=hp
  refine (Tryz.strconv_Atoi_ok ⟨⟨s⟩⟩ (show s.length≤_ by omega) v hs w).mono ?_
  rintro e w' ⟨rfl,hw⟩
  refine ⟨_,rfl,⟨_,rfl,_,_,rfl,rfl,_,_,rfl,rfl,rfl⟩,?_⟩
  rcases hw with rfl|⟨t,rfl⟩
  ·exact Bw.refl _ _
  ·exact ⟨Lib.bytesWorld_below _ _ _⟩
 | range=>
  refine aw.lO hc ?_ (hN (Lib.atoiSat s) fun v=>by rw[hs];simp)
  intro w0 β w vs hr hp
  obtain ⟨v1,us,rfl,rfl,rfl⟩:=hp
  obtain ⟨ev,hev,pe,he,_⟩:=hr.Ds (i:=0) (l:=[.iface u' .aY]) (x:=.iface u' .aY) h' rfl
  refine (Tryz.strconv_Atoi_range ⟨⟨s⟩⟩ hl hs ev w hev (.inr ⟨_,_,he⟩)).mono ?_
  rintro e w' ⟨N,rfl,_,_,hb⟩
  exact ⟨_,rfl,⟨_,rfl,_,_,rfl,rfl,_,_,rfl,⟨_,rfl,trivial⟩,rfl⟩,⟨hb⟩⟩
 | _=>
  refine aw.lO hc ?_ (hN 0 fun v=>by rw[hs];simp)
  intro w0 β w vs hr hp
  obtain ⟨v1,us,rfl,rfl,rfl⟩:=hp
  obtain ⟨ev,hev,pe,he,_⟩:=hr.Ds (i:=0) (l:=[.iface u .aY]) (x:=.iface u .aY) h rfl
  refine (Tryz.strconv_Atoi_syntax ⟨⟨s⟩⟩ hl hs ev w hev (.inr ⟨_,_,he⟩)).mono ?_
  rintro e w' ⟨N,rfl,_,_,hb⟩
  exact ⟨_,rfl,⟨_,rfl,_,_,rfl,rfl,_,_,rfl,⟨_,rfl,trivial⟩,rfl⟩,⟨hb⟩⟩
end Go.Proofs.YtknegckgmklnhaaGreatDoor
namespace Go.Proofs.YtknegckgmklnhaaGreatDoor
open Go Go.CP
set_option maxRecDepth 100000
section
variable {st st':aa} {R:LV→aa→Prop}
theorem kc0 {t:KT}:(kC t)[0]?=some (i64 t.f):=by rw[tZ];rfl
theorem kc1 {t:KT}:(kC t)[1]?=some (.isl (kVs t.l) t.l.length none):=by rw[tZ];rfl
theorem kc2 {t:KT}:(kC t)[2]?=some (sL t.ns):=by rw[tZ];rfl
theorem kc3 {t:KT}:(kC t)[3]?=some (.isl (t.ls.map .bool) t.ls.length none):=by rw[tZ];rfl
theorem mN {f:Option Nat} {n sz b:Nat} {acc new:List LV} (h:ca .rw st f sz n acc) (hs:new.length=sz) (h1:new.all LV.one=true) (hl:n<2 ^ 31) (hb:b≤256:=by decide) :
  ∃ st2 f2,bo (st++[.cells .rw new]) sz b .rw (osl f sz n) (.sl st.length 0 1 (.ex 1))=some (osl f2 sz (n+1),st2)∧ca .rw st2 f2 sz (n+1) (acc++new)∧Fr st st2 (fun j=>f=some j)∧(∀ j,f2=some j→f=some j∨st.length≤j):=by
 have k:=h.fr (st':=st++[.cells .rw new]) (S:=fun _=>False) Fr.app (fun _ _ h=>h)
 obtain ⟨st2,f2,q1,q2,q3,q4,_⟩:=k.append (x:=.sl st.length 0 1 (.ex 1)) (k:=1) (new:=new) (bytes:=b) (by simp[eA,← hs]) (by omega) (by omega) h1 (dR (by omega) hb)
 exact ⟨st2,f2,q1,q2,(Fr.app (S:=fun j=>f=some j)).trans q3 fun _ _ h=>h,fun j hj=>(q4 j hj).imp id fun h=>by simp at h;omega⟩
theorem F9 {t:KT} {es:List (Tx × T)} (hv:(T.map es).ok) (hb:t.ns.length≤big) (hl:t.ls.length=t.ns.length):∀ (d i:Nat) (acc:List Tx) (f:Option Nat) (st:aa),i+d=t.ns.length→acc.length≤i→st[0]?=some (.cells .rw [lvT (.map es)])→ca .rw st f 1 acc.length (acc.map .str)→(∀ j,f=some j→0<j)→
  qv (kV t) (.ptr 0 0) (osl f 1 acc.length) (sL t.ns) (i64 t.ns.length) (i64 i) (fun r s=>dp s (sL (acc++missing (t.ns.drop i) (t.ls.drop i) es)) r) st:=by
 intro d
 induction d with
 | zero=>
  intro i acc f st hi _ _ ho _
  refine H5 _ _ _ _ _ _ ?_
  have c1:¬ ((i:Int)<t.ns.length):=by omega
  simp only[Cc,ad,au,ab,c1,a8,ae]
  rw[bR (by omega)]
  simp only[missing,List.append_nil]
  exact eL ho rfl (bU _ (bV (f:=LV.str) fun _ _=>rfl))
 | succ d ih=>
  intro i acc f st hi ha h0 ho hf
  refine H5 _ _ _ _ _ _ ?_
  have hlt:i<t.ns.length:=by omega
  have c1:((i:Int)<t.ns.length):=by omega
  have e1:bn 1 (sL t.ns) (i64 i)=some (.iptr (t.ns.map .str) (i*1)):=cj hlt
  have hg:(t.ns.map LV.str)[i*1]?=some (.str t.ns[i]):=by simp[hlt]
  have e2:bn 1 (.isl (t.ls.map .bool) t.ls.length none) (i64 i)=some (.iptr (t.ls.map .bool) (i*1)):=cj (by omega)
  have hg2:(t.ls.map LV.bool)[i*1]?=some (.bool (t.ls[i]'(by omega))):=by simp[hl,hlt]
  have hd:t.ns.drop i=t.ns[i]::t.ns.drop (i+1):=b6 hlt
  have hd2:t.ls.drop i=t.ls[i]'(by omega)::t.ls.drop (i+1):=b6 (by omega)
  have g:ldA st (.ptr 0 0) 1=some (vT (.map es)):=by rw[du h0 (by simp)];rfl
  rw[hd,hd2,missing]
  generalize t.ns[i]=n at hg hd
  generalize t.ls[i]'(by omega)=l at hg2 hd2
  simp only[Cc,ad,au,ab,c1,aZ,ah,e1,bA,hg,g]
  refine (u9 hv n).call ?_
  have hw:=aK (show i<2 ^ 40 by unfold big at hb;omega)
  have e3:(T.map es).at n=T.find es n:=rfl
  simp only[av,aN,aO,ab,cv,eY,aA,af,bw,cf,b9,aj,bA,kc3,e2,hg2,e3]
  generalize hz:(ar.cells Md.rw [lvT ((T.find es n).getD T.null)])=z
  have h0':(st++[z])[0]?=some (.cells .rw [lvT (.map es)]):=by rw[bW (cA h0)];exact h0
  have ho':=ho.fr (st':=st++[z]) (S:=fun _=>False) Fr.app (fun _ _ h=>h)
  cases hfn:T.find es n with
  | some w=>
   simp only[Option.isSome_some,Option.isNone_some,bM,ae,Bool.false_and,Bool.false_eq_true,if_false,aH,ab,hw]
   exact ih (i+1) acc f _ (by omega) (by omega) h0' ho' hf
  | none=>
   simp only[Option.isSome_none,Option.isNone_none,bL,ah,Bool.true_and]
   cases l with
   | true=>
    simp only[bM,ae,Bool.false_eq_true,if_false,aH,ab,hw]
    exact ih (i+1) acc f _ (by omega) (by omega) h0' ho' hf
   | false=>
    have ef:aB (fun i=>some (i*1,1)) (List.replicate 1 [LV.str []]).flatten [(0,.str n)]=some [.str n]:=rfl
    simp only[bL,ah,if_true,ef,bE,af]
    obtain ⟨st2,f2,q1,q2,q3,q4⟩:=mN ho' (new:=[.str n]) rfl rfl (by unfold big at hb;omega) (b:=16)
    rw[q1]
    simp only[af,aH,ab,hw]
    have hlen:0<(st++[z]).length:=cA h0'
    have k:=ih (i+1) (acc++[n]) f2 st2 (by omega) (by simp;omega) (q3.get h0' fun e=>by have:=hf 0 e;omega) (by simpa using q2) fun j hj=>(q4 j hj).elim (hf j) fun h=>by omega
    simpa using k
theorem Cu {t:KT} {es:List (Tx × T)} (hv:(T.map es).ok) (hb:t.ns.length≤big) (hl:t.ls.length=t.ns.length):Pu Tryz.prog 207 [kV t,vT (.map es)] (sL (missing t.ns t.ls es)):=by
 refine Pu.of (Ro _ _ ?_) kb (by simp only[LV.plain];exact bV (f:=LV.str) fun _ _=>rfl)
 simp only[Qd,dV,af,iY,dL,Fw,ab,bL,ah,cf,b9,aj,bA,kc2,aU]
 exact F9 hv hb hl t.ns.length 0 [] none _ (by omega) (by simp) rfl ca.nil (fun _ h=>by cases h)
theorem rp {es:List (Tx × T)}:∀ {ns:List Tx} {ls:List Bool},(missing ns ls es).length≤ns.length
 | [],_=>by simp[missing]
 | _::_,[]=>by simp[missing]
 | n::ns,l::ls=>by
  have:=rp (es:=es) (ns:=ns) (ls:=ls)
  unfold missing
  split<;>simp<;>omega
def WrQ (d:Nat) (b:Bool) (v:LV):Prop:=∃ x k cs,v=.tup [x,.bool b]∧x=.isl cs k none∧cs.length=k*2∧LV.aG cs=true∧cs.all LV.one=true∧k≤d
theorem xV {d:Nat} {b:Bool}:Dp (WrQ d b) (.tup [.nils,.bool b]) st:=
 ⟨.tup [.isl [] 0 none,.bool b],⟨_,rfl,_,_,rfl,.inr (.inr ⟨.inr rfl,rfl,rfl⟩),_,_,rfl,rfl,rfl⟩,rfl,_,0,[],rfl,rfl,rfl,rfl,rfl,by omega⟩
end
end Go.Proofs.YtknegckgmklnhaaGreatDoor
