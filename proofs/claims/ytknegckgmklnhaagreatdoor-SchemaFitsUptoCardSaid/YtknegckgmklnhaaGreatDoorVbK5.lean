/- Parts of the proof. -/
import Derived.Test.YtknegckgmklnhaaGreatDoorVbN5
namespace Go.Proofs.YtknegckgmklnhaaGreatDoor
open Go Go.CP
set_option maxRecDepth 100000
section
variable {st st':aa} {R:LV→aa→Prop}
theorem ej {d:Nat} {t:KT} {v:T} {b b':Bool} {st:aa} (e:b'=b):Dp (WrQ d b) (.tup [.nils,.bool b']) st:=by subst e;exact vS
theorem AY {l:List KT} {i:Nat}:(cw l).getD i (fun _=>false)=match l[i]? with
  | some x=>bU x
  | none=>fun _=>false:=by
 rw[jt,List.getD_eq_getElem?_getD,List.getElem?_map]
 cases l[i]?<;>rfl
theorem py:∀ {ts:List KT} {vs:List T},ts.length=vs.length→(ph (cw ts) vs=true↔∀ (i:Nat) (t:KT) (v:T),ts[i]?=some t→vs[i]?=some v→bU t v=true)
 | [],[],_=>by simp[cw,ph]
 | t::ts,v::vs,h=>by
  simp only[cw,ph,Bool.and_eq_true]
  rw[py (ts:=ts) (vs:=vs) (by simpa using h)]
  constructor
  ·rintro ⟨h1,h2⟩ i t' v' h3 h4
   cases i with
   | zero=>simp only[List.getElem?_cons_zero,Option.some.injEq] at h3 h4;subst h3;subst h4;exact h1
   | succ i=>simp only[List.getElem?_cons_succ] at h3 h4;exact h2 i t' v' h3 h4
  ·intro h
   exact ⟨h 0 t v rfl rfl,fun i t' v' h3 h4=>h (i+1) t' v' (by simpa using h3) (by simpa using h4)⟩
theorem Hi {ts:List KT} {vs:List T} (h:ts.length=1):vs.all ((cw ts).getD 0 fun _=>false)=true↔AV ts vs:=by
 match ts,h with
 | [t],_=>
  simp only[cw,List.getD_cons_zero,List.all_eq_true]
  constructor
  ·intro k i t' v h1 h2
   simp only[List.length_singleton,Nat.sub_self,Nat.min_zero,List.getElem?_cons_zero,Option.some.injEq] at h1
   subst h1
   exact k v (List.mem_of_getElem? h2)
  ·intro k v hv
   obtain ⟨i,hi⟩:=List.getElem?_of_mem hv
   exact k i t v (by simp) hi
theorem yG {t:KT} (hl:t.ns.length=t.l.length) {e:Tx × T}:od t e=match dU e.1 t.ns 0 with
  | some i=>((cw t.l).getD i fun _=>false) e.2
  | none=>false:=by
 unfold od ja
 cases h:dU e.1 t.ns 0 with
 | none=>rfl
 | some i=>
  obtain ⟨_,h2,_⟩:=qI h
  have hx:t.l[i]?=some (t.l[i]'(by omega)):=List.getElem?_eq_getElem (by omega)
  simp only[Option.bind_some,AY,hx]
theorem T.AZ {v:T}:0≤v.kind∧v.kind≤7:=by cases v<;>simp[T.kind]
theorem Hj:∀ {d:Nat},d≤1000→∀ {t:KT} {v:T},t.wf d→v.ok→Pb Tryz.prog 118 [kV t,vT v] (WrQ d (!bU t v)):=by
 intro d
 induction d with
 | zero=>intro _ t v h;cases t;simp only[KT.wf] at h
 | succ d ih=>
  intro hd t v hw hv
  refine Pb.of (Ow _ _ ?_) ju
  have e:bU t v=cd t.f (cw t.l) t.ns t.ls v:=by cases t;rfl
  rw[e]
  have hw':t.f≤8∧(t.f<5→t.l=[])∧(t.f=5∨t.f=6→t.l.length=1)∧(t.f<8→t.ns=[]∧t.ls=[])∧(t.f=8→t.ns.length=t.l.length∧t.ls.length=t.l.length)∧t.l.length≤16∧t.ns.Pairwise ltB∧(∀ n ∈ t.ns,named n=true)∧KT.wfs d t.l:=by cases t;exact hw
  obtain ⟨w1,w2,w3,w4,w5,w6,_,_,w7⟩:=hw'
  have w7':=KT.lL.1 w7
  have g:ldA ([]++[av.cells .rw [lvT v]]) (.ptr 0 0) 1=some (vT v):=rfl
  have ek:∀ n:Int,(v.kind==n)=decide (v.kind=n):=fun n=>by by_cases h:v.kind=n<;>simp[h]
  have ek2:(v.kind != eT t.f)=decide (v.kind≠eT t.f):=by by_cases h:v.kind=eT t.f<;>simp[h]
  simp only[Nw,iw,ag,List.length_nil,g,ab,ie,dP,dF,af]
  refine (jP v).call ?_
  simp only[ae,aQ,ax,ab,ek,bH,bG,Nat.zero_add,ba,kc0,aI]
  refine ⟨fun h0=>ej (t:=t) (v:=v) ?_,fun h0=>⟨fun h1=>ej (t:=t) (v:=v) ?_,fun h1=>⟨fun h5=>?_,fun h5=>?_⟩⟩⟩
  ·simp[cd,h0]
  ·simp[cd,h1]
  ·refine GW.call ?_
   simp only[bF,ab]
   refine ej (t:=t) (v:=v) ?_
   have:t.f<5:=by omega
   simp[cd,h0,h1,this]
  ·refine GV.call ?_
   have h5':¬ t.f<5:=by omega
   simp only[ae,bx,ab,ek2,aI]
   have hb01:¬ (v.kind=0∨v.kind=1):=by omega
   have hh:eT t.f=if t.f=6∨t.f=8 then 7 else 6:=by simp[eT,h5']
   refine ⟨fun hk=>ej (t:=t) (v:=v) ?_,fun hk=>?_⟩
   ·rw[hh] at hk
    unfold cd
    rw[if_neg hb01,if_neg h5']
    cases v<;>simp only[T.kind] at hk ⊢<;>try rfl
    ·have h6:t.f=6∨t.f=8:=Classical.byContradiction fun h=>hk (by rw[if_neg h])
     have:t.f≠5∧t.f≠7:=by omega
     simp[this]
    ·have h6:¬ (t.f=6∨t.f=8):=fun h=>hk (by rw[if_pos h])
     have:t.f≠6∧t.f≠8:=by omega
     simp[this]
   ·have hk':v.kind=eT t.f:=Classical.byContradiction hk
    rw[hh] at hk'
    refine Lw _ _ ?_
    simp only[FY,g,ab]
    refine (nM hv).call ?_
    simp only[bH,bG,Nat.zero_add,ab,ba,kc0]
    refine It _ _ _ _ ?_
    have e8:((t.f:Int)==8)=decide (t.f=8):=by by_cases h:t.f=8<;>simp[h];omega
    have e6:((t.f:Int)==6)=decide (t.f=6):=by by_cases h:t.f=6<;>simp[h];omega
    have e7:((t.f:Int)==7)=decide (t.f=7):=by by_cases h:t.f=7<;>simp[h];omega
    simp only[Ct,ae,aQ,ab,e8,e6,e7,aI,g]
    have fin:∀ {b:Bool} {r:LV} {s:aa} {K:LV→LV→Prop},WrQ (d+1) b r→(∀ x y,Dp (WrQ (d+1) b) (.tup [x,y]) s→K x y)→bd (aj r 0) fun x=>bd (aj r 1) fun y=>K x y:=by
     intro b r s K hr hK
     obtain ⟨x,k,cs,rfl,rfl,h1,h2,h3,h4⟩:=hr
     simp only[au,List.getElem?_cons_zero,List.getElem?_cons_succ,ab]
     have hp:(LV.tup [LV.isl cs k none,.bool b]).plain=true:=by simp only[LV.plain,LV.aB,h2];rfl
     exact hK _ _ ⟨_,bn _ hp,hp,_,k,cs,rfl,rfl,h1,h2,h3,h4⟩
    have ihx:∀ (x:KT) (y:T),x ∈ t.l→y ∈ v.items→Pb Tryz.prog 118 [kV x,vT y] (WrQ d (!bU x y)):=fun x y hx hy=>ih (by omega) (w7' x hx) (T.ik hv y hy)
    have hbig:t.l.length≤big:=by unfold big;omega
    have inn:∀ {cs:List LV} {b:Bool} {s:aa},(0<v.items.length→0<t.l.length)→v.items.length≤big→cs.length=v.items.length*2→LV.aB cs=true→cs.all LV.one=true→(b=false↔AV t.l v.items)→∀ {R:LV→aa→Prop},(∀ r,WrQ (d+1) b r→R r s)→az Tryz.prog 174 [.isl (kVs t.l) t.l.length none,vL v.items,.isl cs v.items.length none] s R:=by
     intro cs b s p1 p2 p3 p4 p5 p6 R hR
     exact (Hg (by omega) p1 hbig p2 p3 p4 p5 (fun i x y h1 h2=>ihx x y (List.mem_of_getElem? h1) (List.mem_of_getElem? h2)) p6).call hR
    have one13:∀ {b:Bool} {s:aa},(0<v.items.length→0<t.l.length)→v.items.length≤big→(b=false↔AV t.l v.items)→qF (kV t) (vL v.items) (Dp (WrQ (d+1) b)) s:=by
     intro b s p1 p2 p3
     refine Iu _ _ ?_
     simp only[Cu,bH,bG,Nat.zero_add,ab,ba,kc1,aR]
     refine (D5 p2).call fun r hr=>?_
     obtain ⟨cs,rfl,q1,q2,q3⟩:=hr
     refine ⟨by trivial,inn p1 p2 q1 q2 q3 p3 fun r hr=>?_⟩
     exact fin hr fun x y h=>Iy _ _ h
    have tk:∀ {b:Bool},cd t.f (cw t.l) t.ns t.ls v=b→∀ {P:Bool→Prop},P (!b)→P (!cd t.f (cw t.l) t.ns t.ls v):=fun e _ h=>by rw[e];exact h
    have inb:∀ {b:Bool},(b=true↔AV t.l v.items)→((!b)=false↔AV t.l v.items):=fun {b} h=>by rw[← h];cases b<;>simp
    refine ⟨fun h8=>?_,fun h8=>⟨fun h6=>?_,fun h6=>⟨fun h7=>?_,fun h7=>?_⟩⟩⟩
    ·rw[if_pos (by omega)] at hk'
     cases v<;>simp only[T.kind] at hk'<;>try omega
     rename_i es
     have ⟨l1,l2⟩:=w5 (by omega)
     refine (Hh (d:=d) (by omega) hv (by omega) l1 (by omega) fun i x hx e he=>ihx x e.2 (List.mem_of_getElem? hx) (List.mem_map.2 ⟨e,he,rfl⟩)).call fun r hr=>?_
     have e:cd t.f (cw t.l) t.ns t.ls (.map es)=(es.all (od t)&&(missing t.ns t.ls es).isEmpty):=by
      have h86:t.f≠6:=by omega
      have h88:t.f=8:=by omega
      unfold cd
      rw[if_neg hb01,if_neg h5']
      show (if t.f=6 then _ else if t.f=8 then _ else _)=_
      rw[if_neg h86,if_pos h88]
      congr 1
      exact congrArg es.all (funext fun e=>(yG l1).symm)
     rw[e]
     exact fin hr fun x y h=>h
    ·rw[if_pos (by omega)] at hk'
     cases v<;>simp only[T.kind] at hk'<;>try omega
     rename_i es
     have hlen:(es.map (·.1)).length=(T.map es).items.length:=by simp[T.items]
     have hbe:es.length≤big:=by simp only[T.ok] at hv;exact hv.1
     have e:cd t.f (cw t.l) t.ns t.ls (.map es)=((T.map es).items.all ((cw t.l).getD 0 fun _=>false)):=by
      unfold cd
      rw[if_neg hb01,if_neg h5']
      show (if t.f=6 then _ else _)=_
      rw[if_pos (by omega)]
      simp only[T.items,List.all_map]
      rfl
     rw[e]
     simp only[bH,bG,Nat.zero_add,ab,ba,kc1]
     refine (nJ hv).call ⟨by trivial,?_⟩
     refine (IW (ks:=es.map (·.1)) (by simpa using hbe)).call fun r hr=>?_
     obtain ⟨cs,rfl,q1,q2,q3⟩:=hr
     rw[hlen] at q1
     refine ⟨by trivial,?_⟩
     rw[hlen]
     refine inn (fun _=>by have:=w3 (by omega);omega) (by rw[← hlen];simpa using hbe) q1 q2 q3 (inb (Hi (w3 (by omega)))) fun r hr=>?_
     exact fin hr fun x y h=>Iw _ _ h
    ·rw[if_neg (by omega)] at hk'
     cases v<;>simp only[T.kind] at hk'<;>try omega
     rename_i vs
     have hbe:vs.length≤big:=by simp only[T.ok] at hv;exact hv.1
     have e:cd t.f (cw t.l) t.ns t.ls (.list vs)=(decide (vs.length=t.l.length)&&ph (cw t.l) vs):=by
      unfold cd
      rw[if_neg hb01,if_neg h5']
      show (if t.f=5 then _ else if t.f=7 then _ else _)=_
      rw[if_neg (by omega),if_pos (by omega),jt,List.length_map]
     rw[e]
     have e9:(((T.list vs).items.length:Int) != (t.l.length:Int))=decide (vs.length≠t.l.length):=by
      show ((vs.length:Int) != _)=_
      by_cases h:vs.length=t.l.length
      ·simp[h]
      ·have:¬ (vs.length:Int)=t.l.length:=by omega
       simp[h,bne,this]
     simp only[aR,bH,bG,Nat.zero_add,ab,ba,kc1,bx,ae,e9,aI]
     refine ⟨fun hn=>ej (t:=t) (v:=.list vs) ?_,fun hn=>?_⟩
     ·rw[decide_eq_false hn];rfl
     ·have hn':t.l.length=vs.length:=by omega
      refine one13 (fun h=>by rw[hn'];exact h) hbe (inb ?_)
      rw[decide_eq_true hn'.symm,Bool.true_and,py hn']
      show _↔∀ (i:Nat) (x:KT) (y:T),t.l[min i (t.l.length-1)]?=some x→vs[i]?=some y→bU x y=true
      constructor
      ·intro h i x y h1 h2
       have:=(List.getElem?_eq_some_iff.1 h2).1
       rw[Nat.min_eq_left (by omega)] at h1
       exact h i x y h1 h2
      ·intro h i x y h1 h2
       have:=(List.getElem?_eq_some_iff.1 h2).1
       refine h i x y ?_ h2
       rw[Nat.min_eq_left (by omega)];exact h1
    ·rw[if_neg (by omega)] at hk'
     cases v<;>simp only[T.kind] at hk'<;>try omega
     rename_i vs
     have hbe:vs.length≤big:=by simp only[T.ok] at hv;exact hv.1
     have h55:t.f=5:=by omega
     have e:cd t.f (cw t.l) t.ns t.ls (.list vs)=vs.all ((cw t.l).getD 0 fun _=>false):=by
      unfold cd
      rw[if_neg hb01,if_neg h5']
      show (if t.f=5 then _ else _)=_
      rw[if_pos h55]
     rw[e]
     exact one13 (fun _=>by have:=w3 (by omega);omega) hbe (inb (Hi (w3 (by omega))))
theorem Hk {d:Nat} (hd:d≤1000) {t:KT} {v:T} (hw:t.wf d) (hv:v.ok):Pu Tryz.prog 53 [kV t,vT v] (.bool (bU t v)):=by
 refine Pu.of (c53 _ _ ?_) ju rfl
 have g:ldA ([]++[av.cells .rw [lvT v]]) (.ptr 0 0) 1=some (vT v):=rfl
 simp only[w53,iw,ag,List.length_nil,g,ab]
 refine (Hj hd hw hv).call fun r hr=>?_
 obtain ⟨x,k,cs,rfl,rfl,-⟩:=hr
 simp only[au,List.getElem?_cons_zero,List.getElem?_cons_succ,ab,bF,Bool.not_not]
 exact bn _ rfl
end
def vY (k:Tx):List AT→Nat→Option Nat
 | [],_=>none
 | a::l,j=>if a.nm=k then some j else vY k l (j+1)
theorem tY {k:Tx}:∀ {l:List AT} {j:Nat},match vY k l j with
  | none=>fm k l=none
  | some i=>j≤i∧l[i-j]?=fm k l∧(fm k l).isSome=true
 | [],_=>rfl
 | a::l,j=>by
  unfold vY fm
  by_cases h:a.nm=k
  ·simp[h]
  ·simp only[h,if_false]
   have:=tY (k:=k) (l:=l) (j:=j+1)
   cases hx:vY k l (j+1) with
   | none=>rw[hx] at this;exact this
   | some i=>
    rw[hx] at this
    obtain ⟨h1,h2,h3⟩:=this
    refine ⟨by omega,?_,h3⟩
    have e:i-j=(i-(j+1))+1:=by omega
    rw[e,List.getElem?_cons_succ]
    exact h2
theorem CQ {k:Tx}:∀ {l:List AT} {j:Nat},dm (.str k) ((l.map fun a=>LV.str a.nm).zip (qu j l))=some ((vY k l j).map fun i=>i64 (i:Nat))
 | [],_=>rfl
 | a::l,j=>by
  simp only[List.map_cons,qu,List.zip_cons_cons,dm,tU,vY]
  by_cases h:a.nm=k
  ·simp[h]
  ·have h':(k==a.nm)=false:=by simpa using Ne.symm h
   rw[h',if_neg h]
   exact CQ
theorem yH:∀ {l:List AT} {j:Nat},(qu j l).length=l.length
 | [],_=>rfl
 | _::l,j=>by simp[qu,yH]
section
variable {st st':aa} {R:LV→aa→Prop}
theorem LO {s:ST} (hs:s.ok) {k:Tx}:sO st true (some (.int .i64 0)) (.imap (s.l.map fun a=>.str a.nm) (qu 0 s.l)) (.str k) true=some (match vY k s.l 0 with
  | some i=>.tup [i64 i,.bool true]
  | none=>.tup [i64 0,.bool false]):=by
 have hk:(cN (s.l.map fun a=>LV.str a.nm) []).isSome=true:=by
  have:=gm (ss:=s.l.map (·.nm)) (seen:=[]) (dB hs.rise) (by simp)
  rw[List.map_map] at this
  simp only[Function.comp_def] at this
  rw[this];rfl
 show tf _ _ _ _ _ _=_
 unfold tf
 rw[if_pos ⟨rfl,rfl,hk,by simp[yH]⟩,CQ]
 cases vY k s.l 0<;>rfl
theorem CR {s:ST}:ld1 st (.iptr (sC s) 1)=some (.isl (atC s.l) s.l.length none):=rfl
theorem NK {s:ST}:ld1 st (.iptr (sC s) 2)=some (.imap (s.l.map fun a=>.str a.nm) (qu 0 s.l)):=rfl
theorem qJ {l:List AT} {i:Nat} {a:AT} (h:l[i]?=some a):ldA st (.iptr (atC l) (i*6)) 6=some (aV a):=by
 have hlt:=(List.getElem?_eq_some_iff.1 h).1
 rw[eB (by rw[I3];omega)]
 unfold atC
 rw[pq (r:=iR a) (by rw[List.getElem?_map,h];rfl)]
 rfl
theorem LP {s:ST} (hs:s.ok) (k:Tx):Pu Tryz.prog 39 [sV s,.str k] (match fm k s.l with
  | some a=>.tup [aV a,.bool true]
  | none=>.tup [.agg (aX [] .nilp false false false false),.bool false]):=by
 refine Pu.of (c39 _ _ ?_) (by simp only[LV.aB,jy];rfl) (by split<;>simp[LV.plain,LV.aB,ll])
 have zag:aP (ao (aA [(0,1),(1,1),(2,1),(3,1),(4,1),(5,1)]) [LV.str [],LV.nilp,LV.bool false,LV.bool false,LV.bool false,LV.bool false] [])=some (.agg (aX [] .nilp false false false false)):=rfl
 have hx:=tY (k:=k) (l:=s.l) (j:=0)
 simp only[w39,b6,List.nil_append,List.length_nil,sV,ie,dP,dF,ab,af,bH,bG,Nat.zero_add,NK,LO hs]
 cases hi:vY k s.l 0 with
 | none=>
  rw[hi] at hx
  rw[show fm k s.l=none from hx]
  simp only[au,List.getElem?_cons_zero,List.getElem?_cons_succ,ab,bF,Bool.not_false,ai,zag]
  rw[sx (l:=aX [] .nilp false false false false) rfl rfl rfl rfl]
  simp only[ay,ag]
  rw[ld6 (l:=aX [] .nilp false false false false) rfl rfl,ab]
  exact bn (v:=.tup [.agg _,.bool false]) _ rfl
 | some i=>
  rw[hi] at hx
  obtain ⟨_,h2,h3⟩:=hx
  rw[Nat.sub_zero] at h2
  obtain ⟨a,ha⟩:=Option.isSome_iff_exists.1 h3
  rw[ha] at h2 ⊢
  have hlt:=(List.getElem?_eq_some_iff.1 h2).1
  have e1:aK 6 (.isl (atC s.l) s.l.length none) (i64 i)=some (.iptr (atC s.l) (i*6)):=bO hlt
  simp only[au,List.getElem?_cons_zero,List.getElem?_cons_succ,ab,bF,Bool.not_true,af,CR,e1,qJ h2]
  rw[sx (l:=aX [] .nilp false false false false) rfl rfl rfl sw]
  simp only[ay,ag]
  rw[ld6 (l:=aC a) rfl rfl,ab]
  exact bn (v:=.tup [aV a,.bool true]) _ (by simp only[LV.plain,LV.aB,ll];rfl)
end
section
variable {st st':aa} {R:LV→aa→Prop}
theorem A0 {s:ST} (hs:s.ok) {es:List (Tx × T)} (hv:(T.map es).ok) (hR:∀ st,R (.tup [.str (dV s.l es).1,i64 (dV s.l es).2]) st) :
  ∀ (d i:Nat) (st:aa),i+d=es.length→dV s.l es=dV s.l (es.drop i)→vc (sV s) (vL (es.map (·.2))) (sL (es.map (·.1))) (i64 es.length) (i64 i) R st:=by
 have hbe:es.length≤big:=by simp only[T.ok] at hv;exact hv.1
 intro d
 induction d with
 | zero=>
  intro i st hi hw
  refine FD _ _ _ _ _ ?_
  have c1:¬ ((i:Int)<es.length):=by omega
  simp only[Aa,ae,ax,ab,c1,decide_false,af]
  rw[List.drop_eq_nil_of_le (by omega)] at hw
  rw[hw] at hR
  exact hR st
 | succ d ih=>
  intro i st hi hw
  refine FD _ _ _ _ _ ?_
  have hlt:i<es.length:=by omega
  have c1:((i:Int)<es.length):=by omega
  have e1:aK 1 (sL (es.map (·.1))) (i64 i)=some (.iptr ((es.map (·.1)).map .str) (i*1)):=bO (by simpa using hlt)
  have hg:((es.map (·.1)).map LV.str)[i*1]?=some (.str es[i].1):=by simp[hlt]
  have e2:aK 1 (vL (es.map (·.2))) (i64 i)=some (.iptr (fk (es.map (·.2))) (i*1)):=bO (by simpa using hlt)
  have g:∀ s:aa,ldA s (.iptr (fk (es.map (·.2))) (i*1)) 1=some (vT es[i].2):=fun s=>by
   rw[eB (by rw[dJ];simp;omega),Nat.mul_one,dJ,List.map_map,← List.map_drop,List.drop_eq_getElem_cons hlt];rfl
  have hm:es[i] ∈ es:=List.getElem_mem hlt
  have hdr:es.drop i=es[i]::es.drop (i+1):=List.drop_eq_getElem_cons hlt
  generalize es[i]=e at hg g hm hdr
  rw[hdr,dV] at hw
  have hey:e.2.ok:=T.ik hv e.2 (List.mem_map.2 ⟨e,hm,rfl⟩)
  have put:∀ cs:List LV,cs.length=6→cs.all LV.one=true→stV (st++[av.cells .rw [LV.str [],LV.nilp,LV.bool false,LV.bool false,LV.bool false,LV.bool false]]) 6 (.ptr st.length 0) (.agg cs)=some (st++[.cells .rw cs]):=fun cs h1 h2=>by
   rw[sx aw rfl h1 h2];simp
  simp only[Aa,ae,ax,ab,c1,decide_true,ai,e1,ba,hg]
  have hf39:=LP hs e.1
  cases hf:fm e.1 s.l with
  | none=>
   rw[hf] at hf39
   rw[hf] at hw
   refine hf39.call ?_
   simp only[au,List.getElem?_cons_zero,List.getElem?_cons_succ,ab,b6,put (aX [] .nilp false false false false) rfl rfl,ay,ag,bF,Bool.not_false,ai]
   rw[hw] at hR
   exact hR _
  | some a=>
   rw[hf] at hf39
   rw[hf] at hw
   refine hf39.call ?_
   have ham:=tM hf
   have g1:ld1 (st++[av.cells .rw (aC a)]) (.ptr st.length 1)=some (kV a.ty):=a7 aw
   simp only[au,List.getElem?_cons_zero,List.getElem?_cons_succ,ab,b6,put (aC a) rfl rfl,ay,ag,bF,Bool.not_true,af,aq,Nat.zero_add,g1,e2,g]
   refine (Hk (d:=8) (by omega) (hs.ty a ham.1) hey).call ?_
   simp only[bF,ab]
   simp only at hw
   cases htk:bU a.ty e.2 with
   | true=>
    rw[htk,if_pos rfl] at hw
    simp only[Bool.not_true,af,aG,ab,aH (show i<2 ^ 40 by unfold big at hbe;omega)]
    exact ih (i+1) _ (by omega) hw
   | false=>
    rw[htk,if_neg (by simp)] at hw
    simp only[Bool.not_false,ai]
    rw[hw] at hR
    exact hR _
theorem yI {s:ST} (hs:s.ok) {v:T} (hv:v.ok):Pu Tryz.prog 110 [sV s,vT v] (.tup [.str (ck s.l v).1,i64 (ck s.l v).2]):=by
 refine Pu.of (Oc _ _ ?_) (by simp only[LV.aB,jy,b8];rfl) rfl
 have g:ldA ([]++[av.cells .rw [lvT v]]) (.ptr 0 0) 1=some (vT v):=rfl
 have ep:eX true (sV s) .nilp=some false:=rfl
 simp only[Nc,iw,ag,List.length_nil,ep,dP,dF,ab,af,g]
 refine (jP v).call ?_
 have ek:(v.kind != 7)=decide (v.kind≠7):=by by_cases h:v.kind=7<;>simp[h]
 simp only[ae,bx,ek,ab,aI]
 refine ⟨fun h=>?_,fun h=>?_⟩
 ·have:ck s.l v=([],6):=by cases v<;>first|rfl|exact absurd rfl h
  rw[this];exact bn (v:=.tup [.str [],i64 6]) _ rfl
 ·have:v.kind=7:=Classical.byContradiction h
  cases v<;>simp only[T.kind] at this<;>try omega
  rename_i es
  simp only[g,ab]
  refine (nM hv).call ?_
  simp only[g,ab]
  refine (nJ hv).call ?_
  have hk:(T.map es).keys=es.map (·.1):=rfl
  have hi:(T.map es).items=es.map (·.2):=rfl
  rw[hk,hi]
  simp only[aR,ab,List.length_map]
  have:=A0 hs hv (R:=fun r s'=>dp s' (.tup [.str (ck s.l (.map es)).1,i64 (ck s.l (.map es)).2]) r) (fun st=>bn (v:=.tup [.str _,i64 _]) _ rfl) es.length 0 ([]++[av.cells .rw [lvT (.map es)]]) (by omega) rfl
  simpa using this
end
section
variable {st st':aa} {R:LV→aa→Prop}
theorem Hl {cs:List LV} (h1:cs.length=6) (h2:cs.all LV.one=true):stV (st++[av.cells .rw [LV.str [],LV.nilp,LV.bool false,LV.bool false,LV.bool false,LV.bool false]]) 6 (.ptr st.length 0) (.agg cs)=some (st++[.cells .rw cs]):=by
 rw[sx aw rfl h1 h2];simp
theorem gV {v:T} (h:st[0]?=some (.cells .rw [lvT v])):ldA st (.ptr 0 0) 1=some (vT v):=by rw[cv h (by simp)];rfl
theorem gq {x y:av} (h:st[0]?=some x):(st++[y])[0]?=some x:=by rw[List.getElem?_append_left (bL h)];exact h
theorem CS {v:T} {k:Tx}:(v.at k).getD .null=dx v k:=rfl
theorem Ec {s:ST} (hs:s.ok) {v:T} (hv:v.ok) (hR:∀ st,R (.tup [.str (dW v s.l).1,i64 (dW v s.l).2]) st) :
  ∀ (d i:Nat) (st:aa),i+d=s.l.length→dW v s.l=dW v (s.l.drop i)→st[0]?=some (.cells .rw [lvT v])→xL (.ptr 0 0) (.isl (atC s.l) s.l.length none) (i64 s.l.length) (i64 i) R st:=by
 intro d
 induction d with
 | zero=>
  intro i st hi hw _
  refine JV _ _ _ _ ?_
  have c1:¬ ((i:Int)<s.l.length):=by omega
  simp only[Fz,ae,ax,ab,c1,decide_false,af]
  rw[List.drop_eq_nil_of_le (by omega)] at hw
  rw[hw] at hR
  exact hR st
 | succ d ih=>
  intro i st hi hw h0
  refine JV _ _ _ _ ?_
  have hlt:i<s.l.length:=by omega
  have h16:=hs.len
  have c1:((i:Int)<s.l.length):=by omega
  have e1:aK 6 (.isl (atC s.l) s.l.length none) (i64 i)=some (.iptr (atC s.l) (i*6)):=bO hlt
  have hx:s.l[i]?=some s.l[i]:=List.getElem?_eq_getElem hlt
  have hdr:s.l.drop i=s.l[i]::s.l.drop (i+1):=List.drop_eq_getElem_cons hlt
  generalize s.l[i]=a at hx hdr
  rw[hdr,dW] at hw
  have g0:ld1 (st++[av.cells .rw (aC a)]) (.ptr st.length 0)=some (.str a.nm):=a7 aw
  have hw1:=aH (show i<2 ^ 40 by omega)
  simp only[Fz,ae,ax,ab,c1,decide_true,ai,e1,qJ hx,b6,Hl (vV (a:=a)) sw,ay,ag,gV (gq h0),aq,Nat.zero_add,g0]
  refine (xW hv a.nm).call ?_
  rw[CS]
  generalize hz:av.cells Md.rw (aC a)=z at g0
  have hz1:(st++[z])[st.length]?=some (.cells .rw (aC a)):=by rw[aw,hz]
  have g2:∀ y,ld1 (st++[z]++[y]) (.ptr st.length 2)=some (.bool a.must):=fun y=>by
   rw[a7 (m:=.rw) (l:=aC a) (by rw[List.getElem?_append_left (by simp)];exact hz1)];rfl
  have gn:∀ y,ld1 (st++[z]++[y]) (.ptr st.length 0)=some (.str a.nm):=fun y=>by
   rw[a7 (m:=.rw) (l:=aC a) (by rw[List.getElem?_append_left (by simp)];exact hz1)];rfl
  have gx:∀ t,ldA (st++[z]++[av.cells .rw [lvT t]]) (.ptr (st++[z]).length 0) 1=some (vT t):=fun t=>by rw[cv aw (by simp)];rfl
  simp only[au,List.getElem?_cons_zero,List.getElem?_cons_succ,ab,eF,ay,ag,g2]
  cases hm:a.must with
  | false=>
   rw[hm] at hw
   simp only[Bool.false_and,Bool.false_eq_true,if_false] at hw
   simp only[af,aG,hw1,ab]
   exact ih (i+1) _ (by omega) hw (gq (gq h0))
  | true=>
   rw[hm,Bool.true_and] at hw
   simp only[ai,gx,ab]
   refine (jP _).call ?_
   have ek:((dx v a.nm).kind==0)=decide ((dx v a.nm).kind=0):=by by_cases h:(dx v a.nm).kind=0<;>simp[h]
   simp only[ae,aQ,ek,ab,aI,gn]
   refine ⟨fun h=>?_,fun h=>?_⟩
   ·rw[decide_eq_true h,if_pos rfl] at hw
    rw[hw] at hR
    exact hR _
   ·rw[decide_eq_false h,if_neg (by simp)] at hw
    simp only[aG,hw1,ab]
    exact ih (i+1) _ (by omega) hw (gq (gq h0))
theorem Hm {s:ST} (hs:s.ok) {v:T} (hv:v.ok):Pu Tryz.prog 41 [sV s,vT v] (.tup [.str (eu s.l v).1,i64 (eu s.l v).2]):=by
 refine Pu.of (c41 _ _ ?_) (by simp only[LV.aB,jy,b8];rfl) rfl
 have g:ldA ([]++[av.cells .rw [lvT v]]) (.ptr 0 0) 1=some (vT v):=rfl
 simp only[w41,iw,ag,List.length_nil,g,ab]
 refine (yI hs hv).call ?_
 have en:((ck s.l v).2 != 0)=decide ((ck s.l v).2≠0):=by by_cases h:(ck s.l v).2=0<;>simp[h]
 simp only[au,List.getElem?_cons_zero,List.getElem?_cons_succ,ae,bx,en,ab,aI]
 unfold eu
 refine ⟨fun h=>?_,fun h=>?_⟩
 ·rw[if_neg h];exact bn (v:=.tup [.str _,i64 _]) _ rfl
 ·have h':(ck s.l v).2=0:=Classical.byContradiction h
  rw[if_pos h']
  simp only[sV,bH,bG,Nat.zero_add,CR,aR,ab]
  exact Ec hs hv (R:=fun r s'=>dp s' (.tup [.str (dW v s.l).1,i64 (dW v s.l).2]) r) (fun st=>bn (v:=.tup [.str _,i64 _]) _ rfl) s.l.length 0 _ (by omega) rfl rfl
theorem A1 {s:ST} (hs:s.ok) {v:T} (hv:v.ok) (hR:∀ st,R (.tup [.str (jS v s.l).1,i64 (jS v s.l).2]) st) :
  ∀ (d i:Nat) (st:aa),i+d=s.l.length→jS v s.l=jS v (s.l.drop i)→st[0]?=some (.cells .rw [lvT v])→Ce (.ptr 0 0) (.isl (atC s.l) s.l.length none) (i64 s.l.length) (i64 i) R st:=by
 intro d
 induction d with
 | zero=>
  intro i st hi hw _
  refine JX _ _ _ _ ?_
  have c1:¬ ((i:Int)<s.l.length):=by omega
  simp only[FC,ae,ax,ab,c1,decide_false,af]
  rw[List.drop_eq_nil_of_le (by omega)] at hw
  rw[hw] at hR
  exact hR st
 | succ d ih=>
  intro i st hi hw h0
  refine JX _ _ _ _ ?_
  have hlt:i<s.l.length:=by omega
  have h16:=hs.len
  have c1:((i:Int)<s.l.length):=by omega
  have e1:aK 6 (.isl (atC s.l) s.l.length none) (i64 i)=some (.iptr (atC s.l) (i*6)):=bO hlt
  have hx:s.l[i]?=some s.l[i]:=List.getElem?_eq_getElem hlt
  have hdr:s.l.drop i=s.l[i]::s.l.drop (i+1):=List.drop_eq_getElem_cons hlt
  generalize s.l[i]=a at hx hdr
  rw[hdr,jS] at hw
  have g0:ld1 (st++[av.cells .rw (aC a)]) (.ptr st.length 0)=some (.str a.nm):=a7 aw
  have hw1:=aH (show i<2 ^ 40 by omega)
  simp only[FC,ae,ax,ab,c1,decide_true,ai,e1,qJ hx,b6,Hl (vV (a:=a)) sw,ay,ag,gV (gq h0),aq,Nat.zero_add,g0]
  refine (xW hv a.nm).call ?_
  generalize hz:av.cells Md.rw (aC a)=z at g0
  have hz1:(st++[z])[st.length]?=some (.cells .rw (aC a)):=by rw[aw,hz]
  have gn:∀ y,ld1 (st++[z]++[y]) (.ptr st.length 0)=some (.str a.nm):=fun y=>by
   rw[a7 (m:=.rw) (l:=aC a) (by rw[List.getElem?_append_left (by simp)];exact hz1)];rfl
  simp only[au,List.getElem?_cons_zero,List.getElem?_cons_succ,ab,eF,ay,ag,gn,bF]
  cases hm:(v.at a.nm).isSome with
  | true=>
   rw[hm,if_pos rfl] at hw
   simp only[Bool.not_true,af,aG,hw1,ab]
   exact ih (i+1) _ (by omega) hw (gq (gq h0))
  | false=>
   rw[hm,if_neg (by simp)] at hw
   simp only[Bool.not_false,ai]
   rw[hw] at hR
   exact hR _
theorem CT {s:ST} (hs:s.ok) {v:T} (hv:v.ok):Pu Tryz.prog 43 [sV s,vT v] (.tup [.str (jT s.l v).1,i64 (jT s.l v).2]):=by
 refine Pu.of (c43 _ _ ?_) (by simp only[LV.aB,jy,b8];rfl) rfl
 have g:ldA ([]++[av.cells .rw [lvT v]]) (.ptr 0 0) 1=some (vT v):=rfl
 simp only[w43,iw,ag,List.length_nil,g,ab]
 refine (yI hs hv).call ?_
 have en:((ck s.l v).2 != 0)=decide ((ck s.l v).2≠0):=by by_cases h:(ck s.l v).2=0<;>simp[h]
 simp only[au,List.getElem?_cons_zero,List.getElem?_cons_succ,ae,bx,en,ab,aI]
 unfold jT
 refine ⟨fun h=>?_,fun h=>?_⟩
 ·rw[if_neg h];exact bn (v:=.tup [.str _,i64 _]) _ rfl
 ·have h':(ck s.l v).2=0:=Classical.byContradiction h
  rw[if_pos h']
  simp only[sV,bH,bG,Nat.zero_add,CR,aR,ab]
  exact A1 hs hv (R:=fun r s'=>dp s' (.tup [.str (jS v s.l).1,i64 (jS v s.l).2]) r) (fun st=>bn (v:=.tup [.str _,i64 _]) _ rfl) s.l.length 0 _ (by omega) rfl rfl
end
end Go.Proofs.YtknegckgmklnhaaGreatDoor
