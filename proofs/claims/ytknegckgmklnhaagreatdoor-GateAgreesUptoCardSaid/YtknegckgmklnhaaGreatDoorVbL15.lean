/- Parts of the proof. -/
import Derived.Test.YtknegckgmklnhaaGreatDoorVaG2
namespace Go.Proofs.YtknegckgmklnhaaGreatDoor
open Go Go.CP Go.ChangeShapes Classical
set_option maxRecDepth 100000
theorem Ab {a b:T} (ha:a.ok) (hb:b.ok) (h:Agr a b):Pu Tryz.prog 56 [vT a,vT b] (.bool true):=by
 have:=po _ a b (Nat.lt_succ_self _) ha hb
 rwa [decide_eq_true h] at this
theorem CA {r:RV} {l:List Stp} (hr:r.ok) (hl:l.length≤big):ak Tryz.prog 15 [vR r,slS l] [] fun v _=>v=.bool true:=by
 obtain ⟨m,g1⟩:=xK hr
 have ht:=Bv hr
 have pc:=xT hr
 generalize cln r=t at ht pc
 have pt:=zX _ t (Nat.lt_succ_self _) ht
 refine c15 _ _ ?_
 have b1:∀ {s:aa},dC (al.cells .rw (rc r)::s) 0 r:=fun {s}=>rfl
 have ln:bg (slS l)=some (i64 (l.length:Int)):=rfl
 have e1:∀ {x:al} {t:T},stV [x,.cells .rw [.nili]] 1 (.ptr 1 0) (vT t)=some [x,.cells .rw [lvT t]]:=fun {x t}=>iJ (x:=.nili) rfl
 have e2:∀ {x y:al} {t:T},stV [x,y,.cells .rw [.nili]] 1 (.ptr 2 0) (vT t)=some [x,y,.cells .rw [lvT t]]:=fun {x y t}=>iJ (x:=.nili) rfl
 have e3:∀ {x y z:al} {t:T},stV [x,y,z,.cells .rw [.nili]] 1 (.ptr 3 0) (vT t)=some [x,y,z,.cells .rw [lvT t]]:=fun {x y z t}=>iJ (x:=.nili) rfl
 have k1:∀ {x:al} {t:T} {s:aa},ldA (x::.cells .rw [lvT t]::s) (.ptr 1 0) 1=some (vT t):=gX rfl
 have k3:∀ {x y z:al} {t:T} {s:aa},ldA (x::y::z::.cells .rw [lvT t]::s) (.ptr 3 0) 1=some (vT t):=gX rfl
 have self:=Ab ht ht (sC t)
 have fin:∀ {z p:T} {e f:Int},wA (goT t l) (.tup [vT z,i64 e])→wA (wU (b9 t .unknown l)) (.tup [vT p,i64 f])→r5 (.ptr 1 0) (i64 e) (.ptr 3 0) (i64 f) (fun v _=>v=.bool true) [.cells .rw (rc r),.cells .rw [lvT t],.cells .rw [lvT z],.cells .rw [lvT p]]:=by
  intro z p e f hg hw
  refine B8 _ _ _ _ ?_
  simp only[zP,aq,cC,ad,k1]
  by_cases he:e=0
  ·subst he
   have c0:((0:Int) != 0)=false:=rfl
   simp only[c0,aA]
   by_cases hf:f=0
   ·subst hf
    simp only[c0,aA]
    have hz:∃ z',goT t l=some z':=by
     cases h:goT t l with
     | none=>
      rw[h] at hg
      obtain ⟨y,e,h1,h2⟩:=hg
      simp only[LV.tup.injEq,List.cons.injEq,LV.int.injEq,and_true,true_and] at h1
      exact absurd h1.2.symm h2
     | some z'=>exact ⟨z',rfl⟩
    obtain ⟨z',hz⟩:=hz
    have hp:∃ p',b9 t .unknown l=some (some p')∧lvT p'=lvT p:=by
     cases h:b9 t .unknown l with
     | none=>
      rw[h] at hw
      obtain ⟨y,e,h1,h2⟩:=hw
      simp only[LV.tup.injEq,List.cons.injEq,LV.int.injEq,and_true,true_and] at h1
      exact absurd h1.2.symm h2
     | some q=>
      cases q with
      | none=>
       rw[h] at hw
       obtain ⟨y,e,h1,h2⟩:=hw
       simp only[LV.tup.injEq,List.cons.injEq,LV.int.injEq,and_true,true_and] at h1
       exact absurd h1.2.symm h2
      | some p'=>
       rw[h] at hw
       have hw:LV.tup [vT p,i64 0]=.tup [vT p',i64 0]:=hw
       simp only[LV.tup.injEq,LV.agg.injEq,List.cons.injEq,and_true] at hw
       exact ⟨p',rfl,hw.symm⟩
    obtain ⟨p',hp,hpp⟩:=hp
    obtain ⟨a1,a2,a3⟩:=ou l ht hz hp
    rw[← hpp]
    refine self.call ?_
    simp only[aH]
    refine (Ab a2 ht a1).call ?_
    simp only[aH]
    refine (yc a2).call ?_
    rw[a3]
    simp only[cM,eN,ad]
   ·have c1:(f != 0)=true:=by simpa using hf
    simp only[c1,aH]
    exact self.call rfl
  ·have c1:(e != 0)=true:=by simpa using he
   simp only[c1,aH]
   exact self.call rfl
 have two:∀ {q:Option T} {v:LV},wA q v→∃ z e,v=.tup [vT z,i64 e]:=by
  intro q v h
  cases q with
  | none=>obtain ⟨z,e,rfl,_⟩:=h;exact ⟨z,e,rfl⟩
  | some z=>exact ⟨z,0,h⟩
 simp only[w15,iY,aj,aR,a8,b1.ldA,ad]
 refine g1.call ?_
 simp only[aq,ke,ad]
 rw[bA]
 refine ⟨fun _=>qG rfl,fun _=>?_⟩
 simp only[ln,ad,aq,ke]
 rw[bA]
 refine ⟨fun _=>qG rfl,fun _=>qG ?_⟩
 simp only[cM,ad,dU,aA,b1.ldA]
 refine pc.call ?_
 refine pt.call ?_
 simp only[dB,List.cons_append,aR,aN,a8,av,e1,aB,aj,k1,ad]
 refine (CV ht hl).call fun v hv=>?_
 obtain ⟨z,e,rfl⟩:=two hv
 simp only[aO,bh,bE,ad,List.cons_append,aR,aN,a8,av,Nat.reduceAdd,e2,aB,aj,k1,true_and]
 refine ⟨?_,?_⟩
 ·refine oo.call ?_
  simp only[k1,true_and]
  refine (qE ht hl).call fun v hw=>?_
  obtain ⟨p,f,rfl⟩:=two hw
  simp only[aO,bh,bE,ad,e3,aB,aj]
  exact fin hv hw
 ·refine oo.call ?_
  simp only[k1,true_and,List.cons_append,aR,aN,a8,av,Nat.reduceAdd]
  refine ⟨?_,?_⟩
  ·refine (qE ht hl).call fun v hw=>?_
   obtain ⟨p,f,rfl⟩:=two hw
   simp only[aO,bh,bE,ad,e3,aB,aj]
   exact fin hv hw
  ·refine (qE ht hl).call fun v hw=>?_
   obtain ⟨p,f,rfl⟩:=two hw
   simp only[aO,bh,bE,ad,List.cons_append,aR,aN,a8,av,Nat.reduceAdd,k1,true_and,e3,aB,aj]
   exact fin hv hw
theorem CB:Tryz.prog.cellsOf 141=2:=by kernel_rfl
section
variable {H:Type}
theorem zw {n:Nat} {xs:List LV} {d:DataW H} (h:bn Tryz.prog n 141 xs d):∃ s:Stp,xs=[.str s.1,i64 s.2]:=by
 cases n with
 | zero=>exact h.elim
 | succ n=>
  unfold bn at h;rw[Tryz.underlying141] at h
  obtain ⟨hlen,parts,rfl,hp,hf⟩:=h
  rw[CB] at hlen
  obtain ⟨x0,x1,rfl⟩:∃ x0 x1,xs=[x0,x1]:=by
   match xs,hlen with
   | [x0,x1],_=>exact ⟨x0,x1,rfl⟩
  obtain ⟨p0,p1,rfl⟩:∃ x0 x1,parts=[x0,x1]:=by
   match parts,hp with
   | [x0,x1],_=>exact ⟨x0,x1,rfl⟩
  have f0:bn Tryz.prog n 9 (([x0,x1].drop 0).take (Tryz.prog.cellsOf 9)) p0:=hf 0 _ _ rfl rfl
  have f1:bn Tryz.prog n 3 (([x0,x1].drop 1).take (Tryz.prog.cellsOf 3)) p1:=hf 1 _ _ rfl rfl
  rw[ce9] at f0
  rw[ce3] at f1
  simp only[List.drop_zero,List.drop_succ_cons,List.take_succ_cons,List.take_zero] at f0 f1
  obtain ⟨s,e0,_⟩:=tZ f0
  obtain ⟨k,e1,_⟩:=qF f1
  simp only[List.cons.injEq,and_true] at e0 e1
  subst e0 e1
  exact ⟨(s,k),rfl⟩
theorem pA {n:Nat}:∀ {rows:List (List LV)} {elems:List (DataW H)},elems.length=rows.length→(∀ (i:Nat) (r:List LV) (di:DataW H),rows[i]?=some r→elems[i]?=some di→r.length=Tryz.prog.cellsOf 141∧bn Tryz.prog n 141 r di)→
  ∃ l:List Stp,rows.flatten=sCs l∧l.length=rows.length
 | [],_,_,_=>⟨[],rfl,rfl⟩
 | r::rows,[],h,_=>by simp at h
 | r::rows,d::elems,h,hr=>by
  obtain ⟨s,rfl⟩:=zw (hr 0 r d rfl rfl).2
  obtain ⟨l,h1,h2⟩:=pA (n:=n) (rows:=rows) (elems:=elems) (by simpa using h) (fun i r di a b=>hr (i+1) r di (by simpa using a) (by simpa using b))
  exact ⟨s::l,by rw[List.flatten_cons,h1];rfl,by simp[h2]⟩
theorem yw {n:Nat} {xs:List LV} {d:DataW H} (h:bn Tryz.prog n 85 xs d):∃ l:List Stp,xs=[slS l]∧l.length≤Rows.uptoBulk d:=by
 cases n with
 | zero=>exact h.elim
 | succ n=>
  unfold bn at h;rw[Tryz.underlying85] at h
  obtain ⟨rows,elems,rfl,hl,hd,hr⟩:=h
  rcases hd with rfl|⟨rest,rfl⟩
  ·exact ⟨[],rfl,by simp⟩
  ·obtain ⟨l,h1,h2⟩:=pA hl hr
   have h4:=kN (l:=elems)
   exact ⟨l,by rw[h1,← h2],by simp only[Rows.uptoBulk];omega⟩
end
theorem ov {H:Type} {xs:List LV} {ds:List (DataW H)} (h:mL Tryz.prog [49,85] xs ds) (hb:Rows.uptoBulkAll ds≤1048576):ak Tryz.prog 15 xs [] fun v _=>v=.bool true:=by
 obtain ⟨x0,_,d0,_,rfl,rfl,⟨n0,cs0,a1,_,a3⟩,x1,_,d1,_,rfl,rfl,⟨n1,cs1,_,b2,b3⟩,rfl,rfl⟩:=h
 have i0:bz Tryz.prog 49=true:=by kernel_rfl
 have i1:bz Tryz.prog 85=false:=by kernel_rfl
 rw[if_pos i0] at a1
 subst a1
 rw[b2 i1] at b3
 simp only[Rows.uptoBulkAll] at hb
 obtain ⟨r,rfl,hr⟩:=sE (N:=1048576) (by unfold big;omega) n0 a3 (by omega)
 obtain ⟨l,e,hl⟩:=yw b3
 simp only[List.cons.injEq,and_true] at e
 subst e
 exact CA hr (by unfold big;omega)
end Go.Proofs.YtknegckgmklnhaaGreatDoor
