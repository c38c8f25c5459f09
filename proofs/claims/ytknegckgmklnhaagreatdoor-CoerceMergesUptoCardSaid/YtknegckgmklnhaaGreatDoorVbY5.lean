/- Parts of the proof. -/
import Derived.Test.YtknegckgmklnhaaGreatDoorVbW12
namespace Go.Proofs.YtknegckgmklnhaaGreatDoor
open Go Go.CP
set_option maxRecDepth 100000
mutual
def RV.lim (N:Nat):RV→Prop
 | .mk _ _ _ _ _ l _=>l.length≤N∧RV.nC N l
def RV.nC (N:Nat):List RV→Prop
 | []=>True
 | r::rs=>RV.lim N r∧RV.nC N rs
end
theorem RV.fT {N:Nat}:∀ {l:List RV},RV.nC N l↔∀ t ∈ l,t.lim N
 | []=>by simp[RV.nC]
 | t::ts=>by simp[RV.nC,RV.fT (l:=ts)]
theorem RV.CF {N:Nat} {r:RV} (h:r.lim N):r.l.length≤N∧∀ x ∈ r.l,x.lim N:=by
 cases r;simp only[RV.lim] at h;exact ⟨h.1,RV.fT.1 h.2⟩
section
variable {H:Type}
theorem se {n N:Nat} (ih:∀ {xs:List LV} {d:DataW H},bI Tryz.prog n 49 xs d→Rows.uptoBulk d≤N→∃ r,xs=rc r∧r.ok∧r.lim N):∀ {rows:List (List LV)} {elems:List (DataW H)},elems.length=rows.length→
  (∀ (i:Nat) (r:List LV) (di:DataW H),rows[i]?=some r→elems[i]?=some di→r.length=7∧bI Tryz.prog n 49 r di)→Rows.uptoBulkAll elems≤N→∃ l:List RV,rows.flatten=rcs l∧l.length=rows.length∧∀ x ∈ l,x.ok∧x.lim N
 | [],_,_,_,_=>⟨[],rfl,rfl,fun _ h=>(by cases h)⟩
 | r::rows,[],h,_,_=>by simp at h
 | r::rows,d::elems,h,hr,hb=>by
  simp only[Rows.uptoBulkAll] at hb
  obtain ⟨s,rfl,hs⟩:=ih (hr 0 r d rfl rfl).2 (by omega)
  obtain ⟨l,h1,h2,h3⟩:=se ih (rows:=rows) (elems:=elems) (by simpa using h) (fun i r di a b=>hr (i+1) r di (by simpa using a) (by simpa using b)) (by omega)
  refine ⟨s::l,by simp[h1,rcs],by simp[h2],fun x hx=>?_⟩
  rcases List.mem_cons.1 hx with rfl|hx
  ·exact hs
  ·exact h3 x hx
theorem lB {N:Nat} (hN:N≤big):∀ (n:Nat) {xs:List LV} {d:DataW H},bI Tryz.prog n 49 xs d→Rows.uptoBulk d≤N→∃ r,xs=rc r∧r.ok∧r.lim N
 | 0,_,_,h,_=>h.elim
 | n+1,xs,d,h,hb=>by
  unfold bI at h;rw[Tryz.underlying49] at h
  obtain ⟨hlen,parts,rfl,hp,hf⟩:=h
  rw[B7] at hlen
  simp only[Rows.uptoBulk] at hb
  obtain ⟨x0,x1,x2,x3,x4,x5,x6,rfl⟩:∃ x0 x1 x2 x3 x4 x5 x6,xs=[x0,x1,x2,x3,x4,x5,x6]:=by
   match xs,hlen with
   | [x0,x1,x2,x3,x4,x5,x6],_=>exact ⟨x0,x1,x2,x3,x4,x5,x6,rfl⟩
  obtain ⟨p0,p1,p2,p3,p4,p5,p6,rfl⟩:∃ x0 x1 x2 x3 x4 x5 x6,parts=[x0,x1,x2,x3,x4,x5,x6]:=by
   match parts,hp with
   | [x0,x1,x2,x3,x4,x5,x6],_=>exact ⟨x0,x1,x2,x3,x4,x5,x6,rfl⟩
  simp only[Rows.uptoBulkAll] at hb
  have f0:bI Tryz.prog n 3 (([x0,x1,x2,x3,x4,x5,x6].drop 0).take (Tryz.prog.cellsOf 3)) p0:=hf 0 _ _ rfl rfl
  have f1:bI Tryz.prog n 4 (([x0,x1,x2,x3,x4,x5,x6].drop 1).take (Tryz.prog.cellsOf 4)) p1:=hf 1 _ _ rfl rfl
  have f2:bI Tryz.prog n 3 (([x0,x1,x2,x3,x4,x5,x6].drop 2).take (Tryz.prog.cellsOf 3)) p2:=hf 2 _ _ rfl rfl
  have f3:bI Tryz.prog n 3 (([x0,x1,x2,x3,x4,x5,x6].drop 3).take (Tryz.prog.cellsOf 3)) p3:=hf 3 _ _ rfl rfl
  have f4:bI Tryz.prog n 9 (([x0,x1,x2,x3,x4,x5,x6].drop 4).take (Tryz.prog.cellsOf 9)) p4:=hf 4 _ _ rfl rfl
  have f5:bI Tryz.prog n 47 (([x0,x1,x2,x3,x4,x5,x6].drop 5).take (Tryz.prog.cellsOf 47)) p5:=hf 5 _ _ rfl rfl
  have f6:bI Tryz.prog n 26 (([x0,x1,x2,x3,x4,x5,x6].drop 6).take (Tryz.prog.cellsOf 26)) p6:=hf 6 _ _ rfl rfl
  rw[ce3] at f0 f2 f3
  rw[ce4] at f1
  rw[ce9] at f4
  rw[CT] at f5
  rw[CU] at f6
  simp only[List.drop_zero,List.drop_succ_cons,List.take_succ_cons,List.take_zero] at f0 f1 f2 f3 f4 f5 f6
  obtain ⟨k,e0,k0⟩:=tq f0
  obtain ⟨b,e1⟩:=yP f1
  obtain ⟨a,e2,k2⟩:=tq f2
  obtain ⟨m,e3,k3⟩:=tq f3
  obtain ⟨s,e4,k4⟩:=xo f4
  obtain ⟨ks,e6,k6,k7⟩:=yQ f6
  cases n with
  | zero=>exact f0.elim
  | succ n=>
   unfold bI at f5;rw[Tryz.underlying47] at f5
   obtain ⟨rows,elems,e5,hl,hd,hr⟩:=f5
   rw[B7] at hr
   obtain ⟨l,h1,h2,h3⟩:∃ l:List RV,rows.flatten=rcs l∧l.length=rows.length∧(∀ x ∈ l,x.ok∧x.lim N)∧l.length≤N:=by
    rcases hd with rfl|⟨rest,rfl⟩
    ·exact ⟨[],rfl,rfl,(fun _ h=>by cases h),by simp⟩
    ·simp only[Rows.uptoBulk] at hb
     obtain ⟨l,g1,g2,g3⟩:=se (n:=n) (N:=N) (fun a b=>lB hN n a b) hl hr (by omega)
     have:=nM (l:=elems)
     exact ⟨l,g1,g2,g3,by omega⟩
   simp only[List.cons.injEq,and_true] at e0 e1 e2 e3 e4 e5 e6
   subst e0 e1 e2 e3 e4 e5 e6
   refine ⟨.mk k b a m s l ks,by rw[rc,← h1,← h2],⟨⟨k0,k2,k3⟩,by omega,by omega,⟨by omega,fun x hx=>by have:=k7 x hx;omega⟩,RV.ei.2 fun x hx=>(h3.1 x hx).1⟩,h3.2,RV.fT.2 fun x hx=>(h3.1 x hx).2⟩
end
theorem uY {N:Nat}:∀ {r:RV},r.lim N→(cln r).lim N:=fun {r}=>by
 refine RV.ind (p:=fun r=>r.lim N→(cln r).lim N) ?_ _ r (Nat.lt_succ_self _)
 intro r ih hr
 have hl:=RV.CF hr
 rw[jz]
 split
 ·trivial
 split
 ·trivial
 split
 ·trivial
 split
 ·trivial
 split
 ·trivial
 split
 ·refine T.fT.2 fun t ht=>?_
  obtain ⟨x,hx,rfl⟩:=List.mem_map.1 ht
  exact ih x hx (hl.2 x hx)
 split
 ·have h:=lu (l:=r.ks.zip (r.l.map cln)) (q:=fun e=>e.2.lim N) (by
   intro e he
   obtain ⟨k,t⟩:=e
   have h2:=(List.of_mem_zip he).2
   obtain ⟨x,hx,rfl⟩:=List.mem_map.1 h2
   exact ih x hx (hl.2 x hx))
  refine ⟨?_,T.cM.2 h.1⟩
  have:=jy (l:=r.ks.zip (r.l.map cln))
  simp at this;omega
 ·trivial
theorem zL:∀ (n:Nat) (t:T),SizeOf.sizeOf t<n→t.ok→(rT t).ok
 | 0,_,h,_=>by omega
 | n+1,t,hn,ht=>by
  have hrec:∀ x ∈ t.items,(rT x).ok:=fun x hx=>zL n x (by have:=T.eZ hx;omega) (T.fR ht x hx)
  cases t<;>simp only[T.ok] at ht
  ·simp[rT,RV.ok,RV.oks]
  ·simp[rT,RV.ok,RV.oks]
  ·simp[rT,RV.ok,RV.oks]
  ·simp only[rT,RV.ok,RV.oks,bu,and_true];exact ⟨⟨by omega,by omega,by omega⟩,by omega,by omega,by omega,fun _ h=>by cases h⟩
  ·simp only[rT,RV.ok,RV.oks,bu,and_true];exact ⟨⟨by omega,by omega,by omega⟩,by omega,by omega,by omega,fun _ h=>by cases h⟩
  ·simp only[rT,RV.ok,RV.oks,bu,and_true];exact ⟨⟨by omega,by omega,by omega⟩,by omega,by omega,by omega,fun _ h=>by cases h⟩
  ·simp only[rT,RV.ok,RV.ei,bu,nH,aU]
   refine ⟨⟨by omega,by omega,by omega⟩,by omega,by omega,⟨by omega,fun _ h=>by cases h⟩,fun x hx=>?_⟩
   obtain ⟨y,hy,rfl⟩:=List.mem_map.1 hx
   exact hrec y hy
  ·simp only[rT,RV.ok,RV.ei,bu,fg,aU]
   refine ⟨⟨by omega,by omega,by omega⟩,by omega,by omega,⟨by omega,fun x h=>?_⟩,fun x hx=>?_⟩
   ·obtain ⟨e,he,rfl⟩:=List.mem_map.1 h
    exact (T.bX.1 ht.2.1 e he).1
   ·obtain ⟨y,hy,rfl⟩:=List.mem_map.1 hx
    exact hrec y.2 (List.mem_map.2 ⟨y,hy,rfl⟩)
end Go.Proofs.YtknegckgmklnhaaGreatDoor
namespace Go.Proofs.YtknegckgmklnhaaGreatDoor
open Go Go.CP Go.RowKit Go.Maps Go.Sort Go.Shelf
set_option maxRecDepth 100000
def Bj:List (FuncId × rf):=[(242,.same),(263,.indexByte),(270,.count),(288,.clone),(245,.noZero 5)]
theorem y7:∀ p ∈ Bj,zo Tryz.prog p.1 p.2:=by
 intro p hp
 simp only[Bj,List.mem_cons,List.not_mem_nil,or_false] at hp
 rcases hp with rfl|rfl|rfl|rfl|rfl
 ·exact ⟨Tryz.f242,Tryz.func242,by kernel_rfl,by kernel_rfl,by kernel_rfl,(by kernel_rfl:Extern.find Tryz.f242=some Extern.AbiNoEscape.same)⟩
 ·exact ⟨Tryz.f263,Tryz.func263,by kernel_rfl,by kernel_rfl,by kernel_rfl,(by kernel_rfl:Extern.find Tryz.f263=some Extern.BytealgIndexByte.indexByte)⟩
 ·exact ⟨Tryz.f270,Tryz.func270,by kernel_rfl,by kernel_rfl,by kernel_rfl,(by kernel_rfl:Extern.find Tryz.f270=some Extern.BytealgCount.count)⟩
 ·exact ⟨Tryz.f288,Tryz.func288,by kernel_rfl,by kernel_rfl,by kernel_rfl,(by kernel_rfl:Extern.find Tryz.f288=some Extern.MapsClone.clone)⟩
 ·exact ⟨Tryz.f245,Tryz.func245,by kernel_rfl,by kernel_rfl,by kernel_rfl,Tryz.f245.params,78,(by kernel_rfl:Extern.find Tryz.f245=some (Extern.BytealgMakeNoZero.makeNoZero Tryz.f245.params #[78])),Tryz.underlying78⟩
def tK (k:List UInt8):List (List UInt8)→List (List UInt8)
 | []=>[k]
 | a::l=>match Op.bytesLess k a with
  | true=>k::a::l
  | false=>a::tK k l
def lC:List (List UInt8)→List (List UInt8)
 | []=>[]
 | k::l=>tK k (lC l)
theorem lD {k:List UInt8}:∀ {l:List (List UInt8)},(tK k l).Perm (k::l)
 | []=>.refl _
 | a::l=>by
  unfold tK
  split
  ·exact .refl _
  ·exact ((lD (l:=l)).cons a).trans (.swap k a l)
theorem iz:∀ {l:List (List UInt8)},(lC l).Perm l
 | []=>.refl _
 | k::_=>lD.trans (iz.cons k)
theorem o0 {k:List UInt8}:∀ {l:List (List UInt8)},l.Pairwise ltB→k ∉ l→(tK k l).Pairwise ltB
 | [],_,_=>by simp[tK]
 | a::l,h,hk=>by
  rw[List.pairwise_cons] at h
  simp only[List.mem_cons,not_or] at hk
  unfold tK
  split
  ·rename_i hlt
   exact List.pairwise_cons.2 ⟨fun b hb=>by
    rcases List.mem_cons.1 hb with rfl|hb
    ·exact hlt
    ·exact eA hlt (h.1 b hb),List.pairwise_cons.2 h⟩
  ·rename_i hlt
   refine List.pairwise_cons.2 ⟨fun b hb=>?_,o0 h.2 hk.2⟩
   rcases List.mem_cons.1 (lD.mem_iff.1 hb) with rfl|hb
   ·rcases hc:Op.bytesLess a b with _|_
    ·exact absurd (nB hlt hc) hk.1
    ·exact hc
   ·exact h.1 b hb
theorem mi:∀ {l:List (List UInt8)},l.Nodup→(lC l).Pairwise ltB
 | [],_=>by simp[lC]
 | k::l,h=>by
  rw[List.nodup_cons] at h
  exact o0 (mi h.2) (fun hc=>h.1 (iz.mem_iff.1 hc))
theorem vQ {l:List (List UInt8)} (h:l.Nodup):l.mergeSort leB=lC l:=by
 rw[← mergeSort_of_perm (iz (l:=l)),oM (mi h)]
def uZ (k:List UInt8):List (List UInt8)→Bool
 | []=>true
 | a::l=>match decide (k=a) with
  | true=>false
  | false=>uZ k l
def okK:List (List UInt8)→Bool
 | []=>true
 | k::l=>match uZ k l with
  | true=>(match Nat.ble k.length big with
   | true=>okK l
   | false=>false)
  | false=>false
theorem sf {k:List UInt8}:∀ {l:List (List UInt8)},uZ k l=true→k ∉ l
 | [],_=>by simp
 | a::l,h=>by
  unfold uZ at h
  split at h
  ·cases h
  ·rename_i e
   simp only[List.mem_cons,not_or]
   exact ⟨of_decide_eq_false e,sf h⟩
theorem yg:∀ {l:List (List UInt8)},okK l=true→l.Nodup∧∀ s ∈ l,s.length≤big
 | [],_=>by simp
 | k::l,h=>by
  unfold okK at h
  split at h
  ·rename_i e
   split at h
   ·rename_i e2
    obtain ⟨h1,h2⟩:=yg h
    refine ⟨List.nodup_cons.2 ⟨sf e,h1⟩,fun s hs=>?_⟩
    rcases List.mem_cons.1 hs with rfl|hs
    ·exact Nat.le_of_ble_eq_true e2
    ·exact h2 s hs
   ·cases h
  ·cases h
def zM (x:LV) (st:aa):Option (LV × aa):=match x with
 | .map o=>some (.fn (.func 166) [] [.ptr st.length 0],st++[.cells (.bt 173) [.map o]])
 | .nilm=>some (.fn (.func 166) [] [.ptr st.length 0],st++[.cells (.bt 173) [.nilm]])
 | _=>none
def zN (o:Nat) (st:aa):Option (LV × aa):=match st[o]? with
 | some (.cells (.bt t) [x])=>match Nat.beq t 173 with
  | true=>(match x with
   | .nilm=>some (.nils,st)
   | .map om=>(match st[om]? with
    | some (.map _ es _ _)=>(match fB es with
     | some ks=>(match okK ks with
      | true=>(match Nat.ble ks.length big with
       | true=>(match ks with
        | []=>some (.nils,st)
        | k::l=>some (.sl st.length 0 (k::l).length (.rest 1),st++[.cells .rw ((lC (k::l)).map .str)]))
       | false=>none)
      | false=>none)
     | none=>none)
    | _=>none)
   | _=>none)
  | false=>none
 | _=>none
def yh:Ora:=fun f xs st=>match Nat.beq f 116 with
 | true=>(match xs with
  | [x]=>zM x st
  | _=>none)
 | false=>match Nat.beq f 115 with
  | true=>(match xs with
   | [.fn (.func g) [] [.ptr o k]]=>(match Nat.beq g 166 with
    | true=>(match Nat.beq k 0 with
     | true=>zN o st
     | false=>none)
    | false=>none)
   | _=>none)
  | false=>Ad Bj f xs st
theorem yi:jc Tryz.prog yh:=by
 intro f xs st v st' h K hK
 unfold yh at h
 split at h
 ·rename_i e
  obtain rfl:=Nat.eq_of_beq_eq_true e
  split at h
  ·unfold zM at h
   split at h
   ·cases h
    exact lh (M:=173) call116 ej (.inr ⟨_,rfl⟩) hK
   ·cases h
    exact lh (M:=173) call116 ej (.inl rfl) hK
   ·cases h
  ·cases h
 ·split at h
  ·rename_i e
   obtain rfl:=Nat.eq_of_beq_eq_true e
   split at h
   ·split at h
    ·rename_i e1
     obtain rfl:=Nat.eq_of_beq_eq_true e1
     split at h
     ·rename_i e2
      obtain rfl:=Nat.eq_of_beq_eq_true e2
      unfold zN at h
      split at h
      ·rename_i o t x ho
       split at h
       ·rename_i e3
        obtain rfl:=Nat.eq_of_beq_eq_true e3
        split at h
        ·cases h
         exact nA (K:=9) call115 dn oN ho hK
        ·split at h
         ·rename_i om m es bs n hom
          split at h
          ·rename_i ks hks
           split at h
           ·rename_i hok
            obtain ⟨k1,k2⟩:=yg hok
            split at h
            ·rename_i hlen
             have hlen':=Nat.le_of_ble_eq_true hlen
             have l1:∀ s ∈ ks,s.length≤maxLen:=fun s hs=>by have:=k2 s hs;unfold big at this;unfold maxLen;omega
             refine rj (K:=9) (by kernel_rfl) call115 dn rI ho hom hks k1 l1 (by unfold big at hlen';unfold maxLen;omega) (by unfold big at hlen';omega) (fun e0=>?_) (fun e0=>?_)
             ·subst e0;cases h;exact hK
             ·rw[vQ k1]
              split at h
              ·exact absurd rfl e0
              ·cases h;exact hK
            ·cases h
           ·cases h
          ·cases h
         ·cases h
        ·cases h
       ·cases h
      ·cases h
     ·cases h
    ·cases h
   ·cases h
  ·exact yy y7 _ _ _ _ _ h K hK
end Go.Proofs.YtknegckgmklnhaaGreatDoor
namespace Go.Proofs.YtknegckgmklnhaaGreatDoor
open Go Go.CP
set_option maxRecDepth 100000
section
variable {st:aa} {R:LV→aa→Prop}
theorem tL {k:Tx} {ns:List Tx} {j:Nat} (h:mu k ns 0=some j):ixI k ns=(j:Nat)∧¬ ixI k ns<0:=by
 have e:ixI k ns=(j:Nat):=by unfold ixI;rw[h]
 exact ⟨e,by rw[e];omega⟩
theorem tM {k:Tx} {ns:List Tx} (h:mu k ns 0=none):ixI k ns = -1:=by unfold ixI;rw[h]
theorem lF {k:Tx}:∀ {es:List (Tx × T)} {i:Nat},match mu k (es.map (·.1)) i with
  | none=>T.find es k=none
  | some j=>i≤j∧∃ t,es[j-i]?=some (k,t)∧T.find es k=some t
 | [],_=>rfl
 | e::es,i=>by
  obtain ⟨n,t⟩:=e
  simp only[List.map_cons,mu]
  by_cases h:n=k
  ·subst h
   simp only[if_true]
   exact ⟨Nat.le_refl _,t,by simp,by simp[T.find]⟩
  ·rw[if_neg h]
   have ih:=lF (k:=k) (es:=es) (i:=i+1)
   have e2:T.find ((n,t)::es) k=T.find es k:=by
    unfold T.find
    rw[List.find?_cons_of_neg (by simpa using h)]
   cases hx:mu k (es.map (·.1)) (i+1) with
   | none=>rw[hx] at ih;rw[e2];exact ih
   | some j=>
    rw[hx] at ih
    obtain ⟨h1,t',h2,h3⟩:=ih
    refine ⟨by omega,t',?_,by rw[e2];exact h3⟩
    rw[show j-i=(j-(i+1))+1 by omega,bJ]
    exact h2
theorem CG {es:List (Tx × T)}:(rT (.map es)).l=es.map fun e=>rT e.2:=by rw[yO];simp only[T.items,List.map_map];rfl
theorem bA.lm {o:Nat} {es:List (Tx × T)} (h:bA st o (rT (.map es))):ld1 st (.ptr o 5)=some (.isl (rcs (es.map fun e=>rT e.2)) es.length none):=by
 rw[h.l,CG]
 show some (LV.isl _ (es.map fun e=>rT e.2).length none)=_
 rw[aU]
theorem bA.km {o:Nat} {es:List (Tx × T)} (h:bA st o (rT (.map es))):ld1 st (.ptr o 6)=some (.isl ((es.map (·.1)).map .str) es.length none):=by
 rw[h.ks,xk]
 show some (LV.isl _ (es.map (·.1)).length none)=_
 rw[aU];rfl
theorem bA.kk {o:Nat} {t:T} (h:bA st o (rT t)):ld1 st (.ptr o 0)=some (i64 t.kind):=by rw[h.k,AQ]
theorem y8 {k:Tx} {o:Nat} {es:List (Tx × T)} (hb:es.length≤big) (hbx:bA st o (rT (.map es))) (hR:R (i64 (ixI k (es.map (·.1)))) st) :
  ∀ (d i:Nat),i+d=es.length→mu k (es.map (·.1)) 0=mu k ((es.map (·.1)).drop i) i→qd (.str k) (.ptr o 0) (i64 i) R st:=by
 intro d
 induction d with
 | zero=>
  intro i hi hp
  refine tA _ _ _ ?_
  have c1:¬ ((i:Int)<es.length):=by omega
  rw[dy (by simp;omega)] at hp
  rw[tM hp] at hR
  simp only[qe,aF,av,ae,hbx.lm,aP,an,aO,c1,dz,ax]
  exact hR
 | succ d ih=>
  intro i hi hp
  refine tA _ _ _ ?_
  have hlt:i<es.length:=by omega
  have c1:((i:Int)<es.length):=by omega
  have e1:bo 1 (.isl ((es.map (·.1)).map .str) es.length none) (i64 i)=some (.iptr ((es.map (·.1)).map .str) (i*1)):=dd hlt
  have hg:((es.map (·.1)).map LV.str)[i*1]?=some (.str es[i].1):=by simp[hlt]
  have hd:(es.map (·.1)).drop i=es[i].1::(es.map (·.1)).drop (i+1):=by rw[gH (by simpa using hlt)];simp
  generalize es[i].1=n at hg hd
  have e7:((T.map es).kind==7)=true:=rfl
  simp only[qe,aF,av,ae,hbx.lm,hbx.kk,hbx.km,aP,an,aO,b5,e7,c1,dh,a8,e1,cm,hg,hZ,qT]
  rw[hd,mu] at hp
  by_cases h:n=k
  ·subst h
   rw[if_pos rfl] at hp
   rw[(tL hp).1] at hR
   simp only[beq_self_eq_true,a8]
   exact hR
  ·rw[if_neg h] at hp
   have e2:(n==k)=false:=by simpa using h
   simp only[e2,ax,bx,ae,bO (show i<2 ^ 40 by unfold big at hb;omega)]
   exact ih (i+1) (by omega) hp
theorem vS {r:RV} {k:Tx}:LV.au [vR r,.str k]=true:=by simp only[LV.au,dP];rfl
theorem u3 {t:T} (ht:t.ok) (k:Tx):Pu Tryz.prog 112 [vR (rT t),.str k] (i64 (ixI k t.keys)):=by
 refine Pu.of (CZ _ _ ?_) vS rfl
 have hb:bA ([]++[ah.cells .rw (rc (rT t))]) 0 (rT t):=aH
 simp only[Cj,eM,aj,bu]
 by_cases h7:t.kind=7
 ·cases t<;>simp only[T.kind] at h7<;>try omega
  rename_i es
  have hbe:es.length≤big:=by simp only[T.ok] at ht;exact ht.1
  exact y8 (R:=fun v s=>dp s (i64 (ixI k (T.map es).keys)) v) hbe hb rfl es.length 0 (by omega) rfl
 ·have hk:t.keys=[]:=by cases t<;>first|rfl|exact absurd rfl h7
  rw[hk]
  refine tA _ _ _ ?_
  have e7:(t.kind==7)=false:=by simpa using h7
  simp only[qe,aF,av,ae,hb.l,hb.kk,aP,an,aO,b5,e7,ax,a7]
  exact ⟨fun _=>rfl,fun _=>rfl⟩
def sg (st:aa) (o:Nat) (n:Int) (l:List AT):Prop:=st[o]?=some (.cells .rw [i64 n,.isl (bCs l) l.length none])
theorem sg.l {o:Nat} {n:Int} {l:List AT} (h:sg st o n l):ld1 st (.ptr o 1)=some (.isl (bCs l) l.length none):=by rw[ck (show st[o]?=_ from h)];rfl
theorem sg.ldA {o:Nat} {n:Int} {l:List AT} (h:sg st o n l):ldA st (.ptr o 0) 2=some (bS n l):=by rw[dJ (show st[o]?=_ from h) (by simp)];rfl
end
end Go.Proofs.YtknegckgmklnhaaGreatDoor
namespace Go.Proofs.YtknegckgmklnhaaGreatDoor
open Go Go.CP
set_option maxRecDepth 100000
section
variable {st:aa} {R:LV→aa→Prop}
structure W2 (st:aa) (t:KT) (v:T):Prop where
 a:st[0]?=some (.cells .rw (rkC t))
 b:bA st 1 (rT v)
namespace W2
variable {t:KT} {v:T} (h:W2 st t v)
include h
theorem f:ld1 st (.ptr 0 0)=some (i64 t.f):=by rw[ck h.a,nS];rfl
theorem l:ld1 st (.ptr 0 1)=some (.isl (r5 t.l) t.l.length none):=by rw[ck h.a,nS];rfl
theorem ns:ld1 st (.ptr 0 2)=some (.isl (t.ns.map .str) t.ns.length none):=by rw[ck h.a,nS];rfl
theorem ls:ld1 st (.ptr 0 3)=some (.isl (t.ls.map .bool) t.ls.length none):=by rw[ck h.a,nS];rfl
theorem all:ldA st (.ptr 0 0) 4=some (.agg (rkC t)):=by rw[dJ h.a (by rw[uW];omega),List.drop_zero,List.take_of_length_le (by rw[uW];omega)]
theorem app {y:ah}:W2 (st++[y]) t v:=⟨r0 h.a,by have:=h.b;unfold bA at this ⊢;rw[bD (bR this)];exact this⟩
end W2
theorem bA.li {o:Nat} {v:T} (h:bA st o (rT v)):ld1 st (.ptr o 5)=some (.isl (rcs (v.items.map rT)) v.items.length none):=by
 rw[h.l,yO]
 show some (LV.isl _ (v.items.map rT).length none)=_
 rw[aU]
theorem bA.ki {o:Nat} {v:T} (h:bA st o (rT v)):ld1 st (.ptr o 6)=some (.isl (v.keys.map .str) v.keys.length none):=by rw[h.ks,xk]
end
end Go.Proofs.YtknegckgmklnhaaGreatDoor
namespace Go.Proofs.YtknegckgmklnhaaGreatDoor
open Go Go.CP
set_option maxRecDepth 100000
section
variable {st:aa} {R:LV→aa→Prop}
structure SV (st:aa) (n:Int) (l:List AT) (v:T):Prop where
 a:sg st 0 n l
 b:bA st 1 (rT v)
end
section
variable {st:aa} {R:LV→aa→Prop}
def rcz (v:T) (a:AT):List LV:=if a.own&&decide ((Co v a.nm).kind=0) then [i64 1,.bool false,i64 0,i64 0,.str [],.nils,.nils] else rc (rT (Co v a.nm))
def zs (v:T) (l:List AT):List LV:=(l.map (rcz v)).flatten
structure vU (st:aa) (n:Int) (S:ST) (v:T) (fL fK:Option Nat) (i k:Nat):Prop where
 s:SV st n S.l v
 c2:st[2]?=some (.cells .rw z7)
 c3:st[3]?=some (.cells .rw [i64 7,.bool false,i64 0,i64 0,.str [],osl fL 7 i,osl fK 1 k])
 oL:bH .rw st fL 7 i (zs v (S.l.take i))
 oK:bH .rw st fK 1 k ((S.l.take k).map fun a=>.str a.nm)
 nL:∀ o,fL=some o→4≤o∧fK≠some o
 nK:∀ o,fK=some o→4≤o
variable {n:Int} {S:ST} {v:T} {fL fK:Option Nat} {i k:Nat} {a:AT}
theorem bA.fr {st st':aa} {Q:Nat→Prop} {o:Nat} {r:RV} (h:bA st o r) (hf:Fr st st' Q) (hn:¬ Q o):bA st' o r:=hf.get h hn
theorem sg.fr {st st':aa} {Q:Nat→Prop} {o:Nat} {n:Int} {l:List AT} (h:sg st o n l) (hf:Fr st st' Q) (hn:¬ Q o):sg st' o n l:=hf.get h hn
theorem vU.fr {st':aa} {Q:Nat→Prop} (h:vU st n S v fL fK i k) (hf:Fr st st' Q) (h4:∀ o,o<4→¬ Q o) (hl:∀ o,fL=some o→¬ Q o) (hk:∀ o,fK=some o→¬ Q o):vU st' n S v fL fK i k:=
 ⟨⟨h.s.a.fr hf (h4 0 (by omega)),h.s.b.fr hf (h4 1 (by omega))⟩,hf.get h.c2 (h4 2 (by omega)),hf.get h.c3 (h4 3 (by omega)),h.oL.fr hf hl,h.oK.fr hf hk,h.nL,h.nK⟩
theorem vU.app {y:ah} (h:vU st n S v fL fK i k):vU (st++[y]) n S v fL fK i k:=h.fr (Fr.app (S:=fun _=>False)) (fun _ _ h=>h) (fun _ _ h=>h) (fun _ _ h=>h)
end
end Go.Proofs.YtknegckgmklnhaaGreatDoor
namespace Go.CP
theorem tN {n:Int} (h:n.natAbs≤2 ^ 53):(FloatKind.f64.decode (FloatKind.f64.nearest n)).toInt .zero=some n:=by
 obtain ⟨C,hC,hc⟩:=uR 1074
 obtain ⟨m,i,r,hi,hv⟩:=ly h hC
 show (Ieee.double.read (FloatKind.f64.nearest n)).toInt .zero=some n
 rw[r]
 show some (Ieee.signed (decide (n<0)) (Ieee.Toward.zero.cut (decide (n<0)) (m <<< i.toNat) (-i).toNat) 0)=some n
 have hcut:Ieee.Toward.zero.cut (decide (n<0)) (m <<< i.toNat) (-i).toNat=n.natAbs:=by
  unfold Ieee.Toward.cut
  simp only[Bool.toNat_false,Nat.add_zero,Nat.shiftLeft_eq,Nat.one_mul]
  by_cases h0:0≤i
  ·rw[show (-i).toNat=0 by omega,Nat.zero_min,Nat.pow_zero,Nat.div_one]
   rw[show (i+1074).toNat=i.toNat+1074 by omega,Nat.pow_add,hC,← Nat.mul_assoc] at hv
   exact Nat.eq_of_mul_eq_mul_right hc hv
  ·obtain ⟨D,hD⟩:∃ D:Nat,(-i).toNat=D:=⟨_,rfl⟩
   obtain ⟨E,hE⟩:∃ E:Nat,(i+1074).toNat=E:=⟨_,rfl⟩
   have hC':2 ^ D*2 ^ E=C:=by rw[← Nat.pow_add,show D+E=1074 by omega];exact hC
   rw[hE,← hC',← Nat.mul_assoc] at hv
   have hm:m=n.natAbs*2 ^ D:=Nat.eq_of_mul_eq_mul_right (Nat.pow_pos (by omega)) hv
   rw[hD,show i.toNat=0 by omega,Nat.pow_zero,Nat.mul_one]
   rcases Nat.eq_zero_or_pos n.natAbs with hz|hz
   ·rw[hz,Nat.zero_mul] at hm
    rw[hm,hz,Nat.zero_div]
   ·have hle:2 ^ D≤m:=by rw[hm];exact Nat.le_mul_of_pos_left _ hz
    have hp:0<2 ^ D:=Nat.pow_pos (by omega)
    have hl:D≤m.log2:=(Nat.le_log2 (by omega)).2 hle
    rw[Nat.min_eq_left (by omega)]
    conv=>lhs;lhs;rw[hm]
    exact Nat.mul_div_cancel _ hp
 rw[hcut]
 unfold Ieee.signed
 simp only[Nat.shiftLeft_zero]
 by_cases hn:n<0
 ·rw[decide_eq_true hn,if_pos rfl];exact congrArg some (by omega)
 ·rw[decide_eq_false hn,if_neg (by simp)];exact congrArg some (by omega)
end Go.CP
namespace Go.Proofs.YtknegckgmklnhaaGreatDoor
open Go Go.CP
set_option maxRecDepth 100000
section
variable {st:aa} {R:LV→aa→Prop}
def tP:T→Bool
 | .bool b=>b
 | _=>false
def yj:T→Tx
 | .text s=>s
 | _=>[]
def Bk:T→Int
 | .point a _=>a
 | _=>0
def Bn:T→Int
 | .point _ b=>b
 | _=>0
theorem vV (t:T):Pu Tryz.prog 97 [vT t] (.tup [.bool (tP t),.bool (decide (t.kind=2))]):=by
 refine Pu.of (c97 _ ?_) fU rfl
 cases t<;>exact bk (v:=.tup [.bool _,.bool _]) _ rfl
theorem tQ (t:T):Pu Tryz.prog 100 [vT t] (.tup [.str (yj t),.bool (decide (t.kind=5))]):=by
 refine Pu.of (CR _ ?_) fU rfl
 cases t<;>exact bk (v:=.tup [.str _,.bool _]) _ rfl
theorem o7 {n:Int} (h : -9007199254740992≤n∧n≤9007199254740992):nY .i64 (.flt .f64 (fb n))=some (i64 n):=by
 have e:=tN (n:=n) (by omega)
 have h2:IntKind.i64.min≤n∧n≤IntKind.i64.max:=⟨Int.le_trans (by decide) h.1,Int.le_trans h.2 (by decide)⟩
 show (match (FloatKind.f64.decode (FloatKind.f64.nearest n)).toInt .zero with
  | some n=>if IntKind.i64.min≤n∧n≤IntKind.i64.max then some (LV.int .i64 n) else none
  | none=>none)=_
 rw[e]
 exact if_pos h2
theorem tR {t:T} (ht:t.ok):Pu Tryz.prog 99 [vT t] (.tup [i64 (Bk t),i64 (Bn t),.bool (decide (t.kind=4))]):=by
 refine Pu.of (c99 _ ?_) fU rfl
 have c0:nY .i64 (.flt .f64 0)=some (i64 0):=rfl
 have no:∀ {s:aa},bd (nY .i64 (.flt .f64 0)) (fun v8=>bd (nY .i64 (.flt .f64 0)) fun v10=>dp s (.tup [i64 0,i64 0,.bool false]) (.tup [v8,v10,.bool false])):=by
  intro s
  rw[c0]
  exact bk (v:=.tup [i64 _,i64 _,.bool _]) _ rfl
 cases t with
 | point a b=>
  simp only[T.ok] at ht
  show bd (nY .i64 (.flt .f64 (fb a))) fun v8=>bd (nY .i64 (.flt .f64 (fb b))) fun v10=>dp _ (.tup [i64 a,i64 b,.bool true]) (.tup [v8,v10,.bool true])
  rw[o7 ht.1,o7 ht.2]
  exact bk (v:=.tup [i64 _,i64 _,.bool _]) _ rfl
 | _=>exact no
theorem vW {a b:Bool}:jG .neq (.bool a) (.bool b)=some (.bool (a != b)):=rfl
theorem T.y9 {es:List (Tx × T)} (hv:(T.map es).ok) {i:Nat} {e:Tx × T} (h:es[i]?=some e):(T.map es).at e.1=some e.2:=by
 simp only[T.ok] at hv
 exact T.ij (b6 hv.2.2) (cA h)
structure U2 (st:aa) (t:T):Prop where
 a:st[0]?=some (.cells .rw [lvT t])
 b:bA st 1 (rT t)
theorem U2.app {t:T} {y:ah} (h:U2 st t):U2 (st++[y]) t:=
 ⟨r0 h.a,by have:=h.b;unfold bA at this ⊢;rw[bD (bR this)];exact this⟩
theorem Bo {t:T} (ht:t.ok) (ih:∀ x ∈ t.items,Pu Tryz.prog 31 [vT x,vR (rT x)] (i64 0)) (hR:∀ st,R (i64 0) st) :
  ∀ (d i:Nat) (st:aa),i+d=t.items.length→U2 st t→eG (.ptr 0 0) (.ptr 1 0) (vL t.items) (sL t.keys) (i64 0) (i64 i) R st:=by
 have hbi:t.items.length≤big:=by
  cases t<;>simp only[T.items,bu,aU]<;>first|exact Nat.zero_le _ | (simp only[T.ok] at ht;exact ht.1)
 have w0:IntKind.i64.wrap (0+0)=0:=rfl
 intro d
 induction d with
 | zero=>
  intro i st hi h
  refine xJ _ _ _ _ _ _ ?_
  have c1:¬ ((i:Int)<t.items.length):=by omega
  simp only[tB,aP,an,aO,ae,c1,dz,ax]
  exact hR st
 | succ d ihd=>
  intro i st hi h
  refine xJ _ _ _ _ _ _ ?_
  have hlt:i<t.items.length:=by omega
  have c1:((i:Int)<t.items.length):=by omega
  have hw1:=bO (show i<2 ^ 40 by unfold big at hbi;omega)
  have e1:bo 1 (vL t.items) (i64 i)=some (.iptr (dM t.items) (i*1)):=dd hlt
  have g1:∀ s:aa,ldA s (.iptr (dM t.items) (i*1)) 1=some (vT t.items[i]):=fun s=>by
   rw[ie (by rw[gq];simp;omega),Nat.mul_one,gq,← List.map_drop,gH hlt];rfl
  have e5:bo 7 (.isl (rcs (t.items.map rT)) t.items.length none) (i64 i)=some (.iptr (rcs (t.items.map rT)) (i*7)):=dd hlt
  have hx5:(t.items.map rT)[i]?=some (rT t.items[i]):=by simp[hlt]
  have hxi:t.items[i]?=some t.items[i]:=bh hlt
  have hm:=List.getElem_mem hlt
  generalize t.items[i]=x at g1 hx5 hm hxi
  have g5:∀ s:aa,ldA s (.iptr (rcs (t.items.map rT)) (i*7)) 7=some (vR (rT x)):=fun s=>fu hx5
  have hp:=ih x hm
  have e7:(t.kind==7)=decide (t.kind=7):=by by_cases h:t.kind=7<;>simp[h]
  simp only[tB,aP,an,aO,ae,c1,dh,a8,aF,av,h.b.kk,b5,e7]
  rw[a7]
  refine ⟨fun h7=>?_,fun h7=>?_⟩
  ·have hkl:i<t.keys.length:=by
    cases t<;>simp only[T.kind] at h7<;>try omega
    simpa[T.keys,T.items] using hlt
   have e6:bo 1 (.isl (t.keys.map .str) t.keys.length none) (i64 i)=some (.iptr (t.keys.map .str) (i*1)):=dd hkl
   have hg:(t.keys.map LV.str)[i*1]?=some (.str t.keys[i]):=by simp[hkl]
   have hat:t.at t.keys[i]=some x:=by
    cases t<;>simp only[T.kind] at h7<;>try omega
    rename_i es
    have hil:i<es.length:=by simpa[T.items] using hlt
    have hx':(es.map (·.2))[i]?=some x:=hxi
    rw[bN,bh hil,Option.map_some,ar] at hx'
    have:=T.y9 ht (bh hil)
    rw[hx'] at this
    simpa[T.keys] using this
   generalize t.keys[i]=n at hg hat
   have ha:=zy ht n
   rw[hat] at ha
   have gx:∀ {s:aa},U2 s t→ldA s (.ptr 0 0) 1=some (vT t):=fun h=>gX h.a
   have h':=h.app (y:=.cells .rw [.nili])
   have fin:qf (.ptr 0 0) (.ptr 1 0) (vL t.items) (sL t.keys) (i64 0) (i64 i) (.ptr st.length 0) (.bool true) R (st++[.cells .rw [lvT x]]):=by
    refine A9 _ _ _ _ _ _ _ _ ?_
    have h2:=h.app (y:=.cells .rw [lvT x])
    have gb:ldA (st++[ah.cells .rw [lvT x]]) (.ptr st.length 0) 1=some (vT x):=gX aH
    have en:(!(n==n))=false:=by simp
    have cg:¬ ((0:Int) > 0):=by omega
    simp only[xK,e6,ae,cm,hg,aF,av,h2.b.ki,hZ,qU,en,ax,dI,dA,gb,h2.b.li,e5,g5]
    refine hp.call ?_
    simp only[an,jV,cg,dz,ae,ax,e1,g1,h2.b.li,e5,g5]
    refine hp.call ?_
    simp only[an,bx,w0,ae,hw1]
    exact ihd (i+1) _ (by omega) h2
   simp only[gx h,gx h',ae,h.b.ki,h'.b.ki,e6,cm,hg,dc,true_and]
   refine ⟨?_,?_⟩
   ·refine ha.call ?_
    simp only[aV,bB,bJ,ae,Option.getD_some,Option.isSome_some,ft,aB,aj]
    exact fin
   ·refine ha.call ?_
    simp only[aV,bB,bJ,ae,Option.getD_some,Option.isSome_some,ft,aB,aj,gx h',h'.b.ki,true_and]
    exact fin
  ·simp only[e1,ae,g1,h.b.li,e5,g5]
   refine hp.call ?_
   simp only[an,bx,w0,ae,hw1]
   exact ihd (i+1) _ (by omega) h
theorem C4 {t:T}:(rT t).b=tP t:=by cases t<;>rfl
theorem C5 {t:T}:(rT t).s=yj t:=by cases t<;>rfl
theorem CH {t:T} (h:t.kind=3):(rT t).n=intOf t:=by cases t<;>simp only[T.kind] at h<;>first|rfl|omega
theorem zO {t:T} (h:t.kind=4):(rT t).n=Bk t∧(rT t).m=Bn t:=by cases t<;>simp only[T.kind] at h<;>first|exact ⟨rfl,rfl⟩ | omega
theorem vX {t:T} (h:t.kind≠2):tP t=false:=by cases t<;>first|rfl|exact absurd rfl h
theorem sh:∀ (n:Nat) (t:T),SizeOf.sizeOf t<n→t.ok→Pu Tryz.prog 31 [vT t,vR (rT t)] (i64 0)
 | 0,_,h,_=>by omega
 | n+1,t,hn,ht=>by
  have ih:∀ x ∈ t.items,Pu Tryz.prog 31 [vT x,vR (rT x)] (i64 0):=fun x hx=>sh n x (by have:=T.eZ hx;omega) (T.fR ht x hx)
  refine Pu.of (c31 _ _ ?_) (by simp only[LV.au,bG,dP];rfl) rfl
  have h:U2 [ah.cells .rw [lvT t],.cells .rw (rc (rT t))] t:=⟨rfl,rfl⟩
  have g:ldA [ah.cells .rw [lvT t],.cells .rw (rc (rT t))] (.ptr 0 0) 1=some (vT t):=rfl
  have ek:∀ n:Int,(t.kind==n)=decide (t.kind=n):=fun n=>by by_cases h:t.kind=n<;>simp[h]
  have ne:∀ x:Int,(x != x)=false:=fun x=>by simp
  have nb:∀ x:Bool,(x != x)=false:=fun x=>by simp
  have ns:∀ x:Tx,(!(x==x))=false:=fun x=>by simp
  simp only[w31,gu,eM,aj,bu,bw,List.cons_append,bg,av,g,ae]
  refine (vV t).call ?_
  simp only[aV,bB,bJ,ae,g]
  refine (xO t).call ?_
  simp only[aV,bB,bJ,ae,g]
  refine (tR ht).call ?_
  simp only[aV,bB,bJ,ae,g]
  refine (tQ t).call ?_
  simp only[aV,bB,bJ,ae,g]
  refine (rJ ht).call ⟨g,?_⟩
  refine (pS ht).call ?_
  refine Ck _ _ _ _ _ _ _ _ _ _ _ _ _ ?_
  have rest:fj (.ptr 0 0) (.ptr 1 0) (i64 (intOf t)) (i64 (Bk t)) (i64 (Bn t)) (vL t.items) (sL t.keys) (.bool false) (fun r s=>dp s (i64 0) r) [ah.cells .rw [lvT t],.cells .rw (rc (rT t))]:=by
   refine Cl _ _ _ _ _ _ _ _ ?_
   have lp:eG (.ptr 0 0) (.ptr 1 0) (vL t.items) (sL t.keys) (LV.int .i64 0) (LV.int .i64 0) (fun r s=>dp s (i64 0) r) [ah.cells .rw [lvT t],.cells .rw (rc (rT t))]:=
    Bo ht ih (fun _=>rfl) t.items.length 0 _ (by omega) h
   simp only[zE,ax,aF,av,ae,h.b.kk,h.b.n,h.b.m,an,b5,cU,ek,a7]
   refine ⟨fun h3=>?_,fun h3=>⟨fun h4=>?_,fun h4=>lp⟩⟩
   ·rw[CH h3]
    simp only[ne,ax]
    exact ⟨fun h4=>by omega,fun _=>lp⟩
   ·rw[(zO h4).1,(zO h4).2]
    simp only[ne,ax]
    exact lp
  simp only[zD,g,aF,av,ae,h.b.kk]
  refine (kf t).call ⟨h.b.kk,?_⟩
  simp only[h.b.kk,an,cU,b5,ne,ax,ae,ek,vW,nb,a7,h.b.b,h.b.s,C4,C5,hZ,qU,ns,aP,h.b.li,h.b.ki]
  refine ⟨fun _=>rest,fun h2=>?_⟩
  rw[vX h2]
  exact rest
end
end Go.Proofs.YtknegckgmklnhaaGreatDoor
namespace Go.CP
theorem ag.zP {P:Program} {g:FuncId} {us vs:List LV} {st:aa} {f:Option Nat} {sz n:Nat} {cs:List LV} {R:LV→aa→Prop} (ho:bH .rw st f sz n cs)
  (h:∀ st',Fr st st' (fun j=>f=some j)→ag P g [.agg (us++.isl cs n none::vs)] st' R):ag P g [.agg (us++osl f sz n::vs)] st R:=by
 cases f with
 | none=>
  obtain ⟨hl,rfl⟩:=ho
  have hc:cs=[]:=by simpa using hl
  subst hc
  refine (h st Fr.refl).rR fun w0 β w ws h1 h2=>⟨β,h1,?_,Lay.le.refl β⟩
  obtain ⟨_,_,rfl,⟨l,hq,hr⟩,rfl⟩:=h2
  subst hq
  obtain ⟨u,v,rfl,h3,h4⟩:=Rps.split hr
  obtain ⟨x,xs,rfl,h5,h6⟩:=h4
  refine ⟨_,_,rfl,⟨_,rfl,h3.append ⟨x,xs,rfl,?_,h6⟩⟩,rfl⟩
  rw[show x=.slice none 0 0 from h5]
  exact ⟨[],rfl,none,0,rfl,Nat.le_refl _,fun _ e=>(by cases e),.inl ⟨rfl,fun _=>rfl⟩⟩
 | some o=>
  obtain ⟨hl,rest,h2⟩:=ho
  refine (h (st.set o .dead) (Fr.set rfl)).rR fun w0 β w ws h1 hv=>?_
  have hle:=mF h1 h2 (rfl:ah.rw (.cells .rw (cs++rest))=true)
  refine ⟨β.nJ o w,h1.nJ h2 rfl,?_,hle⟩
  obtain ⟨_,_,rfl,⟨l,hq,hr⟩,rfl⟩:=hv
  subst hq
  obtain ⟨u,v,rfl,h3,h4⟩:=Rps.split hr
  obtain ⟨x,xs,rfl,⟨b,hb,hcap,rfl⟩,h6⟩:=h4
  refine ⟨_,_,rfl,⟨_,rfl,(h3.mono hle).append ⟨_,xs,rfl,?_,h6.mono hle⟩⟩,rfl⟩
  obtain ⟨us,r1,r2⟩:=jA h1 h2 hb (k:=0) (n:=cs.length) (by simp)
  rw[List.drop_zero,List.take_left] at r1
  exact ⟨us,r1.mono hle,_,_,rfl,hcap,fun _ e=>(by cases e),.inr ⟨b.blk,b.base+0,rfl,r2⟩⟩
end Go.CP
namespace Go.Proofs.YtknegckgmklnhaaGreatDoor
open Go Go.CP
set_option maxRecDepth 100000
end Go.Proofs.YtknegckgmklnhaaGreatDoor
