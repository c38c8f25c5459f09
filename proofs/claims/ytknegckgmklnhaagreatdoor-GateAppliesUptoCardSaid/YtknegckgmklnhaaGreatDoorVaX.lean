/- Parts of the proof. -/
import Derived.Test.YtknegckgmklnhaaGreatDoorVbO8
namespace Go.Proofs.YtknegckgmklnhaaGreatDoor
open Go Go.CP Go.RowKit Go.Maps Go.Sort Go.Shelf
set_option maxRecDepth 100000
def Oz:List (FuncId × zn):=[(242,.same),(263,.indexByte),(270,.count),(288,.clone),(245,.noZero 5)]
theorem Lv:∀ p ∈ Oz,LR Tryz.prog p.1 p.2:=by
 intro p hp
 simp only[Oz,List.mem_cons,List.not_mem_nil,or_false] at hp
 rcases hp with rfl|rfl|rfl|rfl|rfl
 ·exact ⟨Tryz.f242,Tryz.func242,by kernel_rfl,by kernel_rfl,by kernel_rfl,(by kernel_rfl:Extern.find Tryz.f242=some Extern.AbiNoEscape.same)⟩
 ·exact ⟨Tryz.f263,Tryz.func263,by kernel_rfl,by kernel_rfl,by kernel_rfl,(by kernel_rfl:Extern.find Tryz.f263=some Extern.BytealgIndexByte.indexByte)⟩
 ·exact ⟨Tryz.f270,Tryz.func270,by kernel_rfl,by kernel_rfl,by kernel_rfl,(by kernel_rfl:Extern.find Tryz.f270=some Extern.BytealgCount.count)⟩
 ·exact ⟨Tryz.f288,Tryz.func288,by kernel_rfl,by kernel_rfl,by kernel_rfl,(by kernel_rfl:Extern.find Tryz.f288=some Extern.MapsClone.clone)⟩
 ·exact ⟨Tryz.f245,Tryz.func245,by kernel_rfl,by kernel_rfl,by kernel_rfl,Tryz.f245.params,78,(by kernel_rfl:Extern.find Tryz.f245=some (Extern.BytealgMakeNoZero.makeNoZero Tryz.f245.params #[78])),Tryz.underlying78⟩
def CY (k:List UInt8):List (List UInt8)→List (List UInt8)
 | []=>[k]
 | a::l=>match Op.bytesLess k a with
  | true=>k::a::l
  | false=>a::CY k l
def qI:List (List UInt8)→List (List UInt8)
 | []=>[]
 | k::l=>CY k (qI l)
theorem qJ {k:List UInt8}:∀ {l:List (List UInt8)},(CY k l).Perm (k::l)
 | []=>.refl _
 | a::l=>by
  unfold CY
  split
  ·exact .refl _
  ·exact ((qJ (l:=l)).cons a).trans (.swap k a l)
theorem mi:∀ {l:List (List UInt8)},(qI l).Perm l
 | []=>.refl _
 | k::_=>qJ.trans (mi.cons k)
theorem vK {k:List UInt8}:∀ {l:List (List UInt8)},l.Pairwise ltB→k ∉ l→(CY k l).Pairwise ltB
 | [],_,_=>by simp[CY]
 | a::l,h,hk=>by
  rw[List.pairwise_cons] at h
  simp only[List.mem_cons,not_or] at hk
  unfold CY
  split
  ·rename_i hlt
   exact List.pairwise_cons.2 ⟨fun b hb=>by
    rcases List.mem_cons.1 hb with rfl|hb
    ·exact hlt
    ·exact jS hlt (h.1 b hb),List.pairwise_cons.2 h⟩
  ·rename_i hlt
   refine List.pairwise_cons.2 ⟨fun b hb=>?_,vK h.2 hk.2⟩
   rcases List.mem_cons.1 (qJ.mem_iff.1 hb) with rfl|hb
   ·rcases hc:Op.bytesLess a b with _|_
    ·exact absurd (tJ hlt hc) hk.1
    ·exact hc
   ·exact h.1 b hb
theorem ry:∀ {l:List (List UInt8)},l.Nodup→(qI l).Pairwise ltB
 | [],_=>by simp[qI]
 | k::l,h=>by
  rw[List.nodup_cons] at h
  exact vK (ry h.2) (fun hc=>h.1 (mi.mem_iff.1 hc))
theorem Gm {l:List (List UInt8)} (h:l.Nodup):l.mergeSort leB=qI l:=by
 rw[← mergeSort_of_perm (mi (l:=l)),va (ry h)]
def ES (k:List UInt8):List (List UInt8)→Bool
 | []=>true
 | a::l=>match decide (k=a) with
  | true=>false
  | false=>ES k l
def okK:List (List UInt8)→Bool
 | []=>true
 | k::l=>match ES k l with
  | true=>(match Nat.ble k.length big with
   | true=>okK l
   | false=>false)
  | false=>false
theorem AF {k:List UInt8}:∀ {l:List (List UInt8)},ES k l=true→k ∉ l
 | [],_=>by simp
 | a::l,h=>by
  unfold ES at h
  split at h
  ·cases h
  ·rename_i e
   simp only[List.mem_cons,not_or]
   exact ⟨of_decide_eq_false e,AF h⟩
theorem JH:∀ {l:List (List UInt8)},okK l=true→l.Nodup∧∀ s ∈ l,s.length≤big
 | [],_=>by simp
 | k::l,h=>by
  unfold okK at h
  split at h
  ·rename_i e
   split at h
   ·rename_i e2
    obtain ⟨h1,h2⟩:=JH h
    refine ⟨List.nodup_cons.2 ⟨AF e,h1⟩,fun s hs=>?_⟩
    rcases List.mem_cons.1 hs with rfl|hs
    ·exact Nat.le_of_ble_eq_true e2
    ·exact h2 s hs
   ·cases h
  ·cases h
def MO (x:LV) (st:aa):Option (LV × aa):=match x with
 | .map o=>some (.fn (.func 166) [] [.ptr st.length 0],st++[.cells (.bt 173) [.map o]])
 | .nilm=>some (.fn (.func 166) [] [.ptr st.length 0],st++[.cells (.bt 173) [.nilm]])
 | _=>none
def MP (o:Nat) (st:aa):Option (LV × aa):=match st[o]? with
 | some (.cells (.bt t) [x])=>match Nat.beq t 173 with
  | true=>(match x with
   | .nilm=>some (.nils,st)
   | .map om=>(match st[om]? with
    | some (.map _ es _ _)=>(match jC es with
     | some ks=>(match okK ks with
      | true=>(match Nat.ble ks.length big with
       | true=>(match ks with
        | []=>some (.nils,st)
        | k::l=>some (.sl st.length 0 (k::l).length (.rest 1),st++[.cells .rw ((qI (k::l)).map .str)]))
       | false=>none)
      | false=>none)
     | none=>none)
    | _=>none)
   | _=>none)
  | false=>none
 | _=>none
def JI:Ora:=fun f xs st=>match Nat.beq f 116 with
 | true=>(match xs with
  | [x]=>MO x st
  | _=>none)
 | false=>match Nat.beq f 115 with
  | true=>(match xs with
   | [.fn (.func g) [] [.ptr o k]]=>(match Nat.beq g 166 with
    | true=>(match Nat.beq k 0 with
     | true=>MP o st
     | false=>none)
    | false=>none)
   | _=>none)
  | false=>M8 Oz f xs st
theorem JJ:nh Tryz.prog JI:=by
 intro f xs st v st' h K hK
 unfold JI at h
 split at h
 ·rename_i e
  obtain rfl:=Nat.eq_of_beq_eq_true e
  split at h
  ·unfold MO at h
   split at h
   ·cases h
    exact qt (M:=173) call116 gL (.inr ⟨_,rfl⟩) hK
   ·cases h
    exact qt (M:=173) call116 gL (.inl rfl) hK
   ·cases h
  ·cases h
 ·split at h
  ·rename_i e
   obtain rfl:=Nat.eq_of_beq_eq_true e
   split at h
   ·split at h
    ·rename_i e1
     obtain rfl:=Nat.eq_of_beq_eq_true e1
     split at h
     ·rename_i e2
      obtain rfl:=Nat.eq_of_beq_eq_true e2
      unfold MP at h
      split at h
      ·rename_i o t x ho
       split at h
       ·rename_i e3
        obtain rfl:=Nat.eq_of_beq_eq_true e3
        split at h
        ·cases h
         exact tg (K:=9) call115 fu vb ho hK
        ·split at h
         ·rename_i om m es bs n hom
          split at h
          ·rename_i ks hks
           split at h
           ·rename_i hok
            obtain ⟨k1,k2⟩:=JH hok
            split at h
            ·rename_i hlen
             have hlen':=Nat.le_of_ble_eq_true hlen
             have l1:∀ s ∈ ks,s.length≤maxLen:=fun s hs=>by have:=k2 s hs;unfold big at this;unfold maxLen;omega
             refine zt (K:=9) (by kernel_rfl) call115 fu zS ho hom hks k1 l1 (by unfold big at hlen';unfold maxLen;omega) (by unfold big at hlen';omega) (fun e0=>?_) (fun e0=>?_)
             ·subst e0;cases h;exact hK
             ·rw[Gm k1]
              split at h
              ·exact absurd rfl e0
              ·cases h;exact hK
            ·cases h
           ·cases h
          ·cases h
         ·cases h
        ·cases h
       ·cases h
      ·cases h
     ·cases h
    ·cases h
   ·cases h
  ·exact J4 Lv _ _ _ _ _ h K hK
end Go.Proofs.YtknegckgmklnhaaGreatDoor
namespace Go.Proofs.YtknegckgmklnhaaGreatDoor
open Go Go.CP
set_option maxRecDepth 100000
section
variable {st:aa} {R:LV→aa→Prop}
theorem nZ {k:Tx} {ns:List Tx} {j:Nat} (h:eP k ns 0=some j):ixI k ns=(j:Nat)∧¬ ixI k ns<0:=by
 have e:ixI k ns=(j:Nat):=by unfold ixI;rw[h]
 exact ⟨e,by rw[e];omega⟩
theorem mj {k:Tx} {ns:List Tx} (h:eP k ns 0=none):ixI k ns = -1:=by unfold ixI;rw[h]
theorem qK {k:Tx}:∀ {es:List (Tx × T)} {i:Nat},match eP k (es.map (·.1)) i with
  | none=>T.find es k=none
  | some j=>i≤j∧∃ t,es[j-i]?=some (k,t)∧T.find es k=some t
 | [],_=>rfl
 | e::es,i=>by
  obtain ⟨n,t⟩:=e
  simp only[List.map_cons,eP]
  by_cases h:n=k
  ·subst h
   simp only[if_true]
   exact ⟨Nat.le_refl _,t,by simp,by simp[T.find]⟩
  ·rw[if_neg h]
   have ih:=qK (k:=k) (es:=es) (i:=i+1)
   have e2:T.find ((n,t)::es) k=T.find es k:=by
    unfold T.find
    rw[List.find?_cons_of_neg (by simpa using h)]
   cases hx:eP k (es.map (·.1)) (i+1) with
   | none=>rw[hx] at ih;rw[e2];exact ih
   | some j=>
    rw[hx] at ih
    obtain ⟨h1,t',h2,h3⟩:=ih
    refine ⟨by omega,t',?_,by rw[e2];exact h3⟩
    rw[show j-i=(j-(i+1))+1 by omega,aO]
    exact h2
theorem AG {k:Tx}:∀ {l:List AT} {i:Nat},match eP k (l.map (·.nm)) i with
  | none=>jd k l=none
  | some j=>i≤j∧∃ a,l[j-i]?=some a∧jd k l=some a
 | [],_=>rfl
 | a::l,i=>by
  simp only[List.map_cons,eP,jd]
  by_cases h:a.nm=k
  ·simp only[h,if_true]
   exact ⟨Nat.le_refl _,a,by simp,rfl⟩
  ·rw[if_neg h,if_neg h]
   have ih:=AG (k:=k) (l:=l) (i:=i+1)
   cases hx:eP k (l.map (·.nm)) (i+1) with
   | none=>rw[hx] at ih;exact ih
   | some j=>
    rw[hx] at ih
    obtain ⟨h1,t',h2,h3⟩:=ih
    refine ⟨by omega,t',?_,h3⟩
    rw[show j-i=(j-(i+1))+1 by omega,aO]
    exact h2
theorem QB {es:List (Tx × T)}:(rT (.map es)).l=es.map fun e=>rT e.2:=by rw[KL];simp only[T.items,List.map_map];rfl
theorem cH.lm {o:Nat} {es:List (Tx × T)} (h:cH st o (rT (.map es))):ld1 st (.ptr o 5)=some (.isl (rcs (es.map fun e=>rT e.2)) es.length none):=by
 rw[h.l,QB]
 show some (LV.isl _ (es.map fun e=>rT e.2).length none)=_
 rw[bH]
theorem cH.km {o:Nat} {es:List (Tx × T)} (h:cH st o (rT (.map es))):ld1 st (.ptr o 6)=some (.isl ((es.map (·.1)).map .str) es.length none):=by
 rw[h.ks,Iw]
 show some (LV.isl _ (es.map (·.1)).length none)=_
 rw[bH];rfl
theorem cH.kk {o:Nat} {t:T} (h:cH st o (rT t)):ld1 st (.ptr o 0)=some (i64 t.kind):=by rw[h.k,KK]
theorem Lw {k:Tx} {o:Nat} {es:List (Tx × T)} (hb:es.length≤big) (hbx:cH st o (rT (.map es))) (hR:R (i64 (ixI k (es.map (·.1)))) st) :
  ∀ (d i:Nat),i+d=es.length→eP k (es.map (·.1)) 0=eP k ((es.map (·.1)).drop i) i→xl (.str k) (.ptr o 0) (i64 i) R st:=by
 intro d
 induction d with
 | zero=>
  intro i hi hp
  refine BZ _ _ _ ?_
  have c1:¬ ((i:Int)<es.length):=by omega
  rw[bR (by simp;omega)] at hp
  rw[mj hp] at hR
  simp only[xm,ao,aj,ab,hbx.lm,aU,ad,au,c1,a8,ae]
  exact hR
 | succ d ih=>
  intro i hi hp
  refine BZ _ _ _ ?_
  have hlt:i<es.length:=by omega
  have c1:((i:Int)<es.length):=by omega
  have e1:bn 1 (.isl ((es.map (·.1)).map .str) es.length none) (i64 i)=some (.iptr ((es.map (·.1)).map .str) (i*1)):=cj hlt
  have hg:((es.map (·.1)).map LV.str)[i*1]?=some (.str es[i].1):=by simp[hlt]
  have hd:(es.map (·.1)).drop i=es[i].1::(es.map (·.1)).drop (i+1):=by rw[b6 (by simpa using hlt)];simp
  generalize es[i].1=n at hg hd
  have e7:((T.map es).kind==7)=true:=rfl
  simp only[xm,ao,aj,ab,hbx.lm,hbx.kk,hbx.km,aU,ad,au,bj,e7,c1,aZ,ah,e1,bA,hg,ct,da]
  rw[hd,eP] at hp
  by_cases h:n=k
  ·subst h
   rw[if_pos rfl] at hp
   rw[(nZ hp).1] at hR
   simp only[beq_self_eq_true,ah]
   exact hR
  ·rw[if_neg h] at hp
   have e2:(n==k)=false:=by simpa using h
   simp only[e2,ae,aH,ab,aK (show i<2 ^ 40 by unfold big at hb;omega)]
   exact ih (i+1) (by omega) hp
theorem vM {r:RV} {k:Tx}:LV.aG [vR r,.str k]=true:=by simp only[LV.aG,fX];rfl
theorem yp {t:T} (ht:t.ok) (k:Tx):Pu Tryz.prog 112 [vR (rT t),.str k] (i64 (ixI k t.keys)):=by
 refine Pu.of (Q3 _ _ ?_) vM rfl
 have hb:cH ([]++[ar.cells .rw (rc (rT t))]) 0 (rT t):=ay
 simp only[PO,ec,af,aR]
 by_cases h7:t.kind=7
 ·cases t<;>simp only[T.kind] at h7<;>try omega
  rename_i es
  have hbe:es.length≤big:=by simp only[T.ok] at ht;exact ht.1
  exact Lw (R:=fun v s=>dp s (i64 (ixI k (T.map es).keys)) v) hbe hb rfl es.length 0 (by omega) rfl
 ·have hk:t.keys=[]:=by cases t<;>first|rfl|exact absurd rfl h7
  rw[hk]
  refine BZ _ _ _ ?_
  have e7:(t.kind==7)=false:=by simpa using h7
  simp only[xm,ao,aj,ab,hb.l,hb.kk,aU,ad,au,bj,e7,ae,aL]
  exact ⟨fun _=>rfl,fun _=>rfl⟩
theorem OA {o:Nat} {t:KT} (h:st[o]?=some (.cells .rw (rkC t))):ld1 st (.ptr o 2)=some (.isl (t.ns.map .str) t.ns.length none):=by
 rw[bx (m:=.rw) (l:=rkC t) h,gd];rfl
theorem Lx {k:Tx} {o:Nat} {t:KT} (hb:t.ns.length≤big) (hbx:st[o]?=some (.cells .rw (rkC t))) (hR:R (i64 (ixI k t.ns)) st) :
  ∀ (d i:Nat),i+d=t.ns.length→eP k t.ns 0=eP k (t.ns.drop i) i→yk (.str k) (.ptr o 0) (i64 i) R st:=by
 intro d
 have g:=OA hbx
 induction d with
 | zero=>
  intro i hi hp
  refine Jj _ _ _ ?_
  have c1:¬ ((i:Int)<t.ns.length):=by omega
  rw[bR (by omega)] at hp
  rw[mj hp] at hR
  simp only[CM,ao,aj,ab,g,aU,ad,au,c1,a8,ae]
  exact hR
 | succ d ih=>
  intro i hi hp
  refine Jj _ _ _ ?_
  have hlt:i<t.ns.length:=by omega
  have c1:((i:Int)<t.ns.length):=by omega
  have e1:bn 1 (.isl (t.ns.map .str) t.ns.length none) (i64 i)=some (.iptr (t.ns.map .str) (i*1)):=cj hlt
  have hg:(t.ns.map LV.str)[i*1]?=some (.str t.ns[i]):=by simp[hlt]
  have hd:t.ns.drop i=t.ns[i]::t.ns.drop (i+1):=b6 hlt
  generalize t.ns[i]=n at hg hd
  simp only[CM,ao,aj,ab,g,aU,ad,au,c1,aZ,ah,e1,bA,hg,ct,da]
  rw[hd,eP] at hp
  by_cases h:n=k
  ·subst h
   rw[if_pos rfl] at hp
   rw[(nZ hp).1] at hR
   simp only[beq_self_eq_true,ah]
   exact hR
  ·rw[if_neg h] at hp
   have e2:(n==k)=false:=by simpa using h
   simp only[e2,ae,aH,ab,aK (show i<2 ^ 40 by unfold big at hb;omega)]
   exact ih (i+1) (by omega) hp
theorem ET {t:KT}:cu st (.agg (rkC t))=some (.ptr st.length 0,st++[.cells .rw (rkC t)]):=by rw[gd];rfl
theorem Ly {t:KT} (hb:t.ns.length≤big) (k:Tx):Pu Tryz.prog 135 [.agg (rkC t),.str k] (i64 (ixI k t.ns)):=by
 refine Pu.of (Rz _ _ ?_) (by simp only[LV.aG,LV.plain,fJ];rfl) rfl
 simp only[Qv,ET,af,aR]
 exact Lx (R:=fun v s=>dp s (i64 (ixI k t.ns)) v) hb ay rfl t.ns.length 0 (by omega) rfl
def rG (st:aa) (o:Nat) (n:Int) (l:List AT):Prop:=st[o]?=some (.cells .rw [i64 n,.isl (bCs l) l.length none])
theorem rG.l {o:Nat} {n:Int} {l:List AT} (h:rG st o n l):ld1 st (.ptr o 1)=some (.isl (bCs l) l.length none):=by rw[bx (show st[o]?=_ from h)];rfl
theorem rG.ldA {o:Nat} {n:Int} {l:List AT} (h:rG st o n l):ldA st (.ptr o 0) 2=some (bS n l):=by rw[du (show st[o]?=_ from h) (by simp)];rfl
theorem pO {n:Int} {l:List AT}:cu st (bS n l)=some (.ptr st.length 0,st++[.cells .rw [i64 n,.isl (bCs l) l.length none]]):=rfl
theorem jI {l:List AT} {i:Nat} (h:i<l.length):bn 10 (.isl (bCs l) l.length none) (i64 i)=some (.iptr (bCs l) (i*10)):=cj h
theorem JK:∀ {l:List AT} {i j:Nat} {a:AT},l[i]?=some a→j<10→(bCs l)[i*10+j]?=(bC a)[j]?
 | b::l,0,j,a,h,hj=>by
  simp only[aN,aM] at h
  subst h
  rw[bCs,Nat.zero_mul,aj,bW (by rw[jH];exact hj)]
 | b::l,i+1,j,a,h,hj=>by
  simp only[aO] at h
  rw[bCs,show (i+1)*10+j=(bC b).length+(i*10+j) by rw[jH];omega,List.getElem?_append_right (by omega),Nat.add_sub_cancel_left]
  exact JK h hj
theorem JL:∀ {l:List AT} {i:Nat} {a:AT},l[i]?=some a→((bCs l).drop (i*10+2)).take 4=rkC a.ty∧i*10+10≤(bCs l).length
 | b::l,0,a,h=>by
  simp only[aN,aM] at h
  subst h
  refine ⟨?_,by rw[pK,aW];omega⟩
  rw[bCs,Nat.zero_mul,aj,List.drop_append_of_le_length (by rw[jH];omega),List.take_append_of_le_length (by simp[jH])]
  show ((rkC b.ty++_)).take 4=_
  rw[List.take_append_of_le_length (by rw[dT];omega),List.take_of_length_le (by rw[dT];omega)]
 | b::l,i+1,a,h=>by
  simp only[aO] at h
  obtain ⟨h1,h2⟩:=JL h
  refine ⟨?_,by rw[pK] at h2 ⊢;rw[aW];omega⟩
  rw[bCs,show (i+1)*10+2=(bC b).length+(i*10+2) by rw[jH];omega,List.drop_append,bR (by omega),Nat.add_sub_cancel_left,bD]
  exact h1
theorem OC {l:List AT} {i:Nat} {a:AT} (h:l[i]?=some a):ldA st (.iptr (bCs l) (i*10+2)) 4=some (.agg (rkC a.ty)):=by
 obtain ⟨e1,e2⟩:=JL h
 rw[fk (by omega),e1]
theorem OD {k:Tx} {o:Nat} {n:Int} {l:List AT} (hb:l.length≤big) (hbx:rG st o n l) (hR:R (i64 (ixI k (l.map (·.nm)))) st) :
  ∀ (d i:Nat),i+d=l.length→eP k (l.map (·.nm)) 0=eP k ((l.map (·.nm)).drop i) i→DU (.str k) (.ptr o 0) (i64 i) R st:=by
 intro d
 induction d with
 | zero=>
  intro i hi hp
  refine Ml _ _ _ ?_
  have c1:¬ ((i:Int)<l.length):=by omega
  rw[bR (by simp;omega)] at hp
  rw[mj hp] at hR
  simp only[HI,ao,aj,ab,hbx.l,aU,ad,au,c1,a8,ae]
  exact hR
 | succ d ih=>
  intro i hi hp
  refine Ml _ _ _ ?_
  have hlt:i<l.length:=by omega
  have c1:((i:Int)<l.length):=by omega
  have hg:=pM (bg hlt)
  have hd:(l.map (·.nm)).drop i=l[i].nm::(l.map (·.nm)).drop (i+1):=by rw[b6 (by simpa using hlt)];simp
  generalize l[i].nm=n at hg hd
  simp only[HI,ao,aj,ab,hbx.l,aU,ad,au,c1,aZ,ah,jI hlt,b9,Nat.add_zero,bA,hg,ct,da]
  rw[hd,eP] at hp
  by_cases h:n=k
  ·subst h
   rw[if_pos rfl] at hp
   rw[(nZ hp).1] at hR
   simp only[beq_self_eq_true,ah]
   exact hR
  ·rw[if_neg h] at hp
   have e2:(n==k)=false:=by simpa using h
   simp only[e2,ae,aH,ab,aK (show i<2 ^ 40 by unfold big at hb;omega)]
   exact ih (i+1) (by omega) hp
theorem OE {n:Int} {l:List AT} (hb:l.length≤big) (k:Tx):Pu Tryz.prog 40 [bS n l,.str k] (i64 (ixI k (l.map (·.nm)))):=by
 refine Pu.of (c40 _ _ ?_) (by simp only[LV.aG,pL];rfl) rfl
 simp only[w40,pO,af,aR]
 have hbx:rG ([]++[ar.cells .rw [i64 n,.isl (bCs l) l.length none]]) 0 n l:=ay
 exact OD (R:=fun v s=>dp s (i64 (ixI k (l.map AT.nm))) v) (k:=k) hb hbx rfl l.length 0 (by omega) rfl
theorem yq {t:T} (ht:t.ok) (k:Tx):Pu Tryz.prog 103 [vR (rT t),.str k] (vR (rT (cG t k))):=by
 refine Pu.of (Q2 _ _ ?_) vM fX
 have hb:cH ([ar.cells .rw (rc (rT t))]++[ar.cells .rw z7]) 0 (rT t):=rfl
 have h2:([ar.cells .rw (rc (rT t))]++[ar.cells .rw z7])[1]?=some (.cells .rw z7):=rfl
 have e:bh (aB (aF [(0,1),(1,1),(2,1),(3,1),(4,1),(5,1),(6,1)]) z7 [])=some (.agg z7):=rfl
 simp only[PN,ec,af,aR,bD,cv,List.length_singleton,hb.ldA,ab]
 refine (yp ht k).call ?_
 have hnone:T.at t k=none→cG t k=.null:=fun h=>by unfold cG;rw[h];rfl
 have ln:(t.at k=none∧ixI k t.keys<0)∨∃ es j x,t=.map es∧ixI k t.keys=(j:Nat)∧es[j]?=some (k,x)∧cG t k=x:=by
  cases t with
  | map es=>
   have:=qK (k:=k) (es:=es) (i:=0)
   cases hx:eP k (es.map (·.1)) 0 with
   | none=>
    rw[hx] at this
    exact .inl ⟨this,by rw[show (T.map es).keys=es.map (·.1) from rfl,mj hx];omega⟩
   | some j=>
    rw[hx] at this
    obtain ⟨_,x,h1,h3⟩:=this
    exact .inr ⟨es,j,x,rfl,(nZ hx).1,h1,by unfold cG;rw[show (T.map es).at k=T.find es k from rfl,h3];rfl⟩
  | _=>exact .inl ⟨rfl,by show ixI k []<0;rw[mj rfl];omega⟩
 rcases ln with ⟨h1,h3⟩ | ⟨es,j,x,rfl,h1,h3,h4⟩
 ·simp only[ad,au,h3,aZ,ah,e,ab,uJ (vs:=z7) h2 rfl rfl rfl,aA,af]
  rw[Cr (bO h2) rfl,ab,hnone h1]
  exact dpR rfl rfl
 ·have hlt:=(List.getElem?_eq_some_iff.1 h3).1
  have c1:¬ (((j:Nat):Int)<0):=by omega
  have e1:bn 7 (.isl (rcs (es.map fun e=>rT e.2)) es.length none) (i64 j)=some (.iptr (rcs (es.map fun e=>rT e.2)) (j*7)):=cj hlt
  have hx:(es.map fun e=>rT e.2)[j]?=some (rT x):=by simp[h3]
  simp only[h1,ad,au,c1,a8,ae,ao,aj,hb.lm,ab,e1,eF hx]
  rw[uJ (vs:=rc (rT x)) h2 rfl fC nU]
  simp only[aA,af]
  rw[Cr (bO h2) fC,ab,h4]
  exact bu _ fX
end
end Go.Proofs.YtknegckgmklnhaaGreatDoor
namespace Go.Proofs.YtknegckgmklnhaaGreatDoor
open Go Go.CP
set_option maxRecDepth 100000
section
variable {st:aa} {R:LV→aa→Prop}
def qL:T→List (Tx × T)
 | .map es=>es
 | _=>[]
theorem Gn {v:T}:v.keys=(qL v).map (·.1):=by cases v<;>rfl
def kX (t:KT) (v:T) (i:Nat):Option KT:=if t.f=7 then t.l[i]? else if t.f=8 then (v.keys[i]?).bind (jG t) else t.l[0]?
def Gp (t:KT) (v:T) (i:Nat):Prop:=∀ y,v.items[i]?=some y→∃ x,kX t v i=some x∧cM x y=true
theorem Gq {d:Nat} {t:KT} {v:T} (hw:t.wf (d+1)) (h5:¬ t.f<5) (hk:v.kind=if t.f=6∨t.f=8 then 7 else 6) (h7:t.f=7→v.items.length=t.l.length) :
  cM t v=true↔(∀ i,Gp t v i)∧missing t.ns t.ls (qL v)=[]:=by
 have hw':t.f≤8∧(t.f<5→t.l=[])∧(t.f=5∨t.f=6→t.l.length=1)∧(t.f<8→t.ns=[]∧t.ls=[])∧(t.f=8→t.ns.length=t.l.length∧t.ls.length=t.l.length)∧t.l.length≤16∧t.ns.Pairwise ltB∧(∀ n ∈ t.ns,named n=true)∧KT.wfs d t.l:=by
  cases t;exact hw
 obtain ⟨w1,w2,w3,w4,w5,w6,_,_,w7⟩:=hw'
 have e:cM t v=cQ t.f (cW t.l) t.ns t.ls v:=by cases t;rfl
 have hb01:¬ (v.kind=0∨v.kind=1):=by rw[hk];split<;>omega
 have mis:t.f<8→missing t.ns t.ls (qL v)=[]:=fun h=>by rw[(w4 h).1,(w4 h).2];rfl
 have one:∀ {vs:List T},v.items=vs→(t.f=5∨t.f=6)→(vs.all ((cW t.l).getD 0 fun _=>false)=true↔∀ i,Gp t v i):=by
  intro vs hvs hf
  obtain ⟨x,hx⟩:=List.length_eq_one_iff.1 (w3 hf)
  have hs:∀ i,kX t v i=some x:=fun i=>by unfold kX;rw[if_neg (by omega),if_neg (by omega),hx];rfl
  rw[hx]
  simp only[cW,List.getD_cons_zero,List.all_eq_true]
  constructor
  ·intro k i y hy
   exact ⟨x,hs i,k y (by rw[← hvs];exact cr hy)⟩
  ·intro k y hy
   obtain ⟨i,hi⟩:=List.getElem?_of_mem hy
   obtain ⟨x',h1,h2⟩:=k i y (by rw[hvs];exact hi)
   rw[hs i] at h1;cases h1
   exact h2
 rw[e]
 unfold cQ
 rw[if_neg hb01,if_neg h5]
 have h58:t.f=5∨t.f=6∨t.f=7∨t.f=8:=by omega
 rcases h58 with h|h|h|h
 ·rw[if_neg (by omega)] at hk
  cases v<;>simp only[T.kind] at hk<;>try omega
  rename_i vs
  show (if t.f=5 then _ else if t.f=7 then _ else _)=true↔_
  rw[if_pos h,one (vs:=vs) rfl (.inl h)]
  exact ⟨fun k=>⟨k,mis (by omega)⟩,fun k=>k.1⟩
 ·rw[if_pos (by omega)] at hk
  cases v<;>simp only[T.kind] at hk<;>try omega
  rename_i es
  show (if t.f=6 then _ else if t.f=8 then _ else _)=true↔_
  rw[if_pos h]
  have:=one (vs:=es.map (·.2)) rfl (.inr h)
  rw[List.all_map] at this
  exact Iff.trans this ⟨fun k=>⟨k,mis (by omega)⟩,fun k=>k.1⟩
 ·rw[if_neg (by omega)] at hk
  cases v<;>simp only[T.kind] at hk<;>try omega
  rename_i vs
  have hl:vs.length=t.l.length:=h7 h
  show (if t.f=5 then _ else if t.f=7 then _ else _)=true↔_
  rw[if_neg (by omega),if_pos h]
  have hs:∀ i,kX t (.list vs) i=t.l[i]?:=fun i=>by unfold kX;rw[if_pos h]
  have e2:vs.length=(cW t.l).length:=by rw[ka,bH,hl]
  rw[decide_eq_true e2,Bool.true_and,qE hl.symm]
  refine ⟨fun k=>⟨fun i y hy=>?_,mis (by omega)⟩,fun k i x y h1 h2=>?_⟩
  ·have hi:=(List.getElem?_eq_some_iff.1 hy).1
   have hx:t.l[i]?=some (t.l[i]'(by rw[← hl];exact hi)):=bg _
   exact ⟨_,by rw[hs];exact hx,k i _ y hx hy⟩
  ·obtain ⟨x',h3,h4⟩:=k.1 i y h2
   rw[hs,h1] at h3;cases h3
   exact h4
 ·rw[if_pos (by omega)] at hk
  cases v<;>simp only[T.kind] at hk<;>try omega
  rename_i es
  have ⟨l1,l2⟩:=w5 h
  show (if t.f=6 then _ else if t.f=8 then _ else _)=true↔_
  rw[if_neg (by omega),if_pos h]
  refine Iff.trans (iff_of_eq (congrArg (· = true) (?_:_=(es.all (px t)&&(missing t.ns t.ls es).isEmpty)))) ?_
  ·congr 1
   exact congrArg es.all (funext fun e=>(Aw l1).symm)
  rw[bp,List.isEmpty_iff,List.all_eq_true]
  refine and_congr ?_ Iff.rfl
  have hs:∀ i,kX t (.map es) i=(es[i]?).bind fun e=>jG t e.1:=fun i=>by
   unfold kX;rw[if_neg (by omega),if_pos h]
   show ((es.map (·.1))[i]?).bind _=_
   rw[bT];cases es[i]?<;>rfl
  constructor
  ·intro k i y hy
   have hy':(es.map (·.2))[i]?=some y:=hy
   rw[bT] at hy'
   obtain ⟨e,he,rfl⟩:=Option.map_eq_some_iff.1 hy'
   have:=k e (cr he)
   unfold px at this
   rw[hs,he]
   cases hf:jG t e.1 with
   | none=>rw[hf] at this;cases this
   | some x=>rw[hf] at this;exact ⟨x,hf,this⟩
  ·intro k e hm
   obtain ⟨i,hi⟩:=List.getElem?_of_mem hm
   obtain ⟨x,h1,h2⟩:=k i e.2 (by show (es.map (·.2))[i]?=_;rw[bT,hi];rfl)
   rw[hs,hi] at h1
   have h1':jG t e.1=some x:=h1
   unfold px
   rw[h1'];exact h2
theorem uA {v:T} {k:Tx}:(ixI k v.keys<0)↔T.find (qL v) k=none:=by
 rw[Gn]
 have:=qK (k:=k) (es:=qL v) (i:=0)
 cases hx:eP k ((qL v).map (·.1)) 0 with
 | none=>rw[hx] at this;rw[mj hx];exact ⟨fun _=>this,fun _=>by omega⟩
 | some j=>
  rw[hx] at this
  obtain ⟨_,x,_,h⟩:=this
  rw[(nZ hx).1,h]
  exact ⟨fun h=>by omega,fun h=>by cases h⟩
theorem JM {l:List KT} {i:Nat} {x:KT} (h:l[i]?=some x):((dj l).drop (i*4)).take 4=rkC x∧i*4+4≤(dj l).length:=by
 have h1:(l.map rkC)[i]?=some (rkC x):=by simp[h]
 obtain ⟨e1,e2⟩:=jq (c:=4) (rows:=l.map rkC) (by intro x h;obtain ⟨r,_,rfl⟩:=List.mem_map.1 h;exact dT) h1
 rw[yl]
 exact ⟨e1,by omega⟩
theorem pP {l:List KT} {i:Nat} {x:KT} (h:l[i]?=some x):ldA st (.iptr (dj l) (i*4)) 4=some (.agg (rkC x)):=by
 obtain ⟨e1,e2⟩:=JM h
 rw[fk e2,e1]
structure W2 (st:aa) (t:KT) (v:T):Prop where
 a:st[0]?=some (.cells .rw (rkC t))
 b:cH st 1 (rT v)
namespace W2
variable {t:KT} {v:T} (h:W2 st t v)
include h
theorem f:ld1 st (.ptr 0 0)=some (i64 t.f):=by rw[bx h.a,gd];rfl
theorem l:ld1 st (.ptr 0 1)=some (.isl (dj t.l) t.l.length none):=by rw[bx h.a,gd];rfl
theorem ns:ld1 st (.ptr 0 2)=some (.isl (t.ns.map .str) t.ns.length none):=by rw[bx h.a,gd];rfl
theorem ls:ld1 st (.ptr 0 3)=some (.isl (t.ls.map .bool) t.ls.length none):=by rw[bx h.a,gd];rfl
theorem all:ldA st (.ptr 0 0) 4=some (.agg (rkC t)):=by rw[du h.a (by rw[dT];omega),List.drop_zero,List.take_of_length_le (by rw[dT];omega)]
theorem app {y:ar}:W2 (st++[y]) t v:=⟨jg h.a,by have:=h.b;unfold cH at this ⊢;rw[bW (cA this)];exact this⟩
end W2
theorem cH.li {o:Nat} {v:T} (h:cH st o (rT v)):ld1 st (.ptr o 5)=some (.isl (rcs (v.items.map rT)) v.items.length none):=by
 rw[h.l,KL]
 show some (LV.isl _ (v.items.map rT).length none)=_
 rw[bH]
theorem cH.ki {o:Nat} {v:T} (h:cH st o (rT v)):ld1 st (.ptr o 6)=some (.isl (v.keys.map .str) v.keys.length none):=by rw[h.ks,Iw]
theorem JN {d:Nat} {t:KT} {v:T} (hv:v.ok) (hl:t.ls.length=t.ns.length) (hb:t.ns.length≤big) {x6:LV} {b:Bool} :
  ∀ (k i:Nat) (st:aa),i+k=t.ns.length→W2 st t v→(b=true↔missing (t.ns.drop i) (t.ls.drop i) (qL v)≠[])→pF (.ptr 0 0) (.ptr 1 0) x6 (i64 i) (Dp (WrQ (d+1) b)) st:=by
 intro k
 induction k with
 | zero=>
  intro i st hi hw hbb
  refine EO _ _ _ _ ?_
  have c1:¬ ((i:Int)<t.ns.length):=by omega
  have e:b=false:=by
   rw[bR (by omega:t.ns.length≤i)] at hbb
   cases b with
   | false=>rfl
   | true=>exact absurd (by simp[missing]) (hbb.1 rfl)
  subst e
  simp only[yj,ao,aj,ab,hw.ns,aU,ad,au,c1,a8,ae]
  exact xV
 | succ k ih=>
  intro i st hi hw hbb
  refine EO _ _ _ _ ?_
  have hlt:i<t.ns.length:=by omega
  have c1:((i:Int)<t.ns.length):=by omega
  have e1:bn 1 (.isl (t.ns.map .str) t.ns.length none) (i64 i)=some (.iptr (t.ns.map .str) (i*1)):=cj hlt
  have e2:bn 1 (.isl (t.ls.map .bool) t.ls.length none) (i64 i)=some (.iptr (t.ls.map .bool) (i*1)):=cj (by omega)
  have hg:(t.ns.map LV.str)[i*1]?=some (.str t.ns[i]):=by simp[hlt]
  have hg2:(t.ls.map LV.bool)[i*1]?=some (.bool (t.ls[i]'(by omega))):=by simp[hl,hlt]
  rw[b6 hlt,b6 (show i<t.ls.length by omega),missing] at hbb
  generalize t.ns[i]=n at hg hbb
  generalize t.ls[i]'(by omega)=l at hg2 hbb
  have hw1:=aK (show i<2 ^ 40 by unfold big at hb;omega)
  simp only[yj,ao,aj,ab,hw.ns,hw.ls,aU,ad,au,c1,aZ,ah,e2,bA,hg2,bw]
  cases l with
  | true=>
   rw[bM,Bool.and_false,if_neg (by simp)] at hbb
   simp only[bM,ae,aH,ab,hw1]
   exact ih (i+1) st (by omega) hw hbb
  | false=>
   simp only[bL,ah,hw.b.ldA,ab,e1,bA,hg]
   refine (yp hv n).call ?_
   simp only[ad,au,ab,aL]
   refine ⟨fun h=>?_,fun h=>?_⟩
   ·have hn:=uA.1 h
    have e:b=true:=hbb.2 (by rw[hn];simp)
    subst e
    have zag:bh (aB (aF [(0,1),(1,1)]) [LV.str [],i64 0] [(0,.str n),(1,i64 (-1))])=some (.agg [.str n,i64 (-1)]):=rfl
    have ef:aB (fun i=>some (i*2,2)) (List.replicate 1 [LV.str [],i64 0]).flatten [(0,.agg [.str n,i64 (-1)])]=some [.str n,i64 (-1)]:=rfl
    simp only[hw.ns,ab,e1,bA,hg,zag,ef,bE,af]
    exact uq rfl rfl
   ·have hn:T.find (qL v) n≠none:=fun h'=>h (uA.2 h')
    have hs:(T.find (qL v) n).isNone=false:=by cases hx:T.find (qL v) n with
     | none=>exact absurd hx hn
     | some _=>rfl
    rw[hs,Bool.false_and,if_neg (by simp)] at hbb
    simp only[aH,ab,hw1]
    exact ih (i+1) st (by omega) hw hbb
end
end Go.Proofs.YtknegckgmklnhaaGreatDoor
