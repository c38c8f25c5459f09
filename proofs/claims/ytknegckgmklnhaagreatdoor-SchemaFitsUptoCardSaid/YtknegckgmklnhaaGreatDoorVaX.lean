/- Parts of the proof. -/
import Derived.Test.YtknegckgmklnhaaGreatDoorVbO8
namespace Go.Proofs.YtknegckgmklnhaaGreatDoor
open Go Go.CP Go.RowKit Go.Maps Go.Sort Go.Shelf
set_option maxRecDepth 100000
def L8:List (FuncId × xu):=[(242,.same),(263,.indexByte),(270,.count),(288,.clone),(245,.noZero 5)]
theorem Ju:∀ p ∈ L8,JK Tryz.prog p.1 p.2:=by
 intro p hp
 simp only[L8,List.mem_cons,List.not_mem_nil,or_false] at hp
 rcases hp with rfl|rfl|rfl|rfl|rfl
 ·exact ⟨Tryz.f242,Tryz.func242,by kernel_rfl,by kernel_rfl,by kernel_rfl,(by kernel_rfl:Extern.find Tryz.f242=some Extern.AbiNoEscape.same)⟩
 ·exact ⟨Tryz.f263,Tryz.func263,by kernel_rfl,by kernel_rfl,by kernel_rfl,(by kernel_rfl:Extern.find Tryz.f263=some Extern.BytealgIndexByte.indexByte)⟩
 ·exact ⟨Tryz.f270,Tryz.func270,by kernel_rfl,by kernel_rfl,by kernel_rfl,(by kernel_rfl:Extern.find Tryz.f270=some Extern.BytealgCount.count)⟩
 ·exact ⟨Tryz.f288,Tryz.func288,by kernel_rfl,by kernel_rfl,by kernel_rfl,(by kernel_rfl:Extern.find Tryz.f288=some Extern.MapsClone.clone)⟩
 ·exact ⟨Tryz.f245,Tryz.func245,by kernel_rfl,by kernel_rfl,by kernel_rfl,Tryz.f245.params,78,(by kernel_rfl:Extern.find Tryz.f245=some (Extern.BytealgMakeNoZero.makeNoZero Tryz.f245.params #[78])),Tryz.underlying78⟩
def Bk (k:List UInt8):List (List UInt8)→List (List UInt8)
 | []=>[k]
 | a::l=>match Op.bytesLess k a with
  | true=>k::a::l
  | false=>a::Bk k l
def pE:List (List UInt8)→List (List UInt8)
 | []=>[]
 | k::l=>Bk k (pE l)
theorem pF {k:List UInt8}:∀ {l:List (List UInt8)},(Bk k l).Perm (k::l)
 | []=>.refl _
 | a::l=>by
  unfold Bk
  split
  ·exact .refl _
  ·exact ((pF (l:=l)).cons a).trans (.swap k a l)
theorem ly:∀ {l:List (List UInt8)},(pE l).Perm l
 | []=>.refl _
 | k::_=>pF.trans (ly.cons k)
theorem ui {k:List UInt8}:∀ {l:List (List UInt8)},l.Pairwise ltB→k ∉ l→(Bk k l).Pairwise ltB
 | [],_,_=>by simp[Bk]
 | a::l,h,hk=>by
  rw[List.pairwise_cons] at h
  simp only[List.mem_cons,not_or] at hk
  unfold Bk
  split
  ·rename_i hlt
   exact List.pairwise_cons.2 ⟨fun b hb=>by
    rcases List.mem_cons.1 hb with rfl|hb
    ·exact hlt
    ·exact kU hlt (h.1 b hb),List.pairwise_cons.2 h⟩
  ·rename_i hlt
   refine List.pairwise_cons.2 ⟨fun b hb=>?_,ui h.2 hk.2⟩
   rcases List.mem_cons.1 (pF.mem_iff.1 hb) with rfl|hb
   ·rcases hc:Op.bytesLess a b with _|_
    ·exact absurd (r7 hlt hc) hk.1
    ·exact hc
   ·exact h.1 b hb
theorem qm:∀ {l:List (List UInt8)},l.Nodup→(pE l).Pairwise ltB
 | [],_=>by simp[pE]
 | k::l,h=>by
  rw[List.nodup_cons] at h
  exact ui (qm h.2) (fun hc=>h.1 (ly.mem_iff.1 hc))
theorem El {l:List (List UInt8)} (h:l.Nodup):l.mergeSort leB=pE l:=by
 rw[← mergeSort_of_perm (ly (l:=l)),tD (qm h)]
def C9 (k:List UInt8):List (List UInt8)→Bool
 | []=>true
 | a::l=>match decide (k=a) with
  | true=>false
  | false=>C9 k l
def okK:List (List UInt8)→Bool
 | []=>true
 | k::l=>match C9 k l with
  | true=>(match Nat.ble k.length big with
   | true=>okK l
   | false=>false)
  | false=>false
theorem yP {k:List UInt8}:∀ {l:List (List UInt8)},C9 k l=true→k ∉ l
 | [],_=>by simp
 | a::l,h=>by
  unfold C9 at h
  split at h
  ·cases h
  ·rename_i e
   simp only[List.mem_cons,not_or]
   exact ⟨of_decide_eq_false e,yP h⟩
theorem HQ:∀ {l:List (List UInt8)},okK l=true→l.Nodup∧∀ s ∈ l,s.length≤big
 | [],_=>by simp
 | k::l,h=>by
  unfold okK at h
  split at h
  ·rename_i e
   split at h
   ·rename_i e2
    obtain ⟨h1,h2⟩:=HQ h
    refine ⟨List.nodup_cons.2 ⟨yP e,h1⟩,fun s hs=>?_⟩
    rcases List.mem_cons.1 hs with rfl|hs
    ·exact Nat.le_of_ble_eq_true e2
    ·exact h2 s hs
   ·cases h
  ·cases h
def Kw (x:LV) (st:aa):Option (LV × aa):=match x with
 | .map o=>some (.fn (.func 166) [] [.ptr st.length 0],st++[.cells (.bt 173) [.map o]])
 | .nilm=>some (.fn (.func 166) [] [.ptr st.length 0],st++[.cells (.bt 173) [.nilm]])
 | _=>none
def Kx (o:Nat) (st:aa):Option (LV × aa):=match st[o]? with
 | some (.cells (.bt t) [x])=>match Nat.beq t 173 with
  | true=>(match x with
   | .nilm=>some (.nils,st)
   | .map om=>(match st[om]? with
    | some (.map _ es _ _)=>(match iW es with
     | some ks=>(match okK ks with
      | true=>(match Nat.ble ks.length big with
       | true=>(match ks with
        | []=>some (.nils,st)
        | k::l=>some (.sl st.length 0 (k::l).length (.rest 1),st++[.cells .rw ((pE (k::l)).map .str)]))
       | false=>none)
      | false=>none)
     | none=>none)
    | _=>none)
   | _=>none)
  | false=>none
 | _=>none
def HR:Ora:=fun f xs st=>match Nat.beq f 116 with
 | true=>(match xs with
  | [x]=>Kw x st
  | _=>none)
 | false=>match Nat.beq f 115 with
  | true=>(match xs with
   | [.fn (.func g) [] [.ptr o k]]=>(match Nat.beq g 166 with
    | true=>(match Nat.beq k 0 with
     | true=>Kx o st
     | false=>none)
    | false=>none)
   | _=>none)
  | false=>KO L8 f xs st
theorem HS:l9 Tryz.prog HR:=by
 intro f xs st v st' h K hK
 unfold HR at h
 split at h
 ·rename_i e
  obtain rfl:=Nat.eq_of_beq_eq_true e
  split at h
  ·unfold Kw at h
   split at h
   ·cases h
    exact o0 (M:=173) call116 fS (.inr ⟨_,rfl⟩) hK
   ·cases h
    exact o0 (M:=173) call116 fS (.inl rfl) hK
   ·cases h
  ·cases h
 ·split at h
  ·rename_i e
   obtain rfl:=Nat.eq_of_beq_eq_true e
   split at h
   ·split at h
    ·rename_i e1
     obtain rfl:=Nat.eq_of_beq_eq_true e1
     split at h
     ·rename_i e2
      obtain rfl:=Nat.eq_of_beq_eq_true e2
      unfold Kx at h
      split at h
      ·rename_i o t x ho
       split at h
       ·rename_i e3
        obtain rfl:=Nat.eq_of_beq_eq_true e3
        split at h
        ·cases h
         exact rG (K:=9) call115 eG tF ho hK
        ·split at h
         ·rename_i om m es bs n hom
          split at h
          ·rename_i ks hks
           split at h
           ·rename_i hok
            obtain ⟨k1,k2⟩:=HQ hok
            split at h
            ·rename_i hlen
             have hlen':=Nat.le_of_ble_eq_true hlen
             have l1:∀ s ∈ ks,s.length≤maxLen:=fun s hs=>by have:=k2 s hs;unfold big at this;unfold maxLen;omega
             refine xz (K:=9) (by kernel_rfl) call115 eG ya ho hom hks k1 l1 (by unfold big at hlen';unfold maxLen;omega) (by unfold big at hlen';omega) (fun e0=>?_) (fun e0=>?_)
             ·subst e0;cases h;exact hK
             ·rw[El k1]
              split at h
              ·exact absurd rfl e0
              ·cases h;exact hK
            ·cases h
           ·cases h
          ·cases h
         ·cases h
        ·cases h
       ·cases h
      ·cases h
     ·cases h
    ·cases h
   ·cases h
  ·exact Ia Ju _ _ _ _ _ h K hK
end Go.Proofs.YtknegckgmklnhaaGreatDoor
namespace Go.Proofs.YtknegckgmklnhaaGreatDoor
open Go Go.CP
set_option maxRecDepth 100000
theorem yQ:(me Tryz.prog [116,115] HR 100000 60 false 17 [] []).map (·.1)=some (.bool true):=by kernel_rfl
theorem Da {st:aa} {R:LV→aa→Prop} (h:R (.bool true) st):az Tryz.prog 17 [] st R:=uT aO HS yQ rfl rfl h
theorem HT {S:ST} (hS:S.ok) {v:T} (hv:v.ok):(fp S.l v).ok:=by
 unfold fp
 simp only[T.ok]
 refine ⟨by have:=hS.len;unfold big cM;rw[List.length_map];omega,T.nG.2 fun e he=>?_,?_⟩
 ·obtain ⟨a,ha,rfl⟩:=List.mem_map.1 he
  refine ⟨by have:=lN (hS.nm a ha);show a.nm.length≤big;unfold big;omega,?_⟩
  show (gI v a).ok
  unfold gI
  split
  ·simp[T.ok]
  ·exact T.Jr hv
 ·rw[pA];exact hS.rise
section
variable {st:aa}
end
section
variable {st:aa} {R:LV→aa→Prop}
theorem mV {k:Tx} {ns:List Tx} {j:Nat} (h:dU k ns 0=some j):ixI k ns=(j:Nat)∧¬ ixI k ns<0:=by
 have e:ixI k ns=(j:Nat):=by unfold ixI;rw[h]
 exact ⟨e,by rw[e];omega⟩
theorem lz {k:Tx} {ns:List Tx} (h:dU k ns 0=none):ixI k ns = -1:=by unfold ixI;rw[h]
theorem pG {k:Tx}:∀ {es:List (Tx × T)} {i:Nat},match dU k (es.map (·.1)) i with
  | none=>T.find es k=none
  | some j=>i≤j∧∃ t,es[j-i]?=some (k,t)∧T.find es k=some t
 | [],_=>rfl
 | e::es,i=>by
  obtain ⟨n,t⟩:=e
  simp only[List.map_cons,dU]
  by_cases h:n=k
  ·subst h
   simp only[if_true]
   exact ⟨Nat.le_refl _,t,by simp,by simp[T.find]⟩
  ·rw[if_neg h]
   have ih:=pG (k:=k) (es:=es) (i:=i+1)
   have e2:T.find ((n,t)::es) k=T.find es k:=by
    unfold T.find
    rw[List.find?_cons_of_neg (by simpa using h)]
   cases hx:dU k (es.map (·.1)) (i+1) with
   | none=>rw[hx] at ih;rw[e2];exact ih
   | some j=>
    rw[hx] at ih
    obtain ⟨h1,t',h2,h3⟩:=ih
    refine ⟨by omega,t',?_,by rw[e2];exact h3⟩
    rw[show j-i=(j-(i+1))+1 by omega,List.getElem?_cons_succ]
    exact h2
theorem yR {k:Tx}:∀ {l:List AT} {i:Nat},match dU k (l.map (·.nm)) i with
  | none=>fm k l=none
  | some j=>i≤j∧∃ a,l[j-i]?=some a∧fm k l=some a
 | [],_=>rfl
 | a::l,i=>by
  simp only[List.map_cons,dU,fm]
  by_cases h:a.nm=k
  ·simp only[h,if_true]
   exact ⟨Nat.le_refl _,a,by simp,rfl⟩
  ·rw[if_neg h,if_neg h]
   have ih:=yR (k:=k) (l:=l) (i:=i+1)
   cases hx:dU k (l.map (·.nm)) (i+1) with
   | none=>rw[hx] at ih;exact ih
   | some j=>
    rw[hx] at ih
    obtain ⟨h1,t',h2,h3⟩:=ih
    refine ⟨by omega,t',?_,h3⟩
    rw[show j-i=(j-(i+1))+1 by omega,List.getElem?_cons_succ]
    exact h2
theorem NW {es:List (Tx × T)}:(rT (.map es)).l=es.map fun e=>rT e.2:=by rw[IT];simp only[T.items,List.map_map];rfl
theorem ct.lm {o:Nat} {es:List (Tx × T)} (h:ct st o (rT (.map es))):ld1 st (.ptr o 5)=some (.isl (rcs (es.map fun e=>rT e.2)) es.length none):=by
 rw[h.l,NW]
 show some (LV.isl _ (es.map fun e=>rT e.2).length none)=_
 rw[List.length_map]
theorem ct.km {o:Nat} {es:List (Tx × T)} (h:ct st o (rT (.map es))):ld1 st (.ptr o 6)=some (.isl ((es.map (·.1)).map .str) es.length none):=by
 rw[h.ks,GN]
 show some (LV.isl _ (es.map (·.1)).length none)=_
 rw[List.length_map];rfl
theorem ct.kk {o:Nat} {t:T} (h:ct st o (rT t)):ld1 st (.ptr o 0)=some (i64 t.kind):=by rw[h.k,IQ]
theorem Jv {k:Tx} {o:Nat} {es:List (Tx × T)} (hb:es.length≤big) (hbx:ct st o (rT (.map es))) (hR:R (i64 (ixI k (es.map (·.1)))) st) :
  ∀ (d i:Nat),i+d=es.length→dU k (es.map (·.1)) 0=dU k ((es.map (·.1)).drop i) i→ve (.str k) (.ptr o 0) (i64 i) R st:=by
 intro d
 induction d with
 | zero=>
  intro i hi hp
  refine Ad _ _ _ ?_
  have c1:¬ ((i:Int)<es.length):=by omega
  rw[List.drop_eq_nil_of_le (by simp;omega)] at hp
  rw[lz hp] at hR
  simp only[vf,aq,Nat.zero_add,ab,hbx.lm,aR,ae,ax,c1,decide_false,af]
  exact hR
 | succ d ih=>
  intro i hi hp
  refine Ad _ _ _ ?_
  have hlt:i<es.length:=by omega
  have c1:((i:Int)<es.length):=by omega
  have e1:aK 1 (.isl ((es.map (·.1)).map .str) es.length none) (i64 i)=some (.iptr ((es.map (·.1)).map .str) (i*1)):=bO hlt
  have hg:((es.map (·.1)).map LV.str)[i*1]?=some (.str es[i].1):=by simp[hlt]
  have hd:(es.map (·.1)).drop i=es[i].1::(es.map (·.1)).drop (i+1):=by rw[List.drop_eq_getElem_cons (by simpa using hlt)];simp
  generalize es[i].1=n at hg hd
  have e7:((T.map es).kind==7)=true:=rfl
  simp only[vf,aq,Nat.zero_add,ab,hbx.lm,hbx.kk,hbx.km,aR,ae,ax,aQ,e7,c1,decide_true,ai,e1,ba,hg,bN,cL]
  rw[hd,dU] at hp
  by_cases h:n=k
  ·subst h
   rw[if_pos rfl] at hp
   rw[(mV hp).1] at hR
   simp only[beq_self_eq_true,ai]
   exact hR
  ·rw[if_neg h] at hp
   have e2:(n==k)=false:=by simpa using h
   simp only[e2,af,aG,ab,aH (show i<2 ^ 40 by unfold big at hb;omega)]
   exact ih (i+1) (by omega) hp
theorem uj {r:RV} {k:Tx}:LV.aB [vR r,.str k]=true:=by simp only[LV.aB,gp];rfl
theorem wu {t:T} (ht:t.ok) (k:Tx):Pu Tryz.prog 112 [vR (rT t),.str k] (i64 (ixI k t.keys)):=by
 refine Pu.of (Oe _ _ ?_) uj rfl
 have hb:ct ([]++[av.cells .rw (rc (rT t))]) 0 (rT t):=aw
 simp only[Nj,dK,ag,List.length_nil]
 by_cases h7:t.kind=7
 ·cases t<;>simp only[T.kind] at h7<;>try omega
  rename_i es
  have hbe:es.length≤big:=by simp only[T.ok] at ht;exact ht.1
  exact Jv (R:=fun v s=>dp s (i64 (ixI k (T.map es).keys)) v) hbe hb rfl es.length 0 (by omega) rfl
 ·have hk:t.keys=[]:=by cases t<;>first|rfl|exact absurd rfl h7
  rw[hk]
  refine Ad _ _ _ ?_
  have e7:(t.kind==7)=false:=by simpa using h7
  simp only[vf,aq,Nat.zero_add,ab,hb.l,hb.kk,aR,ae,ax,aQ,e7,af,aI]
  exact ⟨fun _=>rfl,fun _=>rfl⟩
theorem L9 {o:Nat} {t:KT} (h:st[o]?=some (.cells .rw (rkC t))):ld1 st (.ptr o 2)=some (.isl (t.ns.map .str) t.ns.length none):=by
 rw[a7 (m:=.rw) (l:=rkC t) h,eM];rfl
theorem Jw {k:Tx} {o:Nat} {t:KT} (hb:t.ns.length≤big) (hbx:st[o]?=some (.cells .rw (rkC t))) (hR:R (i64 (ixI k t.ns)) st) :
  ∀ (d i:Nat),i+d=t.ns.length→dU k t.ns 0=dU k (t.ns.drop i) i→wj (.str k) (.ptr o 0) (i64 i) R st:=by
 intro d
 have g:=L9 hbx
 induction d with
 | zero=>
  intro i hi hp
  refine Ht _ _ _ ?_
  have c1:¬ ((i:Int)<t.ns.length):=by omega
  rw[List.drop_eq_nil_of_le (by omega)] at hp
  rw[lz hp] at hR
  simp only[A9,aq,Nat.zero_add,ab,g,aR,ae,ax,c1,decide_false,af]
  exact hR
 | succ d ih=>
  intro i hi hp
  refine Ht _ _ _ ?_
  have hlt:i<t.ns.length:=by omega
  have c1:((i:Int)<t.ns.length):=by omega
  have e1:aK 1 (.isl (t.ns.map .str) t.ns.length none) (i64 i)=some (.iptr (t.ns.map .str) (i*1)):=bO hlt
  have hg:(t.ns.map LV.str)[i*1]?=some (.str t.ns[i]):=by simp[hlt]
  have hd:t.ns.drop i=t.ns[i]::t.ns.drop (i+1):=List.drop_eq_getElem_cons hlt
  generalize t.ns[i]=n at hg hd
  simp only[A9,aq,Nat.zero_add,ab,g,aR,ae,ax,c1,decide_true,ai,e1,ba,hg,bN,cL]
  rw[hd,dU] at hp
  by_cases h:n=k
  ·subst h
   rw[if_pos rfl] at hp
   rw[(mV hp).1] at hR
   simp only[beq_self_eq_true,ai]
   exact hR
  ·rw[if_neg h] at hp
   have e2:(n==k)=false:=by simpa using h
   simp only[e2,af,aG,ab,aH (show i<2 ^ 40 by unfold big at hb;omega)]
   exact ih (i+1) (by omega) hp
theorem Db {t:KT}:ca st (.agg (rkC t))=some (.ptr st.length 0,st++[.cells .rw (rkC t)]):=by rw[eM];rfl
theorem Jx {t:KT} (hb:t.ns.length≤big) (k:Tx):Pu Tryz.prog 135 [.agg (rkC t),.str k] (i64 (ixI k t.ns)):=by
 refine Pu.of (OP _ _ ?_) (by simp only[LV.aB,LV.plain,eU];rfl) rfl
 simp only[NQ,Db,ag,List.length_nil]
 exact Jw (R:=fun v s=>dp s (i64 (ixI k t.ns)) v) hb aw rfl t.ns.length 0 (by omega) rfl
def mW (st:aa) (o:Nat) (n:Int) (l:List AT):Prop:=st[o]?=some (.cells .rw [i64 n,.isl (bCs l) l.length none])
theorem mW.l {o:Nat} {n:Int} {l:List AT} (h:mW st o n l):ld1 st (.ptr o 1)=some (.isl (bCs l) l.length none):=by rw[a7 (show st[o]?=_ from h)];rfl
theorem mW.ldA {o:Nat} {n:Int} {l:List AT} (h:mW st o n l):ldA st (.ptr o 0) 2=some (bS n l):=by rw[cv (show st[o]?=_ from h) (by simp)];rfl
theorem oy {n:Int} {l:List AT}:ca st (bS n l)=some (.ptr st.length 0,st++[.cells .rw [i64 n,.isl (bCs l) l.length none]]):=rfl
theorem jc {l:List AT} {i:Nat} (h:i<l.length):aK 10 (.isl (bCs l) l.length none) (i64 i)=some (.iptr (bCs l) (i*10)):=bO h
theorem Bn:∀ {l:List AT} {i j:Nat} {a:AT},l[i]?=some a→j<10→(bCs l)[i*10+j]?=(bC a)[j]?
 | b::l,0,j,a,h,hj=>by
  simp only[List.getElem?_cons_zero,Option.some.injEq] at h
  subst h
  rw[bCs,Nat.zero_mul,Nat.zero_add,List.getElem?_append_left (by rw[jb];exact hj)]
 | b::l,i+1,j,a,h,hj=>by
  simp only[List.getElem?_cons_succ] at h
  rw[bCs,show (i+1)*10+j=(bC b).length+(i*10+j) by rw[jb];omega,List.getElem?_append_right (by omega),Nat.add_sub_cancel_left]
  exact Bn h hj
theorem HU:∀ {l:List AT} {i:Nat} {a:AT},l[i]?=some a→((bCs l).drop (i*10+2)).take 4=rkC a.ty∧i*10+10≤(bCs l).length
 | b::l,0,a,h=>by
  simp only[List.getElem?_cons_zero,Option.some.injEq] at h
  subst h
  refine ⟨?_,by rw[ow,List.length_cons];omega⟩
  rw[bCs,Nat.zero_mul,Nat.zero_add,List.drop_append_of_le_length (by rw[jb];omega),List.take_append_of_le_length (by simp[jb])]
  show ((rkC b.ty++_)).take 4=_
  rw[List.take_append_of_le_length (by rw[dd];omega),List.take_of_length_le (by rw[dd];omega)]
 | b::l,i+1,a,h=>by
  simp only[List.getElem?_cons_succ] at h
  obtain ⟨h1,h2⟩:=HU h
  refine ⟨?_,by rw[ow] at h2 ⊢;rw[List.length_cons];omega⟩
  rw[bCs,show (i+1)*10+2=(bC b).length+(i*10+2) by rw[jb];omega,List.drop_append,List.drop_eq_nil_of_le (by omega),Nat.add_sub_cancel_left,List.nil_append]
  exact h1
theorem Ma {l:List AT} {i:Nat} {a:AT} (h:l[i]?=some a):ldA st (.iptr (bCs l) (i*10+2)) 4=some (.agg (rkC a.ty)):=by
 obtain ⟨e1,e2⟩:=HU h
 rw[eB (by omega),e1]
theorem Mb {k:Tx} {o:Nat} {n:Int} {l:List AT} (hb:l.length≤big) (hbx:mW st o n l) (hR:R (i64 (ixI k (l.map (·.nm)))) st) :
  ∀ (d i:Nat),i+d=l.length→dU k (l.map (·.nm)) 0=dU k ((l.map (·.nm)).drop i) i→Cg (.str k) (.ptr o 0) (i64 i) R st:=by
 intro d
 induction d with
 | zero=>
  intro i hi hp
  refine JZ _ _ _ ?_
  have c1:¬ ((i:Int)<l.length):=by omega
  rw[List.drop_eq_nil_of_le (by simp;omega)] at hp
  rw[lz hp] at hR
  simp only[FE,aq,Nat.zero_add,ab,hbx.l,aR,ae,ax,c1,decide_false,af]
  exact hR
 | succ d ih=>
  intro i hi hp
  refine JZ _ _ _ ?_
  have hlt:i<l.length:=by omega
  have c1:((i:Int)<l.length):=by omega
  have hg:=ox (List.getElem?_eq_getElem hlt)
  have hd:(l.map (·.nm)).drop i=l[i].nm::(l.map (·.nm)).drop (i+1):=by rw[List.drop_eq_getElem_cons (by simpa using hlt)];simp
  generalize l[i].nm=n at hg hd
  simp only[FE,aq,Nat.zero_add,ab,hbx.l,aR,ae,ax,c1,decide_true,ai,jc hlt,bG,Nat.add_zero,ba,hg,bN,cL]
  rw[hd,dU] at hp
  by_cases h:n=k
  ·subst h
   rw[if_pos rfl] at hp
   rw[(mV hp).1] at hR
   simp only[beq_self_eq_true,ai]
   exact hR
  ·rw[if_neg h] at hp
   have e2:(n==k)=false:=by simpa using h
   simp only[e2,af,aG,ab,aH (show i<2 ^ 40 by unfold big at hb;omega)]
   exact ih (i+1) (by omega) hp
theorem Mc {n:Int} {l:List AT} (hb:l.length≤big) (k:Tx):Pu Tryz.prog 40 [bS n l,.str k] (i64 (ixI k (l.map (·.nm)))):=by
 refine Pu.of (c40 _ _ ?_) (by simp only[LV.aB,sH];rfl) rfl
 simp only[w40,oy,ag,List.length_nil]
 have hbx:mW ([]++[av.cells .rw [i64 n,.isl (bCs l) l.length none]]) 0 n l:=aw
 exact Mb (R:=fun v s=>dp s (i64 (ixI k (l.map AT.nm))) v) (k:=k) hb hbx rfl l.length 0 (by omega) rfl
theorem Bo {t:T} (ht:t.ok) (k:Tx):Pu Tryz.prog 103 [vR (rT t),.str k] (vR (rT (dx t k))):=by
 refine Pu.of (Od _ _ ?_) uj gp
 have hb:ct ([av.cells .rw (rc (rT t))]++[av.cells .rw z7]) 0 (rT t):=rfl
 have h2:([av.cells .rw (rc (rT t))]++[av.cells .rw z7])[1]?=some (.cells .rw z7):=rfl
 have e:aP (ao (aA [(0,1),(1,1),(2,1),(3,1),(4,1),(5,1),(6,1)]) z7 [])=some (.agg z7):=rfl
 simp only[Ni,dK,ag,List.length_nil,List.nil_append,b6,List.length_singleton,hb.ldA,ab]
 refine (wu ht k).call ?_
 have hnone:T.at t k=none→dx t k=.null:=fun h=>by unfold dx;rw[h];rfl
 have ln:(t.at k=none∧ixI k t.keys<0)∨∃ es j x,t=.map es∧ixI k t.keys=(j:Nat)∧es[j]?=some (k,x)∧dx t k=x:=by
  cases t with
  | map es=>
   have:=pG (k:=k) (es:=es) (i:=0)
   cases hx:dU k (es.map (·.1)) 0 with
   | none=>
    rw[hx] at this
    exact .inl ⟨this,by rw[show (T.map es).keys=es.map (·.1) from rfl,lz hx];omega⟩
   | some j=>
    rw[hx] at this
    obtain ⟨_,x,h1,h3⟩:=this
    exact .inr ⟨es,j,x,rfl,(mV hx).1,h1,by unfold dx;rw[show (T.map es).at k=T.find es k from rfl,h3];rfl⟩
  | _=>exact .inl ⟨rfl,by show ixI k []<0;rw[lz rfl];omega⟩
 rcases ln with ⟨h1,h3⟩ | ⟨es,j,x,rfl,h1,h3,h4⟩
 ·simp only[ae,ax,h3,decide_true,ai,e,ab,qt (vs:=z7) h2 rfl rfl rfl,ay,ag]
  rw[sZ (bq h2) rfl,ab,hnone h1]
  exact dpR rfl rfl
 ·have hlt:=(List.getElem?_eq_some_iff.1 h3).1
  have c1:¬ (((j:Nat):Int)<0):=by omega
  have e1:aK 7 (.isl (rcs (es.map fun e=>rT e.2)) es.length none) (i64 j)=some (.iptr (rcs (es.map fun e=>rT e.2)) (j*7)):=bO hlt
  have hx:(es.map fun e=>rT e.2)[j]?=some (rT x):=by simp[h3]
  simp only[h1,ae,ax,c1,decide_false,af,aq,Nat.zero_add,hb.lm,ab,e1,fT hx]
  rw[qt (vs:=rc (rT x)) h2 rfl ey mQ]
  simp only[ay,ag]
  rw[sZ (bq h2) ey,ab,h4]
  exact bn _ gp
end
end Go.Proofs.YtknegckgmklnhaaGreatDoor
namespace Go.Proofs.YtknegckgmklnhaaGreatDoor
open Go Go.CP
set_option maxRecDepth 100000
section
variable {st:aa} {R:LV→aa→Prop}
def pH:T→List (Tx × T)
 | .map es=>es
 | _=>[]
theorem Em {v:T}:v.keys=(pH v).map (·.1):=by cases v<;>rfl
def jZ (t:KT) (v:T) (i:Nat):Option KT:=if t.f=7 then t.l[i]? else if t.f=8 then (v.keys[i]?).bind (ja t) else t.l[0]?
def En (t:KT) (v:T) (i:Nat):Prop:=∀ y,v.items[i]?=some y→∃ x,jZ t v i=some x∧bU x y=true
theorem Eo {d:Nat} {t:KT} {v:T} (hw:t.wf (d+1)) (h5:¬ t.f<5) (hk:v.kind=if t.f=6∨t.f=8 then 7 else 6) (h7:t.f=7→v.items.length=t.l.length) :
  bU t v=true↔(∀ i,En t v i)∧missing t.ns t.ls (pH v)=[]:=by
 have hw':t.f≤8∧(t.f<5→t.l=[])∧(t.f=5∨t.f=6→t.l.length=1)∧(t.f<8→t.ns=[]∧t.ls=[])∧(t.f=8→t.ns.length=t.l.length∧t.ls.length=t.l.length)∧t.l.length≤16∧t.ns.Pairwise ltB∧(∀ n ∈ t.ns,named n=true)∧KT.wfs d t.l:=by
  cases t;exact hw
 obtain ⟨w1,w2,w3,w4,w5,w6,_,_,w7⟩:=hw'
 have e:bU t v=cd t.f (cw t.l) t.ns t.ls v:=by cases t;rfl
 have hb01:¬ (v.kind=0∨v.kind=1):=by rw[hk];split<;>omega
 have mis:t.f<8→missing t.ns t.ls (pH v)=[]:=fun h=>by rw[(w4 h).1,(w4 h).2];rfl
 have one:∀ {vs:List T},v.items=vs→(t.f=5∨t.f=6)→(vs.all ((cw t.l).getD 0 fun _=>false)=true↔∀ i,En t v i):=by
  intro vs hvs hf
  obtain ⟨x,hx⟩:=List.length_eq_one_iff.1 (w3 hf)
  have hs:∀ i,jZ t v i=some x:=fun i=>by unfold jZ;rw[if_neg (by omega),if_neg (by omega),hx];rfl
  rw[hx]
  simp only[cw,List.getD_cons_zero,List.all_eq_true]
  constructor
  ·intro k i y hy
   exact ⟨x,hs i,k y (by rw[← hvs];exact List.mem_of_getElem? hy)⟩
  ·intro k y hy
   obtain ⟨i,hi⟩:=List.getElem?_of_mem hy
   obtain ⟨x',h1,h2⟩:=k i y (by rw[hvs];exact hi)
   rw[hs i] at h1;cases h1
   exact h2
 rw[e]
 unfold cd
 rw[if_neg hb01,if_neg h5]
 have h58:t.f=5∨t.f=6∨t.f=7∨t.f=8:=by omega
 rcases h58 with h|h|h|h
 ·rw[if_neg (by omega)] at hk
  cases v<;>simp only[T.kind] at hk<;>try omega
  rename_i vs
  show (if t.f=5 then _ else if t.f=7 then _ else _)=true↔_
  rw[if_pos h,one (vs:=vs) rfl (.inl h)]
  exact ⟨fun k=>⟨k,mis (by omega)⟩,fun k=>k.1⟩
 ·rw[if_pos (by omega)] at hk
  cases v<;>simp only[T.kind] at hk<;>try omega
  rename_i es
  show (if t.f=6 then _ else if t.f=8 then _ else _)=true↔_
  rw[if_pos h]
  have:=one (vs:=es.map (·.2)) rfl (.inr h)
  rw[List.all_map] at this
  exact Iff.trans this ⟨fun k=>⟨k,mis (by omega)⟩,fun k=>k.1⟩
 ·rw[if_neg (by omega)] at hk
  cases v<;>simp only[T.kind] at hk<;>try omega
  rename_i vs
  have hl:vs.length=t.l.length:=h7 h
  show (if t.f=5 then _ else if t.f=7 then _ else _)=true↔_
  rw[if_neg (by omega),if_pos h]
  have hs:∀ i,jZ t (.list vs) i=t.l[i]?:=fun i=>by unfold jZ;rw[if_pos h]
  have e2:vs.length=(cw t.l).length:=by rw[jt,List.length_map,hl]
  rw[decide_eq_true e2,Bool.true_and,py hl.symm]
  refine ⟨fun k=>⟨fun i y hy=>?_,mis (by omega)⟩,fun k i x y h1 h2=>?_⟩
  ·have hi:=(List.getElem?_eq_some_iff.1 hy).1
   have hx:t.l[i]?=some (t.l[i]'(by rw[← hl];exact hi)):=List.getElem?_eq_getElem _
   exact ⟨_,by rw[hs];exact hx,k i _ y hx hy⟩
  ·obtain ⟨x',h3,h4⟩:=k.1 i y h2
   rw[hs,h1] at h3;cases h3
   exact h4
 ·rw[if_pos (by omega)] at hk
  cases v<;>simp only[T.kind] at hk<;>try omega
  rename_i es
  have ⟨l1,l2⟩:=w5 h
  show (if t.f=6 then _ else if t.f=8 then _ else _)=true↔_
  rw[if_neg (by omega),if_pos h]
  refine Iff.trans (iff_of_eq (congrArg (· = true) (?_:_=(es.all (od t)&&(missing t.ns t.ls es).isEmpty)))) ?_
  ·congr 1
   exact congrArg es.all (funext fun e=>(yG l1).symm)
  rw[Bool.and_eq_true,List.isEmpty_iff,List.all_eq_true]
  refine and_congr ?_ Iff.rfl
  have hs:∀ i,jZ t (.map es) i=(es[i]?).bind fun e=>ja t e.1:=fun i=>by
   unfold jZ;rw[if_neg (by omega),if_pos h]
   show ((es.map (·.1))[i]?).bind _=_
   rw[List.getElem?_map];cases es[i]?<;>rfl
  constructor
  ·intro k i y hy
   have hy':(es.map (·.2))[i]?=some y:=hy
   rw[List.getElem?_map] at hy'
   obtain ⟨e,he,rfl⟩:=Option.map_eq_some_iff.1 hy'
   have:=k e (List.mem_of_getElem? he)
   unfold od at this
   rw[hs,he]
   cases hf:ja t e.1 with
   | none=>rw[hf] at this;cases this
   | some x=>rw[hf] at this;exact ⟨x,hf,this⟩
  ·intro k e hm
   obtain ⟨i,hi⟩:=List.getElem?_of_mem hm
   obtain ⟨x,h1,h2⟩:=k i e.2 (by show (es.map (·.2))[i]?=_;rw[List.getElem?_map,hi];rfl)
   rw[hs,hi] at h1
   have h1':ja t e.1=some x:=h1
   unfold od
   rw[h1'];exact h2
theorem sK {v:T} {k:Tx}:(ixI k v.keys<0)↔T.find (pH v) k=none:=by
 rw[Em]
 have:=pG (k:=k) (es:=pH v) (i:=0)
 cases hx:dU k ((pH v).map (·.1)) 0 with
 | none=>rw[hx] at this;rw[lz hx];exact ⟨fun _=>this,fun _=>by omega⟩
 | some j=>
  rw[hx] at this
  obtain ⟨_,x,_,h⟩:=this
  rw[(mV hx).1,h]
  exact ⟨fun h=>by omega,fun h=>by cases h⟩
theorem HV {l:List KT} {i:Nat} {x:KT} (h:l[i]?=some x):((cH l).drop (i*4)).take 4=rkC x∧i*4+4≤(cH l).length:=by
 have h1:(l.map rkC)[i]?=some (rkC x):=by simp[h]
 obtain ⟨e1,e2⟩:=iH (c:=4) (rows:=l.map rkC) (by intro x h;obtain ⟨r,_,rfl⟩:=List.mem_map.1 h;exact dd) h1
 rw[wk]
 exact ⟨e1,by omega⟩
theorem oz {l:List KT} {i:Nat} {x:KT} (h:l[i]?=some x):ldA st (.iptr (cH l) (i*4)) 4=some (.agg (rkC x)):=by
 obtain ⟨e1,e2⟩:=HV h
 rw[eB e2,e1]
structure W2 (st:aa) (t:KT) (v:T):Prop where
 a:st[0]?=some (.cells .rw (rkC t))
 b:ct st 1 (rT v)
namespace W2
variable {t:KT} {v:T} (h:W2 st t v)
include h
theorem f:ld1 st (.ptr 0 0)=some (i64 t.f):=by rw[a7 h.a,eM];rfl
theorem l:ld1 st (.ptr 0 1)=some (.isl (cH t.l) t.l.length none):=by rw[a7 h.a,eM];rfl
theorem ns:ld1 st (.ptr 0 2)=some (.isl (t.ns.map .str) t.ns.length none):=by rw[a7 h.a,eM];rfl
theorem ls:ld1 st (.ptr 0 3)=some (.isl (t.ls.map .bool) t.ls.length none):=by rw[a7 h.a,eM];rfl
theorem all:ldA st (.ptr 0 0) 4=some (.agg (rkC t)):=by rw[cv h.a (by rw[dd];omega),List.drop_zero,List.take_of_length_le (by rw[dd];omega)]
theorem app {y:av}:W2 (st++[y]) t v:=⟨gq h.a,by have:=h.b;unfold ct at this ⊢;rw[List.getElem?_append_left (bL this)];exact this⟩
end W2
theorem ct.li {o:Nat} {v:T} (h:ct st o (rT v)):ld1 st (.ptr o 5)=some (.isl (rcs (v.items.map rT)) v.items.length none):=by
 rw[h.l,IT]
 show some (LV.isl _ (v.items.map rT).length none)=_
 rw[List.length_map]
theorem ct.ki {o:Nat} {v:T} (h:ct st o (rT v)):ld1 st (.ptr o 6)=some (.isl (v.keys.map .str) v.keys.length none):=by rw[h.ks,GN]
theorem HW {d:Nat} {t:KT} {v:T} (hv:v.ok) (hl:t.ls.length=t.ns.length) (hb:t.ns.length≤big) {x6:LV} {b:Bool} :
  ∀ (k i:Nat) (st:aa),i+k=t.ns.length→W2 st t v→(b=true↔missing (t.ns.drop i) (t.ls.drop i) (pH v)≠[])→oo (.ptr 0 0) (.ptr 1 0) x6 (i64 i) (Dp (WrQ (d+1) b)) st:=by
 intro k
 induction k with
 | zero=>
  intro i st hi hw hbb
  refine C6 _ _ _ _ ?_
  have c1:¬ ((i:Int)<t.ns.length):=by omega
  have e:b=false:=by
   rw[List.drop_eq_nil_of_le (by omega:t.ns.length≤i)] at hbb
   cases b with
   | false=>rfl
   | true=>exact absurd (by simp[missing]) (hbb.1 rfl)
  subst e
  simp only[wi,aq,Nat.zero_add,ab,hw.ns,aR,ae,ax,c1,decide_false,af]
  exact vS
 | succ k ih=>
  intro i st hi hw hbb
  refine C6 _ _ _ _ ?_
  have hlt:i<t.ns.length:=by omega
  have c1:((i:Int)<t.ns.length):=by omega
  have e1:aK 1 (.isl (t.ns.map .str) t.ns.length none) (i64 i)=some (.iptr (t.ns.map .str) (i*1)):=bO hlt
  have e2:aK 1 (.isl (t.ls.map .bool) t.ls.length none) (i64 i)=some (.iptr (t.ls.map .bool) (i*1)):=bO (by omega)
  have hg:(t.ns.map LV.str)[i*1]?=some (.str t.ns[i]):=by simp[hlt]
  have hg2:(t.ls.map LV.bool)[i*1]?=some (.bool (t.ls[i]'(by omega))):=by simp[hl,hlt]
  rw[List.drop_eq_getElem_cons hlt,List.drop_eq_getElem_cons (show i<t.ls.length by omega),missing] at hbb
  generalize t.ns[i]=n at hg hbb
  generalize t.ls[i]'(by omega)=l at hg2 hbb
  have hw1:=aH (show i<2 ^ 40 by unfold big at hb;omega)
  simp only[wi,aq,Nat.zero_add,ab,hw.ns,hw.ls,aR,ae,ax,c1,decide_true,ai,e2,ba,hg2,bF]
  cases l with
  | true=>
   rw[Bool.not_true,Bool.and_false,if_neg (by simp)] at hbb
   simp only[Bool.not_true,af,aG,ab,hw1]
   exact ih (i+1) st (by omega) hw hbb
  | false=>
   simp only[Bool.not_false,ai,hw.b.ldA,ab,e1,ba,hg]
   refine (wu hv n).call ?_
   simp only[ae,ax,ab,aI]
   refine ⟨fun h=>?_,fun h=>?_⟩
   ·have hn:=sK.1 h
    have e:b=true:=hbb.2 (by rw[hn];simp)
    subst e
    have zag:aP (ao (aA [(0,1),(1,1)]) [LV.str [],i64 0] [(0,.str n),(1,i64 (-1))])=some (.agg [.str n,i64 (-1)]):=rfl
    have ef:ao (fun i=>some (i*2,2)) (List.replicate 1 [LV.str [],i64 0]).flatten [(0,.agg [.str n,i64 (-1)])]=some [.str n,i64 (-1)]:=rfl
    simp only[hw.ns,ab,e1,ba,hg,zag,ef,aY,ag]
    exact sB rfl rfl
   ·have hn:T.find (pH v) n≠none:=fun h'=>h (sK.2 h')
    have hs:(T.find (pH v) n).isNone=false:=by cases hx:T.find (pH v) n with
     | none=>exact absurd hx hn
     | some _=>rfl
    rw[hs,Bool.false_and,if_neg (by simp)] at hbb
    simp only[aG,ab,hw1]
    exact ih (i+1) st (by omega) hw hbb
end
end Go.Proofs.YtknegckgmklnhaaGreatDoor
