/- Parts of the proof. -/
import Derived.Test.YtknegckgmklnhaaGreatDoorVbO8
import Derived.Test.YtknegckgmklnhaaGreatDoorVbW10
import Derived.Lib.ItoaLen
namespace Go.Proofs.YtknegckgmklnhaaGreatDoor
open Go Go.CP Go.RowKit Go.Maps Go.Sort Go.Shelf
set_option maxRecDepth 100000
def MM:List (FuncId × xT):=[(242,.same),(263,.indexByte),(270,.count),(288,.clone),(245,.noZero 5)]
theorem JY:∀ p ∈ MM,Ke Tryz.prog p.1 p.2:=by
 intro p hp
 simp only[MM,List.mem_cons,List.not_mem_nil,or_false] at hp
 rcases hp with rfl|rfl|rfl|rfl|rfl
 ·exact ⟨Tryz.f242,Tryz.func242,by kernel_rfl,by kernel_rfl,by kernel_rfl,(by kernel_rfl:Extern.find Tryz.f242=some Extern.AbiNoEscape.same)⟩
 ·exact ⟨Tryz.f263,Tryz.func263,by kernel_rfl,by kernel_rfl,by kernel_rfl,(by kernel_rfl:Extern.find Tryz.f263=some Extern.BytealgIndexByte.indexByte)⟩
 ·exact ⟨Tryz.f270,Tryz.func270,by kernel_rfl,by kernel_rfl,by kernel_rfl,(by kernel_rfl:Extern.find Tryz.f270=some Extern.BytealgCount.count)⟩
 ·exact ⟨Tryz.f288,Tryz.func288,by kernel_rfl,by kernel_rfl,by kernel_rfl,(by kernel_rfl:Extern.find Tryz.f288=some Extern.MapsClone.clone)⟩
 ·exact ⟨Tryz.f245,Tryz.func245,by kernel_rfl,by kernel_rfl,by kernel_rfl,Tryz.f245.params,78,(by kernel_rfl:Extern.find Tryz.f245=some (Extern.BytealgMakeNoZero.makeNoZero Tryz.f245.params #[78])),Tryz.underlying78⟩
def BI (k:List UInt8):List (List UInt8)→List (List UInt8)
 | []=>[k]
 | a::l=>match Op.bytesLess k a with
  | true=>k::a::l
  | false=>a::BI k l
def pK:List (List UInt8)→List (List UInt8)
 | []=>[]
 | k::l=>BI k (pK l)
theorem pL {k:List UInt8}:∀ {l:List (List UInt8)},(BI k l).Perm (k::l)
 | []=>.refl _
 | a::l=>by
  unfold BI
  split
  ·exact .refl _
  ·exact ((pL (l:=l)).cons a).trans (.swap k a l)
theorem lD:∀ {l:List (List UInt8)},(pK l).Perm l
 | []=>.refl _
 | k::_=>pL.trans (lD.cons k)
theorem uL {k:List UInt8}:∀ {l:List (List UInt8)},l.Pairwise ltB→k ∉ l→(BI k l).Pairwise ltB
 | [],_,_=>by simp[BI]
 | a::l,h,hk=>by
  rw[List.pairwise_cons] at h
  simp only[List.mem_cons,not_or] at hk
  unfold BI
  split
  ·rename_i hlt
   exact List.pairwise_cons.2 ⟨fun b hb=>by
    rcases List.mem_cons.1 hb with rfl|hb
    ·exact hlt
    ·exact jt hlt (h.1 b hb),List.pairwise_cons.2 h⟩
  ·rename_i hlt
   refine List.pairwise_cons.2 ⟨fun b hb=>?_,uL h.2 hk.2⟩
   rcases List.mem_cons.1 (pL.mem_iff.1 hb) with rfl|hb
   ·rcases hc:Op.bytesLess a b with _|_
    ·exact absurd (sn hlt hc) hk.1
    ·exact hc
   ·exact h.1 b hb
theorem qq:∀ {l:List (List UInt8)},l.Nodup→(pK l).Pairwise ltB
 | [],_=>by simp[pK]
 | k::l,h=>by
  rw[List.nodup_cons] at h
  exact uL (qq h.2) (fun hc=>h.1 (lD.mem_iff.1 hc))
theorem EK {l:List (List UInt8)} (h:l.Nodup):l.mergeSort leB=pK l:=by
 rw[← mergeSort_of_perm (lD (l:=l)),tY (qq h)]
def Dv (k:List UInt8):List (List UInt8)→Bool
 | []=>true
 | a::l=>match decide (k=a) with
  | true=>false
  | false=>Dv k l
def okK:List (List UInt8)→Bool
 | []=>true
 | k::l=>match Dv k l with
  | true=>(match Nat.ble k.length big with
   | true=>okK l
   | false=>false)
  | false=>false
theorem zf {k:List UInt8}:∀ {l:List (List UInt8)},Dv k l=true→k ∉ l
 | [],_=>by simp
 | a::l,h=>by
  unfold Dv at h
  split at h
  ·cases h
  ·rename_i e
   simp only[List.mem_cons,not_or]
   exact ⟨of_decide_eq_false e,zf h⟩
theorem Ib:∀ {l:List (List UInt8)},okK l=true→l.Nodup∧∀ s ∈ l,s.length≤big
 | [],_=>by simp
 | k::l,h=>by
  unfold okK at h
  split at h
  ·rename_i e
   split at h
   ·rename_i e2
    obtain ⟨h1,h2⟩:=Ib h
    refine ⟨List.nodup_cons.2 ⟨zf e,h1⟩,fun s hs=>?_⟩
    rcases List.mem_cons.1 hs with rfl|hs
    ·exact Nat.le_of_ble_eq_true e2
    ·exact h2 s hs
   ·cases h
  ·cases h
def KV (x:LV) (st:aa):Option (LV × aa):=match x with
 | .map o=>some (.fn (.func 166) [] [.ptr st.length 0],st++[.cells (.bt 173) [.map o]])
 | .nilm=>some (.fn (.func 166) [] [.ptr st.length 0],st++[.cells (.bt 173) [.nilm]])
 | _=>none
def KW (o:Nat) (st:aa):Option (LV × aa):=match st[o]? with
 | some (.cells (.bt t) [x])=>match Nat.beq t 173 with
  | true=>(match x with
   | .nilm=>some (.nils,st)
   | .map om=>(match st[om]? with
    | some (.map _ es _ _)=>(match jb es with
     | some ks=>(match okK ks with
      | true=>(match Nat.ble ks.length big with
       | true=>(match ks with
        | []=>some (.nils,st)
        | k::l=>some (.sl st.length 0 (k::l).length (.rest 1),st++[.cells .rw ((pK (k::l)).map .str)]))
       | false=>none)
      | false=>none)
     | none=>none)
    | _=>none)
   | _=>none)
  | false=>none
 | _=>none
def Ic:Ora:=fun f xs st=>match Nat.beq f 116 with
 | true=>(match xs with
  | [x]=>KV x st
  | _=>none)
 | false=>match Nat.beq f 115 with
  | true=>(match xs with
   | [.fn (.func g) [] [.ptr o k]]=>(match Nat.beq g 166 with
    | true=>(match Nat.beq k 0 with
     | true=>KW o st
     | false=>none)
    | false=>none)
   | _=>none)
  | false=>La MM f xs st
theorem Ie:ml Tryz.prog Ic:=by
 intro f xs st v st' h K hK
 unfold Ic at h
 split at h
 ·rename_i e
  obtain rfl:=Nat.eq_of_beq_eq_true e
  split at h
  ·unfold KV at h
   split at h
   ·cases h
    exact pg (M:=173) call116 fX (.inr ⟨_,rfl⟩) hK
   ·cases h
    exact pg (M:=173) call116 fX (.inl rfl) hK
   ·cases h
  ·cases h
 ·split at h
  ·rename_i e
   obtain rfl:=Nat.eq_of_beq_eq_true e
   split at h
   ·split at h
    ·rename_i e1
     obtain rfl:=Nat.eq_of_beq_eq_true e1
     split at h
     ·rename_i e2
      obtain rfl:=Nat.eq_of_beq_eq_true e2
      unfold KW at h
      split at h
      ·rename_i o t x ho
       split at h
       ·rename_i e3
        obtain rfl:=Nat.eq_of_beq_eq_true e3
        split at h
        ·cases h
         exact rQ (K:=9) call115 eM tZ ho hK
        ·split at h
         ·rename_i om m es bs n hom
          split at h
          ·rename_i ks hks
           split at h
           ·rename_i hok
            obtain ⟨k1,k2⟩:=Ib hok
            split at h
            ·rename_i hlen
             have hlen':=Nat.le_of_ble_eq_true hlen
             have l1:∀ s ∈ ks,s.length≤maxLen:=fun s hs=>by have:=k2 s hs;unfold big at this;unfold maxLen;omega
             refine xY (K:=9) (by kernel_rfl) call115 eM yu ho hom hks k1 l1 (by unfold big at hlen';unfold maxLen;omega) (by unfold big at hlen';omega) (fun e0=>?_) (fun e0=>?_)
             ·subst e0;cases h;exact hK
             ·rw[EK k1]
              split at h
              ·exact absurd rfl e0
              ·cases h;exact hK
            ·cases h
           ·cases h
          ·cases h
         ·cases h
        ·cases h
       ·cases h
      ·cases h
     ·cases h
    ·cases h
   ·cases h
  ·exact Ix JY _ _ _ _ _ h K hK
end Go.Proofs.YtknegckgmklnhaaGreatDoor
namespace Go.Proofs.YtknegckgmklnhaaGreatDoor
open Go Go.CP
set_option maxRecDepth 100000
theorem Ig {S:ST} (hS:S.ok) {v:T} (hv:v.ok):(dS S.l v).ok:=by
 unfold dS
 simp only[T.ok]
 refine ⟨by have:=hS.len;unfold big cN;rw[List.length_map];omega,T.lO.2 fun e he=>?_,?_⟩
 ·obtain ⟨a,ha,rfl⟩:=List.mem_map.1 he
  refine ⟨by have:=lY (hS.nm a ha);show a.nm.length≤big;unfold big;omega,?_⟩
  show (iz v a).ok
  unfold iz
  split
  ·simp[T.ok]
  ·exact T.oz hv
 ·rw[pG];exact hS.rise
section
variable {st:aa}
end
section
variable {st:aa} {R:LV→aa→Prop}
def Ih (st:aa) (o:Nat) (n:Int) (l:List AT):Prop:=st[o]?=some (.cells .rw [i64 n,.isl (bCs l) l.length none])
theorem Ih.l {o:Nat} {n:Int} {l:List AT} (h:Ih st o n l):ld1 st (.ptr o 1)=some (.isl (bCs l) l.length none):=by rw[aU (show st[o]?=_ from h)];rfl
theorem Ih.ldA {o:Nat} {n:Int} {l:List AT} (h:Ih st o n l):ldA st (.ptr o 0) 2=some (bS n l):=by rw[ck (show st[o]?=_ from h) (by simp)];rfl
end
end Go.Proofs.YtknegckgmklnhaaGreatDoor
namespace Go.Proofs.YtknegckgmklnhaaGreatDoor
open Go Go.CP
set_option maxRecDepth 100000
section
variable {st:aa} {R:LV→aa→Prop}
structure W2 (st:aa) (t:KT) (v:T):Prop where
 a:st[0]?=some (.cells .rw (rkC t))
 b:dK st 1 (rT v)
namespace W2
variable {t:KT} {v:T} (h:W2 st t v)
include h
theorem f:ld1 st (.ptr 0 0)=some (i64 t.f):=by rw[aU h.a,iC];rfl
theorem l:ld1 st (.ptr 0 1)=some (.isl (dB t.l) t.l.length none):=by rw[aU h.a,iC];rfl
theorem ns:ld1 st (.ptr 0 2)=some (.isl (t.ns.map .str) t.ns.length none):=by rw[aU h.a,iC];rfl
theorem ls:ld1 st (.ptr 0 3)=some (.isl (t.ls.map .bool) t.ls.length none):=by rw[aU h.a,iC];rfl
theorem all:ldA st (.ptr 0 0) 4=some (.agg (rkC t)):=by rw[ck h.a (by rw[dL];omega),List.drop_zero,List.take_of_length_le (by rw[dL];omega)]
end W2
end
end Go.Proofs.YtknegckgmklnhaaGreatDoor
namespace Go.Proofs.YtknegckgmklnhaaGreatDoor
open Go Go.CP
set_option maxRecDepth 100000
section
variable {st:aa} {R:LV→aa→Prop}
theorem zg {a b x y:LV} (h1:[x,y].all LV.one=true):stV (st++[aq.cells .rw [a,b]]) 2 (.ptr st.length 0) (.agg [x,y])=some (st++[.cells .rw [x,y]]):=by
 rw[lC au h1];simp
theorem Pv {x y:LV} {o:Nat} (h:st[o]?=some (.cells .rw [x,y])):ldA st (.ptr o 0) 2=some (.agg [x,y]):=by rw[ck h (by simp)];rfl
end
section
variable {st:aa} {R:LV→aa→Prop}
structure SV (st:aa) (n:Int) (l:List AT) (v:T):Prop where
 a:Ih st 0 n l
 b:dK st 1 (rT v)
end
section
variable {st:aa} {R:LV→aa→Prop}
def rcz (v:T) (a:AT):List LV:=if a.own&&decide ((cf v a.nm).kind=0) then [i64 1,.bool false,i64 0,i64 0,.str [],.nils,.nils] else rc (rT (cf v a.nm))
def zs (v:T) (l:List AT):List LV:=(l.map (rcz v)).flatten
structure Px (st:aa) (n:Int) (S:ST) (v:T) (fL fK:Option Nat) (i k:Nat):Prop where
 s:SV st n S.l v
 c2:st[2]?=some (.cells .rw z7)
 c3:st[3]?=some (.cells .rw [i64 7,.bool false,i64 0,i64 0,.str [],osl fL 7 i,osl fK 1 k])
 oL:bD .rw st fL 7 i (zs v (S.l.take i))
 oK:bD .rw st fK 1 k ((S.l.take k).map fun a=>.str a.nm)
 nL:∀ o,fL=some o→4≤o∧fK≠some o
 nK:∀ o,fK=some o→4≤o
variable {n:Int} {S:ST} {v:T} {fL fK:Option Nat} {i k:Nat} {a:AT}
theorem dK.fr {st st':aa} {Q:Nat→Prop} {o:Nat} {r:RV} (h:dK st o r) (hf:Fr st st' Q) (hn:¬ Q o):dK st' o r:=hf.get h hn
end
end Go.Proofs.YtknegckgmklnhaaGreatDoor
namespace Go.CP
end Go.CP
namespace Go.Proofs.YtknegckgmklnhaaGreatDoor
open Go Go.CP
set_option maxRecDepth 100000
section
variable {st:aa} {R:LV→aa→Prop}
theorem T.JZ {es:List (Tx × T)} (hv:(T.map es).ok) {i:Nat} {e:Tx × T} (h:es[i]?=some e):(T.map es).at e.1=some e.2:=by
 simp only[T.ok] at hv
 exact T.iQ (cJ hv.2.2) (List.mem_of_getElem? h)
structure U2 (st:aa) (t:T):Prop where
 a:st[0]?=some (.cells .rw [lvT t])
 b:dK st 1 (rT t)
end
end Go.Proofs.YtknegckgmklnhaaGreatDoor
namespace Go.Proofs.YtknegckgmklnhaaGreatDoor
open Go Go.CP
set_option maxRecDepth 100000
abbrev EL (u u':TypeId):List (Nat × List LV):=[(3,Lib.pow10Tab.map fun z=>.int .u64 z),(1,[.iface u .aN]),(2,[.iface u' .aN])]
theorem J0 {u u':TypeId}:GlS (xW (EL u u')):=⟨by simp[xW,EL],⟨u,rfl⟩,⟨u',rfl⟩⟩
section
variable {st:aa} {R:LV→aa→Prop}
theorem BJ:cw Tryz.prog 78:=⟨Tryz.f78,ba Tryz.f78,Tryz.func78,by kernel_rfl,by kernel_rfl⟩
theorem Ii {cs:List LV} {n:Nat} (hc:cs.length=n*6) (hp:LV.aB cs=true) (h1:cs.all LV.one=true) (hn:n≤2 ^ 30):Pu Tryz.prog 78 [.isl cs n none] (.isl cs n none):=by
 have hpl:(LV.isl cs n none).plain=true:=by simp only[LV.plain,hp]
 refine Pu.of ?_ (by simp only[LV.aB,hpl];rfl) hpl
 have ef:ao (fun i=>some (i*6,6)) (List.replicate 0 [LV.str [],LV.nilp,LV.bool false,LV.bool false,LV.bool false,LV.bool false]).flatten []=some []:=rfl
 by_cases h0:n=0
 ·subst h0
  have:cs=[]:=List.eq_nil_of_length_eq_zero (by omega)
  subst this
  refine ax.Lc BJ (c78 _ ?_) (c78 _ ?_)
  ·exact .inr (.inr ⟨.inr rfl,rfl,rfl⟩)
  ·have e0:qX .emp .nils=some false:=rfl
   simp only[w78,e0,cW,cH,ab,af,ef,bw,ag]
   refine .inl ⟨_,_,_,.rw,[],rfl,rfl,rfl,Nat.le_refl _,rfl⟩
 ·refine c78 _ ?_
  have e0:qX (.isl cs n none) .nils=some false:=by
   show (if 0<n then some false else none)=_
   rw[if_pos (by omega)]
  have hs:=rR (st:=[aq.cells .rw []]) (c:=none) hc
  have hr:dX n 32=true:=cL (by omega) (by omega)
  have hap:ar [aq.cells .rw []] 6 32 .rw (.sl 0 0 0 (.ex 0)) (.isl cs n none)=some (.sl 1 0 n (.rest 6),[.cells .rw [],.cells .rw cs]):=by
   have c2:¬ (n≤0):=by omega
   simp[ar,hs,h0,hr]
  simp only[w78,e0,cW,cH,ab,af,ef,bw,ag,List.nil_append,List.length_nil]
  rw[hap,ag]
  refine .inl ⟨_,_,_,.rw,cs,rfl,rfl,rfl,by rw[hc];omega,?_⟩
  rw[List.drop_zero,List.take_of_length_le (Nat.le_refl _)]
  exact bA _ hp
theorem Dw:∀ {l:List AT},(atC l).all LV.one=true
 | []=>rfl
 | a::l=>by
  have:=Dw (l:=l)
  unfold atC at this ⊢
  rw[List.map_cons,fx,List.all_append,this];rfl
theorem qS {S:ST} (hS:S.ok):Pu Tryz.prog 36 [sV S] (.isl (atC S.l) S.l.length none):=by
 have hpl:(LV.isl (atC S.l) S.l.length none).plain=true:=by simp only[LV.plain,jF]
 refine Pu.of (c36 _ ?_) (by simp only[LV.aB,et,Bool.and_true]) hpl
 have ep:dW true (sV S) .nilp=some false:=rfl
 have h16:=hS.len
 simp only[w36,ep,cW,cH,ab,af]
 show bd (aj (.iptr (sC S) 0)) _
 simp only[bE,ab,b6,Nat.zero_add,y8]
 refine (Ii Dc jF Dw (by omega)).call ?_
 exact bj _ hpl
end
end Go.Proofs.YtknegckgmklnhaaGreatDoor
namespace Go.Proofs.YtknegckgmklnhaaGreatDoor
open Go Go.CP Classical
set_option maxRecDepth 100000
theorem J1 {l l':List (List UInt8)} (hl:l.length=l'.length) (hb:l.length≤big) {R:LV→aa→Prop} :
  ∀ (d i:Nat) (st:aa),i+d=l.length→(∀ s,R (.bool (decide (l.drop i=l'.drop i))) s)→vi (sL l) (sL l') (i64 l.length) (i64 i) R st:=by
 intro d
 induction d with
 | zero=>
  intro i st hi hR
  apply Fu
  have:¬ ((i:Int)<l.length):=by omega
  simp only[vp,ae,aA,ab,this,decide_false,af]
  have:=hR st
  rw[List.drop_eq_nil_of_le (by omega),List.drop_eq_nil_of_le (by omega)] at this
  rwa [decide_eq_true rfl] at this
 | succ d ih=>
  intro i st hi hR
  apply Fu
  have hlt:i<l.length:=by omega
  have hlt':i<l'.length:=by omega
  have c1:(i:Int)<l.length:=by omega
  have hx:l[i]?=some l[i]:=List.getElem?_eq_getElem hlt
  have hy:l'[i]?=some l'[i]:=List.getElem?_eq_getElem hlt'
  have dx:l.drop i=l[i]::l.drop (i+1):=List.drop_eq_getElem_cons hlt
  have dy:l'.drop i=l'[i]::l'.drop (i+1):=List.drop_eq_getElem_cons hlt'
  generalize l[i]=x at hx dx
  generalize l'[i]=y at hy dy
  have e1:aR 1 (sL l) (i64 i)=some (.iptr (l.map .str) (i*1)):=bW hlt
  have e2:aR 1 (sL l') (i64 i)=some (.iptr (l'.map .str) (i*1)):=bW hlt'
  have g1:(l.map LV.str)[i*1]?=some (.str x):=by simp[hx]
  have g2:(l'.map LV.str)[i*1]?=some (.str y):=by simp[hy]
  simp only[vp,ae,aA,ab,c1,decide_true,ah,e1,e2,bF,g1,g2,ca,kQ]
  rw[bN]
  refine ⟨fun h=>?_,fun h=>?_⟩
  ·have hne:x≠y:=by simpa using h
   have:=hR st
   rwa [decide_eq_false (fun e=>by rw[dx,dy] at e;exact hne (List.cons.inj e).1)] at this
  ·have he:x=y:=by simpa using h
   simp only[aH,ab,aI (show i<2 ^ 40 by unfold big at hb;omega)]
   refine ih (i+1) st (by omega) fun s=>?_
   have:=hR s
   by_cases hd:l.drop (i+1)=l'.drop (i+1)
   ·rw[decide_eq_true hd]
    rwa [decide_eq_true (by rw[dx,dy,he,hd])] at this
   ·rw[decide_eq_false hd]
    rwa [decide_eq_false (fun e=>by rw[dx,dy] at e;exact hd (List.cons.inj e).2)] at this
theorem Ij {l l':List (List UInt8)} (hb:l.length≤big):Pu Tryz.prog 121 [sL l,sL l'] (.bool (decide (l=l'))):=by
 refine Pu.of (OH _ _ ?_) (by simp only[LV.aB,LV.plain,bB (f:=LV.str) fun _ _=>rfl,Bool.and_true]) rfl
 simp only[LD,bn,ab,ae,bz,bN]
 refine ⟨fun h=>?_,fun h=>?_⟩
 ·have hne:l≠l':=fun e=>by simp[e] at h
  rw[decide_eq_false hne];rfl
 ·have he:l.length=l'.length:=by
   have h1:(l.length:Int)=l'.length:=by simpa using h
   omega
  exact J1 he hb l.length 0 _ (by omega) fun s=>rfl
inductive Agr:T→T→Prop where
 | later {a b:T} (h:a.kind=1):Agr a b
 | parts {a b:T} (h:a.kind=b.kind) (hk:a.kind=6∨a.kind=7) (he:a.keys=b.keys) (hl:a.items.length=b.items.length) (hi:∀ (i:Nat) (x y:T),a.items[i]?=some x→b.items[i]?=some y→Agr x y):Agr a b
 | same {a:T} (hk:¬ (a.kind=6∨a.kind=7)):Agr a a
theorem qT {α β:Type} {p:α→β→Prop}:∀ {a:List α} {b:List β},a.length=b.length→(∀ (i:Nat) (x:α) (y:β),a[i]?=some x→b[i]?=some y→p x y)→ff p a b
 | [],[],_,_=>trivial
 | [],_::_,h,_=>by simp at h
 | _::_,[],h,_=>by simp at h
 | x::a,y::b,h,hi=>⟨hi 0 x y rfl rfl,qT (by simpa using h) fun i u v hu hv=>hi (i+1) u v (by simpa using hu) (by simpa using hv)⟩
theorem qU {α β:Type} {p:α→β→Prop}:∀ {a:List α} {b:List β},ff p a b→∀ (i:Nat) (x:α) (y:β),a[i]?=some x→b[i]?=some y→p x y
 | x::a,y::b,h,0,u,v,hu,hv=>by simp at hu hv;subst hu hv;exact h.1
 | x::a,y::b,h,i+1,u,v,hu,hv=>qU h.2 i u v (by simpa using hu) (by simpa using hv)
 | [],_,_,_,_,_,hu,_=>by simp at hu
theorem oC {a b:T}:Agr a b↔a.kind=1∨(a.kind=b.kind∧if a.kind=6∨a.kind=7 then a.keys=b.keys∧ff Agr a.items b.items else a=b):=by
 constructor
 ·intro h
  cases h with
  | later h=>exact .inl h
  | parts h hk he hl hi=>rw[if_pos hk];exact .inr ⟨h,he,qT hl hi⟩
  | same hk=>rw[if_neg hk];exact .inr ⟨rfl,rfl⟩
 ·rintro (h|⟨h,h2⟩)
  ·exact .later h
  ·by_cases hk:a.kind=6∨a.kind=7
   ·rw[if_pos hk] at h2
    exact .parts h hk h2.1 h2.2.len fun i x y hx hy=>qU h2.2 i x y hx hy
   ·rw[if_neg hk] at h2
    obtain ⟨rfl⟩:=h2
    exact .same hk
theorem EM:∀ (n:Nat) (a b:T),SizeOf.sizeOf a<n→every dT a=true→(Agr a b↔a=b)
 | 0,_,_,h,_=>by omega
 | n+1,a,b,hn,hk=>by
  rw[sR,Bool.and_eq_true] at hk
  have h1:¬ a.kind=1:=by have:=hk.1;unfold dT at this;simpa using this
  have hrec:∀ x ∈ a.items,∀ y,Agr x y↔x=y:=fun x hx y=>EM n x y (by have:=T.fJ hx;omega) (List.all_eq_true.1 hk.2 x hx)
  have hall:ff Agr a.items b.items↔a.items=b.items:=by
   rw[← ff.eq]
   constructor
   ·intro h;exact qT h.len fun i x y hx hy=>(hrec x (List.mem_of_getElem? hx) y).1 (qU h i x y hx hy)
   ·intro h;exact qT h.len fun i x y hx hy=>(hrec x (List.mem_of_getElem? hx) y).2 (qU h i x y hx hy)
  rw[oC,hall]
  constructor
  ·rintro (h|⟨h,h2⟩)
   ·exact absurd h h1
   ·split at h2
    ·rename_i hk67
     obtain ⟨e1,e2⟩:=h2
     cases a<;>simp only[T.kind] at hk67 h<;>try (exact absurd hk67 (by decide))
     ·cases b<;>simp only[] at h<;>try (exact absurd h (by decide))
      simp only[T.items] at e2;rw[e2]
     ·cases b<;>simp only[] at h<;>try (exact absurd h (by decide))
      simp only[T.items,T.keys] at e1 e2
      rename_i es es'
      congr 1
      clear hall hrec hk hn h1 h hk67
      induction es generalizing es' with
      | nil=>cases es'<;>simp_all
      | cons e es ih=>
       cases es' with
       | nil=>simp at e1
       | cons e' es'=>
        simp only[List.map_cons,List.cons.injEq] at e1 e2
        rw[ih es' e1.2 e2.2]
        congr 1
        exact Prod.ext e1.1 e2.1
    ·exact h2
  ·rintro rfl
   refine .inr ⟨rfl,?_⟩
   split
   ·exact ⟨rfl,rfl⟩
   ·rfl
theorem J2 {t:T} (h:t.ok):t.keys.length≤big:=by
 cases t<;>simp only[T.keys,List.length_nil,Nat.zero_le,List.length_map]
 exact h.1
theorem MN {t:T} (h:t.ok):t.items.length≤big:=by
 cases t<;>simp only[T.items,List.length_nil,Nat.zero_le,List.length_map]
 ·exact h.1
 ·exact h.1
theorem lZ:∀ (n:Nat) (a b:T),SizeOf.sizeOf a<n→a.ok→b.ok→Pu Tryz.prog 56 [vT a,vT b] (.bool (decide (Agr a b)))
 | 0,_,_,h,_,_=>by omega
 | n+1,a,b,hn,ha,hb=>by
  have hrec:∀ x ∈ a.items,∀ y,y.ok→Pu Tryz.prog 56 [vT x,vT y] (.bool (decide (Agr x y))):=fun x hx y hy=>lZ n x y (by have:=T.fJ hx;omega) (T.fq ha x hx) hy
  refine Pu.of (c56 _ _ ?_) (by simp only[LV.aB,LV.plain,eC,Bool.and_true]) rfl
  have g0:ldA [aq.cells .rw [lvT a],.cells .rw [lvT b]] (.ptr 0 0) 1=some (vT a):=rfl
  have g1:ldA [aq.cells .rw [lvT a],.cells .rw [lvT b]] (.ptr 1 0) 1=some (vT b):=rfl
  have no:∀ {p:Prop} {st:aa},¬ p→dp st (.bool (decide p)) (.bool false):=fun h=>by rw[decide_eq_false h];rfl
  have yes:∀ {p q:Prop} {dq:Decidable q} {st:aa},(q↔p)→dp st (.bool (decide p)) (.bool (@decide q dq)):=fun {p q dq st} h=>by
   by_cases hp:p
   ·rw[decide_eq_true hp,decide_eq_true (h.2 hp)];rfl
   ·rw[decide_eq_false hp,decide_eq_false fun hq=>hp (h.1 hq)];rfl
  have parts:(a.kind=6∨a.kind=7)→¬ a.kind=1→a.kind=b.kind→ax Tryz.prog 49 [vT a] [aq.cells .rw [lvT a],.cells .rw [lvT b]] fun v32 st33=>ldA st33 (.ptr 1 0) 1=some (vT b)∧ax Tryz.prog 49 [vT b] st33 fun v34 st35=>ax Tryz.prog 121 [v32,v34] st35 fun v36 st37=>
    al v36 (bd (ldA st37 (.ptr 0 0) 1) fun v38=>bd (ldA st37 (.ptr 1 0) 1) fun v39=>ax Tryz.prog 101 [v38] st37 fun v40 st41=>ldA st41 (.ptr 1 0) 1=some v39∧ax Tryz.prog 101 [v39] st41 fun v42 st43=>
     ax Tryz.prog 122 [v40,v42,LV.fn (Fn.func 56) [] []] st43 fun v44 st45=>dp st45 (.bool (decide (Agr a b))) v44) (dp st37 (.bool (decide (Agr a b))) (.bool false)):=by
   intro hk h1 hkk
   refine (lQ ha).call ⟨g1,(lQ hb).call ((Ij (J2 ha)).call ?_)⟩
   rw[bN]
   refine ⟨fun h=>?_,fun h=>?_⟩
   ·have he:a.keys=b.keys:=of_decide_eq_true h
    simp only[g0,g1,ab]
    refine (jx ha).call ⟨g1,(jx hb).call ?_⟩
    refine (Mf (p:=Agr) (MN ha) fun i x y hx hy=>hrec x (List.mem_of_getElem? hx) y (T.fq hb y (List.mem_of_getElem? hy))).call ?_
    refine yes ?_
    rw[oC,if_pos hk]
    exact ⟨fun h=>.inr ⟨hkk,he,h⟩,fun h=>by
     rcases h with h|h
     ·exact absurd h h1
     ·exact h.2.2⟩
   ·have he:¬ a.keys=b.keys:=of_decide_eq_false h
    refine no fun hA=>?_
    rw[oC,if_pos hk] at hA
    rcases hA with hA|hA
    ·exact h1 hA
    ·exact he hA.2.1
  simp only[w56,de,ag,List.nil_append,List.cons_append,List.length_nil,List.length_cons,Nat.zero_add,g0,ab]
  refine (ft a).call ?_
  simp only[ae,aW,ab]
  rw[bN]
  refine ⟨fun h=>?_,fun h=>?_⟩
  ·have h1:a.kind=1:=by simpa using h
   rw[decide_eq_true (Agr.later h1)];rfl
  have h1:¬ a.kind=1:=by simpa using h
  simp only[g1,ab]
  refine (ft b).call ?_
  simp only[ae,bz,ab]
  rw[bN]
  refine ⟨fun h=>?_,fun h=>?_⟩
  ·have hne:¬ a.kind=b.kind:=by simpa using h
   refine no fun hA=>?_
   rw[oC] at hA
   rcases hA with hA|hA
   ·exact h1 hA
   ·exact hne hA.1
  have hkk:a.kind=b.kind:=by simpa using h
  rw[bN]
  refine ⟨fun h=>?_,fun h=>?_⟩
  ·simp only[g0,g1,ab]
   exact parts (.inl (by simpa using h)) h1 hkk
  have h6:¬ a.kind=6:=by simpa using h
  rw[bN]
  refine ⟨fun h=>?_,fun h=>?_⟩
  ·simp only[g0,g1,ab]
   exact parts (.inr (by simpa using h)) h1 hkk
  have h7:¬ a.kind=7:=by simpa using h
  simp only[g0,g1,ab]
  refine (wz _ a b (Nat.lt_succ_self _) ha hb).call ?_
  refine yes ?_
  rw[oC,if_neg (by omega)]
  exact ⟨fun e=>.inr ⟨hkk,e⟩,fun h=>by
   rcases h with h|h
   ·exact absurd h h1
   ·exact h.2⟩
end Go.Proofs.YtknegckgmklnhaaGreatDoor
namespace Go.Proofs.YtknegckgmklnhaaGreatDoor
open Go Go.CP
set_option maxRecDepth 100000
abbrev vd (r:Int) (n:Tx):LV:=.agg [i64 r,.str n]
theorem eqV {a b:Int} {s t:Tx}:jh (leq Tryz.prog 64 92) (vd a s) (vd b t)=some ((a==b)&&(s==t)):=by
 have e:jh (leq Tryz.prog 64 92) (vd a s) (vd b t)=match (a==b) with
  | true=>(match (s==t) with
   | true=>some true
   | false=>some false)
  | false=>some false:=by kernel_rfl
 rw[e]
 cases a==b<;>cases s==t<;>rfl
section
variable {st:aa} {R:LV→aa→Prop}
theorem uM {S:ST} {v:T}:LV.aB [sV S,vT v]=true:=by simp only[LV.aB,et,bO];rfl
theorem tm {S:ST} (hS:S.ok) {v:T} (hv:v.ok):Pu Tryz.prog 124 [sV S,vT v] (.tup [vd 1 (cb S.l v).1,.bool (decide ((cb S.l v).2=0))]):=by
 refine Pu.of (c124 _ _ ?_) uM rfl
 have g:ldA ([aq.cells .rw [lvT v]]++[aq.cells .rw [i64 0,LV.str []]]) (.ptr 0 0) 1=some (vT v):=rfl
 have zag:aL (ao (ay [(0,1),(1,1)]) [i64 0,LV.str []] [(0,i64 1),(1,.str (cb S.l v).1)])=some (vd 1 (cb S.l v).1):=rfl
 have pt:stV ([aq.cells .rw [lvT v]]++[aq.cells .rw [i64 0,LV.str []]]) 2 (.ptr 1 0) (vd 1 (cb S.l v).1)=some ([aq.cells .rw [lvT v]]++[.cells .rw [i64 1,.str (cb S.l v).1]]):=zg (st:=[aq.cells .rw [lvT v]]) rfl
 have g2:ldA ([aq.cells .rw [lvT v]]++[aq.cells .rw [i64 1,.str (cb S.l v).1]]) (.ptr 1 0) 2=some (vd 1 (cb S.l v).1):=rfl
 have ee:((cb S.l v).2==0)=decide ((cb S.l v).2=0):=by by_cases h:(cb S.l v).2=0<;>simp[h]
 simp only[NB,de,ag,List.length_nil,List.nil_append,bQ,List.length_singleton,g,ab]
 refine (Jy hS hv).call ?_
 simp only[aw,List.getElem?_cons_zero,List.getElem?_cons_succ,ab,zag,ae,aW,ee,pt,az,ag,g2]
 exact bj (v:=.tup [vd _ _,.bool _]) _ rfl
open Classical in
noncomputable def qt (p m:T):List AT→Int × Tx
 | []=>(0,[])
 | a::l=>if every dT (cf m a.nm)=true then (if Agr (cf p a.nm) (cf m a.nm) then qt p m l else (5,a.nm)) else (4,a.nm)
def uN (m:T):List AT→Int × Tx
 | []=>(0,[])
 | a::l=>if every dT (cf m a.nm)=true then uN m l else (4,a.nm)
structure V3 (st:aa) (p m:T):Prop where
 a:st[0]?=some (.cells .rw [lvT p])
 b:st[1]?=some (.cells .rw [lvT m])
 c:st[2]?=some (.cells .rw [i64 0,.str []])
theorem V3.app {p m:T} {y:aq} (h:V3 st p m):V3 (st++[y]) p m:=
 ⟨fy h.a,by rw[List.getElem?_append_left (bM h.b)];exact h.b,by rw[List.getElem?_append_left (bM h.c)];exact h.c⟩
theorem Ik {r:Int} {n:Tx}:aL (ao (ay [(0,1),(1,1)]) [i64 0,LV.str []] [(0,i64 r),(1,.str n)])=some (vd r n):=rfl
theorem wV:aL (ao (ay [(0,1),(1,1)]) [i64 0,LV.str []] [])=some (vd 0 []):=rfl
theorem oD {o:Nat} {x y:LV} (h:st[o]?=some (.cells .rw [x,y])) {r:Int} {n:Tx} {K:LV→aa→Prop} (hK:∀ s,K (vd r n) s) :
  bd2 (lmk (stV st 2 (.ptr o 0) (vd r n))) fun _v st2=>bd (ldA st2 (.ptr o 0) 2) fun v=>K v st2:=by
 rw[lC h (show [i64 r,LV.str n].all LV.one=true from rfl)]
 simp only[az,ag]
 rw[Pv (bx h),ab]
 exact hK _
open Classical in
theorem BK {S:ST} (hS:S.ok) {p m:T} (hp:p.ok) (hm:m.ok) {w:Int × Tx}:∀ (d i:Nat) (st:aa),i+d=S.l.length→V3 st p m→qt p m (S.l.drop i)=w→
  Cw (.ptr 0 0) (.ptr 1 0) (.ptr 2 0) (.isl (atC S.l) S.l.length none) (i64 S.l.length) (i64 i) (fun r s=>dp s (vd w.1 w.2) r) st:=by
 have h16:=hS.len
 have fin:∀ {r:Int} {n:Tx} {s:aa},(r,n)=w→dp s (vd w.1 w.2) (vd r n):=fun e=>by subst e;exact bj (v:=vd _ _) _ rfl
 intro d
 induction d with
 | zero=>
  intro i st hi h hw
  refine Kn _ _ _ _ _ _ ?_
  have c1:¬ ((i:Int)<S.l.length):=by omega
  rw[List.drop_eq_nil_of_le (by omega)] at hw
  simp only[FP,ae,aA,ab,c1,decide_false,af,wV]
  exact oD h.c fun _=>fin hw
 | succ d ih=>
  intro i st hi h hw
  refine Kn _ _ _ _ _ _ ?_
  have hlt:i<S.l.length:=by omega
  have c1:((i:Int)<S.l.length):=by omega
  have hx:S.l[i]?=some S.l[i]:=List.getElem?_eq_getElem hlt
  have hdr:S.l.drop i=S.l[i]::S.l.drop (i+1):=List.drop_eq_getElem_cons hlt
  generalize S.l[i]=a at hx hdr
  rw[hdr,qt] at hw
  have e1:aR 6 (.isl (atC S.l) S.l.length none) (i64 i)=some (.iptr (atC S.l) (i*6)):=bW hlt
  have hw1:=aI (show i<2 ^ 40 by omega)
  have hA:=h.app (y:=.cells .rw (aC a))
  have hB:=hA.app (y:=.cells .rw [lvT (cf p a.nm)])
  have hC:=hB.app (y:=.cells .rw [lvT (cf m a.nm)])
  have n1:(st++[aq.cells .rw (aC a)])[st.length]?=some (.cells .rw (aC a)):=au
  have n2:=bH (y:=aq.cells .rw [lvT (cf p a.nm)]) n1
  have n3:=bH (y:=aq.cells .rw [lvT (cf m a.nm)]) n2
  have q1:(st++[aq.cells .rw (aC a)]++[aq.cells .rw [lvT (cf p a.nm)]])[(st++[aq.cells .rw (aC a)]).length]?=some (.cells .rw [lvT (cf p a.nm)]):=au
  have q2:=bH (y:=aq.cells .rw [lvT (cf m a.nm)]) q1
  have k1:ld1 (st++[aq.cells .rw (aC a)]) (.ptr st.length 0)=some (.str a.nm):=by rw[aU n1];rfl
  have k2:ld1 (st++[aq.cells .rw (aC a)]++[aq.cells .rw [lvT (cf p a.nm)]]) (.ptr st.length 0)=some (.str a.nm):=by rw[aU n2];rfl
  have k3:ld1 (st++[aq.cells .rw (aC a)]++[aq.cells .rw [lvT (cf p a.nm)]]++[aq.cells .rw [lvT (cf m a.nm)]]) (.ptr st.length 0)=some (.str a.nm):=by rw[aU n3];rfl
  have hpo:(cf p a.nm).ok:=T.oz hp
  have hmo:(cf m a.nm).ok:=T.oz hm
  simp only[FP,ae,aA,ab,c1,decide_true,ah,e1,iX hx,bQ,ta (show (aC a).length=6 from rfl) (show (aC a).all LV.one=true from rfl),az,ag,gX hA.a,av,Nat.zero_add,k1]
  refine (nO hp a.nm).call ?_
  rw[jZ]
  simp only[aw,List.getElem?_cons_zero,List.getElem?_cons_succ,ab,cI,az,ag,gX hB.b,k2]
  refine (nO hm a.nm).call ?_
  rw[jZ]
  simp only[aw,List.getElem?_cons_zero,List.getElem?_cons_succ,ab,cI,az,ag,gX (v:=cf m a.nm) (au (st:=st++[aq.cells .rw (aC a)]++[aq.cells .rw [lvT (cf p a.nm)]]))]
  refine (oe hmo).call ?_
  by_cases hk:every dT (cf m a.nm)=true
  ·rw[if_pos hk] at hw
   rw[hk]
   simp only[aZ,Bool.not_true,ab,af,gX q2,gX (v:=cf m a.nm) (au (st:=st++[aq.cells .rw (aC a)]++[aq.cells .rw [lvT (cf p a.nm)]]))]
   refine (lZ _ _ _ (Nat.lt_succ_self _) hpo hmo).call ?_
   by_cases hg:Agr (cf p a.nm) (cf m a.nm)
   ·rw[if_pos hg] at hw
    rw[decide_eq_true hg]
    simp only[aZ,Bool.not_true,ab,af,aH,hw1]
    exact ih (i+1) _ (by omega) hC hw
   ·rw[if_neg hg] at hw
    rw[decide_eq_false hg]
    simp only[aZ,Bool.not_false,ab,ah,k3,Ik]
    exact oD hC.c fun _=>fin hw
  ·rw[if_neg hk] at hw
   have hk':every dT (cf m a.nm)=false:=by simpa using hk
   rw[hk']
   simp only[aZ,Bool.not_false,ab,ah,k3,Ik]
   exact oD hC.c fun _=>fin hw
end
end Go.Proofs.YtknegckgmklnhaaGreatDoor
