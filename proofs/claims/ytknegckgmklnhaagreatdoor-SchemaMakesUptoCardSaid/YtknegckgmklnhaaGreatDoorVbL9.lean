/- Parts of the proof. -/
import Derived.Test.YtknegckgmklnhaaGreatDoorVbO8
import Derived.Test.YtknegckgmklnhaaGreatDoorVbW7
import Derived.Test.YtknegckgmklnhaaGreatDoorRows
namespace Go.Proofs.YtknegckgmklnhaaGreatDoor
open Go Go.CP
set_option maxRecDepth 100000
theorem xa:∀ {l:List AT} {i:Nat} {a:AT},l[i]?=some a→(bCs l)[i*10]?=some (.str a.nm)
 | b::l,0,a,h=>by
  simp only[List.getElem?_cons_zero,Option.some.injEq] at h
  subst h;rfl
 | b::l,i+1,a,h=>by
  simp only[List.getElem?_cons_succ] at h
  rw[bCs,show (i+1)*10=(bC b).length+i*10 by rw[fO];omega,List.getElem?_append_right (by omega),Nat.add_sub_cancel_left]
  exact xa h
structure LSt (st:aa) (A B C:Nat) (n:Int) (l:List AT) (v x:T):Prop where
 a:st[A]?=some (.cells .rw [i64 n,.isl (bCs l) l.length none])
 b:st[B]?=some (.cells .rw [lvT v])
 c:st[C]?=some (.cells .rw [lvT x])
section
variable {R:LV→aa→Prop} {st:aa}
end
end Go.Proofs.YtknegckgmklnhaaGreatDoor
namespace Go.Proofs.YtknegckgmklnhaaGreatDoor
open Go Go.CP Go.ChangeShapes
set_option maxRecDepth 100000
theorem ce4:Tryz.prog.cellsOf 4=1:=by kernel_rfl
theorem ce9:Tryz.prog.cellsOf 9=1:=by kernel_rfl
section
variable {H:Type}
theorem Cr {n:Nat} {xs:List LV} {d:DataW H} (h:ck Tryz.prog n 3 xs d):∃ k:Int,xs=[i64 k]∧-9223372036854775808≤k∧k<9223372036854775808:=by
 cases n with
 | zero=>exact h.elim
 | succ n=>
  unfold ck at h
  rw[Tryz.underlying3] at h
  obtain ⟨m,rfl,hw⟩:=h
  have h1:IntKind.min .i64 = -9223372036854775808:=rfl
  have h2:IntKind.max .i64=9223372036854775807:=rfl
  simp only[Lit.wf,Bool.and_eq_true,decide_eq_true_eq,h1,h2] at hw
  exact ⟨m,rfl,hw.1,by omega⟩
theorem ou {n:Nat} {xs:List LV} {d:DataW H} (h:ck Tryz.prog n 4 xs d):∃ b,xs=[.bool b]:=by
 cases n with
 | zero=>exact h.elim
 | succ n=>unfold ck at h;rw[Tryz.underlying4] at h;exact h
theorem sr {n:Nat} {xs:List LV} {d:DataW H} (h:ck Tryz.prog n 9 xs d):∃ s:List UInt8,xs=[.str s]∧s.length≤Rows.uptoBulk d:=by
 cases n with
 | zero=>exact h.elim
 | succ n=>
  unfold ck at h;rw[Tryz.underlying9] at h
  obtain ⟨s,rfl,_,rfl⟩:=h
  exact ⟨s,rfl,by simp[Rows.uptoBulk]⟩
end
end Go.Proofs.YtknegckgmklnhaaGreatDoor
namespace Go.Proofs.YtknegckgmklnhaaGreatDoor
open Go Go.CP Go.RowKit Go.Maps Go.Sort Go.Shelf
set_option maxRecDepth 100000
def Cs:List (FuncId × tr):=[(242,.same),(263,.indexByte),(270,.count),(288,.clone),(245,.noZero 5)]
theorem A8:∀ p ∈ Cs,Bs Tryz.prog p.1 p.2:=by
 intro p hp
 simp only[Cs,List.mem_cons,List.not_mem_nil,or_false] at hp
 rcases hp with rfl|rfl|rfl|rfl|rfl
 ·exact ⟨Tryz.f242,Tryz.func242,by kernel_rfl,by kernel_rfl,by kernel_rfl,(by kernel_rfl:Extern.find Tryz.f242=some Extern.AbiNoEscape.same)⟩
 ·exact ⟨Tryz.f263,Tryz.func263,by kernel_rfl,by kernel_rfl,by kernel_rfl,(by kernel_rfl:Extern.find Tryz.f263=some Extern.BytealgIndexByte.indexByte)⟩
 ·exact ⟨Tryz.f270,Tryz.func270,by kernel_rfl,by kernel_rfl,by kernel_rfl,(by kernel_rfl:Extern.find Tryz.f270=some Extern.BytealgCount.count)⟩
 ·exact ⟨Tryz.f288,Tryz.func288,by kernel_rfl,by kernel_rfl,by kernel_rfl,(by kernel_rfl:Extern.find Tryz.f288=some Extern.MapsClone.clone)⟩
 ·exact ⟨Tryz.f245,Tryz.func245,by kernel_rfl,by kernel_rfl,by kernel_rfl,Tryz.f245.params,78,(by kernel_rfl:Extern.find Tryz.f245=some (Extern.BytealgMakeNoZero.makeNoZero Tryz.f245.params #[78])),Tryz.underlying78⟩
def vX (k:List UInt8):List (List UInt8)→List (List UInt8)
 | []=>[k]
 | a::l=>match Op.bytesLess k a with
  | true=>k::a::l
  | false=>a::vX k l
def mY:List (List UInt8)→List (List UInt8)
 | []=>[]
 | k::l=>vX k (mY l)
theorem mZ {k:List UInt8}:∀ {l:List (List UInt8)},(vX k l).Perm (k::l)
 | []=>.refl _
 | a::l=>by
  unfold vX
  split
  ·exact .refl _
  ·exact ((mZ (l:=l)).cons a).trans (.swap k a l)
theorem jV:∀ {l:List (List UInt8)},(mY l).Perm l
 | []=>.refl _
 | k::_=>mZ.trans (jV.cons k)
theorem rn {k:List UInt8}:∀ {l:List (List UInt8)},l.Pairwise ltB→k ∉ l→(vX k l).Pairwise ltB
 | [],_,_=>by simp[vX]
 | a::l,h,hk=>by
  rw[List.pairwise_cons] at h
  simp only[List.mem_cons,not_or] at hk
  unfold vX
  split
  ·rename_i hlt
   exact List.pairwise_cons.2 ⟨fun b hb=>by
    rcases List.mem_cons.1 hb with rfl|hb
    ·exact hlt
    ·exact lM hlt (h.1 b hb),List.pairwise_cons.2 h⟩
  ·rename_i hlt
   refine List.pairwise_cons.2 ⟨fun b hb=>?_,rn h.2 hk.2⟩
   rcases List.mem_cons.1 (mZ.mem_iff.1 hb) with rfl|hb
   ·rcases hc:Op.bytesLess a b with _|_
    ·exact absurd (pH hlt hc) hk.1
    ·exact hc
   ·exact h.1 b hb
theorem nV:∀ {l:List (List UInt8)},l.Nodup→(mY l).Pairwise ltB
 | [],_=>by simp[mY]
 | k::l,h=>by
  rw[List.nodup_cons] at h
  exact rn (nV h.2) (fun hc=>h.1 (jV.mem_iff.1 hc))
theorem yj {l:List (List UInt8)} (h:l.Nodup):l.mergeSort leB=mY l:=by
 rw[← mergeSort_of_perm (jV (l:=l)),xO (nV h)]
def xb (k:List UInt8):List (List UInt8)→Bool
 | []=>true
 | a::l=>match decide (k=a) with
  | true=>false
  | false=>xb k l
def okK:List (List UInt8)→Bool
 | []=>true
 | k::l=>match xb k l with
  | true=>(match Nat.ble k.length big with
   | true=>okK l
   | false=>false)
  | false=>false
theorem uy {k:List UInt8}:∀ {l:List (List UInt8)},xb k l=true→k ∉ l
 | [],_=>by simp
 | a::l,h=>by
  unfold xb at h
  split at h
  ·cases h
  ·rename_i e
   simp only[List.mem_cons,not_or]
   exact ⟨of_decide_eq_false e,uy h⟩
theorem Ab:∀ {l:List (List UInt8)},okK l=true→l.Nodup∧∀ s ∈ l,s.length≤big
 | [],_=>by simp
 | k::l,h=>by
  unfold okK at h
  split at h
  ·rename_i e
   split at h
   ·rename_i e2
    obtain ⟨h1,h2⟩:=Ab h
    refine ⟨List.nodup_cons.2 ⟨uy e,h1⟩,fun s hs=>?_⟩
    rcases List.mem_cons.1 hs with rfl|hs
    ·exact Nat.le_of_ble_eq_true e2
    ·exact h2 s hs
   ·cases h
  ·cases h
def BL (x:LV) (st:aa):Option (LV × aa):=match x with
 | .map o=>some (.fn (.func 166) [] [.ptr st.length 0],st++[.cells (.bt 173) [.map o]])
 | .nilm=>some (.fn (.func 166) [] [.ptr st.length 0],st++[.cells (.bt 173) [.nilm]])
 | _=>none
def BM (o:Nat) (st:aa):Option (LV × aa):=match st[o]? with
 | some (.cells (.bt t) [x])=>match Nat.beq t 173 with
  | true=>(match x with
   | .nilm=>some (.nils,st)
   | .map om=>(match st[om]? with
    | some (.map _ es _ _)=>(match kY es with
     | some ks=>(match okK ks with
      | true=>(match Nat.ble ks.length big with
       | true=>(match ks with
        | []=>some (.nils,st)
        | k::l=>some (.sl st.length 0 (k::l).length (.rest 1),st++[.cells .rw ((mY (k::l)).map .str)]))
       | false=>none)
      | false=>none)
     | none=>none)
    | _=>none)
   | _=>none)
  | false=>none
 | _=>none
def Ad:Ora:=fun f xs st=>match Nat.beq f 116 with
 | true=>(match xs with
  | [x]=>BL x st
  | _=>none)
 | false=>match Nat.beq f 115 with
  | true=>(match xs with
   | [.fn (.func g) [] [.ptr o k]]=>(match Nat.beq g 166 with
    | true=>(match Nat.beq k 0 with
     | true=>BM o st
     | false=>none)
    | false=>none)
   | _=>none)
  | false=>B5 Cs f xs st
theorem Ae:kB Tryz.prog Ad:=by
 intro f xs st v st' h K hK
 unfold Ad at h
 split at h
 ·rename_i e
  obtain rfl:=Nat.eq_of_beq_eq_true e
  split at h
  ·unfold BL at h
   split at h
   ·cases h
    exact qK (M:=173) call116 kH (.inr ⟨_,rfl⟩) hK
   ·cases h
    exact qK (M:=173) call116 kH (.inl rfl) hK
   ·cases h
  ·cases h
 ·split at h
  ·rename_i e
   obtain rfl:=Nat.eq_of_beq_eq_true e
   split at h
   ·split at h
    ·rename_i e1
     obtain rfl:=Nat.eq_of_beq_eq_true e1
     split at h
     ·rename_i e2
      obtain rfl:=Nat.eq_of_beq_eq_true e2
      unfold BM at h
      split at h
      ·rename_i o t x ho
       split at h
       ·rename_i e3
        obtain rfl:=Nat.eq_of_beq_eq_true e3
        split at h
        ·cases h
         exact vo (K:=9) call115 ja xP ho hK
        ·split at h
         ·rename_i om m es bs n hom
          split at h
          ·rename_i ks hks
           split at h
           ·rename_i hok
            obtain ⟨k1,k2⟩:=Ab hok
            split at h
            ·rename_i hlen
             have hlen':=Nat.le_of_ble_eq_true hlen
             have l1:∀ s ∈ ks,s.length≤maxLen:=fun s hs=>by have:=k2 s hs;unfold big at this;unfold maxLen;omega
             refine tz (K:=9) (by kernel_rfl) call115 ja y7 ho hom hks k1 l1 (by unfold big at hlen';unfold maxLen;omega) (by unfold big at hlen';omega) (fun e0=>?_) (fun e0=>?_)
             ·subst e0;cases h;exact hK
             ·rw[yj k1]
              split at h
              ·exact absurd rfl e0
              ·cases h;exact hK
            ·cases h
           ·cases h
          ·cases h
         ·cases h
        ·cases h
       ·cases h
      ·cases h
     ·cases h
    ·cases h
   ·cases h
  ·exact AE A8 _ _ _ _ _ h K hK
end Go.Proofs.YtknegckgmklnhaaGreatDoor
namespace Go.Proofs.YtknegckgmklnhaaGreatDoor
open Go Go.CP
set_option maxRecDepth 100000
theorem uz:(kF Tryz.prog [116,115] Ad 100000 60 false 17 [] []).map (·.1)=some (.bool true):=by kernel_rfl
theorem mn {st:aa} {R:LV→aa→Prop} (h:R (.bool true) st):au Tryz.prog 17 [] st R:=r5 dB Ae uz rfl rfl h
section
variable {st:aa} {R:LV→aa→Prop}
theorem Af {k:Tx} {ns:List Tx} {j:Nat} (h:l6 k ns 0=some j):ixI k ns=(j:Nat)∧¬ ixI k ns<0:=by
 have e:ixI k ns=(j:Nat):=by unfold ixI;rw[h]
 exact ⟨e,by rw[e];omega⟩
theorem Ag {k:Tx} {ns:List Tx} (h:l6 k ns 0=none):ixI k ns = -1:=by unfold ixI;rw[h]
theorem yk {k:Tx}:∀ {es:List (Tx × T)} {i:Nat},match l6 k (es.map (·.1)) i with
  | none=>T.find es k=none
  | some j=>i≤j∧∃ t,es[j-i]?=some (k,t)∧T.find es k=some t
 | [],_=>rfl
 | e::es,i=>by
  obtain ⟨n,t⟩:=e
  simp only[List.map_cons,l6]
  by_cases h:n=k
  ·subst h
   simp only[if_true]
   exact ⟨Nat.le_refl _,t,by simp,by simp[T.find]⟩
  ·rw[if_neg h]
   have ih:=yk (k:=k) (es:=es) (i:=i+1)
   have e2:T.find ((n,t)::es) k=T.find es k:=by
    unfold T.find
    rw[List.find?_cons_of_neg (by simpa using h)]
   cases hx:l6 k (es.map (·.1)) (i+1) with
   | none=>rw[hx] at ih;rw[e2];exact ih
   | some j=>
    rw[hx] at ih
    obtain ⟨h1,t',h2,h3⟩:=ih
    refine ⟨by omega,t',?_,by rw[e2];exact h3⟩
    rw[show j-i=(j-(i+1))+1 by omega,List.getElem?_cons_succ]
    exact h2
theorem uA {k:Tx}:∀ {l:List AT} {i:Nat},match l6 k (l.map (·.nm)) i with
  | none=>iv k l=none
  | some j=>i≤j∧∃ a,l[j-i]?=some a∧iv k l=some a
 | [],_=>rfl
 | a::l,i=>by
  simp only[List.map_cons,l6,iv]
  by_cases h:a.nm=k
  ·simp only[h,if_true]
   exact ⟨Nat.le_refl _,a,by simp,rfl⟩
  ·rw[if_neg h,if_neg h]
   have ih:=uA (k:=k) (l:=l) (i:=i+1)
   cases hx:l6 k (l.map (·.nm)) (i+1) with
   | none=>rw[hx] at ih;exact ih
   | some j=>
    rw[hx] at ih
    obtain ⟨h1,t',h2,h3⟩:=ih
    refine ⟨by omega,t',?_,h3⟩
    rw[show j-i=(j-(i+1))+1 by omega,List.getElem?_cons_succ]
    exact h2
def oa (st:aa) (o:Nat) (n:Int) (l:List AT):Prop:=st[o]?=some (.cells .rw [i64 n,.isl (bCs l) l.length none])
theorem oa.l {o:Nat} {n:Int} {l:List AT} (h:oa st o n l):ld1 st (.ptr o 1)=some (.isl (bCs l) l.length none):=by rw[aM (show st[o]?=_ from h)];rfl
theorem oa.ldA {o:Nat} {n:Int} {l:List AT} (h:oa st o n l):ldA st (.ptr o 0) 2=some (bS n l):=by rw[eS (show st[o]?=_ from h) (by simp)];rfl
theorem A9 {n:Int} {l:List AT}:ej st (bS n l)=some (.ptr st.length 0,st++[.cells .rw [i64 n,.isl (bCs l) l.length none]]):=rfl
theorem Ah {l:List AT} {i:Nat} (h:i<l.length):bh 10 (.isl (bCs l) l.length none) (i64 i)=some (.iptr (bCs l) (i*10)):=gr h
theorem Ai:∀ {l:List AT} {i:Nat} {a:AT},l[i]?=some a→((bCs l).drop (i*10+2)).take 4=rkC a.ty∧i*10+10≤(bCs l).length
 | b::l,0,a,h=>by
  simp only[List.getElem?_cons_zero,Option.some.injEq] at h
  subst h
  refine ⟨?_,by rw[mh,List.length_cons];omega⟩
  rw[bCs,Nat.zero_mul,Nat.zero_add,List.drop_append_of_le_length (by rw[fO];omega),List.take_append_of_le_length (by simp[fO])]
  show ((rkC b.ty++_)).take 4=_
  rw[List.take_append_of_le_length (by rw[cR];omega),List.take_of_length_le (by rw[cR];omega)]
 | b::l,i+1,a,h=>by
  simp only[List.getElem?_cons_succ] at h
  obtain ⟨h1,h2⟩:=Ai h
  refine ⟨?_,by rw[mh] at h2 ⊢;rw[List.length_cons];omega⟩
  rw[bCs,show (i+1)*10+2=(bC b).length+(i*10+2) by rw[fO];omega,List.drop_append,List.drop_eq_nil_of_le (by omega),Nat.add_sub_cancel_left,List.nil_append]
  exact h1
theorem Ct {k:Tx} {o:Nat} {n:Int} {l:List AT} (hb:l.length≤big) (hbx:oa st o n l) (hR:R (i64 (ixI k (l.map (·.nm)))) st) :
  ∀ (d i:Nat),i+d=l.length→l6 k (l.map (·.nm)) 0=l6 k ((l.map (·.nm)).drop i) i→P40_3 (.str k) (.ptr o 0) (i64 i) R st:=by
 intro d
 induction d with
 | zero=>
  intro i hi hp
  refine p40_3 _ _ _ ?_
  have c1:¬ ((i:Int)<l.length):=by omega
  rw[List.drop_eq_nil_of_le (by simp;omega)] at hp
  rw[Ag hp] at hR
  simp only[w40_3,ao,Nat.zero_add,ab,hbx.l,ca,ag,aG,c1,decide_false,ae]
  exact hR
 | succ d ih=>
  intro i hi hp
  refine p40_3 _ _ _ ?_
  have hlt:i<l.length:=by omega
  have c1:((i:Int)<l.length):=by omega
  have hg:=xa (List.getElem?_eq_getElem hlt)
  have hd:(l.map (·.nm)).drop i=l[i].nm::(l.map (·.nm)).drop (i+1):=by rw[List.drop_eq_getElem_cons (by simpa using hlt)];simp
  generalize l[i].nm=n at hg hd
  simp only[w40_3,ao,Nat.zero_add,ab,hbx.l,ca,ag,aG,c1,decide_true,ah,Ah hlt,cx,Nat.add_zero,cQ,hg,bA,ct]
  rw[hd,l6] at hp
  by_cases h:n=k
  ·subst h
   rw[if_pos rfl] at hp
   rw[(Af hp).1] at hR
   simp only[beq_self_eq_true,ah]
   exact hR
  ·rw[if_neg h] at hp
   have e2:(n==k)=false:=by simpa using h
   simp only[e2,ae,aK,ab,aJ (show i<2 ^ 40 by unfold big at hb;omega)]
   exact ih (i+1) (by omega) hp
theorem Aj {n:Int} {l:List AT} (hb:l.length≤big) (k:Tx):Pu Tryz.prog 40 [bS n l,.str k] (i64 (ixI k (l.map (·.nm)))):=by
 refine Pu.of (c40 _ _ ?_) (by simp only[LV.aF,um];rfl) rfl
 simp only[w40,A9,ai,List.length_nil]
 have hbx:oa ([]++[al.cells .rw [i64 n,.isl (bCs l) l.length none]]) 0 n l:=aA
 exact Ct (R:=fun v s=>dp s (i64 (ixI k (l.map AT.nm))) v) (k:=k) hb hbx rfl l.length 0 (by omega) rfl
end
abbrev qw (u u':TypeId):List (Nat × List LV):=[(3,Lib.pow10Tab.map fun z=>.int .u64 z),(1,[.iface u .aQ]),(2,[.iface u' .aQ])]
theorem xc {u u':TypeId}:GlS (rX (qw u u')):=⟨by simp[rX,qw],⟨u,rfl⟩,⟨u',rfl⟩⟩
end Go.Proofs.YtknegckgmklnhaaGreatDoor
