/- Parts of the proof. -/
import Derived.Test.YtknegckgmklnhaaGreatDoorVaC
import Derived.Shelf.SortM.Plain
import Derived.Shelf.SortM.SortNone
import Derived.Ground.GgzProg
import Derived.Ground.SlgmProg
namespace Go.Proofs.YtknegckgmklnhaaGreatDoor
open Go Go.CP Classical
set_option maxRecDepth 100000
def fV {α β:Type} (p:α→β→Prop):List α→List β→Prop
 | [],[]=>True
 | a::l,b::m=>p a b∧fV p l m
 | _,_=>False
theorem fV.len {α β:Type} {p:α→β→Prop}:∀ {a:List α} {b:List β},fV p a b→a.length=b.length
 | [],[],_=>rfl
 | _::_,_::_,h=>by simp[fV.len h.2]
 | [],_::_,h=>h.elim
 | _::_,[],h=>h.elim
theorem fV.eq {α:Type}:∀ {a b:List α},fV (· = ·) a b↔a=b
 | [],[]=>by simp[fV]
 | _::_,_::_=>by simp[fV,fV.eq]
 | [],_::_=>by simp[fV]
 | _::_,[]=>by simp[fV]
theorem fV.drop {α β:Type} {p:α→β→Prop} {a:List α} {b:List β} {i:Nat} {x:α} {y:β} (hx:a[i]?=some x) (hy:b[i]?=some y):fV p (a.drop i) (b.drop i)↔p x y∧fV p (a.drop (i+1)) (b.drop (i+1)):=by
 obtain ⟨h1,h2⟩:=List.getElem?_eq_some_iff.1 hx
 obtain ⟨h3,h4⟩:=List.getElem?_eq_some_iff.1 hy
 rw[gH h1,gH h3,h2,h4]
 rfl
theorem xb {l:List T} {i:Nat} {t:T} {st:aa} (h:l[i]?=some t):ldA st (.iptr (dM l) (i*1)) 1=some (vT t):=by
 have hlt:=(List.getElem?_eq_some_iff.1 h).1
 rw[ie (by rw[kj];omega)]
 congr 2
 rw[List.take_one,List.head?_drop,nF,Nat.mul_one,h]
 rfl
theorem ft {st:aa} {t:T} {x:LV}:stV (st++[ah.cells .rw [x]]) 1 (.ptr st.length 0) (vT t)=some (st++[ah.cells .rw [lvT t]]):=by
 have h:=eg (st:=st++[ah.cells .rw [x]]) (o:=st.length) (k:=0) (m:=.rw) (l:=[x]) (vs:=[lvT t]) (n:=1) aH (by simp) (by simp[gr]) rfl
 refine h.trans ?_
 congr 1
 simp[bz]
theorem mB {st:aa} {t:T}:ldA (st++[ah.cells .rw [lvT t]]) (.ptr st.length 0) 1=some (vT t):=dJ aH (by simp)
theorem rG {st:aa} {t:T} {y:ah}:ldA (st++[ah.cells .rw [lvT t]]++[y]) (.ptr st.length 0) 1=some (vT t):=dJ (cb aH) (by simp)
theorem yJ {p:T→T→Prop} {l l':List T} (hl:l.length=l'.length) (hb:l.length≤big) {g:FuncId} (hg:∀ (i:Nat) x y,l[i]?=some x→l'[i]?=some y→Pu Tryz.prog g [vT x,vT y] (.bool (decide (p x y)))) {R:LV→aa→Prop} :
  ∀ (d i:Nat) (st:aa),i+d=l.length→(∀ s,R (.bool (decide (fV p (l.drop i) (l'.drop i)))) s)→pL (vL l') (.fn (.func g) [] []) (vL l) (i64 l.length) (i64 i) R st:=by
 intro d
 induction d with
 | zero=>
  intro i st hi hR
  apply wR
  have:¬ ((i:Int)<l.length):=by omega
  simp only[pO,an,aO,ae,a7]
  refine ⟨fun h=>absurd h this,fun _=>?_⟩
  have:=hR st
  rw[dy (by omega),dy (by omega)] at this
  rwa [decide_eq_true (by trivial)] at this
 | succ d ih=>
  intro i st hi hR
  apply wR
  have hlt:i<l.length:=by omega
  have hx:l[i]?=some l[i]:=bh hlt
  have hy:l'[i]?=some (l'[i]'(by omega)):=bh (by omega)
  generalize l[i]=x at hx
  generalize l'[i]'(by omega)=y at hy
  have e1:bo 1 (vL l) (i64 i)=some (.iptr (dM l) (i*1)):=dd hlt
  have e2:bo 1 (vL l') (i64 i)=some (.iptr (dM l') (i*1)):=dd (by omega)
  have e3:sA (.fn (.func g) [] []) [vT x,vT y]=some (g,[vT x,vT y]):=rfl
  have hd:=fV.drop (p:=p) hx hy
  simp only[pO,an,aO,ae,a7,e1,e2,xb hx,xb hy,dc,ft,aB,aj,mB,rG,e3]
  refine ⟨fun _=>?_,fun h=>absurd (by omega:(i:Int)<l.length) h⟩
  refine (hg i x y hx hy).call ?_
  simp only[dI,ae,bx,bO (show i<2 ^ 40 by unfold big at hb;omega),ec]
  refine ⟨fun h=>?_,fun h=>?_⟩
  ·have hp:¬ p x y:=by simpa using h
   have:=hR (st++[.cells .rw [lvT x]]++[.cells .rw [lvT y]])
   rwa [decide_eq_false (fun k=>hp (hd.1 k).1)] at this
  ·have hp:p x y:=by simpa using h
   refine ih (i+1) _ (by omega) fun s=>?_
   have:=hR s
   have e:fV p (l.drop i) (l'.drop i)=fV p (l.drop (i+1)) (l'.drop (i+1)):=propext (hd.trans ⟨fun k=>k.2,fun k=>⟨hp,k⟩⟩)
   rwa [e] at this
theorem tn {l l':List T} {g:FuncId}:LV.au [vL l,vL l',.fn (.func g) [] []]=true:=by simp[LV.au,LV.plain]
theorem AJ {p:T→T→Prop} {l l':List T} (hb:l.length≤big) {g:FuncId} (hg:∀ (i:Nat) x y,l[i]?=some x→l'[i]?=some y→Pu Tryz.prog g [vT x,vT y] (.bool (decide (p x y)))) :
  Pu Tryz.prog 113 [vL l,vL l',.fn (.func g) [] []] (.bool (decide (fV p l l'))):=by
 refine Pu.of (CO _ _ _ ?_) tn rfl
 simp only[AA,aP,ae,an,cU,ec]
 refine ⟨fun h=>?_,fun h=>?_⟩
 ·have hne:l.length≠l'.length:=fun e=>by simp[e] at h
  rw[decide_eq_false (fun k=>hne k.len)];rfl
 ·have he:l.length=l'.length:=by
   have h1:(l.length:Int)=l'.length:=by simpa using h
   omega
  exact yJ he hb hg l.length 0 _ (by omega) fun s=>rfl
end Go.Proofs.YtknegckgmklnhaaGreatDoor
namespace Go.Proofs
open Go.Shelf
def Tryz.iq:Go.Shelf.Ren:=⟨fun|7=>116|10=>166|n=>n,fun|23=>173|26=>9|3=>57|28=>180|0=>0|27=>179|33=>38|4=>4|n=>n,fun|n=>n⟩
theorem Tryz.pR:Go.Proofs.SlLaysZ.n7 Tryz.prog Tryz.iq:={
 mixed:=by kernel_rfl
 f7:=⟨Tryz.f116.name,by decide,Tryz.func116.trans (congrArg some (by kernel_rfl))⟩
 f10:=⟨Tryz.f166.name,by decide,Tryz.func166.trans (congrArg some (by kernel_rfl))⟩
 t0:=Tryz.underlying0
 a0:=Tryz.isAgg0
 z0:=Tryz.sizeOf0
 v0:=Tryz.zeroValue0
 t4:=Tryz.underlying4
 a4:=Tryz.isAgg4
 z4:=Tryz.sizeOf4
 v4:=Tryz.zeroValue4
 t23:=Tryz.underlying173
 a23:=Tryz.isAgg173
 z23:=Tryz.sizeOf173
 v23:=Tryz.zeroValue173
 t26:=Tryz.underlying9
 a26:=Tryz.isAgg9
 z26:=Tryz.sizeOf9
 v26:=Tryz.zeroValue9
 t27:=Tryz.underlying179
 a27:=Tryz.isAgg179
 z27:=Tryz.sizeOf179
 v27:=Tryz.zeroValue179
 t28:=Tryz.underlying180
 a28:=Tryz.isAgg180
 z28:=Tryz.sizeOf180
 v28:=Tryz.zeroValue180
 t33:=Tryz.underlying38
 a33:=Tryz.isAgg38
 z33:=Tryz.sizeOf38
 v33:=Tryz.zeroValue38 }
def Tryz.jf:Go.Shelf.Ren:=⟨fun|6=>115|8=>164|9=>165|11=>198|13=>200|12=>199|23=>255|24=>256|14=>246|15=>247|16=>248|17=>249|18=>250|19=>251|20=>252|21=>253|22=>254|25=>275|26=>276|27=>277|28=>278|29=>279|30=>280|31=>294|n=>n,fun|26=>9|28=>180|24=>26|0=>0|3=>3|37=>262|48=>312|50=>295|4=>4|40=>306|39=>305|45=>132|5=>5|9=>9|51=>330|55=>334|57=>349|58=>350|33=>38|n=>n,fun|n=>n⟩
theorem Tryz.vH:Go.Proofs.SlLaysZ.n6 Tryz.prog Tryz.jf:={
 mixed:=by kernel_rfl
 f6:=⟨Tryz.f115.name,by decide,Tryz.func115.trans (congrArg some (by kernel_rfl))⟩
 f8:=⟨Tryz.f164.name,by decide,Tryz.func164.trans (congrArg some (by kernel_rfl))⟩
 f11:=⟨Tryz.f198.name,by decide,Tryz.func198.trans (congrArg some (by kernel_rfl))⟩
 t0:=Tryz.underlying0
 a0:=Tryz.isAgg0
 z0:=Tryz.sizeOf0
 v0:=Tryz.zeroValue0
 t24:=Tryz.underlying26
 a24:=Tryz.isAgg26
 z24:=Tryz.sizeOf26
 v24:=Tryz.zeroValue26
 t26:=Tryz.underlying9
 a26:=Tryz.isAgg9
 z26:=Tryz.sizeOf9
 v26:=Tryz.zeroValue9
 t28:=Tryz.underlying180
 a28:=Tryz.isAgg180
 z28:=Tryz.sizeOf180
 v28:=Tryz.zeroValue180
 i26:=by kernel_rfl }
def Tryz.rH:Go.Shelf.Ren:=⟨fun|6=>165|8=>200|9=>199|19=>255|20=>256|21=>246|22=>247|23=>248|24=>249|25=>250|26=>251|27=>252|28=>253|29=>254|36=>275|31=>276|32=>277|37=>278|38=>279|39=>280|41=>294|n=>n,fun|27=>26|29=>9|3=>3|32=>262|26=>26|0=>0|44=>312|46=>295|4=>4|36=>306|35=>305|41=>132|5=>5|9=>9|53=>330|57=>334|63=>349|64=>350|n=>n,fun|n=>n⟩
theorem Tryz.uK:Go.Proofs.SlLaysM.n6 Tryz.prog Tryz.rH:={
 mixed:=by kernel_rfl
 f6:=⟨Tryz.f165.name,by decide,Tryz.func165.trans (congrArg some (by kernel_rfl))⟩
 f8:=Tryz.func200.trans (congrArg some (by kernel_rfl))
 f9:=⟨Tryz.f199.name,by decide,Tryz.func199.trans (congrArg some (by kernel_rfl))⟩
 f19:=Tryz.func255.trans (congrArg some (by kernel_rfl))
 f20:=Tryz.func256.trans (congrArg some (by kernel_rfl))
 f21:=⟨Tryz.f246.name,by decide,Tryz.func246.trans (congrArg some (by kernel_rfl))⟩
 f22:=⟨Tryz.f247.name,by decide,Tryz.func247.trans (congrArg some (by kernel_rfl))⟩
 f23:=⟨Tryz.f248.name,by decide,Tryz.func248.trans (congrArg some (by kernel_rfl))⟩
 f24:=⟨Tryz.f249.name,by decide,Tryz.func249.trans (congrArg some (by kernel_rfl))⟩
 f25:=⟨Tryz.f250.name,by decide,Tryz.func250.trans (congrArg some (by kernel_rfl))⟩
 f26:=⟨Tryz.f251.name,by decide,Tryz.func251.trans (congrArg some (by kernel_rfl))⟩
 f27:=⟨Tryz.f252.name,by decide,Tryz.func252.trans (congrArg some (by kernel_rfl))⟩
 f28:=⟨Tryz.f253.name,by decide,Tryz.func253.trans (congrArg some (by kernel_rfl))⟩
 f29:=⟨Tryz.f254.name,by decide,Tryz.func254.trans (congrArg some (by kernel_rfl))⟩
 f31:=Tryz.func276.trans (congrArg some (by kernel_rfl))
 f32:=Tryz.func277.trans (congrArg some (by kernel_rfl))
 f36:=⟨Tryz.f275.name,by decide,Tryz.func275.trans (congrArg some (by kernel_rfl))⟩
 f37:=⟨Tryz.f278.name,by decide,Tryz.func278.trans (congrArg some (by kernel_rfl))⟩
 f38:=⟨Tryz.f279.name,by decide,Tryz.func279.trans (congrArg some (by kernel_rfl))⟩
 f39:=⟨Tryz.f280.name,by decide,Tryz.func280.trans (congrArg some (by kernel_rfl))⟩
 f41:=⟨Tryz.f294.name,by decide,Tryz.func294.trans (congrArg some (by kernel_rfl))⟩
 t0:=Tryz.underlying0
 a0:=Tryz.isAgg0
 z0:=Tryz.sizeOf0
 v0:=Tryz.zeroValue0
 t3:=Tryz.underlying3
 a3:=Tryz.isAgg3
 z3:=Tryz.sizeOf3
 v3:=Tryz.zeroValue3
 t4:=Tryz.underlying4
 a4:=Tryz.isAgg4
 z4:=Tryz.sizeOf4
 v4:=Tryz.zeroValue4
 t5:=Tryz.underlying5
 a5:=Tryz.isAgg5
 z5:=Tryz.sizeOf5
 v5:=Tryz.zeroValue5
 t9:=Tryz.underlying9
 a9:=Tryz.isAgg9
 z9:=Tryz.sizeOf9
 v9:=Tryz.zeroValue9
 t26:=Tryz.underlying26
 a26:=Tryz.isAgg26
 z26:=Tryz.sizeOf26
 v26:=Tryz.zeroValue26
 t27:=Tryz.underlying26
 a27:=Tryz.isAgg26
 z27:=Tryz.sizeOf26
 v27:=Tryz.zeroValue26
 t29:=Tryz.underlying9
 a29:=Tryz.isAgg9
 z29:=Tryz.sizeOf9
 v29:=Tryz.zeroValue9
 t32:=Tryz.underlying262
 a32:=Tryz.isAgg262
 z32:=Tryz.sizeOf262
 v32:=Tryz.zeroValue262
 t35:=Tryz.underlying305
 a35:=Tryz.isAgg305
 z35:=Tryz.sizeOf305
 v35:=Tryz.zeroValue305
 t36:=Tryz.underlying306
 a36:=Tryz.isAgg306
 z36:=Tryz.sizeOf306
 v36:=Tryz.zeroValue306
 t41:=Tryz.underlying132
 a41:=Tryz.isAgg132
 z41:=Tryz.sizeOf132
 v41:=Tryz.zeroValue132
 t44:=Tryz.underlying312
 a44:=Tryz.isAgg312
 z44:=Tryz.sizeOf312
 v44:=Tryz.zeroValue312
 t46:=Tryz.underlying295
 a46:=Tryz.isAgg295
 z46:=Tryz.sizeOf295
 v46:=Tryz.zeroValue295
 t53:=Tryz.underlying330
 a53:=Tryz.isAgg330
 z53:=Tryz.sizeOf330
 v53:=Tryz.zeroValue330
 t57:=Tryz.underlying334
 a57:=Tryz.isAgg334
 z57:=Tryz.sizeOf334
 v57:=Tryz.zeroValue334
 t63:=Tryz.underlying349
 a63:=Tryz.isAgg349
 z63:=Tryz.sizeOf349
 v63:=Tryz.zeroValue349
 t64:=Tryz.underlying350
 a64:=Tryz.isAgg350
 z64:=Tryz.sizeOf350
 v64:=Tryz.zeroValue350 }
end Go.Proofs
namespace Go.Proofs.YtknegckgmklnhaaGreatDoor
open Go Go.CP Go.RowKit Go.Maps Go.Sort Go.Shelf
set_option maxRecDepth 100000
theorem xc (m:Nat):AnyZ.SortsIn Tryz.prog Tryz.jf Fence.wide m:=
 ⟨fun blk off cap ss W hH hblk hsz=>callsIn_wide.2 (AnyM.slices_Sort_string Tryz.uK blk off cap ss W hH hblk hsz),
  fun p cap W=>callsIn_wide.2 (AnyM.slices_Sort_string_none Tryz.uK p cap W)⟩
theorem ej (mb:Option Nat) (W:World):Calls Tryz.prog 116 #[.map mb] W fun e w'=>e=.returned (.func (.func 166) #[] #[.pointer (some ⟨W.heap.size,0,none⟩)])∧w'=W.alloc (.cells #[.map mb] 173):=
 callsIn_wide.1 (AnyZ.keys_in Tryz.pR Fence.wide 5 trivial rfl mb W)
theorem rI (Bm b nn:Nat) (D0:DataW Unit) (w:World) (h1:Bm<w.heap.size) (h2:w.cell? ⟨Bm,0,none⟩=some (.map (some b))) (h3:w.ownsMap Tryz.prog 9 vC b nn D0) :
  SeqGives Fence.wide 2 Tryz.prog 166 #[.pointer (some ⟨Bm,0,none⟩)] encStr (fun ss=>ss.Perm (strKeys D0)) (Maps.size D0) w:=
 AnyZ.keys_gives (ρ:=Tryz.iq) { Tryz.pR with } Fence.wide _ trivial rfl (by omega) Bm b nn D0 w h1 h2 h3
theorem dn (lb:Array Value) (S:List (List UInt8)→Prop) (N:Nat) (w:World) (hN:N≤maxLen) (hNb:N*16≤140737488355328) (hseq:SeqGives Fence.wide 2 Tryz.prog 166 lb encStr S N w) :
  Calls Tryz.prog 115 #[.func (.func 166) #[] lb] w fun e w'=>∃ (v:Value) (ss:List (List UInt8)),e=.returned v∧S ss∧
   w'.ownsRow w.heap.size 9 1 v ss.length ((ss.mergeSort (fun x y=>decide (x≤y))).map encStr)∧(v=.slice none 0 0↔ss=[])∧Below w.heap.size w w':=
 callsIn_wide.1 (AnyZ.sorted_in Tryz.vH Fence.wide 5 trivial trivial trivial trivial rfl (by omega) (xc _) (enters_of Tryz.func165 (by kernel_rfl) rfl) 166 lb trivial (enters_of Tryz.func166 (by kernel_rfl) rfl) S N hN hNb w hseq)
theorem oM {l:List (List UInt8)} (h:l.Pairwise ltB):l.mergeSort leB=l:=by
 refine List.mergeSort_of_pairwise (h.imp fun {a b} hab=>?_)
 unfold ltB at hab
 rw[bytesLess_eq] at hab
 simp only[leB,decide_eq_true_eq] at hab ⊢
 exact List.le_of_lt hab
theorem call116:cf Tryz.prog 116:=⟨Tryz.f116,aM Tryz.f116,Tryz.func116,by kernel_rfl,by kernel_rfl⟩
theorem call115:cf Tryz.prog 115:=⟨Tryz.f115,aM Tryz.f115,Tryz.func115,by kernel_rfl,by kernel_rfl⟩
theorem keys_map {es:List (List UInt8 × T)} (h:(T.map es).ok):Pu Tryz.prog 49 [vT (.map es)] (sL (es.map (·.1))):=by
 simp only[T.ok] at h
 obtain ⟨hb,hm,hp⟩:=h
 have hlen:∀ s ∈ es.map (·.1),s.length≤maxLen:=fun s hs=>by
  obtain ⟨e,he,rfl⟩:=List.mem_map.1 hs
  have:=(T.bX.1 hm e he).1
  unfold big at this;unfold maxLen;omega
 refine Pu.of (c49 _ ?_) (by simp[LV.au,LV.plain]) (by simp only[LV.plain];exact bF (f:=LV.str) fun _ _=>rfl)
 show ag Tryz.prog 116 [.imap (es.map fun e=>.str e.1) (dm es)] [.cells .rw [lvT (.map es)]] _
 refine ti (M:=173) call116 ej ?_
 have hks:(es.map fun e=>LV.str e.1)=(es.map (·.1)).map .str:=by simp
 rw[hks]
 refine pI (K:=9) (by kernel_rfl) call115 dn rI (o:=1) (vs:=dm es) rfl (by simp[kg]) (b6 hp) hlen (by rw[aU];unfold big at hb;unfold maxLen;omega) (by rw[aU];unfold big at hb;omega) (fun e=>?_) (fun e=>?_)
 ·rw[e];exact .inr (.inr ⟨.inr rfl,rfl,rfl⟩)
 ·rw[oM hp]
  refine .inl ⟨_,0,_,.rw,_,rfl,rfl,rfl,by simp,?_⟩
  rw[List.drop_zero,List.take_length]
  exact bq _ (bF (f:=LV.str) (l:=es.map (·.1)) fun _ _=>rfl)
theorem oN (Bm:Nat) (w:World) (h1:Bm<w.heap.size) (h2:w.cell? ⟨Bm,0,none⟩=some (.map none)) :
  SeqGives Fence.wide 2 Tryz.prog 166 #[.pointer (some ⟨Bm,0,none⟩)] encStr (fun ss=>ss=[]) 0 w:=
 AnyZ.keys_gives_nil (ρ:=Tryz.iq) { Tryz.pR with } Fence.wide _ trivial rfl Bm w h1 h2
theorem vI {st:aa} {R:LV→aa→Prop} (h:∀ s,R .nils s):ag Tryz.prog 116 [.nilm] st fun v s=>ag Tryz.prog 115 [v] s R:=
 lh (M:=173) call116 ej (.inl rfl) (nA (K:=9) call115 dn oN aH (h _))
theorem pS {t:T} (h:t.ok):Pu Tryz.prog 49 [vT t] (sL t.keys):=by
 cases t with
 | map es=>exact keys_map h
 | _=>
  refine Pu.of (c49 _ ?_) (by simp[LV.au,LV.plain]) rfl
  refine vI fun s=>?_
  exact .inr (.inr ⟨.inr rfl,rfl,rfl⟩)
theorem rJ {t:T} (h:t.ok):Pu Tryz.prog 101 [vT t] (vL t.items):=by
 cases t with
 | map es=>
  have h':=h
  simp only[T.ok] at h'
  exact vG (b6 h'.2.2) h'.1 (keys_map h)
 | list l=>simp only[T.ok] at h;exact tl h.1
 | _=>
  refine Pu.of (Ax _ ?_) (by simp[LV.au,LV.plain]) rfl
  refine (pS h).call ?_
  apply tj
  exact .inr (.inr ⟨.inr rfl,rfl,rfl⟩)
end Go.Proofs.YtknegckgmklnhaaGreatDoor
namespace Go.CP
open Go.ChangeShapes Go.WideShapes Go.ChangeAt Go.RowKit
section
variable {H:Type} {enc:TypeId × Value→H} {P:Program} {w0 w:World} {base:Nat} {sp:Nat→Bool} {held:Bool}
def pT (P:Program) (t:TypeId) (x:LV) (d:DataW H):Prop:=∃ n cs,x=(if bL P t=true then .agg cs else x)∧(bL P t=false→cs=[x])∧bI P n t cs d
def mD (P:Program):List TypeId→List LV→List (DataW H)→Prop
 | [],xs,ds=>xs=[]∧ds=[]
 | t::ts,xs,ds=>∃ x xs' d ds',xs=x::xs'∧ds=d::ds'∧pT P t x d∧mD P ts xs' ds'
theorem nG {S:List TypeId} (hS:S.all (okT P S)=true):∀ {ts:List TypeId} {vs:List Value} {ds:List (DataW H)} {ps:List MemPlace},(∀ t ∈ ts,t ∈ S)→
  DataW.TrodAll enc P w base sp held ts vs ds ps→(∀ (j:Nat) t v,ts[j]?=some t→vs[j]?=some v→Value.okWide P w .any 0 t v)→
  ∃ xs,Rps (dL w) xs vs∧mD P ts xs ds
 | [],vs,ds,ps,_,h,_=>by
  obtain ⟨rfl,rfl,_⟩:vs=[]∧ds=[]∧ps=[]:=by
   cases vs<;>cases ds<;>simp_all [DataW.TrodAll]
  exact ⟨[],rfl,rfl,rfl⟩
 | t::ts,vs,ds,ps,hts,h,hv=>by
  obtain ⟨v,vs',d,ds',p,q,rfl,rfl,rfl,⟨fuel,h1⟩,h2⟩:=trodAll_cons h
  have hval:=hv 0 t v rfl rfl
  obtain ⟨cs,p1,t1⟩:=iK hS fuel (hts t (by simp)) h1
  obtain ⟨xs,p2,t2⟩:=nG hS (fun t ht=>hts t (List.mem_cons_of_mem _ ht)) h2 (fun j t v a b=>hv (j+1) t v (by simpa using a) (by simpa using b))
  have hok:=List.all_eq_true.1 hS t (hts t (by simp))
  have one:∀ {u:Value},v=u→u.cells.toList=[u]→bL P t=false→∃ x,Rp (dL w) x v∧pT P t x d:=by
   intro u e hu hs
   subst e
   rw[hu] at p1
   obtain ⟨y,us,rfl,hy,e'⟩:∃ y us,cs=y::us∧Rp (dL w) y v∧us=[]:=by
    cases cs with
    | nil=>simp only[Rps] at p1;cases p1
    | cons y us=>
     obtain ⟨v',us',e1,e2,e3⟩:=p1
     simp only[List.cons.injEq] at e1
     obtain ⟨rfl,rfl⟩:=e1
     cases us with
     | nil=>exact ⟨y,[],rfl,e2,rfl⟩
     | cons z zs=>obtain ⟨_,_,e4,_⟩:=e3;cases e4
   subst e'
   exact ⟨y,hy,fuel,[y],by simp[hs],fun _=>rfl,t1⟩
  have arg:∃ x,Rp (dL w) x v∧pT P t x d:=by
   unfold okT at hok
   split at hok
   ·rename_i hu
    obtain ⟨b,rfl⟩:=okWide_bool hu hval
    exact one rfl rfl (by simp[bL,hu])
   ·rename_i k hu
    obtain ⟨b,rfl⟩:=okWide_int hu hval
    exact one rfl rfl (by simp[bL,hu])
   ·rename_i hu
    obtain ⟨b,rfl⟩:=okWide_string hu hval
    exact one rfl rfl (by simp[bL,hu])
   ·rename_i e hu
    obtain ⟨a,l,c,rfl⟩:=okWide_slice hu hval
    exact one rfl rfl (by simp[bL,hu])
   ·rename_i fs hu
    obtain ⟨us,rfl,_⟩:=okWide_struct hu hval
    exact ⟨.agg cs,⟨us.toList,rfl,p1⟩,fuel,cs,by simp[bL,hu],by simp[bL,hu],t1⟩
   ·cases hok
  obtain ⟨x,hx,tx⟩:=arg
  exact ⟨x::xs,⟨v,vs',rfl,hx,p2⟩,x,xs,d,ds',rfl,rfl,tx,t2⟩
end
theorem Rel.CS {W:World} {gs:List (Nat × List LV)} (h:∀ p ∈ gs,Gl W p):∃ β,Rel W β (wE gs) W∧(dL W).le β:=by
 have hro:BQ (wE gs):=by
  intro y hy
  obtain ⟨p,_,rfl⟩:=List.mem_map.1 hy
  rfl
 refine ⟨⟨fun o=>match gs[o]? with
  | some p=>some ⟨p.1,0,match W.heap[p.1]? with
   | some (.cells c _ _)=>c.size
   | _=>0⟩
  | none=>none,(dL W).f,W.heap.size⟩,⟨Bw.refl _ _,?_,?_,?_,rfl,fun _ _ h=>h,fun o x b hx hr _=>(by simp[hro x (cA hx)] at hr)⟩,⟨fun _ _ e=>(by cases e),fun _ _ e=>e,rfl,fun _ _ e _=>e⟩⟩
 ·intro o ho
  have:gs[o]?=none:=List.getElem?_eq_none (by simpa[wE] using ho)
  simp only[this]
 ·intro o x hx
  unfold wE at hx
  rw[bN] at hx
  obtain ⟨p,hp,rfl⟩:=Option.map_eq_some_iff.1 hx
  obtain ⟨c,e,fz,hh,hl,hc⟩:=h p (cA hp)
  refine ⟨⟨p.1,0,c.size⟩,by simp only[hp,hh],c,e,fz,hh,by simp,Nat.le_of_eq hl,?_,(fun k=>by cases k),(by rintro t ⟨⟩),?_⟩
  ·intro i y hy
   obtain ⟨u,hu,r⟩:=hc i y hy
   exact ⟨u,by simpa using hu,r _⟩
  ·rintro g n ⟨⟩;exact ⟨rfl,rfl,hl.symm⟩
 ·intro o o' x x' b b' hx hr
  rw[hro x (cA hx)] at hr;cases hr
section
variable {H:Type} {enc:TypeId × Value→H} {P:Program}
theorem vJ {f:FuncId} {F:Func} {s:ChangeSpec} {apart fresh handsOn:Bool} {W:World} {args:Array Value} {ds gs:List (DataW H)} {before:List MemPlace} (S:List TypeId) (tb:TypeId)
  (hS:S.all (okT P S)=true) (hts:F.params.toList.all S.contains=true) (hlaid:laidOutB P=true) (hrd:(F.params.toList.all fun t=>P.readableRec t&&decide (t<P.types.size))=true)
  (hres:F.resultTypes.toList=[tb]) (htb:P.underlying tb=some .bool) (hsz:F.resultTypes.size=1) (hvs:s.vars=[])
  (hspec:∀ ds:List (DataW H),ds.length=F.params.toList.length→(s.fn H ds).results=[.lit (.bool true)]∧(s.fn H ds).args=ds∧(s.fn H ds).vars=[])
  (hfn:P.funcs[f]?=some F) (hbody:F.body.isSome=true) (hname:(F.name == "runtime.NumGoroutine")=false)
  (hval:∀ (j:Nat) t v,F.params[j]?=some t→args[j]?=some v→Value.okWide P W .any 0 t v)
  (hW:DataW.Whole enc P F.params.toList s.vars apart W args.toList ds gs before) (gl:List (Nat × List LV)) (hgl:∀ p ∈ gl,Gl W p)
  (law:∀ xs,mD P F.params.toList xs ds→ag P f xs (wE gl) fun r _=>r=.bool true) :
  Calls P f args W fun e W'=>∃ v,e=.returned v∧s.post enc P F apart fresh handsOn false W args v W':=by
 have hW':=hW
 obtain ⟨p,q,hA,hV,rfl,hfz,hnd⟩:=hW
 rw[hvs] at hV
 obtain ⟨rfl,rfl⟩:=trodVars_none hV
 have hlen:=mc hA
 obtain ⟨e1,e2,e3⟩:=hspec (ds++[]) (by simpa using hlen)
 obtain ⟨β,hr,hle⟩:=Rel.CS hgl
 obtain ⟨xs,hp,ht⟩:=nG hS (fun t h=>by simpa using List.all_eq_true.1 hts t h) hA (fun j t v a b=>hval j t v (by simpa using a) (by simpa using b))
 obtain ⟨bc,hbc⟩:=Option.isSome_iff_exists.1 hbody
 have hcall:=ag.law ⟨F,bc,hfn,hbc,hname⟩ (law xs ht) hr (hp.mono hle)
 refine hcall.mono fun e W' ⟨he,hb⟩=>?_
 have hlt:∀ x ∈ p,x.block<W.heap.size:=fun x hx=>hW'.lt x (List.mem_append.2 (.inl hx))
 refine ⟨_,he,ds,[],p++[],[],p,[],hW',?_,?_,?_,hb.frame _,fun h=>by cases h⟩
 ·rw[e1,hres,hsz]
  exact trodAll_cons_mk (shut_bool htb _) trodAll_mk0
 ·rw[e2,List.append_nil]
  exact je hlaid hb hrd hA hlt
 ·rw[hvs,e3];rfl
end
end Go.CP
namespace Go.Proofs.YtknegckgmklnhaaGreatDoor
open Go Go.CP
set_option maxRecDepth 100000
inductive RV where
 | mk (k:Int) (b:Bool) (n m:Int) (s:List UInt8) (l:List RV) (ks:List (List UInt8))
namespace RV
def k:RV→Int|mk k _ _ _ _ _ _=>k
def b:RV→Bool|mk _ b _ _ _ _ _=>b
def n:RV→Int|mk _ _ n _ _ _ _=>n
def m:RV→Int|mk _ _ _ m _ _ _=>m
def s:RV→List UInt8|mk _ _ _ _ s _ _=>s
def l:RV→List RV|mk _ _ _ _ _ l _=>l
def ks:RV→List (List UInt8) | mk _ _ _ _ _ _ ks=>ks
theorem AK {r x:RV} (h:x ∈ r.l):SizeOf.sizeOf x<SizeOf.sizeOf r:=by
 cases r
 have:=List.sizeOf_lt_of_mem h
 simp only[l] at this
 simp;omega
theorem ind {p:RV→Prop} (h:∀ r,(∀ x ∈ r.l,p x)→p r):∀ (n:Nat) (r:RV),SizeOf.sizeOf r<n→p r
 | 0,_,hn=>by omega
 | n+1,r,hn=>h r fun x hx=>ind h n x (by have:=AK hx;omega)
end RV
abbrev sI (l:List (List UInt8)):LV:=.isl (l.map .str) l.length none
mutual
def rc:RV→List LV
 | .mk k b n m s l ks=>[i64 k,.bool b,i64 n,i64 m,.str s,.isl (rcs l) l.length none,sI ks]
def rcs:List RV→List LV
 | []=>[]
 | r::rs=>rc r++rcs rs
end
abbrev vR (r:RV):LV:=.agg (rc r)
abbrev rL (l:List RV):LV:=.isl (rcs l) l.length none
theorem ko {r:RV}:rc r=[i64 r.k,.bool r.b,i64 r.n,i64 r.m,.str r.s,rL r.l,sI r.ks]:=by cases r;rfl
theorem cG {r:RV}:(rc r).length=7:=by rw[ko];rfl
theorem pU:∀ {l:List RV},rcs l=(l.map rc).flatten
 | []=>rfl
 | r::rs=>by simp[rcs,pU (l:=rs)]
theorem uL {l:List RV}:(rcs l).length=l.length*7:=by
 rw[pU,j2 (c:=7) (by intro x h;obtain ⟨r,_,rfl⟩:=List.mem_map.1 h;exact cG)];simp
mutual
theorem rK:∀ {r:RV},LV.au (rc r)=true
 | .mk k b n m s l ks=>by
  simp only[rc,LV.au,LV.plain,Bool.true_and,Bool.and_true,aK]
  exact ⟨iP,bF fun _ _=>rfl⟩
theorem iP:∀ {l:List RV},LV.au (rcs l)=true
 | []=>rfl
 | r::rs=>by rw[rcs,jv,rK,iP];rfl
end
theorem dP {r:RV}:(vR r).plain=true:=by simp only[LV.plain,rK]
theorem fW {r:RV}:LV.au [vR r]=true:=by simp only[LV.au,dP,Bool.and_true]
mutual
def RV.ok:RV→Prop
 | .mk k _ n m s l ks=>((-9223372036854775808≤k∧k<9223372036854775808)∧(-9223372036854775808≤n∧n<9223372036854775808)∧(-9223372036854775808≤m∧m<9223372036854775808))∧
  s.length≤big∧l.length≤big∧(ks.length≤big∧∀ x ∈ ks,x.length≤big)∧RV.oks l
def RV.oks:List RV→Prop
 | []=>True
 | r::rs=>RV.ok r∧RV.oks rs
end
theorem RV.ei:∀ {l:List RV},RV.oks l↔∀ t ∈ l,t.ok
 | []=>by simp[RV.oks]
 | t::ts=>by simp[RV.oks,RV.ei (l:=ts)]
theorem RV.pV {r:RV} (h:r.ok):r.l.length≤big∧∀ x ∈ r.l,x.ok:=by
 cases r;simp only[RV.ok] at h;exact ⟨h.2.2.1,RV.ei.1 h.2.2.2.2⟩
theorem RV.B2 {r:RV} (h:r.ok):r.ks.length≤big∧∀ x ∈ r.ks,x.length≤big:=by
 cases r;simp only[RV.ok] at h;exact h.2.2.2.1
theorem yK {l:List RV} {i:Nat} {r:RV} (h:l[i]?=some r):((rcs l).drop (i*7)).take 7=rc r∧i*7+7≤(rcs l).length:=by
 have h1:(l.map rc)[i]?=some (rc r):=by simp[h]
 obtain ⟨e1,e2⟩:=ic (c:=7) (rows:=l.map rc) (by intro x h;obtain ⟨r,_,rfl⟩:=List.mem_map.1 h;exact cG) h1
 rw[pU]
 exact ⟨e1,by omega⟩
theorem fu {st:aa} {l:List RV} {i:Nat} {r:RV} (h:l[i]?=some r):ldA st (.iptr (rcs l) (i*7)) 7=some (vR r):=by
 obtain ⟨e1,e2⟩:=yK h
 rw[ie e2,e1]
def bA (st:aa) (o:Nat) (r:RV):Prop:=st[o]?=some (.cells .rw (rc r))
theorem bA.ldA {st:aa} {o:Nat} {r:RV} (h:bA st o r):ldA st (.ptr o 0) 7=some (vR r):=by
 rw[dJ h (by rw[cG];omega)]
 congr 2
 rw[List.drop_zero,List.take_of_length_le (by rw[cG];omega)]
theorem aF {d o k:Nat}:al d (.ptr o k)=some (.ptr o (k+d)):=rfl
theorem bA.ld {st:aa} {o i:Nat} {r:RV} {v:LV} (h:bA st o r) (hv:(rc r)[i]?=some v):ld1 st (.ptr o i)=some v:=by
 simp only[ld1,show st[o]?=_ from h,hv]
theorem bA.k {st:aa} {o:Nat} {r:RV} (h:bA st o r):ld1 st (.ptr o 0)=some (i64 r.k):=h.ld (by rw[ko];rfl)
theorem bA.b {st:aa} {o:Nat} {r:RV} (h:bA st o r):ld1 st (.ptr o 1)=some (.bool r.b):=h.ld (by rw[ko];rfl)
theorem bA.n {st:aa} {o:Nat} {r:RV} (h:bA st o r):ld1 st (.ptr o 2)=some (i64 r.n):=h.ld (by rw[ko];rfl)
theorem bA.m {st:aa} {o:Nat} {r:RV} (h:bA st o r):ld1 st (.ptr o 3)=some (i64 r.m):=h.ld (by rw[ko];rfl)
theorem bA.s {st:aa} {o:Nat} {r:RV} (h:bA st o r):ld1 st (.ptr o 4)=some (.str r.s):=h.ld (by rw[ko];rfl)
theorem bA.l {st:aa} {o:Nat} {r:RV} (h:bA st o r):ld1 st (.ptr o 5)=some (rL r.l):=h.ld (by rw[ko];rfl)
theorem bA.ks {st:aa} {o:Nat} {r:RV} (h:bA st o r):ld1 st (.ptr o 6)=some (sI r.ks):=h.ld (by rw[ko];rfl)
theorem eM {st:aa} {r:RV}:cn st (vR r)=some (.ptr st.length 0,st++[.cells .rw (rc r)]):=by cases r;rfl
theorem lq {a b:Int}:fG [i64 a,i64 b]=some (i64 (max a b)):=by
 simp only[fG,lI,uc]
 congr 2
 rw[Int.max_def]
 split<;>split<;>omega
theorem AL {a b:Int}:ot [i64 a,i64 b]=some (i64 (min a b)):=by
 simp only[ot,lI,ud]
 congr 2
 rw[Int.min_def]
 split<;>split<;>omega
theorem AM {r:RV} (hl:r.l.length≤big) (hrec:∀ x ∈ r.l,∃ n,Pu Tryz.prog 85 [vR x] (i64 n)) :
  ∀ (d i:Nat) (acc:Int),i+d=r.l.length→∃ n,∀ {st:aa} {R:LV→aa→Prop} {o:Nat},bA st o r→R (i64 n) st→uA (.ptr o 0) (i64 acc) (i64 i) R st:=by
 intro d
 induction d with
 | zero=>
  intro i acc hi
  refine ⟨acc,fun {st R o} hb hR=>?_⟩
  apply zp
  have:¬ ((i:Int)<r.l.length):=by omega
  simp only[uC,aF,av,ae,hb.l,aP,an,aO,a7]
  exact ⟨fun h=>absurd h this,fun _=>hR⟩
 | succ d ih=>
  intro i acc hi
  have hlt:i<r.l.length:=by omega
  have hx:r.l[i]?=some r.l[i]:=bh hlt
  obtain ⟨n1,h1⟩:=hrec _ (List.getElem_mem hlt)
  obtain ⟨n,hn⟩:=ih (i+1) (IntKind.i64.wrap (acc+n1)) (by omega)
  refine ⟨n,fun {st R o} hb hR=>?_⟩
  apply zp
  have e1:bo 7 (rL r.l) (i64 i)=some (.iptr (rcs r.l) (i*7)):=dd hlt
  simp only[uC,aF,av,ae,hb.l,aP,an,aO,a7,e1,fu hx]
  refine ⟨fun _=>h1.call ?_,fun h=>absurd (by omega:(i:Int)<r.l.length) h⟩
  simp only[bx,ae,bO (show i<2 ^ 40 by unfold big at hl;omega)]
  exact hn hb hR
theorem yL:∀ {r:RV},r.ok→∃ n,Pu Tryz.prog 85 [vR r] (i64 n):=fun {r}=>by
 refine RV.ind (p:=fun r=>r.ok→∃ n,Pu Tryz.prog 85 [vR r] (i64 n)) ?_ _ r (Nat.lt_succ_self _)
 intro r ih hr
 obtain ⟨hl,ho⟩:=RV.pV hr
 obtain ⟨n,hn⟩:=AM hl (fun x hx=>ih x hx (ho x hx)) r.l.length 0 1 (by omega)
 refine ⟨n,Pu.of (c85 _ ?_) fW rfl⟩
 simp only[w85,eM,aj]
 exact hn (R:=fun x s=>dp s (i64 n) x) rfl rfl
theorem AN {r:RV} (hl:r.l.length≤big) (hrec:∀ x ∈ r.l,∃ n,Pu Tryz.prog 86 [vR x] (i64 n)) :
  ∀ (d i:Nat) (acc:Int),i+d=r.l.length→∃ n,∀ {st:aa} {R:LV→aa→Prop} {o:Nat},bA st o r→R (i64 n) st→uB (.ptr o 0) (i64 acc) (i64 i) R st:=by
 intro d
 induction d with
 | zero=>
  intro i acc hi
  refine ⟨IntKind.i64.wrap (acc+1),fun {st R o} hb hR=>?_⟩
  apply zq
  have:¬ ((i:Int)<r.l.length):=by omega
  simp only[uD,aF,av,ae,hb.l,aP,an,aO,a7,bx]
  exact ⟨fun h=>absurd h this,fun _=>hR⟩
 | succ d ih=>
  intro i acc hi
  have hlt:i<r.l.length:=by omega
  have hx:r.l[i]?=some r.l[i]:=bh hlt
  obtain ⟨n1,h1⟩:=hrec _ (List.getElem_mem hlt)
  obtain ⟨n,hn⟩:=ih (i+1) (max acc n1) (by omega)
  refine ⟨n,fun {st R o} hb hR=>?_⟩
  apply zq
  have e1:bo 7 (rL r.l) (i64 i)=some (.iptr (rcs r.l) (i*7)):=dd hlt
  simp only[uD,aF,av,ae,hb.l,aP,an,aO,a7,e1,fu hx]
  refine ⟨fun _=>h1.call ?_,fun h=>absurd (by omega:(i:Int)<r.l.length) h⟩
  simp only[lq,bx,ae,bO (show i<2 ^ 40 by unfold big at hl;omega)]
  exact hn hb hR
theorem yM:∀ {r:RV},r.ok→∃ n,Pu Tryz.prog 86 [vR r] (i64 n):=fun {r}=>by
 refine RV.ind (p:=fun r=>r.ok→∃ n,Pu Tryz.prog 86 [vR r] (i64 n)) ?_ _ r (Nat.lt_succ_self _)
 intro r ih hr
 obtain ⟨hl,ho⟩:=RV.pV hr
 obtain ⟨n,hn⟩:=AN hl (fun x hx=>ih x hx (ho x hx)) r.l.length 0 0 (by omega)
 refine ⟨n,Pu.of (c86 _ ?_) fW rfl⟩
 simp only[w86,eM,aj]
 exact hn (R:=fun x s=>dp s (i64 n) x) rfl rfl
theorem uM {r:RV} (hl:r.l.length≤big) (hrec:∀ x ∈ r.l,∃ n,Pu Tryz.prog 24 [vR x] (i64 n)) :
  ∀ (d i:Nat) (acc:Int),i+d=r.l.length→∃ n,∀ {st:aa} {R:LV→aa→Prop} {o:Nat} {x4:LV},bA st o r→R (i64 n) st→rA (.ptr o 0) (i64 acc) x4 (i64 i) R st:=by
 intro d
 induction d with
 | zero=>
  intro i acc hi
  refine ⟨acc,fun {st R o x4} hb hR=>?_⟩
  apply wM
  have:¬ ((i:Int)<r.l.length):=by omega
  simp only[rD,aF,av,ae,hb.l,aP,an,aO,a7]
  exact ⟨fun h=>absurd h this,fun _=>hR⟩
 | succ d ih=>
  intro i acc hi
  have hlt:i<r.l.length:=by omega
  have hx:r.l[i]?=some r.l[i]:=bh hlt
  obtain ⟨n1,h1⟩:=hrec _ (List.getElem_mem hlt)
  obtain ⟨n,hn⟩:=ih (i+1) (IntKind.i64.wrap (acc+n1)) (by omega)
  by_cases h0:acc=0
  ·refine ⟨n,fun {st R o x4} hb hR=>?_⟩
   apply wM
   have e1:bo 7 (rL r.l) (i64 i)=some (.iptr (rcs r.l) (i*7)):=dd hlt
   have e2:(acc==0)=true:=by simp[h0]
   simp only[rD,aF,av,ae,hb.l,aP,an,aO,a7,b5,e2,a8,e1,fu hx]
   refine ⟨fun _=>h1.call ?_,fun h=>absurd (by omega:(i:Int)<r.l.length) h⟩
   simp only[bx,ae,bO (show i<2 ^ 40 by unfold big at hl;omega)]
   exact hn hb hR
  ·refine ⟨acc,fun {st R o x4} hb hR=>?_⟩
   apply wM
   have e2:(acc==0)=false:=by simp[h0]
   simp only[rD,aF,av,ae,hb.l,aP,an,aO,a7,b5,e2,ax]
   exact ⟨fun _=>hR,fun _=>hR⟩
theorem AO {r:RV} (hr:r.ok) (hrec:∀ x ∈ r.l,∃ n,Pu Tryz.prog 24 [vR x] (i64 n)) :
  ∀ (d i:Nat) (acc:Int),i+d=r.ks.length→∃ n,∀ {st:aa} {R:LV→aa→Prop} {o:Nat} {x5:LV},bA st o r→R (i64 n) st→uy (.ptr o 0) (i64 acc) (i64 i) x5 R st:=by
 intro d
 induction d with
 | zero=>
  intro i acc hi
  obtain ⟨n,hn⟩:=uM (RV.pV hr).1 hrec r.l.length 0 acc (by omega)
  refine ⟨n,fun {st R o x5} hb hR=>?_⟩
  apply wK
  have:¬ ((i:Int)<r.ks.length):=by omega
  simp only[rC,aF,av,ae,hb.ks,aP,an,aO,a7]
  exact ⟨fun h=>absurd h this,fun _=>hn hb hR⟩
 | succ d ih=>
  intro i acc hi
  have hlt:i<r.ks.length:=by omega
  have hx:(r.ks.map LV.str)[i*1]?=some (.str r.ks[i]):=by simp[hlt]
  by_cases h80:(i:Int)<80
  ·obtain ⟨n,hn⟩:=ih (i+1) (IntKind.i64.wrap (acc+max (IntKind.i64.wrap ((r.ks[i].length:Int)-300)) 0)) (by omega)
   refine ⟨n,fun {st R o x5} hb hR=>?_⟩
   apply wK
   have e1:bo 1 (sI r.ks) (i64 i)=some (.iptr (r.ks.map .str) (i*1)):=dd hlt
   simp only[rC,aF,av,ae,hb.ks,aP,an,aO,a7,e1,cm,hx,nt,jU,lq,bx,bO (show i<2 ^ 40 by omega)]
   exact ⟨fun _=>⟨fun _=>hn hb hR,fun h=>absurd h80 h⟩,fun h=>absurd (by omega:(i:Int)<r.ks.length) h⟩
  ·obtain ⟨n,hn⟩:=uM (RV.pV hr).1 hrec r.l.length 0 acc (by omega)
   refine ⟨n,fun {st R o x5} hb hR=>?_⟩
   apply wK
   simp only[rC,aF,av,ae,hb.ks,aP,an,aO,a7]
   exact ⟨fun _=>⟨fun h=>absurd h h80,fun _=>hn hb hR⟩,fun _=>hn hb hR⟩
theorem rM:∀ {r:RV},r.ok→∃ n,Pu Tryz.prog 24 [vR r] (i64 n):=fun {r}=>by
 refine RV.ind (p:=fun r=>r.ok→∃ n,Pu Tryz.prog 24 [vR r] (i64 n)) ?_ _ r (Nat.lt_succ_self _)
 intro r ih hr
 obtain ⟨hl,ho⟩:=RV.pV hr
 obtain ⟨n1,h1⟩:=yL hr
 obtain ⟨n2,h2⟩:=yM hr
 obtain ⟨n,hn⟩:=AO hr (fun x hx=>ih x hx (ho x hx)) r.ks.length 0 (IntKind.i64.wrap (IntKind.i64.wrap (IntKind.i64.wrap (IntKind.i64.wrap (max (IntKind.i64.wrap ((r.l.length:Int)-70)) 0+max (IntKind.i64.wrap ((r.ks.length:Int)-70)) 0)+max (IntKind.i64.wrap ((r.s.length:Int)-300)) 0)+max (IntKind.i64.wrap (n1-200)) 0)+max (IntKind.i64.wrap (n2-12)) 0)) (by omega)
 refine ⟨n,Pu.of (c24 _ ?_) fW rfl⟩
 have hb:bA ([]++[.cells .rw (rc r)]) ([]:aa).length r:=rfl
 simp only[w24,eM,aj,aF,av,ae,hb.l,hb.ks,hb.s,hb.ldA,aP,an,jU,bx,lq,nt]
 refine h1.call ⟨hb.ldA,hb.s,hb.ks,hb.l,?_⟩
 simp only[an,jU,bx,lq,ae]
 refine h2.call ⟨hb.s,hb.ks,hb.l,?_⟩
 simp only[an,jU,bx,lq,ae]
 exact hn (R:=fun x s=>dp s (i64 n) x) hb rfl
end Go.Proofs.YtknegckgmklnhaaGreatDoor
