/- Parts of the proof. -/
import Derived.Test.YtknegckgmklnhaaGreatDoorVbS
import Derived.Shelf.SortM.Plain
import Derived.Shelf.SortM.SortNone
import Derived.Ground.GgzProg
import Derived.Ground.SlgmProg
namespace Go.Proofs.YtknegckgmklnhaaGreatDoor
open Go Go.CP Classical
set_option maxRecDepth 100000
def fO {α β:Type} (p:α→β→Prop):List α→List β→Prop
 | [],[]=>True
 | a::l,b::m=>p a b∧fO p l m
 | _,_=>False
theorem fO.len {α β:Type} {p:α→β→Prop}:∀ {a:List α} {b:List β},fO p a b→a.length=b.length
 | [],[],_=>rfl
 | _::_,_::_,h=>by simp[fO.len h.2]
 | [],_::_,h=>h.elim
 | _::_,[],h=>h.elim
theorem fO.eq {α:Type}:∀ {a b:List α},fO (· = ·) a b↔a=b
 | [],[]=>by simp[fO]
 | _::_,_::_=>by simp[fO,fO.eq]
 | [],_::_=>by simp[fO]
 | _::_,[]=>by simp[fO]
theorem fO.drop {α β:Type} {p:α→β→Prop} {a:List α} {b:List β} {i:Nat} {x:α} {y:β} (hx:a[i]?=some x) (hy:b[i]?=some y):fO p (a.drop i) (b.drop i)↔p x y∧fO p (a.drop (i+1)) (b.drop (i+1)):=by
 obtain ⟨h1,h2⟩:=List.getElem?_eq_some_iff.1 hx
 obtain ⟨h3,h4⟩:=List.getElem?_eq_some_iff.1 hy
 rw[b6 h1,b6 h3,h2,h4]
 rfl
theorem tR {l:List T} {i:Nat} {t:T} {st:aa} (h:l[i]?=some t):ldA st (.iptr (fh l) (i*1)) 1=some (vT t):=by
 have hlt:=(List.getElem?_eq_some_iff.1 h).1
 rw[fk (by rw[tQ];omega)]
 congr 2
 rw[List.take_one,List.head?_drop,zP,Nat.mul_one,h]
 rfl
theorem eY {st:aa} {t:T} {x:LV}:stV (st++[ar.cells .rw [x]]) 1 (.ptr st.length 0) (vT t)=some (st++[ar.cells .rw [lvT t]]):=by
 have h:=fq (st:=st++[ar.cells .rw [x]]) (o:=st.length) (k:=0) (m:=.rw) (l:=[x]) (vs:=[lvT t]) (n:=1) ay (by simp) (by simp[mJ]) rfl
 refine h.trans ?_
 congr 1
 simp[cy]
theorem iH {st:aa} {t:T}:ldA (st++[ar.cells .rw [lvT t]]) (.ptr st.length 0) 1=some (vT t):=du ay (by simp)
theorem tS {st:aa} {t:T} {y:ar}:ldA (st++[ar.cells .rw [lvT t]]++[y]) (.ptr st.length 0) 1=some (vT t):=du (cb ay) (by simp)
theorem KB {p:T→T→Prop} {l l':List T} (hl:l.length=l'.length) (hb:l.length≤big) {g:FuncId} (hg:∀ (i:Nat) x y,l[i]?=some x→l'[i]?=some y→Pu Tryz.prog g [vT x,vT y] (.bool (decide (p x y)))) {R:LV→aa→Prop} :
  ∀ (d i:Nat) (st:aa),i+d=l.length→(∀ s,R (.bool (decide (fO p (l.drop i) (l'.drop i)))) s)→wE (vL l') (.fn (.func g) [] []) (vL l) (i64 l.length) (i64 i) R st:=by
 intro d
 induction d with
 | zero=>
  intro i st hi hR
  apply G1
  have:¬ ((i:Int)<l.length):=by omega
  simp only[wJ,ad,au,ab,aL]
  refine ⟨fun h=>absurd h this,fun _=>?_⟩
  have:=hR st
  rw[bR (by omega),bR (by omega)] at this
  rwa [decide_eq_true (by trivial)] at this
 | succ d ih=>
  intro i st hi hR
  apply G1
  have hlt:i<l.length:=by omega
  have hx:l[i]?=some l[i]:=bg hlt
  have hy:l'[i]?=some (l'[i]'(by omega)):=bg (by omega)
  generalize l[i]=x at hx
  generalize l'[i]'(by omega)=y at hy
  have e1:bn 1 (vL l) (i64 i)=some (.iptr (fh l) (i*1)):=cj hlt
  have e2:bn 1 (vL l') (i64 i)=some (.iptr (fh l') (i*1)):=cj (by omega)
  have e3:qe (.fn (.func g) [] []) [vT x,vT y]=some (g,[vT x,vT y]):=rfl
  have hd:=fO.drop (p:=p) hx hy
  simp only[wJ,ad,au,ab,aL,e1,e2,tR hx,tR hy,cv,eY,aA,af,iH,tS,e3]
  refine ⟨fun _=>?_,fun h=>absurd (by omega:(i:Int)<l.length) h⟩
  refine (hg i x y hx hy).call ?_
  simp only[bw,ab,aH,aK (show i<2 ^ 40 by unfold big at hb;omega),cd]
  refine ⟨fun h=>?_,fun h=>?_⟩
  ·have hp:¬ p x y:=by simpa using h
   have:=hR (st++[.cells .rw [lvT x]]++[.cells .rw [lvT y]])
   rwa [decide_eq_false (fun k=>hp (hd.1 k).1)] at this
  ·have hp:p x y:=by simpa using h
   refine ih (i+1) _ (by omega) fun s=>?_
   have:=hR s
   have e:fO p (l.drop i) (l'.drop i)=fO p (l.drop (i+1)) (l'.drop (i+1)):=propext (hd.trans ⟨fun k=>k.2,fun k=>⟨hp,k⟩⟩)
   rwa [e] at this
theorem KC {p:T→T→Prop} {l l':List T} (hl:l.length=l'.length) (hb:l.length≤big) {g:FuncId} (hg:∀ (i:Nat) x y,l[i]?=some x→l'[i]?=some y→Pu Tryz.prog g [vT x,vT y] (.bool (decide (p x y)))) {R:LV→aa→Prop} :
  ∀ (d i:Nat) (st:aa),i+d=l.length→(∀ s,R (.bool (decide (fO p (l.drop i) (l'.drop i)))) s)→wH (vL l') (.fn (.func g) [] []) (vL l) (i64 l.length) (i64 i) R st:=by
 intro d
 induction d with
 | zero=>
  intro i st hi hR
  apply G6
  have:¬ ((i:Int)<l.length):=by omega
  simp only[wN,ad,au,ab,aL]
  refine ⟨fun h=>absurd h this,fun _=>?_⟩
  have:=hR st
  rw[bR (by omega),bR (by omega)] at this
  rwa [decide_eq_true (by trivial)] at this
 | succ d ih=>
  intro i st hi hR
  apply G6
  have hlt:i<l.length:=by omega
  have hx:l[i]?=some l[i]:=bg hlt
  have hy:l'[i]?=some (l'[i]'(by omega)):=bg (by omega)
  generalize l[i]=x at hx
  generalize l'[i]'(by omega)=y at hy
  have e1:bn 1 (vL l) (i64 i)=some (.iptr (fh l) (i*1)):=cj hlt
  have e2:bn 1 (vL l') (i64 i)=some (.iptr (fh l') (i*1)):=cj (by omega)
  have e3:qe (.fn (.func g) [] []) [vT x,vT y]=some (g,[vT x,vT y]):=rfl
  have hd:=fO.drop (p:=p) hx hy
  simp only[wN,ad,au,ab,aL,e1,e2,tR hx,tR hy,cv,eY,aA,af,iH,tS,e3]
  refine ⟨fun _=>?_,fun h=>absurd (by omega:(i:Int)<l.length) h⟩
  refine (hg i x y hx hy).call ?_
  simp only[bw,ab,aH,aK (show i<2 ^ 40 by unfold big at hb;omega),cd]
  refine ⟨fun h=>?_,fun h=>?_⟩
  ·have hp:¬ p x y:=by simpa using h
   have:=hR (st++[.cells .rw [lvT x]]++[.cells .rw [lvT y]])
   rwa [decide_eq_false (fun k=>hp (hd.1 k).1)] at this
  ·have hp:p x y:=by simpa using h
   refine ih (i+1) _ (by omega) fun s=>?_
   have:=hR s
   have e:fO p (l.drop i) (l'.drop i)=fO p (l.drop (i+1)) (l'.drop (i+1)):=propext (hd.trans ⟨fun k=>k.2,fun k=>⟨hp,k⟩⟩)
   rwa [e] at this
theorem tT {l l':List T} {g:FuncId}:LV.aG [vL l,vL l',.fn (.func g) [] []]=true:=by simp[LV.aG,LV.plain]
theorem N3 {p:T→T→Prop} {l l':List T} (hb:l.length≤big) {g:FuncId} (hg:∀ (i:Nat) x y,l[i]?=some x→l'[i]?=some y→Pu Tryz.prog g [vT x,vT y] (.bool (decide (p x y)))) :
  Pu Tryz.prog 113 [vL l,vL l',.fn (.func g) [] []] (.bool (decide (fO p l l'))):=by
 refine Pu.of (QI _ _ _ ?_) tT rfl
 simp only[Nu,aU,ab,ad,bJ,cd]
 refine ⟨fun h=>?_,fun h=>?_⟩
 ·have hne:l.length≠l'.length:=fun e=>by simp[e] at h
  rw[decide_eq_false (fun k=>hne k.len)];rfl
 ·have he:l.length=l'.length:=by
   have h1:(l.length:Int)=l'.length:=by simpa using h
   omega
  exact KB he hb hg l.length 0 _ (by omega) fun s=>rfl
theorem N4 {p:T→T→Prop} {l l':List T} (hb:l.length≤big) {g:FuncId} (hg:∀ (i:Nat) x y,l[i]?=some x→l'[i]?=some y→Pu Tryz.prog g [vT x,vT y] (.bool (decide (p x y)))) :
  Pu Tryz.prog 122 [vL l,vL l',.fn (.func g) [] []] (.bool (decide (fO p l l'))):=by
 refine Pu.of (QP _ _ _ ?_) tT rfl
 simp only[NC,aU,ab,ad,bJ,cd]
 refine ⟨fun h=>?_,fun h=>?_⟩
 ·have hne:l.length≠l'.length:=fun e=>by simp[e] at h
  rw[decide_eq_false (fun k=>hne k.len)];rfl
 ·have he:l.length=l'.length:=by
   have h1:(l.length:Int)=l'.length:=by simpa using h
   omega
  exact KC he hb hg l.length 0 _ (by omega) fun s=>rfl
end Go.Proofs.YtknegckgmklnhaaGreatDoor
namespace Go.Proofs
open Go.Shelf
def Tryz.lW:Go.Shelf.Ren:=⟨fun|7=>116|10=>166|n=>n,fun|23=>173|26=>9|3=>57|28=>180|0=>0|27=>179|33=>38|4=>4|n=>n,fun|n=>n⟩
theorem Tryz.xC:Go.Proofs.SlLaysZ.n7 Tryz.prog Tryz.lW:={
 mixed:=by kernel_rfl
 f7:=⟨Tryz.f116.name,by decide,Tryz.func116.trans (congrArg some (by kernel_rfl))⟩
 f10:=⟨Tryz.f166.name,by decide,Tryz.func166.trans (congrArg some (by kernel_rfl))⟩
 t0:=Tryz.underlying0
 a0:=Tryz.isAgg0
 z0:=Tryz.sizeOf0
 v0:=Tryz.zeroValue0
 t4:=Tryz.underlying4
 a4:=Tryz.isAgg4
 z4:=Tryz.sizeOf4
 v4:=Tryz.zeroValue4
 t23:=Tryz.underlying173
 a23:=Tryz.isAgg173
 z23:=Tryz.sizeOf173
 v23:=Tryz.zeroValue173
 t26:=Tryz.underlying9
 a26:=Tryz.isAgg9
 z26:=Tryz.sizeOf9
 v26:=Tryz.zeroValue9
 t27:=Tryz.underlying179
 a27:=Tryz.isAgg179
 z27:=Tryz.sizeOf179
 v27:=Tryz.zeroValue179
 t28:=Tryz.underlying180
 a28:=Tryz.isAgg180
 z28:=Tryz.sizeOf180
 v28:=Tryz.zeroValue180
 t33:=Tryz.underlying38
 a33:=Tryz.isAgg38
 z33:=Tryz.sizeOf38
 v33:=Tryz.zeroValue38 }
def Tryz.np:Go.Shelf.Ren:=⟨fun|6=>115|8=>164|9=>165|11=>198|13=>200|12=>199|23=>255|24=>256|14=>246|15=>247|16=>248|17=>249|18=>250|19=>251|20=>252|21=>253|22=>254|25=>275|26=>276|27=>277|28=>278|29=>279|30=>280|31=>294|n=>n,fun|26=>9|28=>180|24=>26|0=>0|3=>3|37=>262|48=>312|50=>295|4=>4|40=>306|39=>305|45=>132|5=>5|9=>9|51=>330|55=>334|57=>349|58=>350|33=>38|n=>n,fun|n=>n⟩
theorem Tryz.FO:Go.Proofs.SlLaysZ.n6 Tryz.prog Tryz.np:={
 mixed:=by kernel_rfl
 f6:=⟨Tryz.f115.name,by decide,Tryz.func115.trans (congrArg some (by kernel_rfl))⟩
 f8:=⟨Tryz.f164.name,by decide,Tryz.func164.trans (congrArg some (by kernel_rfl))⟩
 f11:=⟨Tryz.f198.name,by decide,Tryz.func198.trans (congrArg some (by kernel_rfl))⟩
 t0:=Tryz.underlying0
 a0:=Tryz.isAgg0
 z0:=Tryz.sizeOf0
 v0:=Tryz.zeroValue0
 t24:=Tryz.underlying26
 a24:=Tryz.isAgg26
 z24:=Tryz.sizeOf26
 v24:=Tryz.zeroValue26
 t26:=Tryz.underlying9
 a26:=Tryz.isAgg9
 z26:=Tryz.sizeOf9
 v26:=Tryz.zeroValue9
 t28:=Tryz.underlying180
 a28:=Tryz.isAgg180
 z28:=Tryz.sizeOf180
 v28:=Tryz.zeroValue180
 i26:=by kernel_rfl }
def Tryz.zR:Go.Shelf.Ren:=⟨fun|6=>165|8=>200|9=>199|19=>255|20=>256|21=>246|22=>247|23=>248|24=>249|25=>250|26=>251|27=>252|28=>253|29=>254|36=>275|31=>276|32=>277|37=>278|38=>279|39=>280|41=>294|n=>n,fun|27=>26|29=>9|3=>3|32=>262|26=>26|0=>0|44=>312|46=>295|4=>4|36=>306|35=>305|41=>132|5=>5|9=>9|53=>330|57=>334|63=>349|64=>350|n=>n,fun|n=>n⟩
theorem Tryz.Ec:Go.Proofs.SlLaysM.n6 Tryz.prog Tryz.zR:={
 mixed:=by kernel_rfl
 f6:=⟨Tryz.f165.name,by decide,Tryz.func165.trans (congrArg some (by kernel_rfl))⟩
 f8:=Tryz.func200.trans (congrArg some (by kernel_rfl))
 f9:=⟨Tryz.f199.name,by decide,Tryz.func199.trans (congrArg some (by kernel_rfl))⟩
 f19:=Tryz.func255.trans (congrArg some (by kernel_rfl))
 f20:=Tryz.func256.trans (congrArg some (by kernel_rfl))
 f21:=⟨Tryz.f246.name,by decide,Tryz.func246.trans (congrArg some (by kernel_rfl))⟩
 f22:=⟨Tryz.f247.name,by decide,Tryz.func247.trans (congrArg some (by kernel_rfl))⟩
 f23:=⟨Tryz.f248.name,by decide,Tryz.func248.trans (congrArg some (by kernel_rfl))⟩
 f24:=⟨Tryz.f249.name,by decide,Tryz.func249.trans (congrArg some (by kernel_rfl))⟩
 f25:=⟨Tryz.f250.name,by decide,Tryz.func250.trans (congrArg some (by kernel_rfl))⟩
 f26:=⟨Tryz.f251.name,by decide,Tryz.func251.trans (congrArg some (by kernel_rfl))⟩
 f27:=⟨Tryz.f252.name,by decide,Tryz.func252.trans (congrArg some (by kernel_rfl))⟩
 f28:=⟨Tryz.f253.name,by decide,Tryz.func253.trans (congrArg some (by kernel_rfl))⟩
 f29:=⟨Tryz.f254.name,by decide,Tryz.func254.trans (congrArg some (by kernel_rfl))⟩
 f31:=Tryz.func276.trans (congrArg some (by kernel_rfl))
 f32:=Tryz.func277.trans (congrArg some (by kernel_rfl))
 f36:=⟨Tryz.f275.name,by decide,Tryz.func275.trans (congrArg some (by kernel_rfl))⟩
 f37:=⟨Tryz.f278.name,by decide,Tryz.func278.trans (congrArg some (by kernel_rfl))⟩
 f38:=⟨Tryz.f279.name,by decide,Tryz.func279.trans (congrArg some (by kernel_rfl))⟩
 f39:=⟨Tryz.f280.name,by decide,Tryz.func280.trans (congrArg some (by kernel_rfl))⟩
 f41:=⟨Tryz.f294.name,by decide,Tryz.func294.trans (congrArg some (by kernel_rfl))⟩
 t0:=Tryz.underlying0
 a0:=Tryz.isAgg0
 z0:=Tryz.sizeOf0
 v0:=Tryz.zeroValue0
 t3:=Tryz.underlying3
 a3:=Tryz.isAgg3
 z3:=Tryz.sizeOf3
 v3:=Tryz.zeroValue3
 t4:=Tryz.underlying4
 a4:=Tryz.isAgg4
 z4:=Tryz.sizeOf4
 v4:=Tryz.zeroValue4
 t5:=Tryz.underlying5
 a5:=Tryz.isAgg5
 z5:=Tryz.sizeOf5
 v5:=Tryz.zeroValue5
 t9:=Tryz.underlying9
 a9:=Tryz.isAgg9
 z9:=Tryz.sizeOf9
 v9:=Tryz.zeroValue9
 t26:=Tryz.underlying26
 a26:=Tryz.isAgg26
 z26:=Tryz.sizeOf26
 v26:=Tryz.zeroValue26
 t27:=Tryz.underlying26
 a27:=Tryz.isAgg26
 z27:=Tryz.sizeOf26
 v27:=Tryz.zeroValue26
 t29:=Tryz.underlying9
 a29:=Tryz.isAgg9
 z29:=Tryz.sizeOf9
 v29:=Tryz.zeroValue9
 t32:=Tryz.underlying262
 a32:=Tryz.isAgg262
 z32:=Tryz.sizeOf262
 v32:=Tryz.zeroValue262
 t35:=Tryz.underlying305
 a35:=Tryz.isAgg305
 z35:=Tryz.sizeOf305
 v35:=Tryz.zeroValue305
 t36:=Tryz.underlying306
 a36:=Tryz.isAgg306
 z36:=Tryz.sizeOf306
 v36:=Tryz.zeroValue306
 t41:=Tryz.underlying132
 a41:=Tryz.isAgg132
 z41:=Tryz.sizeOf132
 v41:=Tryz.zeroValue132
 t44:=Tryz.underlying312
 a44:=Tryz.isAgg312
 z44:=Tryz.sizeOf312
 v44:=Tryz.zeroValue312
 t46:=Tryz.underlying295
 a46:=Tryz.isAgg295
 z46:=Tryz.sizeOf295
 v46:=Tryz.zeroValue295
 t53:=Tryz.underlying330
 a53:=Tryz.isAgg330
 z53:=Tryz.sizeOf330
 v53:=Tryz.zeroValue330
 t57:=Tryz.underlying334
 a57:=Tryz.isAgg334
 z57:=Tryz.sizeOf334
 v57:=Tryz.zeroValue334
 t63:=Tryz.underlying349
 a63:=Tryz.isAgg349
 z63:=Tryz.sizeOf349
 v63:=Tryz.zeroValue349
 t64:=Tryz.underlying350
 a64:=Tryz.isAgg350
 z64:=Tryz.sizeOf350
 v64:=Tryz.zeroValue350 }
end Go.Proofs
namespace Go.Proofs.YtknegckgmklnhaaGreatDoor
open Go Go.CP Go.RowKit Go.Maps Go.Sort Go.Shelf
set_option maxRecDepth 100000
theorem Ic (m:Nat):AnyZ.SortsIn Tryz.prog Tryz.np Fence.wide m:=
 ⟨fun blk off cap ss W hH hblk hsz=>callsIn_wide.2 (AnyM.slices_Sort_string Tryz.Ec blk off cap ss W hH hblk hsz),
  fun p cap W=>callsIn_wide.2 (AnyM.slices_Sort_string_none Tryz.Ec p cap W)⟩
theorem gL (mb:Option Nat) (W:World):Calls Tryz.prog 116 #[.map mb] W fun e w'=>e=.returned (.func (.func 166) #[] #[.pointer (some ⟨W.heap.size,0,none⟩)])∧w'=W.alloc (.cells #[.map mb] 173):=
 callsIn_wide.1 (AnyZ.keys_in Tryz.xC Fence.wide 5 trivial rfl mb W)
theorem zS (Bm b nn:Nat) (D0:DataW Unit) (w:World) (h1:Bm<w.heap.size) (h2:w.cell? ⟨Bm,0,none⟩=some (.map (some b))) (h3:w.ownsMap Tryz.prog 9 FB b nn D0) :
  SeqGives Fence.wide 2 Tryz.prog 166 #[.pointer (some ⟨Bm,0,none⟩)] encStr (fun ss=>ss.Perm (strKeys D0)) (Maps.size D0) w:=
 AnyZ.keys_gives (ρ:=Tryz.lW) { Tryz.xC with } Fence.wide _ trivial rfl (by omega) Bm b nn D0 w h1 h2 h3
theorem fu (lb:Array Value) (S:List (List UInt8)→Prop) (N:Nat) (w:World) (hN:N≤maxLen) (hNb:N*16≤140737488355328) (hseq:SeqGives Fence.wide 2 Tryz.prog 166 lb encStr S N w) :
  Calls Tryz.prog 115 #[.func (.func 166) #[] lb] w fun e w'=>∃ (v:Value) (ss:List (List UInt8)),e=.returned v∧S ss∧
   w'.ownsRow w.heap.size 9 1 v ss.length ((ss.mergeSort (fun x y=>decide (x≤y))).map encStr)∧(v=.slice none 0 0↔ss=[])∧Below w.heap.size w w':=
 callsIn_wide.1 (AnyZ.sorted_in Tryz.FO Fence.wide 5 trivial trivial trivial trivial rfl (by omega) (Ic _) (enters_of Tryz.func165 (by kernel_rfl) rfl) 166 lb trivial (enters_of Tryz.func166 (by kernel_rfl) rfl) S N hN hNb w hseq)
theorem va {l:List (List UInt8)} (h:l.Pairwise ltB):l.mergeSort leB=l:=by
 refine List.mergeSort_of_pairwise (h.imp fun {a b} hab=>?_)
 unfold ltB at hab
 rw[bytesLess_eq] at hab
 simp only[leB,decide_eq_true_eq] at hab ⊢
 exact List.le_of_lt hab
theorem call116:cZ Tryz.prog 116:=⟨Tryz.f116,bG Tryz.f116,Tryz.func116,by kernel_rfl,by kernel_rfl⟩
theorem call115:cZ Tryz.prog 115:=⟨Tryz.f115,bG Tryz.f115,Tryz.func115,by kernel_rfl,by kernel_rfl⟩
theorem keys_map {es:List (List UInt8 × T)} (h:(T.map es).ok):Pu Tryz.prog 49 [vT (.map es)] (sL (es.map (·.1))):=by
 simp only[T.ok] at h
 obtain ⟨hb,hm,hp⟩:=h
 have hlen:∀ s ∈ es.map (·.1),s.length≤maxLen:=fun s hs=>by
  obtain ⟨e,he,rfl⟩:=List.mem_map.1 hs
  have:=(T.oT.1 hm e he).1
  unfold big at this;unfold maxLen;omega
 refine Pu.of (c49 _ ?_) (by simp[LV.aG,LV.plain]) (by simp only[LV.plain];exact bV (f:=LV.str) fun _ _=>rfl)
 show aw Tryz.prog 116 [.imap (es.map fun e=>.str e.1) (ji es)] [.cells .rw [lvT (.map es)]] _
 refine BD (M:=173) call116 gL ?_
 have hks:(es.map fun e=>LV.str e.1)=(es.map (·.1)).map .str:=by simp
 rw[hks]
 refine wD (K:=9) (by kernel_rfl) call115 fu zS (o:=1) (vs:=ji es) rfl (by simp[tP]) (ey hp) hlen (by rw[bH];unfold big at hb;unfold maxLen;omega) (by rw[bH];unfold big at hb;omega) (fun e=>?_) (fun e=>?_)
 ·rw[e];exact .inr (.inr ⟨.inr rfl,rfl,rfl⟩)
 ·rw[va hp]
  refine .inl ⟨_,0,_,.rw,_,rfl,rfl,rfl,by simp,?_⟩
  rw[List.drop_zero,List.take_length]
  exact bU _ (bV (f:=LV.str) (l:=es.map (·.1)) fun _ _=>rfl)
theorem vb (Bm:Nat) (w:World) (h1:Bm<w.heap.size) (h2:w.cell? ⟨Bm,0,none⟩=some (.map none)) :
  SeqGives Fence.wide 2 Tryz.prog 166 #[.pointer (some ⟨Bm,0,none⟩)] encStr (fun ss=>ss=[]) 0 w:=
 AnyZ.keys_gives_nil (ρ:=Tryz.lW) { Tryz.xC with } Fence.wide _ trivial rfl Bm w h1 h2
theorem FP {st:aa} {R:LV→aa→Prop} (h:∀ s,R .nils s):aw Tryz.prog 116 [.nilm] st fun v s=>aw Tryz.prog 115 [v] s R:=
 qt (M:=173) call116 gL (.inl rfl) (tg (K:=9) call115 fu vb ay (h _))
theorem mL {t:T} (h:t.ok):Pu Tryz.prog 49 [vT t] (sL t.keys):=by
 cases t with
 | map es=>exact keys_map h
 | _=>
  refine Pu.of (c49 _ ?_) (by simp[LV.aG,LV.plain]) rfl
  refine FP fun s=>?_
  exact .inr (.inr ⟨.inr rfl,rfl,rfl⟩)
theorem jV {t:T} (h:t.ok):Pu Tryz.prog 101 [vT t] (vL t.items):=by
 cases t with
 | map es=>
  have h':=h
  simp only[T.ok] at h'
  exact FN (ey h'.2.2) h'.1 (keys_map h)
 | list l=>simp only[T.ok] at h;exact Cf h.1
 | _=>
  refine Pu.of (Nr _ ?_) (by simp[LV.aG,LV.plain]) rfl
  refine (mL h).call ?_
  apply BE
  exact .inr (.inr ⟨.inr rfl,rfl,rfl⟩)
end Go.Proofs.YtknegckgmklnhaaGreatDoor
namespace Go.CP
open Go.ChangeShapes Go.WideShapes Go.ChangeAt Go.RowKit
section
variable {H:Type} {enc:TypeId × Value→H} {P:Program} {w0 w:World} {base:Nat} {sp:Nat→Bool} {held:Bool}
def xD (P:Program) (t:TypeId) (x:LV) (d:DataW H):Prop:=∃ n cs,x=(if cU P t=true then .agg cs else x)∧(cU P t=false→cs=[x])∧cJ P n t cs d
def r5 (P:Program):List TypeId→List LV→List (DataW H)→Prop
 | [],xs,ds=>xs=[]∧ds=[]
 | t::ts,xs,ds=>∃ x xs' d ds',xs=x::xs'∧ds=d::ds'∧xD P t x d∧r5 P ts xs' ds'
theorem tU {S:List TypeId} (hS:S.all (okT P S)=true):∀ {ts:List TypeId} {vs:List Value} {ds:List (DataW H)} {ps:List MemPlace},(∀ t ∈ ts,t ∈ S)→
  DataW.TrodAll enc P w base sp held ts vs ds ps→(∀ (j:Nat) t v,ts[j]?=some t→vs[j]?=some v→Value.okWide P w .any 0 t v)→
  ∃ xs,Rps (gI w) xs vs∧r5 P ts xs ds
 | [],vs,ds,ps,_,h,_=>by
  obtain ⟨rfl,rfl,_⟩:vs=[]∧ds=[]∧ps=[]:=by
   cases vs<;>cases ds<;>simp_all [DataW.TrodAll]
  exact ⟨[],rfl,rfl,rfl⟩
 | t::ts,vs,ds,ps,hts,h,hv=>by
  obtain ⟨v,vs',d,ds',p,q,rfl,rfl,rfl,⟨fuel,h1⟩,h2⟩:=trodAll_cons h
  have hval:=hv 0 t v rfl rfl
  obtain ⟨cs,p1,t1⟩:=mz hS fuel (hts t (by simp)) h1
  obtain ⟨xs,p2,t2⟩:=tU hS (fun t ht=>hts t (List.mem_cons_of_mem _ ht)) h2 (fun j t v a b=>hv (j+1) t v (by simpa using a) (by simpa using b))
  have hok:=List.all_eq_true.1 hS t (hts t (by simp))
  have one:∀ {u:Value},v=u→u.cells.toList=[u]→cU P t=false→∃ x,Rp (gI w) x v∧xD P t x d:=by
   intro u e hu hs
   subst e
   rw[hu] at p1
   obtain ⟨y,us,rfl,hy,e'⟩:∃ y us,cs=y::us∧Rp (gI w) y v∧us=[]:=by
    cases cs with
    | nil=>simp only[Rps] at p1;cases p1
    | cons y us=>
     obtain ⟨v',us',e1,e2,e3⟩:=p1
     simp only[List.cons.injEq] at e1
     obtain ⟨rfl,rfl⟩:=e1
     cases us with
     | nil=>exact ⟨y,[],rfl,e2,rfl⟩
     | cons z zs=>obtain ⟨_,_,e4,_⟩:=e3;cases e4
   subst e'
   exact ⟨y,hy,fuel,[y],by simp[hs],fun _=>rfl,t1⟩
  have arg:∃ x,Rp (gI w) x v∧xD P t x d:=by
   unfold okT at hok
   split at hok
   ·rename_i hu
    obtain ⟨b,rfl⟩:=okWide_bool hu hval
    exact one rfl rfl (by simp[cU,hu])
   ·rename_i k hu
    obtain ⟨b,rfl⟩:=okWide_int hu hval
    exact one rfl rfl (by simp[cU,hu])
   ·rename_i hu
    obtain ⟨b,rfl⟩:=okWide_string hu hval
    exact one rfl rfl (by simp[cU,hu])
   ·rename_i e hu
    obtain ⟨a,l,c,rfl⟩:=okWide_slice hu hval
    exact one rfl rfl (by simp[cU,hu])
   ·rename_i fs hu
    obtain ⟨us,rfl,_⟩:=okWide_struct hu hval
    exact ⟨.agg cs,⟨us.toList,rfl,p1⟩,fuel,cs,by simp[cU,hu],by simp[cU,hu],t1⟩
   ·cases hok
  obtain ⟨x,hx,tx⟩:=arg
  exact ⟨x::xs,⟨v,vs',rfl,hx,p2⟩,x,xs,d,ds',rfl,rfl,tx,t2⟩
end
theorem Rel.Rs {W:World} {gs:List (Nat × List LV)} (h:∀ p ∈ gs,Gl W p):∃ β,Rel W β (zq gs) W∧(gI W).le β:=by
 have hro:O5 (zq gs):=by
  intro y hy
  obtain ⟨p,_,rfl⟩:=List.mem_map.1 hy
  rfl
 refine ⟨⟨fun o=>match gs[o]? with
  | some p=>some ⟨p.1,0,match W.heap[p.1]? with
   | some (.cells c _ _)=>c.size
   | _=>0⟩
  | none=>none,(gI W).f,W.heap.size⟩,⟨Bw.refl _ _,?_,?_,?_,rfl,fun _ _ h=>h,fun o x b hx hr _=>(by simp[hro x (cr hx)] at hr)⟩,⟨fun _ _ e=>(by cases e),fun _ _ e=>e,rfl,fun _ _ e _=>e⟩⟩
 ·intro o ho
  have:gs[o]?=none:=List.getElem?_eq_none (by simpa[zq] using ho)
  simp only[this]
 ·intro o x hx
  unfold zq at hx
  rw[bT] at hx
  obtain ⟨p,hp,rfl⟩:=Option.map_eq_some_iff.1 hx
  obtain ⟨c,e,fz,hh,hl,hc⟩:=h p (cr hp)
  refine ⟨⟨p.1,0,c.size⟩,by simp only[hp,hh],c,e,fz,hh,by simp,Nat.le_of_eq hl,?_,(fun k=>by cases k),(by rintro t ⟨⟩),?_⟩
  ·intro i y hy
   obtain ⟨u,hu,r⟩:=hc i y hy
   exact ⟨u,by simpa using hu,r _⟩
  ·rintro g n ⟨⟩;exact ⟨rfl,rfl,hl.symm⟩
 ·intro o o' x x' b b' hx hr
  rw[hro x (cr hx)] at hr;cases hr
section
variable {H:Type} {enc:TypeId × Value→H} {P:Program}
theorem FQ {f:FuncId} {F:Func} {s:ChangeSpec} {apart fresh handsOn:Bool} {W:World} {args:Array Value} {ds gs:List (DataW H)} {before:List MemPlace} (S:List TypeId) (tb:TypeId)
  (hS:S.all (okT P S)=true) (hts:F.params.toList.all S.contains=true) (hlaid:laidOutB P=true) (hrd:(F.params.toList.all fun t=>P.readableRec t&&decide (t<P.types.size))=true)
  (hres:F.resultTypes.toList=[tb]) (htb:P.underlying tb=some .bool) (hsz:F.resultTypes.size=1) (hvs:s.vars=[])
  (hspec:∀ ds:List (DataW H),ds.length=F.params.toList.length→(s.fn H ds).results=[.lit (.bool true)]∧(s.fn H ds).args=ds∧(s.fn H ds).vars=[])
  (hfn:P.funcs[f]?=some F) (hbody:F.body.isSome=true) (hname:(F.name == "runtime.NumGoroutine")=false)
  (hval:∀ (j:Nat) t v,F.params[j]?=some t→args[j]?=some v→Value.okWide P W .any 0 t v)
  (hW:DataW.Whole enc P F.params.toList s.vars apart W args.toList ds gs before) (gl:List (Nat × List LV)) (hgl:∀ p ∈ gl,Gl W p)
  (law:∀ xs,r5 P F.params.toList xs ds→aw P f xs (zq gl) fun r _=>r=.bool true) :
  Calls P f args W fun e W'=>∃ v,e=.returned v∧s.post enc P F apart fresh handsOn false W args v W':=by
 have hW':=hW
 obtain ⟨p,q,hA,hV,rfl,hfz,hnd⟩:=hW
 rw[hvs] at hV
 obtain ⟨rfl,rfl⟩:=trodVars_none hV
 have hlen:=rf hA
 obtain ⟨e1,e2,e3⟩:=hspec (ds++[]) (by simpa using hlen)
 obtain ⟨β,hr,hle⟩:=Rel.Rs hgl
 obtain ⟨xs,hp,ht⟩:=tU hS (fun t h=>by simpa using List.all_eq_true.1 hts t h) hA (fun j t v a b=>hval j t v (by simpa using a) (by simpa using b))
 obtain ⟨bc,hbc⟩:=Option.isSome_iff_exists.1 hbody
 have hcall:=aw.law ⟨F,bc,hfn,hbc,hname⟩ (law xs ht) hr (hp.mono hle)
 refine hcall.mono fun e W' ⟨he,hb⟩=>?_
 have hlt:∀ x ∈ p,x.block<W.heap.size:=fun x hx=>hW'.lt x (List.mem_append.2 (.inl hx))
 refine ⟨_,he,ds,[],p++[],[],p,[],hW',?_,?_,?_,hb.frame _,fun h=>by cases h⟩
 ·rw[e1,hres,hsz]
  exact trodAll_cons_mk (shut_bool htb _) trodAll_mk0
 ·rw[e2,List.append_nil]
  exact nj hlaid hb hrd hA hlt
 ·rw[hvs,e3];rfl
end
end Go.CP
