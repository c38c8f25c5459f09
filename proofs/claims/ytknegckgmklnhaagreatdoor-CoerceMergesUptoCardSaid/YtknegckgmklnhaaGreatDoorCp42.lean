/- Parts of the proof. -/
import Derived.Test.YtknegckgmklnhaaGreatDoorCp33
namespace Go.CP
open Go.RowKit Go.Maps Go.Sort Go.Shelf Go.MapKept Go.WideElems
section
variable {w0 w:World} {β:Lay} {st:aa} {P:Program} {K:TypeId}
theorem Rel.BS {x:ah} {b:Bl} (h:Rel w0 β st w) (hrw:x.rw=false) (hf:∀ o y b',st[o]?=some y→y.rw=true→β o=some b'→b'.blk≠b.blk)
  (hx:OR w0.heap.size (β.put st.length b) w st.length x):Rel w0 (β.put st.length b) (st++[x]) w:=by
 have hle:β.le (β.put st.length b):=Lay.b8 (h.dom _ (Nat.le_refl _))
 have get:∀ {i:Nat} {z:ah},(st++[x])[i]?=some z→i<st.length∧st[i]?=some z∨i=st.length∧z=x:=by
  intro i z hz
  rcases Nat.lt_trichotomy i st.length with k|k|k
  ·rw[bD k] at hz;exact .inl ⟨k,hz⟩
  ·subst k;simp at hz;exact .inr ⟨rfl,hz.symm⟩
  ·rw[List.getElem?_eq_none (by simp;omega)] at hz;cases hz
 refine ⟨h.below,?_,?_,?_,h.base,h.froz,?_⟩
 ·intro o ho
  simp at ho
  rw[Lay.cW (by omega)];exact h.dom o (by omega)
 ·intro o y hy
  rcases get hy with ⟨k,g⟩ | ⟨rfl,rfl⟩
  ·exact (h.obj o y g).mono hle
  ·exact hx
 ·intro o o' y y' b1 b2 hy hyr hy' hyl hne h1 h2
  rcases get hy with ⟨k,g⟩ | ⟨rfl,rfl⟩
  ·rw[Lay.cW (by omega)] at h1
   rcases get hy' with ⟨k',g'⟩ | ⟨rfl,rfl⟩
   ·rw[Lay.cW (by omega)] at h2
    exact h.sep o o' y y' b1 b2 g hyr g' hyl hne h1 h2
   ·rw[Lay.aQ] at h2;cases h2
    exact hf o y b1 g hyr h1
  ·rw[hrw] at hyr;cases hyr
 ·intro o y b1 hy hyr h1
  rcases get hy with ⟨k,g⟩ | ⟨rfl,rfl⟩
  ·rw[Lay.cW (by omega)] at h1
   exact h.sepf o y b1 g hyr h1
  ·rw[hrw] at hyr;cases hyr
theorem Rel.BT {ks vs:List LV} {v:Value} (h:Rel w0 β st w) (hv:Rp β (.imap ks vs) v) (hl:ks.length=vs.length) :
  ∃ (es:List (LV × LV)) (bs:List Nat) (n b:Nat),es.Perm (ks.zip vs)∧v=.map (some b)∧Rel w0 (β.put st.length ⟨b,0,0⟩) (st++[.map .ro es bs n]) w:=by
 obtain ⟨b,us,ws,rfl,r1,r2,hF⟩:=hv
 obtain ⟨es,clk,es',h1,h2,h3,h4⟩:=hF.entries r1 r2 hl
 have hh:=h.froz _ _ h1
 have hle:β.le (β.put st.length ⟨b,0,0⟩):=Lay.b8 (h.dom _ (Nat.le_refl _))
 refine ⟨es',es.toList.map (·.born),clk,b,h3,rfl,h.BS rfl ?_ ?_⟩
 ·intro o y b' hy hyr hb' e
  have:=h.sepf o y b' hy hyr hb'
  rw[e] at this
  rw[this] at h1;cases h1
 ·exact ⟨_,Lay.aQ,es,hh,h4.mono hle,(fun k=>by cases k),h2,rfl⟩
theorem mf:∀ {es:List (LV × LV)} {ss:List (List UInt8)},es.map (·.1)=ss.map .str→fB es=some ss
 | [],ss,h=>by cases ss<;>simp_all [fB]
 | e::es,ss,h=>by
  cases ss with
  | nil=>simp at h
  | cons a ss=>
   obtain ⟨k,v⟩:=e
   simp only[List.map_cons,List.cons.injEq] at h
   obtain ⟨rfl,h⟩:=h
   simp[fB,mf h]
theorem ti {a g:FuncId} {M:TypeId} {ks vs:List LV} {R:LV→aa→Prop} (hc:cf P a)
  (hk:∀ (mb:Option Nat) (w:World),Calls P a #[.map mb] w fun e w'=>e=.returned (.func (.func g) #[] #[.pointer (some ⟨w.heap.size,0,none⟩)])∧w'=w.alloc (.cells #[.map mb] M))
  (hR:R (.fn (.func g) [] [.ptr st.length 0]) (st++[.cells (.bt M) [.imap ks vs]])):ag P a [.imap ks vs] st R:=by
 refine .inl ⟨hc,fun w0 β w vs h1 h2=>?_⟩
 obtain ⟨v,us,rfl,hv,hus⟩:=h2
 simp only[Rps] at hus;subst hus
 have hv0:=hv
 obtain ⟨b,_,_,rfl,_⟩:=hv
 refine (hk (some b) w).mono ?_
 rintro e w' ⟨rfl,rfl⟩
 have hle:β.le (β.put st.length ⟨w.heap.size,0,1⟩):=Lay.b8 (h1.dom _ (Nat.le_refl _))
 refine ⟨_,_,_,_,hR,rfl,⟨[],[_],rfl,rfl,_,_,rfl,⟨_,Lay.aQ,rfl⟩,rfl⟩,(h1.grow _).push (b:=⟨w.heap.size,0,1⟩) ?_ ?_ fun _=>h1.fresh,hle⟩
 ·intro o y b' hy hl hb'
  obtain ⟨b'',hb'',hlt⟩:=(h1.obj o y hy).live hl
  rw[hb'] at hb'';cases hb''
  show b'.blk≠w.heap.size
  omega
 ·refine ⟨_,Lay.aQ,#[.map (some b)],M,(0,0),by simp[cR],by simp,by simp,?_,?_⟩
  ·intro i y hy
   cases i with
   | zero=>simp at hy;subst hy;exact ⟨_,rfl,hv0.mono hle⟩
   | succ i=>simp at hy
  ·refine ⟨fun _=>⟨h1.below.size,fun j _=>by omega⟩,?_,?_⟩
   ·rintro t ⟨⟩;exact ⟨rfl,rfl⟩
   ·rintro _ _ ⟨⟩
theorem pI {c g:FuncId} {M:TypeId} {R:LV→aa→Prop} (hK:P.underlying K=some .string) (hc:cf P c)
  (hsort:∀ (lb:Array Value) (S:List (List UInt8)→Prop) (N:Nat) (w:World),N≤maxLen→N*16≤140737488355328→SeqGives Fence.wide 2 P g lb Go.Proofs.encStr S N w→
   Calls P c #[.func (.func g) #[] lb] w fun e w'=>∃ (v:Value) (ss:List (List UInt8)),e=.returned v∧S ss∧
    w'.ownsRow w.heap.size K 1 v ss.length ((ss.mergeSort (fun x y=>decide (x≤y))).map Go.Proofs.encStr)∧(v=.slice none 0 0↔ss=[])∧Below w.heap.size w w')
  (hgives:∀ (Bm b nn:Nat) (D0:DataW Unit) (w:World),Bm<w.heap.size→w.cell? ⟨Bm,0,none⟩=some (.map (some b))→w.ownsMap P K vC b nn D0→
   SeqGives Fence.wide 2 P g #[.pointer (some ⟨Bm,0,none⟩)] Go.Proofs.encStr (fun ss=>ss.Perm (strKeys D0)) (Maps.size D0) w)
  {o:Nat} {vs:List LV} {ks:List (List UInt8)} (ho:st[o]?=some (.cells (.bt M) [.imap (ks.map .str) vs])) (hl:ks.length=vs.length) (hnd:ks.Nodup)
  (hlen:∀ s ∈ ks,s.length≤maxLen) (hn:ks.length≤maxLen) (hn':ks.length*16≤140737488355328)
  (hR0:ks=[]→R .nils st) (hR1:ks≠[]→R (.sl st.length 0 ks.length (.rest 1)) (st++[.cells .rw ((ks.mergeSort leB).map .str)])):ag P c [.fn (.func g) [] [.ptr o 0]] st R:=by
 refine .inl ⟨hc,fun w0 β w vs h1 h2=>?_⟩
 obtain ⟨v,us,rfl,hv,hus⟩:=h2
 simp only[Rps] at hus;subst hus
 obtain ⟨fs,cs,rfl,hfs,hcs⟩:=hv
 simp only[Rps] at hfs;subst hfs
 obtain ⟨pv,us',rfl,⟨b,hb,rfl⟩,hus'⟩:=hcs
 simp only[Rps] at hus';subst hus'
 obtain ⟨b2,hb2,cc,e,fz,hh,_,_,hcell,hmd⟩:=h1.obj o _ ho
 rw[hb] at hb2;cases hb2
 have hbase:b.base=0:=(hmd.2.1 M rfl).2
 obtain ⟨u,hu,hru⟩:=hcell 0 _ rfl
 obtain ⟨es,bs,n,bm,hep,rfl,hrel⟩:=h1.BT hru (by simpa using hl)
 rw[hbase] at hu ⊢
 have hlt:b.blk<w.heap.size:=by rcases Nat.lt_or_ge b.blk w.heap.size with k|k;exact k;simp[Array.getElem?_eq_none k] at hh
 have hfst:(es.map (·.1)).Perm (ks.map .str):=by
  have h0:=hep.map (·.1)
  have hz:((ks.map LV.str).zip vs).map (·.1)=ks.map .str:=List.map_fst_zip (by simp[hl])
  rwa [hz] at h0
 obtain ⟨ks',hkp,hke⟩:=kT (f:=LV.str) hfst rfl
 obtain ⟨D0,hown,hperm,hsz⟩:=hrel.uv hK (o:=st.length) (b:=⟨bm,0,0⟩) aH Lay.aQ (mf hke.symm) (hkp.nodup_iff.2 hnd) (fun s hs=>hlen s (hkp.mem_iff.1 hs)) (by rw[hkp.length_eq];exact hn)
 have hg:=hgives b.blk bm ks'.length D0 w hlt (by simp only[World.cell?,hh];exact hu) hown
 refine (hsort _ _ _ w (by rw[hsz,hkp.length_eq];exact hn) (by rw[hsz,hkp.length_eq];exact hn') hg).mono ?_
 rintro e' w' ⟨r,ss,rfl,hss,hrow,hnil,hbel⟩
 have hbw:Bw w.heap.size w w':=⟨hbel⟩
 have hpk:ss.Perm ks:=(hss.trans hperm).trans hkp
 rcases Nat.eq_zero_or_pos ks.length with hz|hz
 ·have hk0:ks=[]:=List.eq_nil_of_length_eq_zero hz
  subst hk0
  have:ss=[]:=List.eq_nil_of_length_eq_zero (by rw[hpk.length_eq];rfl)
  exact ⟨β,.nils,st,_,hR0 rfl,rfl,hnil.2 this,h1.ed hbw,Lay.le.refl _⟩
 ·have hk1:ks≠[]:=by rintro rfl;simp at hz
  have hs1:ss≠[]:=by rintro rfl;have:=hpk.length_eq;simp at this;omega
  rcases hrow.2 with ⟨rfl,_⟩ | ⟨gb,cap,cur,rfl,hgb,hgh,hc1,hc2,hc3,hc4⟩
  ·exact absurd (hnil.1 rfl) hs1
  have hle:β.le (β.put st.length ⟨gb,0,cap⟩):=Lay.b8 (h1.dom _ (Nat.le_refl _))
  have hms:ss.mergeSort leB=ks.mergeSort leB:=mergeSort_of_perm hpk
  have hl:ss.length=ks.length:=hpk.length_eq
  rw[Nat.mul_one] at hc3 hc4
  refine ⟨_,_,_,_,hR1 hk1,rfl,⟨⟨gb,0,cap⟩,Lay.aQ,?_,?_⟩,(h1.ed hbw).push (b:=⟨gb,0,cap⟩) ?_ ?_ fun _=>h1.ur (by show w.heap.size≤gb;omega),hle⟩
  ·show ks.length≤(cap-0) / 1
   rw[Nat.div_one];omega
  ·show Value.slice _ _ _=Value.slice _ _ ((cap-0) / 1)
   rw[Nat.div_one,hl];rfl
  ·intro o y b' hy hl hb'
   obtain ⟨b'',hb'',hlt⟩:=(h1.obj o y hy).live hl
   rw[hb'] at hb'';cases hb''
   show b'.blk≠gb
   omega
  ·refine ⟨_,Lay.aQ,cur,K,(0,0),hgh,by rw[hc3];simp,by simp only[aU,List.length_mergeSort];omega,?_,?_⟩
   ·intro i y hy
    rw[bN] at hy
    obtain ⟨s,hs,rfl⟩:=Option.map_eq_some_iff.1 hy
    refine ⟨.string ⟨⟨s⟩⟩,?_,rfl⟩
    have hi:i<ss.length:=by
     have:=(List.getElem?_eq_some_iff.1 hs).1
     rw[List.length_mergeSort] at this;omega
    have e1:(cur.toList.take ss.length)[i]?=some (Go.Proofs.encStr s):=by
     rw[hc4,bN]
     show Option.map _ ((ss.mergeSort leB)[i]?)=_
     rw[hms,hs];rfl
    rw[List.getElem?_take_of_lt hi] at e1
    show cur[0+i]?=_
    rw[av,← Array.getElem?_toList,e1]
   ·exact ⟨fun _=>⟨Nat.le_trans h1.below.size hgb,fun j _=>by omega⟩,(by rintro t ⟨⟩),(by rintro _ _ ⟨⟩)⟩
theorem nA {c g:FuncId} {M:TypeId} {R:LV→aa→Prop} (hc:cf P c)
  (hsort:∀ (lb:Array Value) (S:List (List UInt8)→Prop) (N:Nat) (w:World),N≤maxLen→N*16≤140737488355328→SeqGives Fence.wide 2 P g lb Go.Proofs.encStr S N w→
   Calls P c #[.func (.func g) #[] lb] w fun e w'=>∃ (v:Value) (ss:List (List UInt8)),e=.returned v∧S ss∧
    w'.ownsRow w.heap.size K 1 v ss.length ((ss.mergeSort (fun x y=>decide (x≤y))).map Go.Proofs.encStr)∧(v=.slice none 0 0↔ss=[])∧Below w.heap.size w w')
  (hgives:∀ (Bm:Nat) (w:World),Bm<w.heap.size→w.cell? ⟨Bm,0,none⟩=some (.map none)→SeqGives Fence.wide 2 P g #[.pointer (some ⟨Bm,0,none⟩)] Go.Proofs.encStr (fun ss=>ss=[]) 0 w)
  {o:Nat} (ho:st[o]?=some (.cells (.bt M) [.nilm])) (hR0:R .nils st):ag P c [.fn (.func g) [] [.ptr o 0]] st R:=by
 refine .inl ⟨hc,fun w0 β w vs h1 h2=>?_⟩
 obtain ⟨v,us,rfl,hv,hus⟩:=h2
 simp only[Rps] at hus;subst hus
 obtain ⟨fs,cs,rfl,hfs,hcs⟩:=hv
 simp only[Rps] at hfs;subst hfs
 obtain ⟨pv,us',rfl,⟨b,hb,rfl⟩,hus'⟩:=hcs
 simp only[Rps] at hus';subst hus'
 obtain ⟨b2,hb2,cc,e,fz,hh,_,_,hcell,hmd⟩:=h1.obj o _ ho
 rw[hb] at hb2;cases hb2
 have hbase:b.base=0:=(hmd.2.1 M rfl).2
 obtain ⟨u,hu,hru⟩:=hcell 0 _ rfl
 simp only[Rp] at hru;subst hru
 rw[hbase] at hu ⊢
 have hlt:b.blk<w.heap.size:=by rcases Nat.lt_or_ge b.blk w.heap.size with k|k;exact k;simp[Array.getElem?_eq_none k] at hh
 have hg:=hgives b.blk w hlt (by simp only[World.cell?,hh];exact hu)
 refine (hsort _ _ _ w (Nat.zero_le _) (by omega) hg).mono ?_
 rintro e' w' ⟨r,ss,rfl,hss,hrow,hnil,hbel⟩
 subst hss
 exact ⟨β,.nils,st,_,hR0,rfl,hnil.2 rfl,h1.ed ⟨hbel⟩,Lay.le.refl _⟩
theorem rl {f:FuncId} {fn:Func} {t:TypeId} {ks vs:List LV} {R:LV→aa→Prop} (hf:P.funcs[f]?=some fn) (hname:(fn.name == "runtime.NumGoroutine")=false) (hb:fn.body.isNone=true) (hn:Extern.findNext fn=none)
  (he:Extern.find fn=some Extern.MapsClone.clone) (hl:ks.length=vs.length)
  (hR:∀ (es:List (LV × LV)) (bs:List Nat) (n:Nat),es.Perm (ks.zip vs)→R (.iface t (.map st.length)) (st++[.map .rw es bs n])):ag P f [.iface t (.imap ks vs)] st R:=by
 refine qq.eP hf hname hb hn he fun w0 β w vs h1 h2=>?_
 obtain ⟨v,us,rfl,r1,rfl⟩:=h2
 obtain ⟨u,rfl,hu⟩:=r1
 obtain ⟨es,bs,n,b,hp,rfl,hrel⟩:=h1.BT hu hl
 obtain ⟨c,hh,hes,hst,hbs⟩:=hrel.gw (o:=st.length) aH Lay.aQ
 obtain ⟨_,us0,ws0,e0,r1,r2,hF⟩:=hu
 cases e0
 obtain ⟨es1,clk1,es',k1,k2,k3,k4⟩:=hF.entries r1 r2 hl
 have hh1:=h1.froz _ _ k1
 have hle:β.le (β.put st.length ⟨w.heap.size,0,0⟩):=Lay.b8 (h1.dom _ (Nat.le_refl _))
 refine ⟨.iface t (.map (some w.heap.size)),w.alloc (.map es1 clk1),?_,_,_,_,hR es' (es1.toList.map (·.born)) clk1 k3,⟨_,rfl,_,Lay.aQ,rfl⟩,(h1.grow _).push (b:=⟨w.heap.size,0,0⟩) ?_ ?_ fun _=>h1.fresh,hle⟩
 ·show ((getObj b >>= fun o=>match o with
   | .map entries clock=>(newObj (.map entries clock) >>= fun r=>pure (.iface t (.map (some r))))
   | _=>stuck "maps.clone: a map expected"):Sem Value).run P w=_
  simp only[ad,MapKept.run_getObj_map hh1,ab,run_newObj,ao]
  rfl
 ·intro o y b' hy hl hb'
  obtain ⟨b'',hb'',hlt⟩:=(h1.obj o y hy).live hl
  rw[hb'] at hb'';cases hb''
  show b'.blk≠w.heap.size
  omega
 ·exact ⟨_,Lay.aQ,es1,by simp[cR],k4.mono hle,fun _=>h1.below.size,k2,rfl⟩
end
end Go.CP
namespace Go.CP
structure Pu (P:Program) (f:FuncId) (xs:List LV) (v:LV):Prop where
 call:∀ {st:aa} {R:LV→aa→Prop},R v st→ag P f xs st R
theorem Pu.of {P:Program} {f:FuncId} {xs:List LV} {v:LV} (h:ag P f xs [] fun r s=>dp s v r) (hx:LV.au xs=true) (hv:v.plain=true):Pu P f xs v:=
 ⟨fun hR=>ag.deep h hx hv hR⟩
theorem bF {α:Type} {f:α→LV}:∀ {l:List α},(∀ a ∈ l,(f a).plain=true)→LV.au (l.map f)=true
 | [],_=>rfl
 | a::l,h=>by simp only[List.map_cons,LV.au,h a (by simp),bF (l:=l) fun b hb=>h b (by simp[hb]),Bool.true_and]
theorem jv:∀ {a b:List LV},LV.au (a++b)=(LV.au a&&LV.au b)
 | [],b=>by simp[LV.au]
 | x::a,b=>by simp only[List.cons_append,LV.au,jv (a:=a),Bool.and_assoc]
theorem uw {st:aa}:∀ {a b:List LV},dps st a b→b.length=a.length
 | [],b,h=>by simp only[dps] at h;subst h;rfl
 | x::a,b,h=>by obtain ⟨r,rs,rfl,_,h⟩:=h;simp[uw h]
theorem ux {st:aa}:∀ {a b c d:List LV},dps st a c→dps st b d→dps st (a++b) (c++d)
 | [],_,c,_,h,k=>by simp only[dps] at h;subst h;exact k
 | _::_,_,_,_,h,k=>by obtain ⟨r,rs,rfl,h1,h2⟩:=h;exact ⟨r,rs++_,by simp,h1,ux h2 k⟩
theorem eY {st:aa} {f:Option Nat} {sz n:Nat} {cs cs':List LV} {m0:Md} (h:bH m0 st f sz n cs) (hm:m0.w=true) (hd:dps st cs' cs):dp st (.isl cs' n none) (osl f sz n):=by
 obtain ⟨hl,h⟩:=h
 have hl':=uw hd
 cases f with
 | none=>
  simp only at h;subst h
  refine .inr (.inr ⟨.inr rfl,rfl,?_⟩)
  exact List.eq_nil_of_length_eq_zero (by omega)
 | some o=>
  obtain ⟨rest,ho⟩:=h
  refine .inl ⟨o,0,.rest sz,_,_,rfl,ho,hm,by simp;omega,?_⟩
  have:((cs++rest).drop 0).take cs'.length=cs:=by rw[← hl'];simp
  rw[this];exact hd
theorem dd {sz len:Nat} {cs:List LV} {cap:Option Nat} {k:IntKind} {i:Nat} (h:i<len):bo sz (.isl cs len cap) (.int k (i:Int))=some (.iptr cs (i*sz)):=by
 show (if 0≤(i:Int)∧(i:Int)<len then some (LV.iptr cs ((i:Int).toNat*sz)) else none)=_
 rw[if_pos ⟨by omega,by omega⟩]
 simp
@[simp] theorem cm {st:aa} {cs:List LV} {k:Nat}:ld1 st (.iptr cs k)=cs[k]?:=rfl
@[simp] theorem aP {cs:List LV} {n:Nat} {c:Option Nat}:bj (.isl cs n c)=some (.int .i64 n):=rfl
@[simp] theorem wG {cs:List LV} {k:Nat}:dS (.iptr cs k)=some (.iptr cs k):=rfl
@[simp] theorem Af {cs:List LV} {k d:Nat}:al d (.iptr cs k)=some (.iptr cs (k+d)):=rfl
@[simp] theorem BU {b:Bool} {cs:List LV} {k:Nat}:jH b (.iptr cs k) .nilp=some false:=rfl
@[simp] theorem BV {b:Bool} {cs:List LV} {k:Nat}:jH b .nilp (.iptr cs k)=some false:=rfl
theorem ie {st:aa} {cs:List LV} {k n:Nat} (h:k+n≤cs.length):ldA st (.iptr cs k) n=some (.agg ((cs.drop k).take n)):=if_pos h
theorem wH {st:aa} {cs:List LV} {n sz:Nat} {c:Option Nat} (h:cs.length=n*sz):fF st sz (.isl cs n c)=some (n,cs):=if_pos h
theorem ag.BW {P:Program} {f:FuncId} {cs:List LV} {st:aa} {R:LV→aa→Prop} (hc:cf P f) (h1:ag P f [.nils] st R) (h2:ag P f [.emp] st R):ag P f [.isl cs 0 none] st R:=by
 have k1:=(h1.body hc).2
 have k2:=(h2.body hc).2
 refine .inl ⟨hc,fun w0 β w vs hr hv=>?_⟩
 obtain ⟨v,us,rfl,hv,hu⟩:=hv
 obtain ⟨_,_,a,c,rfl,_,_,hF⟩:=hv
 cases a with
 | none=>
  refine k1 w0 β w _ hr ⟨_,_,rfl,?_,hu⟩
  rcases hF with ⟨_,hz⟩ | ⟨_,_,e,_⟩
  ·rw[hz rfl];rfl
  ·cases e
 | some a=>exact k2 w0 β w _ hr ⟨_,_,rfl,⟨a,c,rfl⟩,hu⟩
theorem rn {cs:List LV} {n:Nat} {c:Option Nat} (h:0<n):sr (.isl cs n c) .nils=some false:=if_pos h
theorem rp {st:aa} {cs:List LV} {n sz bytes:Nat} {m0:Md} (hn:0<n) (hl:cs.length=n*sz) (hb:dB n bytes=true) (hm:m0.w=true) (hp:LV.au cs=true) {R:LV→aa→Prop}
  (hR:∀ r s,dp s (.isl cs n none) r→R r s):bd2 (aY (st++[.cells .rw []]) sz bytes m0 (.sl st.length 0 0 (.ex 0)) (.isl cs n none)) R:=by
 unfold aY
 rw[wH hl]
 simp only[if_neg (Nat.ne_of_gt hn)]
 have hg:(st++[ah.cells .rw []])[st.length]?=some (.cells .rw []):=by simp
 simp only[hg,av]
 rw[if_neg (by omega),if_pos ⟨hb,by simp⟩]
 simp only[bd2,Nat.zero_mul,List.drop_zero,List.take_zero,bw]
 refine hR _ _ (.inl ⟨_,0,_,m0,cs,rfl,by simp,hm,by simp,?_⟩)
 simpa using bq _ hp
end Go.CP
namespace Go.CP
inductive T where
 | null|unknown
 | bool (b:Bool)
 | int (n:Int)
 | point (a b:Int)
 | text (s:List UInt8)
 | list (l:List T)
 | map (es:List (List UInt8 × T))
namespace T
def kind:T→Int
 | null=>0
 | unknown=>1
 | bool _=>2
 | int _=>3
 | point _ _=>4
 | text _=>5
 | list _=>6
 | map _=>7
def keys:T→List (List UInt8)
 | map es=>es.map (·.1)
 | _=>[]
def items:T→List T
 | list l=>l
 | map es=>es.map (·.2)
 | _=>[]
theorem eZ {t x:T} (h:x ∈ t.items):SizeOf.sizeOf x<SizeOf.sizeOf t:=by
 cases t<;>simp only[items,List.not_mem_nil] at h
 ·have:=List.sizeOf_lt_of_mem h
  simp;omega
 ·obtain ⟨e,he,rfl⟩:=List.mem_map.1 h
  have h1:=List.sizeOf_lt_of_mem he
  obtain ⟨k,v⟩:=e
  simp at h1 ⊢;omega
end T
def fb (n:Int):Nat:=FloatKind.f64.nearest n
abbrev ltB (a b:List UInt8):Prop:=Op.bytesLess a b=true
def big:Nat:=2 ^ 30
mutual
def T.ok:T→Prop
 | .int n=>-9223372036854775808≤n∧n<9223372036854775808
 | .point a b=>(-9007199254740992≤a∧a≤9007199254740992)∧(-9007199254740992≤b∧b≤9007199254740992)
 | .text s=>s.length≤big
 | .list l=>l.length≤big∧T.oks l
 | .map es=>es.length≤big∧T.okm es∧(es.map (·.1)).Pairwise ltB
 | _=>True
def T.oks:List T→Prop
 | []=>True
 | t::ts=>T.ok t∧T.oks ts
def T.okm:List (List UInt8 × T)→Prop
 | []=>True
 | e::es=>(e.1.length≤big∧T.ok e.2)∧T.okm es
end
theorem T.ei:∀ {l:List T},T.oks l↔∀ t ∈ l,t.ok
 | []=>by simp[T.oks]
 | t::ts=>by simp[T.oks,T.ei (l:=ts)]
theorem T.bX:∀ {l:List (List UInt8 × T)},T.okm l↔∀ e ∈ l,e.1.length≤big∧e.2.ok
 | []=>by simp[T.okm]
 | t::ts=>by simp[T.okm,T.bX (l:=ts)]
theorem oJ:∀ x:List UInt8,Op.bytesLess x x=false
 | []=>rfl
 | a::x=>by simp[Op.bytesLess,oJ x]
theorem eA:∀ {x y z:List UInt8},Op.bytesLess x y=true→Op.bytesLess y z=true→Op.bytesLess x z=true
 | _,_,[],_,h=>by simp[Op.bytesLess] at h
 | _,[],_::_,h,_=>by simp[Op.bytesLess] at h
 | [],_::_,_::_,_,_=>rfl
 | a::x,b::y,c::z,h,k=>by
  simp only[Op.bytesLess,Bool.or_eq_true,decide_eq_true_eq,aK,beq_iff_eq,UInt8.lt_iff_toNat_lt] at h k ⊢
  rcases h with h|⟨rfl,h⟩
  ·rcases k with k|⟨rfl,k⟩
   ·left;omega
   ·left;exact h
  ·rcases k with k|⟨rfl,k⟩
   ·left;exact k
   ·right;exact ⟨rfl,eA h k⟩
theorem nB:∀ {x y:List UInt8},Op.bytesLess x y=false→Op.bytesLess y x=false→x=y
 | [],[],_,_=>rfl
 | [],_::_,h,_=>by simp[Op.bytesLess] at h
 | _::_,[],_,h=>by simp[Op.bytesLess] at h
 | a::x,b::y,h,k=>by
  simp only[Op.bytesLess,Bool.or_eq_false_iff,decide_eq_false_iff_not,Bool.and_eq_false_iff,UInt8.lt_iff_toNat_lt] at h k
  have e:a=b:=UInt8.toNat_inj.1 (by omega)
  subst e
  simp only[beq_self_eq_true,Bool.true_eq_false,false_or] at h k
  rw[nB h.2 k.2]
theorem ig {a b:List UInt8} (h:ltB a b):a≠b:=fun e=>by subst e;unfold ltB at h;rw[oJ] at h;cases h
theorem b6 {l:List (List UInt8)} (h:l.Pairwise ltB):l.Nodup:=h.imp ig
def T.find (es:List (List UInt8 × T)) (k:List UInt8):Option T:=(es.find? fun e=>e.1==k).map (·.2)
def T.at (t:T) (k:List UInt8):Option T:=match t with
 | .map es=>T.find es k
 | _=>none
theorem T.fR {t:T} (h:t.ok):∀ x ∈ t.items,x.ok:=by
 cases t<;>simp only[T.items,List.not_mem_nil,false_implies,implies_true]
 ·simp only[T.ok] at h;exact T.ei.1 h.2
 ·simp only[T.ok] at h
  intro x hx
  obtain ⟨e,he,rfl⟩:=List.mem_map.1 hx
  exact (T.bX.1 h.2.1 e he).2
theorem T.fS {es:List (List UInt8 × T)} {k:List UInt8} {t:T} (h:T.find es k=some t):(k,t) ∈ es:=by
 unfold T.find at h
 obtain ⟨e,he,rfl⟩:=Option.map_eq_some_iff.1 h
 have h1:=List.mem_of_find?_eq_some he
 have h2:=List.find?_some he
 simp only[beq_iff_eq] at h2
 subst h2;exact h1
theorem T.ij {es:List (List UInt8 × T)} (hn:(es.map (·.1)).Nodup) {k:List UInt8} {t:T} (h:(k,t) ∈ es):T.find es k=some t:=by
 induction es with
 | nil=>cases h
 | cons e es ih=>
  simp only[List.map_cons,List.nodup_cons] at hn
  rcases List.mem_cons.1 h with rfl|h
  ·simp[T.find]
  ·have hne:e.1≠k:=fun c=>hn.1 (c ▸ List.mem_map.2 ⟨_,h,rfl⟩)
   have:=ih hn.2 h
   unfold T.find at this ⊢
   rw[List.find?_cons_of_neg (by simpa using hne)];exact this
theorem T.iL {es:List (List UInt8 × T)} {k:List UInt8}:T.find es k=none↔k ∉ es.map (·.1):=by
 unfold T.find
 simp only[Option.map_eq_none_iff,List.find?_eq_none,beq_iff_eq,qk,not_exists,not_and]
end Go.CP
namespace Go.CP
namespace T
def ins (k:List UInt8) (y:T):List (List UInt8 × T)→List (List UInt8 × T)
 | []=>[(k,y)]
 | e::es=>if k=e.1 then (k,y)::es else if Op.bytesLess k e.1=true then (k,y)::e::es else e::ins k y es
theorem pJ {k:List UInt8} {y:T}:∀ {es:List (List UInt8 × T)} {e:List UInt8 × T},e ∈ ins k y es→e=(k,y)∨e ∈ es
 | [],e,h=>by simp[ins] at h;exact .inl h
 | x::es,e,h=>by
  unfold ins at h
  split at h
  ·rcases List.mem_cons.1 h with h|h
   ·exact .inl h
   ·exact .inr (List.mem_cons_of_mem _ h)
  ·split at h
   ·rcases List.mem_cons.1 h with h|h
    ·exact .inl h
    ·exact .inr h
   ·rcases List.mem_cons.1 h with rfl|h
    ·exact .inr (by simp)
    ·rcases pJ h with h|h
     ·exact .inl h
     ·exact .inr (List.mem_cons_of_mem _ h)
theorem mA {k:List UInt8} {y:T}:∀ {es:List (List UInt8 × T)},(ins k y es).length≤es.length+1
 | []=>by simp[ins]
 | x::es=>by
  unfold ins
  have:=mA (k:=k) (y:=y) (es:=es)
  split
  ·simp
  ·split<;>simp<;>omega
theorem e9 {k:List UInt8} {y:T}:∀ {es:List (List UInt8 × T)},(es.map (·.1)).Pairwise ltB→((ins k y es).map (·.1)).Pairwise ltB
 | [],_=>by simp[ins]
 | x::es,h=>by
  simp only[List.map_cons,List.pairwise_cons] at h
  unfold ins
  split
  ·rename_i e;subst e
   simp only[List.map_cons,List.pairwise_cons];exact h
  ·rename_i hne
   split
   ·rename_i hl
    simp only[List.map_cons,List.pairwise_cons]
    refine ⟨fun z hz=>?_,h⟩
    rcases List.mem_cons.1 hz with rfl|hz
    ·exact hl
    ·exact eA hl (h.1 z hz)
   ·rename_i hl
    have hl:Op.bytesLess k x.1=false:=by simpa using hl
    simp only[List.map_cons,List.pairwise_cons]
    refine ⟨fun z hz=>?_,e9 h.2⟩
    obtain ⟨e,he,rfl⟩:=List.mem_map.1 hz
    rcases pJ he with rfl|he
    ·cases hx:Op.bytesLess x.1 k
     ·exact absurd (nB hl hx) hne
     ·exact hx
    ·exact h.1 _ (List.mem_map.2 ⟨e,he,rfl⟩)
theorem a6 {e:List UInt8 × T} {es:List (List UInt8 × T)} {k:List UInt8}:find (e::es) k=if e.1=k then some e.2 else find es k:=by
 unfold find
 by_cases h:e.1=k
 ·simp[h]
 ·rw[if_neg h,List.find?_cons_of_neg (by simpa using h)]
theorem iM {k:List UInt8}:∀ {es:List (List UInt8 × T)},(∀ z ∈ es.map (·.1),ltB k z)→find es k=none
 | [],_=>rfl
 | e::es,h=>by
  rw[a6,if_neg (fun c=>ig (h e.1 (by simp)) c.symm)]
  exact iM fun z hz=>h z (by simp only[List.map_cons];exact List.mem_cons_of_mem _ hz)
theorem rq {k j:List UInt8} {y:T}:∀ {es:List (List UInt8 × T)},(es.map (·.1)).Pairwise ltB→find (ins k y es) j=if k=j then some y else find es j
 | [],_=>by simp only[ins,a6]
 | x::es,h=>by
  simp only[List.map_cons,List.pairwise_cons] at h
  unfold ins
  split
  ·rename_i e;subst e
   simp only[a6]
   split<;>rfl
  ·rename_i hne
   split
   ·simp only[a6]
   ·rw[a6,rq h.2,a6]
    by_cases hj:k=j
    ·subst hj
     rw[if_neg (fun c=>hne c.symm),if_pos rfl,if_pos rfl]
    ·simp only[if_neg hj]
theorem kb:∀ {a b:List (List UInt8 × T)},(a.map (·.1)).Pairwise ltB→(b.map (·.1)).Pairwise ltB→(∀ k,find a k=find b k)→a=b
 | [],[],_,_,_=>rfl
 | [],y::b,_,_,h=>by have:=h y.1;rw[a6,if_pos rfl] at this;cases this
 | x::a,[],_,_,h=>by have:=h x.1;rw[a6,if_pos rfl] at this;cases this
 | x::a,y::b,ha,hb,h=>by
  simp only[List.map_cons,List.pairwise_cons] at ha hb
  have hk:x.1=y.1:=by
   cases h1:Op.bytesLess x.1 y.1
   ·cases h2:Op.bytesLess y.1 x.1
    ·exact nB h1 h2
    ·have:=h y.1
     rw[a6,a6,if_pos rfl,if_neg (fun c=>ig h2 c.symm),iM fun z hz=>eA h2 (ha.1 z hz)] at this
     cases this
   ·have:=h x.1
    rw[a6,a6,if_pos rfl,if_neg (fun c=>ig h1 c.symm),iM fun z hz=>eA h1 (hb.1 z hz)] at this
    cases this
  have hv:x.2=y.2:=by
   have:=h x.1
   rw[a6,a6,if_pos rfl,if_pos hk.symm] at this
   exact Option.some.inj this
  have:x=y:=Prod.ext hk hv
  subst this
  rw[kb ha.2 hb.2 fun k=>?_]
  have h1:=h k
  rw[a6,a6] at h1
  by_cases hx:x.1=k
  ·subst hx
   rw[iM ha.1,iM hb.1]
  ·simpa only[if_neg hx] using h1
mutual
def mrg (a:T):T→T
 | .map eb=>match a with
  | .map ea=>.map (eL ea eb ea)
  | _=>.map eb
 | .null=>a
 | .unknown=>.unknown
 | .bool b=>.bool b
 | .int n=>.int n
 | .point n m=>.point n m
 | .text s=>.text s
 | .list l=>.list l
def eL (ea:List (List UInt8 × T)):List (List UInt8 × T)→List (List UInt8 × T)→List (List UInt8 × T)
 | [],out=>out
 | e::eb,out=>eL ea eb (ins e.1 (match find ea e.1 with
  | some x=>mrg x e.2
  | none=>e.2) out)
end
def iR (ea:List (List UInt8 × T)) (e:List UInt8 × T):T:=match find ea e.1 with
 | some x=>mrg x e.2
 | none=>e.2
theorem iO {ea:List (List UInt8 × T)}:∀ {eb out:List (List UInt8 × T)},(out.map (·.1)).Pairwise ltB→((eL ea eb out).map (·.1)).Pairwise ltB
 | [],_,h=>h
 | e::eb,out,h=>by rw[eL];exact iO (e9 h)
theorem rr {ea:List (List UInt8 × T)}:∀ {eb out:List (List UInt8 × T)},(eL ea eb out).length≤out.length+eb.length
 | [],_=>by simp[eL]
 | e::eb,out=>by
  rw[eL]
  refine Nat.le_trans rr ?_
  have:=mA (k:=e.1) (y:=iR ea e) (es:=out)
  simp only[iR] at this
  simp only[bg];omega
theorem rv {ea:List (List UInt8 × T)} {z:List UInt8 × T}:∀ {eb out:List (List UInt8 × T)},z ∈ eL ea eb out→z ∈ out∨∃ e ∈ eb,z=(e.1,iR ea e)
 | [],_,h=>.inl h
 | e::eb,out,h=>by
  rw[eL] at h
  rcases rv h with h|⟨x,hx,rfl⟩
  ·rcases pJ h with h|h
   ·exact .inr ⟨e,by simp,h⟩
   ·exact .inl h
  ·exact .inr ⟨x,List.mem_cons_of_mem _ hx,rfl⟩
theorem lj {ea:List (List UInt8 × T)} {k:List UInt8}:∀ {eb out:List (List UInt8 × T)},(out.map (·.1)).Pairwise ltB→(eb.map (·.1)).Pairwise ltB→
  find (eL ea eb out) k=match find eb k with
   | some y=>some (iR ea (k,y))
   | none=>find out k
 | [],_,_,_=>by simp[eL,find]
 | e::eb,out,h,hb=>by
  simp only[List.map_cons,List.pairwise_cons] at hb
  rw[eL,lj (e9 h) hb.2,a6,rq h]
  by_cases hk:e.1=k
  ·subst hk
   rw[iM hb.1,if_pos rfl,if_pos rfl]
   rfl
  ·rw[if_neg hk,if_neg hk]
mutual
def lim (N:Nat):T→Prop
 | .list l=>nC N l
 | .map es=>es.length≤N∧wI N es
 | _=>True
def nC (N:Nat):List T→Prop
 | []=>True
 | t::ts=>lim N t∧nC N ts
def wI (N:Nat):List (List UInt8 × T)→Prop
 | []=>True
 | e::es=>lim N e.2∧wI N es
end
theorem cM {N:Nat}:∀ {l:List (List UInt8 × T)},wI N l↔∀ e ∈ l,e.2.lim N
 | []=>by simp[wI]
 | t::ts=>by simp[wI,cM (l:=ts)]
theorem fT {N:Nat}:∀ {l:List T},nC N l↔∀ e ∈ l,e.lim N
 | []=>by simp[nC]
 | t::ts=>by simp[nC,fT (l:=ts)]
theorem pK {N:Nat} (hN:2*N≤big):∀ (n:Nat) (a b:T),SizeOf.sizeOf b<n→a.ok→b.ok→a.lim N→b.lim N→(mrg a b).ok
 | 0,_,_,h,_,_,_,_=>by omega
 | n+1,a,b,hn,ha,hb,la,lb=>by
  cases b with
  | null=>exact ha
  | map eb=>
   cases a with
   | map ea=>
    simp only[mrg]
    simp only[T.ok] at ha hb ⊢
    simp only[lim] at la lb
    refine ⟨?_,T.bX.2 fun z hz=>?_,iO ha.2.2⟩
    ·have:=rr (ea:=ea) (eb:=eb) (out:=ea);omega
    ·rcases rv hz with hz|⟨e,he,rfl⟩
     ·exact T.bX.1 ha.2.1 z hz
     ·have h1:=T.bX.1 hb.2.1 e he
      refine ⟨h1.1,?_⟩
      unfold iR
      split
      ·rename_i x hx
       have hm:=fS hx
       refine pK hN n x e.2 ?_ (T.bX.1 ha.2.1 _ hm).2 h1.2 (cM.1 la.2 _ hm) (cM.1 lb.2 _ he)
       have h3:=List.sizeOf_lt_of_mem he
       obtain ⟨ek,ev⟩:=e
       simp at h3 hn ⊢;omega
      ·exact h1.2
   | _=>exact hb
  | _=>exact hb
theorem ry:∀ (n:Nat) (a:T),SizeOf.sizeOf a<n→a.ok→mrg a a=a
 | 0,_,h,_=>by omega
 | n+1,a,hn,ha=>by
  cases a<;>try rfl
  rename_i ea
  simp only[T.ok] at ha
  simp only[mrg]
  congr 1
  refine kb (iO ha.2.2) ha.2.2 fun k=>?_
  rw[lj ha.2.2 ha.2.2]
  cases hf:find ea k with
  | none=>rfl
  | some y=>
   simp only[iR,hf]
   have hm:=fS hf
   rw[ry n y ?_ (T.bX.1 ha.2.1 _ hm).2]
   have h3:=List.sizeOf_lt_of_mem hm
   simp at h3 hn;omega
end T
end Go.CP
