/- Parts of the proof. -/
import Derived.Test.YtknegckgmklnhaaGreatDoorCp33
namespace Go.CP
open Go.RowKit Go.Maps Go.Sort Go.Shelf Go.MapKept Go.WideElems
section
variable {w0 w:World} {β:Lay} {st:aa} {P:Program} {K:TypeId}
theorem Rel.BW {x:al} {b:Bl} (h:Rel w0 β st w) (hrw:x.rw=false) (hf:∀ o y b',st[o]?=some y→y.rw=true→β o=some b'→b'.blk≠b.blk)
  (hx:OR w0.heap.size (β.put st.length b) w st.length x):Rel w0 (β.put st.length b) (st++[x]) w:=by
 have hle:β.le (β.put st.length b):=Lay.cf (h.dom _ (Nat.le_refl _))
 have get:∀ {i:Nat} {z:al},(st++[x])[i]?=some z→i<st.length∧st[i]?=some z∨i=st.length∧z=x:=by
  intro i z hz
  rcases Nat.lt_trichotomy i st.length with k|k|k
  ·rw[bH k] at hz;exact .inl ⟨k,hz⟩
  ·subst k;simp at hz;exact .inr ⟨rfl,hz.symm⟩
  ·rw[List.getElem?_eq_none (by simp;omega)] at hz;cases hz
 refine ⟨h.below,?_,?_,?_,h.base,h.froz,?_⟩
 ·intro o ho
  simp at ho
  rw[Lay.dd (by omega)];exact h.dom o (by omega)
 ·intro o y hy
  rcases get hy with ⟨k,g⟩ | ⟨rfl,rfl⟩
  ·exact (h.obj o y g).mono hle
  ·exact hx
 ·intro o o' y y' b1 b2 hy hyr hy' hyl hne h1 h2
  rcases get hy with ⟨k,g⟩ | ⟨rfl,rfl⟩
  ·rw[Lay.dd (by omega)] at h1
   rcases get hy' with ⟨k',g'⟩ | ⟨rfl,rfl⟩
   ·rw[Lay.dd (by omega)] at h2
    exact h.sep o o' y y' b1 b2 g hyr g' hyl hne h1 h2
   ·rw[Lay.aM] at h2;cases h2
    exact hf o y b1 g hyr h1
  ·rw[hrw] at hyr;cases hyr
 ·intro o y b1 hy hyr h1
  rcases get hy with ⟨k,g⟩ | ⟨rfl,rfl⟩
  ·rw[Lay.dd (by omega)] at h1
   exact h.sepf o y b1 g hyr h1
  ·rw[hrw] at hyr;cases hyr
theorem Rel.BX {ks vs:List LV} {v:Value} (h:Rel w0 β st w) (hv:Rp β (.imap ks vs) v) (hl:ks.length=vs.length) :
  ∃ (es:List (LV × LV)) (bs:List Nat) (n b:Nat),es.Perm (ks.zip vs)∧v=.map (some b)∧Rel w0 (β.put st.length ⟨b,0,0⟩) (st++[.map .ro es bs n]) w:=by
 obtain ⟨b,us,ws,rfl,r1,r2,hF⟩:=hv
 obtain ⟨es,clk,es',h1,h2,h3,h4⟩:=hF.entries r1 r2 hl
 have hh:=h.froz _ _ h1
 have hle:β.le (β.put st.length ⟨b,0,0⟩):=Lay.cf (h.dom _ (Nat.le_refl _))
 refine ⟨es',es.toList.map (·.born),clk,b,h3,rfl,h.BW rfl ?_ ?_⟩
 ·intro o y b' hy hyr hb' e
  have:=h.sepf o y b' hy hyr hb'
  rw[e] at this
  rw[this] at h1;cases h1
 ·exact ⟨_,Lay.aM,es,hh,h4.mono hle,(fun k=>by cases k),h2,rfl⟩
theorem ma:∀ {es:List (LV × LV)} {ss:List (List UInt8)},es.map (·.1)=ss.map .str→fZ es=some ss
 | [],ss,h=>by cases ss<;>simp_all [fZ]
 | e::es,ss,h=>by
  cases ss with
  | nil=>simp at h
  | cons a ss=>
   obtain ⟨k,v⟩:=e
   simp only[List.map_cons,List.cons.injEq] at h
   obtain ⟨rfl,h⟩:=h
   simp[fZ,ma h]
theorem tC {a g:FuncId} {M:TypeId} {ks vs:List LV} {R:LV→aa→Prop} (hc:b5 P a)
  (hk:∀ (mb:Option Nat) (w:World),Calls P a #[.map mb] w fun e w'=>e=.returned (.func (.func g) #[] #[.pointer (some ⟨w.heap.size,0,none⟩)])∧w'=w.alloc (.cells #[.map mb] M))
  (hR:R (.fn (.func g) [] [.ptr st.length 0]) (st++[.cells (.bt M) [.imap ks vs]])):ak P a [.imap ks vs] st R:=by
 refine .inl ⟨hc,fun w0 β w vs h1 h2=>?_⟩
 obtain ⟨v,us,rfl,hv,hus⟩:=h2
 simp only[Rps] at hus;subst hus
 have hv0:=hv
 obtain ⟨b,_,_,rfl,_⟩:=hv
 refine (hk (some b) w).mono ?_
 rintro e w' ⟨rfl,rfl⟩
 have hle:β.le (β.put st.length ⟨w.heap.size,0,1⟩):=Lay.cf (h1.dom _ (Nat.le_refl _))
 refine ⟨_,_,_,_,hR,rfl,⟨[],[_],rfl,rfl,_,_,rfl,⟨_,Lay.aM,rfl⟩,rfl⟩,(h1.grow _).push (b:=⟨w.heap.size,0,1⟩) ?_ ?_ fun _=>h1.fresh,hle⟩
 ·intro o y b' hy hl hb'
  obtain ⟨b'',hb'',hlt⟩:=(h1.obj o y hy).live hl
  rw[hb'] at hb'';cases hb''
  show b'.blk≠w.heap.size
  omega
 ·refine ⟨_,Lay.aM,#[.map (some b)],M,(0,0),by simp[cX],by simp,by simp,?_,?_⟩
  ·intro i y hy
   cases i with
   | zero=>simp at hy;subst hy;exact ⟨_,rfl,hv0.mono hle⟩
   | succ i=>simp at hy
  ·refine ⟨fun _=>⟨h1.below.size,fun j _=>by omega⟩,?_,?_⟩
   ·rintro t ⟨⟩;exact ⟨rfl,rfl⟩
   ·rintro _ _ ⟨⟩
theorem pZ {c g:FuncId} {M:TypeId} {R:LV→aa→Prop} (hK:P.underlying K=some .string) (hc:b5 P c)
  (hsort:∀ (lb:Array Value) (S:List (List UInt8)→Prop) (N:Nat) (w:World),N≤maxLen→N*16≤140737488355328→SeqGives Fence.wide 2 P g lb Go.Proofs.encStr S N w→
   Calls P c #[.func (.func g) #[] lb] w fun e w'=>∃ (v:Value) (ss:List (List UInt8)),e=.returned v∧S ss∧
    w'.ownsRow w.heap.size K 1 v ss.length ((ss.mergeSort (fun x y=>decide (x≤y))).map Go.Proofs.encStr)∧(v=.slice none 0 0↔ss=[])∧Below w.heap.size w w')
  (hgives:∀ (Bm b nn:Nat) (D0:DataW Unit) (w:World),Bm<w.heap.size→w.cell? ⟨Bm,0,none⟩=some (.map (some b))→w.ownsMap P K vM b nn D0→
   SeqGives Fence.wide 2 P g #[.pointer (some ⟨Bm,0,none⟩)] Go.Proofs.encStr (fun ss=>ss.Perm (strKeys D0)) (Maps.size D0) w)
  {o:Nat} {vs:List LV} {ks:List (List UInt8)} (ho:st[o]?=some (.cells (.bt M) [.imap (ks.map .str) vs])) (hl:ks.length=vs.length) (hnd:ks.Nodup)
  (hlen:∀ s ∈ ks,s.length≤maxLen) (hn:ks.length≤maxLen) (hn':ks.length*16≤140737488355328)
  (hR0:ks=[]→R .nils st) (hR1:ks≠[]→R (.sl st.length 0 ks.length (.rest 1)) (st++[.cells .rw ((ks.mergeSort leB).map .str)])):ak P c [.fn (.func g) [] [.ptr o 0]] st R:=by
 refine .inl ⟨hc,fun w0 β w vs h1 h2=>?_⟩
 obtain ⟨v,us,rfl,hv,hus⟩:=h2
 simp only[Rps] at hus;subst hus
 obtain ⟨fs,cs,rfl,hfs,hcs⟩:=hv
 simp only[Rps] at hfs;subst hfs
 obtain ⟨pv,us',rfl,⟨b,hb,rfl⟩,hus'⟩:=hcs
 simp only[Rps] at hus';subst hus'
 obtain ⟨b2,hb2,cc,e,fz,hh,_,_,hcell,hmd⟩:=h1.obj o _ ho
 rw[hb] at hb2;cases hb2
 have hbase:b.base=0:=(hmd.2.1 M rfl).2
 obtain ⟨u,hu,hru⟩:=hcell 0 _ rfl
 obtain ⟨es,bs,n,bm,hep,rfl,hrel⟩:=h1.BX hru (by simpa using hl)
 rw[hbase] at hu ⊢
 have hlt:b.blk<w.heap.size:=by rcases Nat.lt_or_ge b.blk w.heap.size with k|k;exact k;simp[Array.getElem?_eq_none k] at hh
 have hfst:(es.map (·.1)).Perm (ks.map .str):=by
  have h0:=hep.map (·.1)
  have hz:((ks.map LV.str).zip vs).map (·.1)=ks.map .str:=List.map_fst_zip (by simp[hl])
  rwa [hz] at h0
 obtain ⟨ks',hkp,hke⟩:=lg (f:=LV.str) hfst rfl
 obtain ⟨D0,hown,hperm,hsz⟩:=hrel.uy hK (o:=st.length) (b:=⟨bm,0,0⟩) bq Lay.aM (ma hke.symm) (hkp.nodup_iff.2 hnd) (fun s hs=>hlen s (hkp.mem_iff.1 hs)) (by rw[hkp.length_eq];exact hn)
 have hg:=hgives b.blk bm ks'.length D0 w hlt (by simp only[World.cell?,hh];exact hu) hown
 refine (hsort _ _ _ w (by rw[hsz,hkp.length_eq];exact hn) (by rw[hsz,hkp.length_eq];exact hn') hg).mono ?_
 rintro e' w' ⟨r,ss,rfl,hss,hrow,hnil,hbel⟩
 have hbw:Bw w.heap.size w w':=⟨hbel⟩
 have hpk:ss.Perm ks:=(hss.trans hperm).trans hkp
 rcases Nat.eq_zero_or_pos ks.length with hz|hz
 ·have hk0:ks=[]:=List.eq_nil_of_length_eq_zero hz
  subst hk0
  have:ss=[]:=List.eq_nil_of_length_eq_zero (by rw[hpk.length_eq];rfl)
  exact ⟨β,.nils,st,_,hR0 rfl,rfl,hnil.2 this,h1.eF hbw,Lay.le.refl _⟩
 ·have hk1:ks≠[]:=by rintro rfl;simp at hz
  have hs1:ss≠[]:=by rintro rfl;have:=hpk.length_eq;simp at this;omega
  rcases hrow.2 with ⟨rfl,_⟩ | ⟨gb,cap,cur,rfl,hgb,hgh,hc1,hc2,hc3,hc4⟩
  ·exact absurd (hnil.1 rfl) hs1
  have hle:β.le (β.put st.length ⟨gb,0,cap⟩):=Lay.cf (h1.dom _ (Nat.le_refl _))
  have hms:ss.mergeSort leB=ks.mergeSort leB:=mergeSort_of_perm hpk
  have hl:ss.length=ks.length:=hpk.length_eq
  rw[Nat.mul_one] at hc3 hc4
  refine ⟨_,_,_,_,hR1 hk1,rfl,⟨⟨gb,0,cap⟩,Lay.aM,?_,?_⟩,(h1.eF hbw).push (b:=⟨gb,0,cap⟩) ?_ ?_ fun _=>h1.uw (by show w.heap.size≤gb;omega),hle⟩
  ·show ks.length≤(cap-0) / 1
   rw[Nat.div_one];omega
  ·show Value.slice _ _ _=Value.slice _ _ ((cap-0) / 1)
   rw[Nat.div_one,hl];rfl
  ·intro o y b' hy hl hb'
   obtain ⟨b'',hb'',hlt⟩:=(h1.obj o y hy).live hl
   rw[hb'] at hb'';cases hb''
   show b'.blk≠gb
   omega
  ·refine ⟨_,Lay.aM,cur,K,(0,0),hgh,by rw[hc3];simp,by simp only[cb,List.length_mergeSort];omega,?_,?_⟩
   ·intro i y hy
    rw[bU] at hy
    obtain ⟨s,hs,rfl⟩:=Option.map_eq_some_iff.1 hy
    refine ⟨.string ⟨⟨s⟩⟩,?_,rfl⟩
    have hi:i<ss.length:=by
     have:=(List.getElem?_eq_some_iff.1 hs).1
     rw[List.length_mergeSort] at this;omega
    have e1:(cur.toList.take ss.length)[i]?=some (Go.Proofs.encStr s):=by
     rw[hc4,bU]
     show Option.map _ ((ss.mergeSort leB)[i]?)=_
     rw[hms,hs];rfl
    rw[List.getElem?_take_of_lt hi] at e1
    show cur[0+i]?=_
    rw[av,← Array.getElem?_toList,e1]
   ·exact ⟨fun _=>⟨Nat.le_trans h1.below.size hgb,fun j _=>by omega⟩,(by rintro t ⟨⟩),(by rintro _ _ ⟨⟩)⟩
theorem nM {c g:FuncId} {M:TypeId} {R:LV→aa→Prop} (hc:b5 P c)
  (hsort:∀ (lb:Array Value) (S:List (List UInt8)→Prop) (N:Nat) (w:World),N≤maxLen→N*16≤140737488355328→SeqGives Fence.wide 2 P g lb Go.Proofs.encStr S N w→
   Calls P c #[.func (.func g) #[] lb] w fun e w'=>∃ (v:Value) (ss:List (List UInt8)),e=.returned v∧S ss∧
    w'.ownsRow w.heap.size K 1 v ss.length ((ss.mergeSort (fun x y=>decide (x≤y))).map Go.Proofs.encStr)∧(v=.slice none 0 0↔ss=[])∧Below w.heap.size w w')
  (hgives:∀ (Bm:Nat) (w:World),Bm<w.heap.size→w.cell? ⟨Bm,0,none⟩=some (.map none)→SeqGives Fence.wide 2 P g #[.pointer (some ⟨Bm,0,none⟩)] Go.Proofs.encStr (fun ss=>ss=[]) 0 w)
  {o:Nat} (ho:st[o]?=some (.cells (.bt M) [.nilm])) (hR0:R .nils st):ak P c [.fn (.func g) [] [.ptr o 0]] st R:=by
 refine .inl ⟨hc,fun w0 β w vs h1 h2=>?_⟩
 obtain ⟨v,us,rfl,hv,hus⟩:=h2
 simp only[Rps] at hus;subst hus
 obtain ⟨fs,cs,rfl,hfs,hcs⟩:=hv
 simp only[Rps] at hfs;subst hfs
 obtain ⟨pv,us',rfl,⟨b,hb,rfl⟩,hus'⟩:=hcs
 simp only[Rps] at hus';subst hus'
 obtain ⟨b2,hb2,cc,e,fz,hh,_,_,hcell,hmd⟩:=h1.obj o _ ho
 rw[hb] at hb2;cases hb2
 have hbase:b.base=0:=(hmd.2.1 M rfl).2
 obtain ⟨u,hu,hru⟩:=hcell 0 _ rfl
 simp only[Rp] at hru;subst hru
 rw[hbase] at hu ⊢
 have hlt:b.blk<w.heap.size:=by rcases Nat.lt_or_ge b.blk w.heap.size with k|k;exact k;simp[Array.getElem?_eq_none k] at hh
 have hg:=hgives b.blk w hlt (by simp only[World.cell?,hh];exact hu)
 refine (hsort _ _ _ w (Nat.zero_le _) (by omega) hg).mono ?_
 rintro e' w' ⟨r,ss,rfl,hss,hrow,hnil,hbel⟩
 subst hss
 exact ⟨β,.nils,st,_,hR0,rfl,hnil.2 rfl,h1.eF ⟨hbel⟩,Lay.le.refl _⟩
theorem rP {f:FuncId} {fn:Func} {t:TypeId} {ks vs:List LV} {R:LV→aa→Prop} (hf:P.funcs[f]?=some fn) (hname:(fn.name == "runtime.NumGoroutine")=false) (hb:fn.body.isNone=true) (hn:Extern.findNext fn=none)
  (he:Extern.find fn=some Extern.MapsClone.clone) (hl:ks.length=vs.length)
  (hR:∀ (es:List (LV × LV)) (bs:List Nat) (n:Nat),es.Perm (ks.zip vs)→R (.iface t (.map st.length)) (st++[.map .rw es bs n])):ak P f [.iface t (.imap ks vs)] st R:=by
 refine pJ.fo hf hname hb hn he fun w0 β w vs h1 h2=>?_
 obtain ⟨v,us,rfl,r1,rfl⟩:=h2
 obtain ⟨u,rfl,hu⟩:=r1
 obtain ⟨es,bs,n,b,hp,rfl,hrel⟩:=h1.BX hu hl
 obtain ⟨c,hh,hes,hst,hbs⟩:=hrel.gV (o:=st.length) bq Lay.aM
 obtain ⟨_,us0,ws0,e0,r1,r2,hF⟩:=hu
 cases e0
 obtain ⟨es1,clk1,es',k1,k2,k3,k4⟩:=hF.entries r1 r2 hl
 have hh1:=h1.froz _ _ k1
 have hle:β.le (β.put st.length ⟨w.heap.size,0,0⟩):=Lay.cf (h1.dom _ (Nat.le_refl _))
 refine ⟨.iface t (.map (some w.heap.size)),w.alloc (.map es1 clk1),?_,_,_,_,hR es' (es1.toList.map (·.born)) clk1 k3,⟨_,rfl,_,Lay.aM,rfl⟩,(h1.grow _).push (b:=⟨w.heap.size,0,0⟩) ?_ ?_ fun _=>h1.fresh,hle⟩
 ·show ((getObj b >>= fun o=>match o with
   | .map entries clock=>(newObj (.map entries clock) >>= fun r=>pure (.iface t (.map (some r))))
   | _=>stuck "maps.clone: a map expected"):Sem Value).run P w=_
  simp only[ae,MapKept.run_getObj_map hh1,ab,run_newObj,an]
  rfl
 ·intro o y b' hy hl hb'
  obtain ⟨b'',hb'',hlt⟩:=(h1.obj o y hy).live hl
  rw[hb'] at hb'';cases hb''
  show b'.blk≠w.heap.size
  omega
 ·exact ⟨_,Lay.aM,es1,by simp[cX],k4.mono hle,fun _=>h1.below.size,k2,rfl⟩
end
end Go.CP
namespace Go.CP
structure Pu (P:Program) (f:FuncId) (xs:List LV) (v:LV):Prop where
 call:∀ {st:aa} {R:LV→aa→Prop},R v st→ak P f xs st R
theorem Pu.of {P:Program} {f:FuncId} {xs:List LV} {v:LV} (h:ak P f xs [] fun r s=>dp s v r) (hx:LV.ar xs=true) (hv:v.plain=true):Pu P f xs v:=
 ⟨fun hR=>ak.deep h hx hv hR⟩
theorem bP {α:Type} {f:α→LV}:∀ {l:List α},(∀ a ∈ l,(f a).plain=true)→LV.ar (l.map f)=true
 | [],_=>rfl
 | a::l,h=>by simp only[List.map_cons,LV.ar,h a (by simp),bP (l:=l) fun b hb=>h b (by simp[hb]),Bool.true_and]
theorem nN:∀ {a b:List LV},LV.ar (a++b)=(LV.ar a&&LV.ar b)
 | [],b=>by simp[LV.ar]
 | x::a,b=>by simp only[List.cons_append,LV.ar,nN (a:=a),Bool.and_assoc]
theorem uz {st:aa}:∀ {a b:List LV},dps st a b→b.length=a.length
 | [],b,h=>by simp only[dps] at h;subst h;rfl
 | x::a,b,h=>by obtain ⟨r,rs,rfl,_,h⟩:=h;simp[uz h]
theorem uA {st:aa}:∀ {a b c d:List LV},dps st a c→dps st b d→dps st (a++b) (c++d)
 | [],_,c,_,h,k=>by simp only[dps] at h;subst h;exact k
 | _::_,_,_,_,h,k=>by obtain ⟨r,rs,rfl,h1,h2⟩:=h;exact ⟨r,rs++_,by simp,h1,uA h2 k⟩
theorem iB {st:aa} {f:Option Nat} {sz n:Nat} {cs cs':List LV} {m0:Md} (h:bS m0 st f sz n cs) (hm:m0.w=true) (hd:dps st cs' cs):dp st (.isl cs' n none) (osl f sz n):=by
 obtain ⟨hl,h⟩:=h
 have hl':=uz hd
 cases f with
 | none=>
  simp only at h;subst h
  refine .inr (.inr ⟨.inr rfl,rfl,?_⟩)
  exact List.eq_nil_of_length_eq_zero (by omega)
 | some o=>
  obtain ⟨rest,ho⟩:=h
  refine .inl ⟨o,0,.rest sz,_,_,rfl,ho,hm,by simp;omega,?_⟩
  have:((cs++rest).drop 0).take cs'.length=cs:=by rw[← hl'];simp
  rw[this];exact hd
theorem dj {sz len:Nat} {cs:List LV} {cap:Option Nat} {k:IntKind} {i:Nat} (h:i<len):bF sz (.isl cs len cap) (.int k (i:Int))=some (.iptr cs (i*sz)):=by
 show (if 0≤(i:Int)∧(i:Int)<len then some (LV.iptr cs ((i:Int).toNat*sz)) else none)=_
 rw[if_pos ⟨by omega,by omega⟩]
 simp
@[simp] theorem fD {st:aa} {cs:List LV} {k:Nat}:ld1 st (.iptr cs k)=cs[k]?:=rfl
@[simp] theorem bj {cs:List LV} {n:Nat} {c:Option Nat}:bg (.isl cs n c)=some (.int .i64 n):=rfl
@[simp] theorem wW {cs:List LV} {k:Nat}:de (.iptr cs k)=some (.iptr cs k):=rfl
@[simp] theorem Av {cs:List LV} {k d:Nat}:aK d (.iptr cs k)=some (.iptr cs (k+d)):=rfl
@[simp] theorem BZ {b:Bool} {cs:List LV} {k:Nat}:jM b (.iptr cs k) .nilp=some false:=rfl
@[simp] theorem B0 {b:Bool} {cs:List LV} {k:Nat}:jM b .nilp (.iptr cs k)=some false:=rfl
theorem nO {st:aa} {cs:List LV} {k n:Nat} (h:k+n≤cs.length):ldA st (.iptr cs k) n=some (.agg ((cs.drop k).take n)):=if_pos h
theorem rQ {st:aa} {cs:List LV} {n sz:Nat} {c:Option Nat} (h:cs.length=n*sz):fT st sz (.isl cs n c)=some (n,cs):=if_pos h
theorem ak.Aw {P:Program} {f:FuncId} {cs:List LV} {st:aa} {R:LV→aa→Prop} (hc:b5 P f) (h1:ak P f [.nils] st R) (h2:ak P f [.emp] st R):ak P f [.isl cs 0 none] st R:=by
 have k1:=(h1.body hc).2
 have k2:=(h2.body hc).2
 refine .inl ⟨hc,fun w0 β w vs hr hv=>?_⟩
 obtain ⟨v,us,rfl,hv,hu⟩:=hv
 obtain ⟨_,_,a,c,rfl,_,_,hF⟩:=hv
 cases a with
 | none=>
  refine k1 w0 β w _ hr ⟨_,_,rfl,?_,hu⟩
  rcases hF with ⟨_,hz⟩ | ⟨_,_,e,_⟩
  ·rw[hz rfl];rfl
  ·cases e
 | some a=>exact k2 w0 β w _ hr ⟨_,_,rfl,⟨a,c,rfl⟩,hu⟩
theorem nP {cs:List LV} {n:Nat} {c:Option Nat} (h:0<n):qK (.isl cs n c) .nils=some false:=if_pos h
theorem rR {st:aa} {cs:List LV} {n sz bytes:Nat} {m0:Md} (hn:0<n) (hl:cs.length=n*sz) (hb:dn n bytes=true) (hm:m0.w=true) (hp:LV.ar cs=true) {R:LV→aa→Prop}
  (hR:∀ r s,dp s (.isl cs n none) r→R r s):bd2 (a6 (st++[.cells .rw []]) sz bytes m0 (.sl st.length 0 0 (.ex 0)) (.isl cs n none)) R:=by
 unfold a6
 rw[rQ hl]
 simp only[if_neg (Nat.ne_of_gt hn)]
 have hg:(st++[al.cells .rw []])[st.length]?=some (.cells .rw []):=by simp
 simp only[hg,av]
 rw[if_neg (by omega),if_pos ⟨hb,by simp⟩]
 simp only[bd2,Nat.zero_mul,List.drop_zero,List.take_zero,aR]
 refine hR _ _ (.inl ⟨_,0,_,m0,cs,rfl,by simp,hm,by simp,?_⟩)
 simpa using bx _ hp
end Go.CP
