/- Parts of the proof. -/
import Derived.Test.YtknegckgmklnhaaGreatDoorVaC
namespace Go.Proofs.YtknegckgmklnhaaGreatDoor
open Go Go.CP Go.RowKit Go.Maps Go.Sort Go.Shelf
set_option maxRecDepth 100000
theorem xJ (m:Nat):AnyZ.SortsIn Tryz.prog Tryz.js Fence.wide m:=
 ⟨fun blk off cap ss W hH hblk hsz=>callsIn_wide.2 (AnyM.slices_Sort_string Tryz.uU blk off cap ss W hH hblk hsz),
  fun p cap W=>callsIn_wide.2 (AnyM.slices_Sort_string_none Tryz.uU p cap W)⟩
theorem eM (mb:Option Nat) (W:World):Calls Tryz.prog 116 #[.map mb] W fun e w'=>e=.returned (.func (.func 166) #[] #[.pointer (some ⟨W.heap.size,0,none⟩)])∧w'=W.alloc (.cells #[.map mb] 173):=
 callsIn_wide.1 (AnyZ.keys_in Tryz.qq Fence.wide 5 trivial rfl mb W)
theorem sg (Bm b nn:Nat) (D0:DataW Unit) (w:World) (h1:Bm<w.heap.size) (h2:w.cell? ⟨Bm,0,none⟩=some (.map (some b))) (h3:w.ownsMap Tryz.prog 9 vM b nn D0) :
  SeqGives Fence.wide 2 Tryz.prog 166 #[.pointer (some ⟨Bm,0,none⟩)] encStr (fun ss=>ss.Perm (strKeys D0)) (Maps.size D0) w:=
 AnyZ.keys_gives (ρ:=Tryz.iI) { Tryz.qq with } Fence.wide _ trivial rfl (by omega) Bm b nn D0 w h1 h2 h3
theorem dF (lb:Array Value) (S:List (List UInt8)→Prop) (N:Nat) (w:World) (hN:N≤maxLen) (hNb:N*16≤140737488355328) (hseq:SeqGives Fence.wide 2 Tryz.prog 166 lb encStr S N w) :
  Calls Tryz.prog 115 #[.func (.func 166) #[] lb] w fun e w'=>∃ (v:Value) (ss:List (List UInt8)),e=.returned v∧S ss∧
   w'.ownsRow w.heap.size 9 1 v ss.length ((ss.mergeSort (fun x y=>decide (x≤y))).map encStr)∧(v=.slice none 0 0↔ss=[])∧Below w.heap.size w w':=
 callsIn_wide.1 (AnyZ.sorted_in Tryz.we Fence.wide 5 trivial trivial trivial trivial rfl (by omega) (xJ _) (enters_of Tryz.func165 (by kernel_rfl) rfl) 166 lb trivial (enters_of Tryz.func166 (by kernel_rfl) rfl) S N hN hNb w hseq)
theorem pb {l:List (List UInt8)} (h:l.Pairwise ltB):l.mergeSort leB=l:=by
 refine List.mergeSort_of_pairwise (h.imp fun {a b} hab=>?_)
 unfold ltB at hab
 rw[bytesLess_eq] at hab
 simp only[leB,decide_eq_true_eq] at hab ⊢
 exact List.le_of_lt hab
theorem call116:b5 Tryz.prog 116:=⟨Tryz.f116,ay Tryz.f116,Tryz.func116,by kernel_rfl,by kernel_rfl⟩
theorem call115:b5 Tryz.prog 115:=⟨Tryz.f115,ay Tryz.f115,Tryz.func115,by kernel_rfl,by kernel_rfl⟩
theorem keys_map {es:List (List UInt8 × T)} (h:(T.map es).ok):Pu Tryz.prog 49 [vT (.map es)] (sL (es.map (·.1))):=by
 simp only[T.ok] at h
 obtain ⟨hb,hm,hp⟩:=h
 have hlen:∀ s ∈ es.map (·.1),s.length≤maxLen:=fun s hs=>by
  obtain ⟨e,he,rfl⟩:=List.mem_map.1 hs
  have:=(T.fi.1 hm e he).1
  unfold big at this;unfold maxLen;omega
 refine Pu.of (c49 _ ?_) (by simp[LV.ar,LV.plain]) (by simp only[LV.plain];exact bP (f:=LV.str) fun _ _=>rfl)
 show ak Tryz.prog 116 [.imap (es.map fun e=>.str e.1) (dI es)] [.cells .rw [lvT (.map es)]] _
 refine tC (M:=173) call116 eM ?_
 have hks:(es.map fun e=>LV.str e.1)=(es.map (·.1)).map .str:=by simp
 rw[hks]
 refine pZ (K:=9) (by kernel_rfl) call115 dF sg (o:=1) (vs:=dI es) rfl (by simp[kB]) (cH hp) hlen (by rw[cb];unfold big at hb;unfold maxLen;omega) (by rw[cb];unfold big at hb;omega) (fun e=>?_) (fun e=>?_)
 ·rw[e];exact .inr (.inr ⟨.inr rfl,rfl,rfl⟩)
 ·rw[pb hp]
  refine .inl ⟨_,0,_,.rw,_,rfl,rfl,rfl,by simp,?_⟩
  rw[List.drop_zero,List.take_length]
  exact bx _ (bP (f:=LV.str) (l:=es.map (·.1)) fun _ _=>rfl)
theorem pd (Bm:Nat) (w:World) (h1:Bm<w.heap.size) (h2:w.cell? ⟨Bm,0,none⟩=some (.map none)) :
  SeqGives Fence.wide 2 Tryz.prog 166 #[.pointer (some ⟨Bm,0,none⟩)] encStr (fun ss=>ss=[]) 0 w:=
 AnyZ.keys_gives_nil (ρ:=Tryz.iI) { Tryz.qq with } Fence.wide _ trivial rfl Bm w h1 h2
theorem wg {st:aa} {R:LV→aa→Prop} (h:∀ s,R .nils s):ak Tryz.prog 116 [.nilm] st fun v s=>ak Tryz.prog 115 [v] s R:=
 ly (M:=173) call116 eM (.inl rfl) (nM (K:=9) call115 dF pd bq (h _))
theorem qt {t:T} (h:t.ok):Pu Tryz.prog 49 [vT t] (sL t.keys):=by
 cases t with
 | map es=>exact keys_map h
 | _=>
  refine Pu.of (c49 _ ?_) (by simp[LV.ar,LV.plain]) rfl
  refine wg fun s=>?_
  exact .inr (.inr ⟨.inr rfl,rfl,rfl⟩)
theorem oe {t:T} (h:t.ok):Pu Tryz.prog 101 [vT t] (vL t.items):=by
 cases t with
 | map es=>
  have h':=h
  simp only[T.ok] at h'
  exact wc (cH h'.2.2) h'.1 (keys_map h)
 | list l=>simp only[T.ok] at h;exact tR h.1
 | _=>
  refine Pu.of (AN _ ?_) (by simp[LV.ar,LV.plain]) rfl
  refine (qt h).call ?_
  apply tD
  exact .inr (.inr ⟨.inr rfl,rfl,rfl⟩)
end Go.Proofs.YtknegckgmklnhaaGreatDoor
namespace Go.CP
open Go.ChangeShapes Go.WideShapes Go.ChangeAt Go.RowKit
section
variable {H:Type} {enc:TypeId × Value→H} {P:Program} {w0 w:World} {base:Nat} {sp:Nat→Bool} {held:Bool}
def qu (P:Program) (t:TypeId) (x:LV) (d:DataW H):Prop:=∃ n cs,x=(if bz P t=true then .agg cs else x)∧(bz P t=false→cs=[x])∧bn P n t cs d
def mL (P:Program):List TypeId→List LV→List (DataW H)→Prop
 | [],xs,ds=>xs=[]∧ds=[]
 | t::ts,xs,ds=>∃ x xs' d ds',xs=x::xs'∧ds=d::ds'∧qu P t x d∧mL P ts xs' ds'
theorem og {S:List TypeId} (hS:S.all (okT P S)=true):∀ {ts:List TypeId} {vs:List Value} {ds:List (DataW H)} {ps:List MemPlace},(∀ t ∈ ts,t ∈ S)→
  DataW.TrodAll enc P w base sp held ts vs ds ps→(∀ (j:Nat) t v,ts[j]?=some t→vs[j]?=some v→Value.okWide P w .any 0 t v)→
  ∃ xs,Rps (eh w) xs vs∧mL P ts xs ds
 | [],vs,ds,ps,_,h,_=>by
  obtain ⟨rfl,rfl,_⟩:vs=[]∧ds=[]∧ps=[]:=by
   cases vs<;>cases ds<;>simp_all [DataW.TrodAll]
  exact ⟨[],rfl,rfl,rfl⟩
 | t::ts,vs,ds,ps,hts,h,hv=>by
  obtain ⟨v,vs',d,ds',p,q,rfl,rfl,rfl,⟨fuel,h1⟩,h2⟩:=trodAll_cons h
  have hval:=hv 0 t v rfl rfl
  obtain ⟨cs,p1,t1⟩:=iU hS fuel (hts t (by simp)) h1
  obtain ⟨xs,p2,t2⟩:=og hS (fun t ht=>hts t (List.mem_cons_of_mem _ ht)) h2 (fun j t v a b=>hv (j+1) t v (by simpa using a) (by simpa using b))
  have hok:=List.all_eq_true.1 hS t (hts t (by simp))
  have one:∀ {u:Value},v=u→u.cells.toList=[u]→bz P t=false→∃ x,Rp (eh w) x v∧qu P t x d:=by
   intro u e hu hs
   subst e
   rw[hu] at p1
   obtain ⟨y,us,rfl,hy,e'⟩:∃ y us,cs=y::us∧Rp (eh w) y v∧us=[]:=by
    cases cs with
    | nil=>simp only[Rps] at p1;cases p1
    | cons y us=>
     obtain ⟨v',us',e1,e2,e3⟩:=p1
     simp only[List.cons.injEq] at e1
     obtain ⟨rfl,rfl⟩:=e1
     cases us with
     | nil=>exact ⟨y,[],rfl,e2,rfl⟩
     | cons z zs=>obtain ⟨_,_,e4,_⟩:=e3;cases e4
   subst e'
   exact ⟨y,hy,fuel,[y],by simp[hs],fun _=>rfl,t1⟩
  have arg:∃ x,Rp (eh w) x v∧qu P t x d:=by
   unfold okT at hok
   split at hok
   ·rename_i hu
    obtain ⟨b,rfl⟩:=okWide_bool hu hval
    exact one rfl rfl (by simp[bz,hu])
   ·rename_i k hu
    obtain ⟨b,rfl⟩:=okWide_int hu hval
    exact one rfl rfl (by simp[bz,hu])
   ·rename_i hu
    obtain ⟨b,rfl⟩:=okWide_string hu hval
    exact one rfl rfl (by simp[bz,hu])
   ·rename_i e hu
    obtain ⟨a,l,c,rfl⟩:=okWide_slice hu hval
    exact one rfl rfl (by simp[bz,hu])
   ·rename_i fs hu
    obtain ⟨us,rfl,_⟩:=okWide_struct hu hval
    exact ⟨.agg cs,⟨us.toList,rfl,p1⟩,fuel,cs,by simp[bz,hu],by simp[bz,hu],t1⟩
   ·cases hok
  obtain ⟨x,hx,tx⟩:=arg
  exact ⟨x::xs,⟨v,vs',rfl,hx,p2⟩,x,xs,d,ds',rfl,rfl,tx,t2⟩
end
theorem Rel.CN {W:World} {gs:List (Nat × List LV)} (h:∀ p ∈ gs,Gl W p):∃ β,Rel W β (wT gs) W∧(eh W).le β:=by
 have hro:BU (wT gs):=by
  intro y hy
  obtain ⟨p,_,rfl⟩:=List.mem_map.1 hy
  rfl
 refine ⟨⟨fun o=>match gs[o]? with
  | some p=>some ⟨p.1,0,match W.heap[p.1]? with
   | some (.cells c _ _)=>c.size
   | _=>0⟩
  | none=>none,(eh W).f,W.heap.size⟩,⟨Bw.refl _ _,?_,?_,?_,rfl,fun _ _ h=>h,fun o x b hx hr _=>(by simp[hro x (cd hx)] at hr)⟩,⟨fun _ _ e=>(by cases e),fun _ _ e=>e,rfl,fun _ _ e _=>e⟩⟩
 ·intro o ho
  have:gs[o]?=none:=List.getElem?_eq_none (by simpa[wT] using ho)
  simp only[this]
 ·intro o x hx
  unfold wT at hx
  rw[bU] at hx
  obtain ⟨p,hp,rfl⟩:=Option.map_eq_some_iff.1 hx
  obtain ⟨c,e,fz,hh,hl,hc⟩:=h p (cd hp)
  refine ⟨⟨p.1,0,c.size⟩,by simp only[hp,hh],c,e,fz,hh,by simp,Nat.le_of_eq hl,?_,(fun k=>by cases k),(by rintro t ⟨⟩),?_⟩
  ·intro i y hy
   obtain ⟨u,hu,r⟩:=hc i y hy
   exact ⟨u,by simpa using hu,r _⟩
  ·rintro g n ⟨⟩;exact ⟨rfl,rfl,hl.symm⟩
 ·intro o o' x x' b b' hx hr
  rw[hro x (cd hx)] at hr;cases hr
section
variable {H:Type} {enc:TypeId × Value→H} {P:Program}
theorem wh {f:FuncId} {F:Func} {s:ChangeSpec} {apart fresh handsOn:Bool} {W:World} {args:Array Value} {ds gs:List (DataW H)} {before:List MemPlace} (S:List TypeId) (tb:TypeId)
  (hS:S.all (okT P S)=true) (hts:F.params.toList.all S.contains=true) (hlaid:laidOutB P=true) (hrd:(F.params.toList.all fun t=>P.readableRec t&&decide (t<P.types.size))=true)
  (hres:F.resultTypes.toList=[tb]) (htb:P.underlying tb=some .bool) (hsz:F.resultTypes.size=1) (hvs:s.vars=[])
  (hspec:∀ ds:List (DataW H),ds.length=F.params.toList.length→(s.fn H ds).results=[.lit (.bool true)]∧(s.fn H ds).args=ds∧(s.fn H ds).vars=[])
  (hfn:P.funcs[f]?=some F) (hbody:F.body.isSome=true) (hname:(F.name == "runtime.NumGoroutine")=false)
  (hval:∀ (j:Nat) t v,F.params[j]?=some t→args[j]?=some v→Value.okWide P W .any 0 t v)
  (hW:DataW.Whole enc P F.params.toList s.vars apart W args.toList ds gs before) (gl:List (Nat × List LV)) (hgl:∀ p ∈ gl,Gl W p)
  (law:∀ xs,mL P F.params.toList xs ds→ak P f xs (wT gl) fun r _=>r=.bool true) :
  Calls P f args W fun e W'=>∃ v,e=.returned v∧s.post enc P F apart fresh handsOn false W args v W':=by
 have hW':=hW
 obtain ⟨p,q,hA,hV,rfl,hfz,hnd⟩:=hW
 rw[hvs] at hV
 obtain ⟨rfl,rfl⟩:=trodVars_none hV
 have hlen:=l8 hA
 obtain ⟨e1,e2,e3⟩:=hspec (ds++[]) (by simpa using hlen)
 obtain ⟨β,hr,hle⟩:=Rel.CN hgl
 obtain ⟨xs,hp,ht⟩:=og hS (fun t h=>by simpa using List.all_eq_true.1 hts t h) hA (fun j t v a b=>hval j t v (by simpa using a) (by simpa using b))
 obtain ⟨bc,hbc⟩:=Option.isSome_iff_exists.1 hbody
 have hcall:=ak.law ⟨F,bc,hfn,hbc,hname⟩ (law xs ht) hr (hp.mono hle)
 refine hcall.mono fun e W' ⟨he,hb⟩=>?_
 have hlt:∀ x ∈ p,x.block<W.heap.size:=fun x hx=>hW'.lt x (List.mem_append.2 (.inl hx))
 refine ⟨_,he,ds,[],p++[],[],p,[],hW',?_,?_,?_,hb.frame _,fun h=>by cases h⟩
 ·rw[e1,hres,hsz]
  exact trodAll_cons_mk (shut_bool htb _) trodAll_mk0
 ·rw[e2,List.append_nil]
  exact jq hlaid hb hrd hA hlt
 ·rw[hvs,e3];rfl
end
end Go.CP
namespace Go.Proofs.YtknegckgmklnhaaGreatDoor
open Go Go.CP
set_option maxRecDepth 100000
inductive RV where
 | mk (k:Int) (b:Bool) (n m:Int) (s:List UInt8) (l:List RV) (ks:List (List UInt8))
namespace RV
def k:RV→Int|mk k _ _ _ _ _ _=>k
def b:RV→Bool|mk _ b _ _ _ _ _=>b
def n:RV→Int|mk _ _ n _ _ _ _=>n
def m:RV→Int|mk _ _ _ m _ _ _=>m
def s:RV→List UInt8|mk _ _ _ _ s _ _=>s
def l:RV→List RV|mk _ _ _ _ _ l _=>l
def ks:RV→List (List UInt8) | mk _ _ _ _ _ _ ks=>ks
theorem Bb {r x:RV} (h:x ∈ r.l):SizeOf.sizeOf x<SizeOf.sizeOf r:=by
 cases r
 have:=List.sizeOf_lt_of_mem h
 simp only[l] at this
 simp;omega
theorem ind {p:RV→Prop} (h:∀ r,(∀ x ∈ r.l,p x)→p r):∀ (n:Nat) (r:RV),SizeOf.sizeOf r<n→p r
 | 0,_,hn=>by omega
 | n+1,r,hn=>h r fun x hx=>ind h n x (by have:=Bb hx;omega)
end RV
abbrev sI (l:List (List UInt8)):LV:=.isl (l.map .str) l.length none
mutual
def rc:RV→List LV
 | .mk k b n m s l ks=>[i64 k,.bool b,i64 n,i64 m,.str s,.isl (rcs l) l.length none,sI ks]
def rcs:List RV→List LV
 | []=>[]
 | r::rs=>rc r++rcs rs
end
abbrev vR (r:RV):LV:=.agg (rc r)
abbrev rL (l:List RV):LV:=.isl (rcs l) l.length none
theorem kF {r:RV}:rc r=[i64 r.k,.bool r.b,i64 r.n,i64 r.m,.str r.s,rL r.l,sI r.ks]:=by cases r;rfl
theorem ga {r:RV}:(rc r).length=7:=by rw[kF];rfl
theorem qv:∀ {l:List RV},rcs l=(l.map rc).flatten
 | []=>rfl
 | r::rs=>by simp[rcs,qv (l:=rs)]
theorem uV {l:List RV}:(rcs l).length=l.length*7:=by
 rw[qv,kp (c:=7) (by intro x h;obtain ⟨r,_,rfl⟩:=List.mem_map.1 h;exact ga)];simp
mutual
theorem sh:∀ {r:RV},LV.ar (rc r)=true
 | .mk k b n m s l ks=>by
  simp only[rc,LV.ar,LV.plain,Bool.true_and,Bool.and_true,aF]
  exact ⟨iW,bP fun _ _=>rfl⟩
theorem iW:∀ {l:List RV},LV.ar (rcs l)=true
 | []=>rfl
 | r::rs=>by rw[rcs,nN,sh,iW];rfl
end
theorem si {r:RV}:(vR r).plain=true:=by simp only[LV.plain,sh]
theorem gF {r:RV}:LV.ar [vR r]=true:=by simp only[LV.ar,si,Bool.and_true]
mutual
def RV.ok:RV→Prop
 | .mk k _ n m s l ks=>((-9223372036854775808≤k∧k<9223372036854775808)∧(-9223372036854775808≤n∧n<9223372036854775808)∧(-9223372036854775808≤m∧m<9223372036854775808))∧
  s.length≤big∧l.length≤big∧(ks.length≤big∧∀ x ∈ ks,x.length≤big)∧RV.oks l
def RV.oks:List RV→Prop
 | []=>True
 | r::rs=>RV.ok r∧RV.oks rs
end
theorem RV.eL:∀ {l:List RV},RV.oks l↔∀ t ∈ l,t.ok
 | []=>by simp[RV.oks]
 | t::ts=>by simp[RV.oks,RV.eL (l:=ts)]
theorem RV.qw {r:RV} (h:r.ok):r.l.length≤big∧∀ x ∈ r.l,x.ok:=by
 cases r;simp only[RV.ok] at h;exact ⟨h.2.2.1,RV.eL.1 h.2.2.2.2⟩
theorem RV.Cd {r:RV} (h:r.ok):r.ks.length≤big∧∀ x ∈ r.ks,x.length≤big:=by
 cases r;simp only[RV.ok] at h;exact h.2.2.2.1
theorem y8 {l:List RV} {i:Nat} {r:RV} (h:l[i]?=some r):((rcs l).drop (i*7)).take 7=rc r∧i*7+7≤(rcs l).length:=by
 have h1:(l.map rc)[i]?=some (rc r):=by simp[h]
 obtain ⟨e1,e2⟩:=iz (c:=7) (rows:=l.map rc) (by intro x h;obtain ⟨r,_,rfl⟩:=List.mem_map.1 h;exact ga) h1
 rw[qv]
 exact ⟨e1,by omega⟩
theorem iX {st:aa} {l:List RV} {i:Nat} {r:RV} (h:l[i]?=some r):ldA st (.iptr (rcs l) (i*7)) 7=some (vR r):=by
 obtain ⟨e1,e2⟩:=y8 h
 rw[nO e2,e1]
def dC (st:aa) (o:Nat) (r:RV):Prop:=st[o]?=some (.cells .rw (rc r))
theorem dC.ldA {st:aa} {o:Nat} {r:RV} (h:dC st o r):ldA st (.ptr o 0) 7=some (vR r):=by
 rw[eE h (by rw[ga];omega)]
 congr 2
 rw[List.drop_zero,List.take_of_length_le (by rw[ga];omega)]
theorem aP {d o k:Nat}:aK d (.ptr o k)=some (.ptr o (k+d)):=rfl
theorem dC.ld {st:aa} {o i:Nat} {r:RV} {v:LV} (h:dC st o r) (hv:(rc r)[i]?=some v):ld1 st (.ptr o i)=some v:=by
 simp only[ld1,show st[o]?=_ from h,hv]
theorem dC.k {st:aa} {o:Nat} {r:RV} (h:dC st o r):ld1 st (.ptr o 0)=some (i64 r.k):=h.ld (by rw[kF];rfl)
theorem dC.b {st:aa} {o:Nat} {r:RV} (h:dC st o r):ld1 st (.ptr o 1)=some (.bool r.b):=h.ld (by rw[kF];rfl)
theorem dC.n {st:aa} {o:Nat} {r:RV} (h:dC st o r):ld1 st (.ptr o 2)=some (i64 r.n):=h.ld (by rw[kF];rfl)
theorem dC.m {st:aa} {o:Nat} {r:RV} (h:dC st o r):ld1 st (.ptr o 3)=some (i64 r.m):=h.ld (by rw[kF];rfl)
theorem dC.s {st:aa} {o:Nat} {r:RV} (h:dC st o r):ld1 st (.ptr o 4)=some (.str r.s):=h.ld (by rw[kF];rfl)
theorem dC.l {st:aa} {o:Nat} {r:RV} (h:dC st o r):ld1 st (.ptr o 5)=some (rL r.l):=h.ld (by rw[kF];rfl)
theorem dC.ks {st:aa} {o:Nat} {r:RV} (h:dC st o r):ld1 st (.ptr o 6)=some (sI r.ks):=h.ld (by rw[kF];rfl)
theorem iY {st:aa} {r:RV}:cy st (vR r)=some (.ptr st.length 0,st++[.cells .rw (rc r)]):=by cases r;rfl
theorem lD {a b:Int}:gh [i64 a,i64 b]=some (i64 (max a b)):=by
 simp only[gh,lJ,uj]
 congr 2
 rw[Int.max_def]
 split<;>split<;>omega
theorem Bc {a b:Int}:oN [i64 a,i64 b]=some (i64 (min a b)):=by
 simp only[oN,lJ,uk]
 congr 2
 rw[Int.min_def]
 split<;>split<;>omega
theorem Bd {r:RV} (hl:r.l.length≤big) (hrec:∀ x ∈ r.l,∃ n,Pu Tryz.prog 85 [vR x] (i64 n)) :
  ∀ (d i:Nat) (acc:Int),i+d=r.l.length→∃ n,∀ {st:aa} {R:LV→aa→Prop} {o:Nat},dC st o r→R (i64 n) st→uD (.ptr o 0) (i64 acc) (i64 i) R st:=by
 intro d
 induction d with
 | zero=>
  intro i acc hi
  refine ⟨acc,fun {st R o} hb hR=>?_⟩
  apply zL
  have:¬ ((i:Int)<r.l.length):=by omega
  simp only[uF,aP,av,ad,hb.l,bj,aq,aY,bD]
  exact ⟨fun h=>absurd h this,fun _=>hR⟩
 | succ d ih=>
  intro i acc hi
  have hlt:i<r.l.length:=by omega
  have hx:r.l[i]?=some r.l[i]:=ba hlt
  obtain ⟨n1,h1⟩:=hrec _ (List.getElem_mem hlt)
  obtain ⟨n,hn⟩:=ih (i+1) (IntKind.i64.wrap (acc+n1)) (by omega)
  refine ⟨n,fun {st R o} hb hR=>?_⟩
  apply zL
  have e1:bF 7 (rL r.l) (i64 i)=some (.iptr (rcs r.l) (i*7)):=dj hlt
  simp only[uF,aP,av,ad,hb.l,bj,aq,aY,bD,e1,iX hx]
  refine ⟨fun _=>h1.call ?_,fun h=>absurd (by omega:(i:Int)<r.l.length) h⟩
  simp only[bI,ad,bR (show i<2 ^ 40 by unfold big at hl;omega)]
  exact hn hb hR
theorem y9:∀ {r:RV},r.ok→∃ n,Pu Tryz.prog 85 [vR r] (i64 n):=fun {r}=>by
 refine RV.ind (p:=fun r=>r.ok→∃ n,Pu Tryz.prog 85 [vR r] (i64 n)) ?_ _ r (Nat.lt_succ_self _)
 intro r ih hr
 obtain ⟨hl,ho⟩:=RV.qw hr
 obtain ⟨n,hn⟩:=Bd hl (fun x hx=>ih x hx (ho x hx)) r.l.length 0 1 (by omega)
 refine ⟨n,Pu.of (c85 _ ?_) gF rfl⟩
 simp only[w85,iY,aj]
 exact hn (R:=fun x s=>dp s (i64 n) x) rfl rfl
theorem Be {r:RV} (hl:r.l.length≤big) (hrec:∀ x ∈ r.l,∃ n,Pu Tryz.prog 86 [vR x] (i64 n)) :
  ∀ (d i:Nat) (acc:Int),i+d=r.l.length→∃ n,∀ {st:aa} {R:LV→aa→Prop} {o:Nat},dC st o r→R (i64 n) st→uE (.ptr o 0) (i64 acc) (i64 i) R st:=by
 intro d
 induction d with
 | zero=>
  intro i acc hi
  refine ⟨IntKind.i64.wrap (acc+1),fun {st R o} hb hR=>?_⟩
  apply zM
  have:¬ ((i:Int)<r.l.length):=by omega
  simp only[uG,aP,av,ad,hb.l,bj,aq,aY,bD,bI]
  exact ⟨fun h=>absurd h this,fun _=>hR⟩
 | succ d ih=>
  intro i acc hi
  have hlt:i<r.l.length:=by omega
  have hx:r.l[i]?=some r.l[i]:=ba hlt
  obtain ⟨n1,h1⟩:=hrec _ (List.getElem_mem hlt)
  obtain ⟨n,hn⟩:=ih (i+1) (max acc n1) (by omega)
  refine ⟨n,fun {st R o} hb hR=>?_⟩
  apply zM
  have e1:bF 7 (rL r.l) (i64 i)=some (.iptr (rcs r.l) (i*7)):=dj hlt
  simp only[uG,aP,av,ad,hb.l,bj,aq,aY,bD,e1,iX hx]
  refine ⟨fun _=>h1.call ?_,fun h=>absurd (by omega:(i:Int)<r.l.length) h⟩
  simp only[lD,bI,ad,bR (show i<2 ^ 40 by unfold big at hl;omega)]
  exact hn hb hR
theorem za:∀ {r:RV},r.ok→∃ n,Pu Tryz.prog 86 [vR r] (i64 n):=fun {r}=>by
 refine RV.ind (p:=fun r=>r.ok→∃ n,Pu Tryz.prog 86 [vR r] (i64 n)) ?_ _ r (Nat.lt_succ_self _)
 intro r ih hr
 obtain ⟨hl,ho⟩:=RV.qw hr
 obtain ⟨n,hn⟩:=Be hl (fun x hx=>ih x hx (ho x hx)) r.l.length 0 0 (by omega)
 refine ⟨n,Pu.of (c86 _ ?_) gF rfl⟩
 simp only[w86,iY,aj]
 exact hn (R:=fun x s=>dp s (i64 n) x) rfl rfl
theorem uW {r:RV} (hl:r.l.length≤big) (hrec:∀ x ∈ r.l,∃ n,Pu Tryz.prog 24 [vR x] (i64 n)) :
  ∀ (d i:Nat) (acc:Int),i+d=r.l.length→∃ n,∀ {st:aa} {R:LV→aa→Prop} {o:Nat} {x4:LV},dC st o r→R (i64 n) st→rS (.ptr o 0) (i64 acc) x4 (i64 i) R st:=by
 intro d
 induction d with
 | zero=>
  intro i acc hi
  refine ⟨acc,fun {st R o x4} hb hR=>?_⟩
  apply xa
  have:¬ ((i:Int)<r.l.length):=by omega
  simp only[rX,aP,av,ad,hb.l,bj,aq,aY,bD]
  exact ⟨fun h=>absurd h this,fun _=>hR⟩
 | succ d ih=>
  intro i acc hi
  have hlt:i<r.l.length:=by omega
  have hx:r.l[i]?=some r.l[i]:=ba hlt
  obtain ⟨n1,h1⟩:=hrec _ (List.getElem_mem hlt)
  obtain ⟨n,hn⟩:=ih (i+1) (IntKind.i64.wrap (acc+n1)) (by omega)
  by_cases h0:acc=0
  ·refine ⟨n,fun {st R o x4} hb hR=>?_⟩
   apply xa
   have e1:bF 7 (rL r.l) (i64 i)=some (.iptr (rcs r.l) (i*7)):=dj hlt
   have e2:(acc==0)=true:=by simp[h0]
   simp only[rX,aP,av,ad,hb.l,bj,aq,aY,bD,cP,e2,aH,e1,iX hx]
   refine ⟨fun _=>h1.call ?_,fun h=>absurd (by omega:(i:Int)<r.l.length) h⟩
   simp only[bI,ad,bR (show i<2 ^ 40 by unfold big at hl;omega)]
   exact hn hb hR
  ·refine ⟨acc,fun {st R o x4} hb hR=>?_⟩
   apply xa
   have e2:(acc==0)=false:=by simp[h0]
   simp only[rX,aP,av,ad,hb.l,bj,aq,aY,bD,cP,e2,aA]
   exact ⟨fun _=>hR,fun _=>hR⟩
theorem Bf {r:RV} (hr:r.ok) (hrec:∀ x ∈ r.l,∃ n,Pu Tryz.prog 24 [vR x] (i64 n)) :
  ∀ (d i:Nat) (acc:Int),i+d=r.ks.length→∃ n,∀ {st:aa} {R:LV→aa→Prop} {o:Nat} {x5:LV},dC st o r→R (i64 n) st→uB (.ptr o 0) (i64 acc) (i64 i) x5 R st:=by
 intro d
 induction d with
 | zero=>
  intro i acc hi
  obtain ⟨n,hn⟩:=uW (RV.qw hr).1 hrec r.l.length 0 acc (by omega)
  refine ⟨n,fun {st R o x5} hb hR=>?_⟩
  apply wY
  have:¬ ((i:Int)<r.ks.length):=by omega
  simp only[rV,aP,av,ad,hb.ks,bj,aq,aY,bD]
  exact ⟨fun h=>absurd h this,fun _=>hn hb hR⟩
 | succ d ih=>
  intro i acc hi
  have hlt:i<r.ks.length:=by omega
  have hx:(r.ks.map LV.str)[i*1]?=some (.str r.ks[i]):=by simp[hlt]
  by_cases h80:(i:Int)<80
  ·obtain ⟨n,hn⟩:=ih (i+1) (IntKind.i64.wrap (acc+max (IntKind.i64.wrap ((r.ks[i].length:Int)-300)) 0)) (by omega)
   refine ⟨n,fun {st R o x5} hb hR=>?_⟩
   apply wY
   have e1:bF 1 (sI r.ks) (i64 i)=some (.iptr (r.ks.map .str) (i*1)):=dj hlt
   simp only[rV,aP,av,ad,hb.ks,bj,aq,aY,bD,e1,fD,hx,nD,kc,lD,bI,bR (show i<2 ^ 40 by omega)]
   exact ⟨fun _=>⟨fun _=>hn hb hR,fun h=>absurd h80 h⟩,fun h=>absurd (by omega:(i:Int)<r.ks.length) h⟩
  ·obtain ⟨n,hn⟩:=uW (RV.qw hr).1 hrec r.l.length 0 acc (by omega)
   refine ⟨n,fun {st R o x5} hb hR=>?_⟩
   apply wY
   simp only[rV,aP,av,ad,hb.ks,bj,aq,aY,bD]
   exact ⟨fun _=>⟨fun h=>absurd h h80,fun _=>hn hb hR⟩,fun _=>hn hb hR⟩
theorem xK:∀ {r:RV},r.ok→∃ n,Pu Tryz.prog 24 [vR r] (i64 n):=fun {r}=>by
 refine RV.ind (p:=fun r=>r.ok→∃ n,Pu Tryz.prog 24 [vR r] (i64 n)) ?_ _ r (Nat.lt_succ_self _)
 intro r ih hr
 obtain ⟨hl,ho⟩:=RV.qw hr
 obtain ⟨n1,h1⟩:=y9 hr
 obtain ⟨n2,h2⟩:=za hr
 obtain ⟨n,hn⟩:=Bf hr (fun x hx=>ih x hx (ho x hx)) r.ks.length 0 (IntKind.i64.wrap (IntKind.i64.wrap (IntKind.i64.wrap (IntKind.i64.wrap (max (IntKind.i64.wrap ((r.l.length:Int)-70)) 0+max (IntKind.i64.wrap ((r.ks.length:Int)-70)) 0)+max (IntKind.i64.wrap ((r.s.length:Int)-300)) 0)+max (IntKind.i64.wrap (n1-200)) 0)+max (IntKind.i64.wrap (n2-12)) 0)) (by omega)
 refine ⟨n,Pu.of (c24 _ ?_) gF rfl⟩
 have hb:dC ([]++[.cells .rw (rc r)]) ([]:aa).length r:=rfl
 simp only[w24,iY,aj,aP,av,ad,hb.l,hb.ks,hb.s,hb.ldA,bj,aq,kc,bI,lD,nD]
 refine h1.call ⟨hb.ldA,hb.s,hb.ks,hb.l,?_⟩
 simp only[aq,kc,bI,lD,ad]
 refine h2.call ⟨hb.s,hb.ks,hb.l,?_⟩
 simp only[aq,kc,bI,lD,ad]
 exact hn (R:=fun x s=>dp s (i64 n) x) hb rfl
end Go.Proofs.YtknegckgmklnhaaGreatDoor
namespace Go.CP
theorem uX {f:Option Nat} {sz n k:Nat} (hsz:0<sz) (hk:k≤n) (hn:f=none→n=0) :
  ∃ y,(∀ st,cq st sz (osl f sz n) none (some k) none=some y)∧∀ {m0:Md} {st:aa} {cs:List LV},bS m0 st f sz n cs→fT st sz y=some (k,cs.take (k*sz)):=by
 cases f with
 | none=>
  obtain rfl:=hn rfl
  obtain rfl:k=0:=by omega
  refine ⟨.nils,fun st=>rfl,fun {m0 st cs} h=>?_⟩
  simp[fT]
 | some o=>
  refine ⟨.sl o 0 k (.rest sz),fun st=>?_,fun {m0 st cs} h=>?_⟩
  ·simp[osl,cq,mU,kQ,hk,hsz]
  ·obtain ⟨rest,h2⟩:=h.2
   have hl:=h.1
   have hle:k*sz≤n*sz:=Nat.mul_le_mul_right _ hk
   simp only[fT,h2]
   rw[if_pos (by simp;omega),List.drop_zero,List.take_append_of_le_length (by omega)]
theorem pe {f:Option Nat} {sz n k:Nat} (hsz:0<sz) (hk:k≤n) (hn:f=none→n=0) :
  ∃ y,(∀ st,cq st sz (osl f sz n) (some k) none none=some y)∧∀ {m0:Md} {st:aa} {cs:List LV},bS m0 st f sz n cs→fT st sz y=some (n-k,cs.drop (k*sz)):=by
 cases f with
 | none=>
  obtain rfl:=hn rfl
  obtain rfl:k=0:=by omega
  refine ⟨.nils,fun st=>rfl,fun {m0 st cs} h=>?_⟩
  have:cs=[]:=by have:=h.1;simp at this;exact this
  simp[fT,this]
 | some o=>
  rcases Nat.eq_zero_or_pos k with rfl|h0
  ·refine ⟨.sl o 0 n (.rest sz),fun st=>?_,fun {m0 st cs} h=>?_⟩
   ·simp[osl,cq,mU,kQ,hsz]
   ·obtain ⟨rest,h2⟩:=h.2
    have hl:=h.1
    simp only[fT,h2]
    rw[if_pos (by simp;omega),List.drop_zero,List.take_append_of_le_length (by omega),List.take_of_length_le (by omega)]
    simp
  rcases Nat.lt_or_ge k n with hlt|hge
  ·refine ⟨.sl o (0+k*sz) (n-k) (.rest sz),fun st=>?_,fun {m0 st cs} h=>?_⟩
   ·have h1:¬ k=0:=by omega
    simp[osl,cq,mU,kQ,hsz,hk,hlt,h1]
   ·obtain ⟨rest,h2⟩:=h.2
    have hl:=h.1
    have e1:k*sz+(n-k)*sz=n*sz:=by rw[← Nat.add_mul];congr 1;omega
    simp only[fT,h2]
    rw[if_pos (by simp;omega),av,List.drop_append_of_le_length (by omega),List.take_append_of_le_length (by simp;omega),List.take_of_length_le (by simp;omega)]
  ·refine ⟨.emp,fun st=>?_,fun {m0 st cs} h=>?_⟩
   ·have h1:¬ k=0:=by omega
    have h2:¬ k<n:=by omega
    simp[osl,cq,mU,kQ,hsz,hk,h1,h2]
   ·have hl:=h.1
    have e1:n-k=0:=by omega
    rw[e1,dw (by rw[hl];exact Nat.mul_le_mul_right _ hge)];rfl
theorem xL {k:Nat} {F:Option Nat→Option Nat→Option Nat→Option LV}:ob3 none (some (.int .i64 (k:Int))) none F=F none (some k) none:=by
 simp[ob3,hU]
theorem xM {k:Nat} {F:Option Nat→Option Nat→Option Nat→Option LV}:ob3 (some (.int .i64 (k:Int))) none none F=F (some k) none none:=by
 simp[ob3,hU]
def Gr (st:aa) (a:Nat) (A:LV) (sz n:Nat) (cs:List LV):Prop:=
 (n=0∧cs=[]∧A=.sl a 0 0 (.ex 0)∧st[a]?=some (.cells .rw []))∨(A=osl (some a) sz n∧bS .rw st (some a) sz n cs)
theorem Gr.lt {st:aa} {a:Nat} {A:LV} {sz n:Nat} {cs:List LV} (h:Gr st a A sz n cs):a<st.length:=by
 rcases h with ⟨_,_,_,h⟩ | ⟨_,h⟩
 ·exact b6 h
 ·exact h.lt
theorem Gr.fr {st st':aa} {a:Nat} {A:LV} {sz n:Nat} {cs:List LV} (h:Gr st a A sz n cs) {S:Nat→Prop} (hf:Fr st st' S) (hs:¬ S a):Gr st' a A sz n cs:=by
 rcases h with ⟨h1,h2,h3,h⟩ | ⟨h1,h⟩
 ·exact .inl ⟨h1,h2,h3,hf.get h hs⟩
 ·exact .inr ⟨h1,h.fr hf (by rintro o ⟨⟩;exact hs)⟩
theorem Gr.own {st:aa} {a:Nat} {A:LV} {sz n:Nat} {cs:List LV} (h:Gr st a A sz n cs) (hn:0<n):A=osl (some a) sz n∧bS .rw st (some a) sz n cs:=by
 rcases h with ⟨h1,_⟩ | h
 ·omega
 ·exact h
theorem Gr.new {st:aa} {sz:Nat}:Gr (st++[.cells .rw []]) st.length (.sl st.length 0 0 (.ex 0)) sz 0 []:=.inl ⟨rfl,rfl,rfl,by simp⟩
theorem Gr.append {st:aa} {a:Nat} {A:LV} {sz n bytes:Nat} {cs new:List LV} {x:LV} {k:Nat} (h:Gr st a A sz n cs) (hx:fT st sz x=some (k,new)) (hn:new.length=k*sz) (h1:new.all LV.one=true)
  (hr:dn (n+k) bytes=true) :
  ∃ st2 A2 a2,a6 st sz bytes .rw A x=some (A2,st2)∧Gr st2 a2 A2 sz (n+k) (cs++new)∧Fr st st2 (fun j=>j=a)∧(a2=a∨st.length≤a2):=by
 rcases Nat.eq_zero_or_pos k with rfl|hk
 ·have:new=[]:=by simpa using hn
  subst this
  refine ⟨st,A,a,?_,by simpa using h,Fr.refl,.inl rfl⟩
  rcases h with ⟨_,_,rfl,_⟩ | ⟨rfl,_⟩<;>simp[a6,hx,osl]
 ·rcases h with ⟨rfl,rfl,rfl,ha⟩ | ⟨rfl,ho⟩
  ·refine ⟨st++[.cells .rw ([]++new)],.sl st.length 0 (0+k) (.rest sz),st.length,?_,.inr ⟨rfl,?_,[],by simp⟩,Fr.app,.inr (Nat.le_refl _)⟩
   ·have hk0:¬ k=0:=by omega
    have hk1:¬ 0+k≤0:=by omega
    simp only[a6,hx,ha,hk0,if_false,hk1]
    rw[if_pos ⟨hr,by simp⟩];simp
   ·simp[hn]
  ·obtain ⟨st2,f2,e1,e2,e3,e4,_⟩:=ho.append (bytes:=bytes) hx hk hn h1 hr
   cases f2 with
   | none=>have:=e2.2;simp only at this;omega
   | some o2=>
    refine ⟨st2,_,o2,e1,.inr ⟨rfl,e2⟩,e3.mono fun j _ hj=>(Option.some.inj hj).symm,?_⟩
    rcases e4 o2 rfl with e|e
    ·exact .inl (Option.some.inj e).symm
    ·exact .inr e
end Go.CP
