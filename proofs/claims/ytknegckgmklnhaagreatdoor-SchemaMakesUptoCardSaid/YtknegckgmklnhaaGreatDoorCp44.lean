/- Parts of the proof. -/
import Derived.Test.YtknegckgmklnhaaGreatDoorVaT
import Derived.Test.YtknegckgmklnhaaGreatDoorVbW
namespace Go.CP
open Go.ChangeShapes Go.WideShapes Go.ChangeAt Go.RowKit
section
variable {H:Type} {enc:TypeId × Value→H} {P:Program} {w0 w:World} {base:Nat} {sp:Nat→Bool} {held:Bool}
def r9 (P:Program) (t:TypeId) (x:LV) (d:DataW H):Prop:=∃ n cs,x=(if bQ P t=true then .agg cs else x)∧(bQ P t=false→cs=[x])∧ck P n t cs d
def lS (P:Program):List TypeId→List LV→List (DataW H)→Prop
 | [],xs,ds=>xs=[]∧ds=[]
 | t::ts,xs,ds=>∃ x xs' d ds',xs=x::xs'∧ds=d::ds'∧r9 P t x d∧lS P ts xs' ds'
theorem pL {S:List TypeId} (hS:S.all (okT P S)=true):∀ {ts:List TypeId} {vs:List Value} {ds:List (DataW H)} {ps:List MemPlace},(∀ t ∈ ts,t ∈ S)→
  DataW.TrodAll enc P w base sp held ts vs ds ps→(∀ (j:Nat) t v,ts[j]?=some t→vs[j]?=some v→Value.okWide P w .any 0 t v)→
  ∃ xs,Rps (eZ w) xs vs∧lS P ts xs ds
 | [],vs,ds,ps,_,h,_=>by
  obtain ⟨rfl,rfl,_⟩:vs=[]∧ds=[]∧ps=[]:=by
   cases vs<;>cases ds<;>simp_all [DataW.TrodAll]
  exact ⟨[],rfl,rfl,rfl⟩
 | t::ts,vs,ds,ps,hts,h,hv=>by
  obtain ⟨v,vs',d,ds',p,q,rfl,rfl,rfl,⟨fuel,h1⟩,h2⟩:=trodAll_cons h
  have hval:=hv 0 t v rfl rfl
  obtain ⟨cs,p1,t1⟩:=kg hS fuel (hts t (by simp)) h1
  obtain ⟨xs,p2,t2⟩:=pL hS (fun t ht=>hts t (List.mem_cons_of_mem _ ht)) h2 (fun j t v a b=>hv (j+1) t v (by simpa using a) (by simpa using b))
  have hok:=List.all_eq_true.1 hS t (hts t (by simp))
  have one:∀ {u:Value},v=u→u.cells.toList=[u]→bQ P t=false→∃ x,Rp (eZ w) x v∧r9 P t x d:=by
   intro u e hu hs
   subst e
   rw[hu] at p1
   obtain ⟨y,us,rfl,hy,e'⟩:∃ y us,cs=y::us∧Rp (eZ w) y v∧us=[]:=by
    cases cs with
    | nil=>simp only[Rps] at p1;cases p1
    | cons y us=>
     obtain ⟨v',us',e1,e2,e3⟩:=p1
     simp only[List.cons.injEq] at e1
     obtain ⟨rfl,rfl⟩:=e1
     cases us with
     | nil=>exact ⟨y,[],rfl,e2,rfl⟩
     | cons z zs=>obtain ⟨_,_,e4,_⟩:=e3;cases e4
   subst e'
   exact ⟨y,hy,fuel,[y],by simp[hs],fun _=>rfl,t1⟩
  have arg:∃ x,Rp (eZ w) x v∧r9 P t x d:=by
   unfold okT at hok
   split at hok
   ·rename_i hu
    obtain ⟨b,rfl⟩:=okWide_bool hu hval
    exact one rfl rfl (by simp[bQ,hu])
   ·rename_i k hu
    obtain ⟨b,rfl⟩:=okWide_int hu hval
    exact one rfl rfl (by simp[bQ,hu])
   ·rename_i hu
    obtain ⟨b,rfl⟩:=okWide_string hu hval
    exact one rfl rfl (by simp[bQ,hu])
   ·rename_i e hu
    obtain ⟨a,l,c,rfl⟩:=okWide_slice hu hval
    exact one rfl rfl (by simp[bQ,hu])
   ·rename_i fs hu
    obtain ⟨us,rfl,_⟩:=okWide_struct hu hval
    exact ⟨.agg cs,⟨us.toList,rfl,p1⟩,fuel,cs,by simp[bQ,hu],by simp[bQ,hu],t1⟩
   ·cases hok
  obtain ⟨x,hx,tx⟩:=arg
  exact ⟨x::xs,⟨v,vs',rfl,hx,p2⟩,x,xs,d,ds',rfl,rfl,tx,t2⟩
end
theorem Rel.Dg {W:World} {gs:List (Nat × List LV)} (h:∀ p ∈ gs,Gl W p):∃ β,Rel W β (rX gs) W∧(eZ W).le β:=by
 have hro:CR (rX gs):=by
  intro y hy
  obtain ⟨p,_,rfl⟩:=List.mem_map.1 hy
  rfl
 refine ⟨⟨fun o=>match gs[o]? with
  | some p=>some ⟨p.1,0,match W.heap[p.1]? with
   | some (.cells c _ _)=>c.size
   | _=>0⟩
  | none=>none,(eZ W).f,W.heap.size⟩,⟨Bw.refl _ _,?_,?_,?_,rfl,fun _ _ h=>h,fun o x b hx hr _=>(by simp[hro x (List.mem_of_getElem? hx)] at hr)⟩,⟨fun _ _ e=>(by cases e),fun _ _ e=>e,rfl,fun _ _ e _=>e⟩⟩
 ·intro o ho
  have:gs[o]?=none:=List.getElem?_eq_none (by simpa[rX] using ho)
  simp only[this]
 ·intro o x hx
  unfold rX at hx
  rw[List.getElem?_map] at hx
  obtain ⟨p,hp,rfl⟩:=Option.map_eq_some_iff.1 hx
  obtain ⟨c,e,fz,hh,hl,hc⟩:=h p (List.mem_of_getElem? hp)
  refine ⟨⟨p.1,0,c.size⟩,by simp only[hp,hh],c,e,fz,hh,by simp,Nat.le_of_eq hl,?_,(fun k=>by cases k),(by rintro t ⟨⟩),?_⟩
  ·intro i y hy
   obtain ⟨u,hu,r⟩:=hc i y hy
   exact ⟨u,by simpa using hu,r _⟩
  ·rintro g n ⟨⟩;exact ⟨rfl,rfl,hl.symm⟩
 ·intro o o' x x' b b' hx hr
  rw[hro x (List.mem_of_getElem? hx)] at hr;cases hr
section
variable {H:Type} {enc:TypeId × Value→H} {P:Program}
theorem qN {f:FuncId} {F:Func} {s:ChangeSpec} {apart fresh handsOn:Bool} {W:World} {args:Array Value} {ds gs:List (DataW H)} {before:List MemPlace} (S:List TypeId) (tb:TypeId)
  (hS:S.all (okT P S)=true) (hts:F.params.toList.all S.contains=true) (hlaid:laidOutB P=true) (hrd:(F.params.toList.all fun t=>P.readableRec t&&decide (t<P.types.size))=true)
  (hres:F.resultTypes.toList=[tb]) (htb:P.underlying tb=some .bool) (hsz:F.resultTypes.size=1) (hvs:s.vars=[])
  (hspec:∀ ds:List (DataW H),ds.length=F.params.toList.length→(s.fn H ds).results=[.lit (.bool true)]∧(s.fn H ds).args=ds∧(s.fn H ds).vars=[])
  (hfn:P.funcs[f]?=some F) (hbody:F.body.isSome=true) (hname:(F.name == "runtime.NumGoroutine")=false)
  (hval:∀ (j:Nat) t v,F.params[j]?=some t→args[j]?=some v→Value.okWide P W .any 0 t v)
  (hW:DataW.Whole enc P F.params.toList s.vars apart W args.toList ds gs before) (gl:List (Nat × List LV)) (hgl:∀ p ∈ gl,Gl W p)
  (law:∀ xs,lS P F.params.toList xs ds→au P f xs (rX gl) fun r _=>r=.bool true) :
  Calls P f args W fun e W'=>∃ v,e=.returned v∧s.post enc P F apart fresh handsOn false W args v W':=by
 have hW':=hW
 obtain ⟨p,q,hA,hV,rfl,hfz,hnd⟩:=hW
 rw[hvs] at hV
 obtain ⟨rfl,rfl⟩:=trodVars_none hV
 have hlen:=nG hA
 obtain ⟨e1,e2,e3⟩:=hspec (ds++[]) (by simpa using hlen)
 obtain ⟨β,hr,hle⟩:=Rel.Dg hgl
 obtain ⟨xs,hp,ht⟩:=pL hS (fun t h=>by simpa using List.all_eq_true.1 hts t h) hA (fun j t v a b=>hval j t v (by simpa using a) (by simpa using b))
 obtain ⟨bc,hbc⟩:=Option.isSome_iff_exists.1 hbody
 have hcall:=au.law ⟨F,bc,hfn,hbc,hname⟩ (law xs ht) hr (hp.mono hle)
 refine hcall.mono fun e W' ⟨he,hb⟩=>?_
 have hlt:∀ x ∈ p,x.block<W.heap.size:=fun x hx=>hW'.lt x (List.mem_append.2 (.inl hx))
 refine ⟨_,he,ds,[],p++[],[],p,[],hW',?_,?_,?_,hb.frame _,fun h=>by cases h⟩
 ·rw[e1,hres,hsz]
  exact trodAll_cons_mk (shut_bool htb _) trodAll_mk0
 ·rw[e2,List.append_nil]
  exact kE hlaid hb hrd hA hlt
 ·rw[hvs,e3];rfl
end
end Go.CP
namespace Go.Proofs.YtknegckgmklnhaaGreatDoor
open Go Go.CP
set_option maxRecDepth 100000
inductive RV where
 | mk (k:Int) (b:Bool) (n m:Int) (s:List UInt8) (l:List RV) (ks:List (List UInt8))
namespace RV
def k:RV→Int|mk k _ _ _ _ _ _=>k
def b:RV→Bool|mk _ b _ _ _ _ _=>b
def n:RV→Int|mk _ _ n _ _ _ _=>n
def m:RV→Int|mk _ _ _ m _ _ _=>m
def s:RV→List UInt8|mk _ _ _ _ s _ _=>s
def l:RV→List RV|mk _ _ _ _ _ l _=>l
def ks:RV→List (List UInt8) | mk _ _ _ _ _ _ ks=>ks
theorem yZ {r x:RV} (h:x ∈ r.l):SizeOf.sizeOf x<SizeOf.sizeOf r:=by
 cases r
 have:=List.sizeOf_lt_of_mem h
 simp only[l] at this
 simp;omega
theorem ind {p:RV→Prop} (h:∀ r,(∀ x ∈ r.l,p x)→p r):∀ (n:Nat) (r:RV),SizeOf.sizeOf r<n→p r
 | 0,_,hn=>by omega
 | n+1,r,hn=>h r fun x hx=>ind h n x (by have:=yZ hx;omega)
end RV
abbrev sI (l:List (List UInt8)):LV:=.isl (l.map .str) l.length none
mutual
def rc:RV→List LV
 | .mk k b n m s l ks=>[i64 k,.bool b,i64 n,i64 m,.str s,.isl (rcs l) l.length none,sI ks]
def rcs:List RV→List LV
 | []=>[]
 | r::rs=>rc r++rcs rs
end
abbrev vR (r:RV):LV:=.agg (rc r)
abbrev rL (l:List RV):LV:=.isl (rcs l) l.length none
theorem nO {r:RV}:rc r=[i64 r.k,.bool r.b,i64 r.n,i64 r.m,.str r.s,rL r.l,sI r.ks]:=by cases r;rfl
theorem y8 {r:RV}:(rc r).length=7:=by rw[nO];rfl
mutual
def RV.ok:RV→Prop
 | .mk k _ n m s l ks=>((-9223372036854775808≤k∧k<9223372036854775808)∧(-9223372036854775808≤n∧n<9223372036854775808)∧(-9223372036854775808≤m∧m<9223372036854775808))∧
  s.length≤big∧l.length≤big∧(ks.length≤big∧∀ x ∈ ks,x.length≤big)∧RV.oks l
def RV.oks:List RV→Prop
 | []=>True
 | r::rs=>RV.ok r∧RV.oks rs
end
def gI (st:aa) (o:Nat) (r:RV):Prop:=st[o]?=some (.cells .rw (rc r))
theorem gI.ldA {st:aa} {o:Nat} {r:RV} (h:gI st o r):ldA st (.ptr o 0) 7=some (vR r):=by
 rw[eS h (by rw[y8];omega)]
 congr 2
 rw[List.drop_zero,List.take_of_length_le (by rw[y8];omega)]
theorem ao {d o k:Nat}:ad d (.ptr o k)=some (.ptr o (k+d)):=rfl
theorem gI.ld {st:aa} {o i:Nat} {r:RV} {v:LV} (h:gI st o r) (hv:(rc r)[i]?=some v):ld1 st (.ptr o i)=some v:=by
 simp only[ld1,show st[o]?=_ from h,hv]
theorem gI.k {st:aa} {o:Nat} {r:RV} (h:gI st o r):ld1 st (.ptr o 0)=some (i64 r.k):=h.ld (by rw[nO];rfl)
theorem gI.b {st:aa} {o:Nat} {r:RV} (h:gI st o r):ld1 st (.ptr o 1)=some (.bool r.b):=h.ld (by rw[nO];rfl)
theorem gI.n {st:aa} {o:Nat} {r:RV} (h:gI st o r):ld1 st (.ptr o 2)=some (i64 r.n):=h.ld (by rw[nO];rfl)
theorem gI.m {st:aa} {o:Nat} {r:RV} (h:gI st o r):ld1 st (.ptr o 3)=some (i64 r.m):=h.ld (by rw[nO];rfl)
theorem gI.s {st:aa} {o:Nat} {r:RV} (h:gI st o r):ld1 st (.ptr o 4)=some (.str r.s):=h.ld (by rw[nO];rfl)
theorem gI.l {st:aa} {o:Nat} {r:RV} (h:gI st o r):ld1 st (.ptr o 5)=some (rL r.l):=h.ld (by rw[nO];rfl)
theorem gI.ks {st:aa} {o:Nat} {r:RV} (h:gI st o r):ld1 st (.ptr o 6)=some (sI r.ks):=h.ld (by rw[nO];rfl)
theorem vq {a b:Int}:oH [i64 a,i64 b]=some (i64 (max a b)):=by
 simp only[oH,oG,wh]
 congr 2
 rw[Int.max_def]
 split<;>split<;>omega
end Go.Proofs.YtknegckgmklnhaaGreatDoor
namespace Go.Proofs.YtknegckgmklnhaaGreatDoor
open Go Go.CP
set_option maxRecDepth 100000
abbrev u8 (c:UInt8):LV:=.int .u8 c.toNat
abbrev rdC (s:Tx) (a:Nat) (e:Int) (d:Nat):List LV:=[.str s,i64 a,i64 e,i64 d]
abbrev rdO (s:Tx) (a:Nat) (e:Int) (d:Nat):al:=.cells .rw (rdC s a e d)
def Rd (st:aa) (o:Nat) (s:Tx) (a:Nat) (e:Int) (d:Nat):Prop:=st[o]?=some (rdO s a e d)
section
variable {st st':aa} {o:Nat} {s:Tx} {a d n:Nat} {e:Int} {R:LV→aa→Prop}
theorem Rd.lt (h:Rd st o s a e d):o<st.length:=cI h
theorem Rd.l0 (h:Rd st o s a e d):ld1 st (.ptr o 0)=some (.str s):=by rw[aM h];rfl
theorem Rd.l1 (h:Rd st o s a e d):ld1 st (.ptr o 1)=some (i64 a):=by rw[aM h];rfl
theorem Rd.l2 (h:Rd st o s a e d):ld1 st (.ptr o 2)=some (i64 e):=by rw[aM h];rfl
theorem Rd.l3 (h:Rd st o s a e d):ld1 st (.ptr o 3)=some (i64 d):=by rw[aM h];rfl
theorem Rd.s1 (h:Rd st o s a e d) (n:Nat):stV st 1 (.ptr o 1) (i64 n)=some (st.set o (rdO s n e d)):=by rw[du h (by simp) rfl];rfl
theorem Rd.s2 (h:Rd st o s a e d) (n:Int):stV st 1 (.ptr o 2) (i64 n)=some (st.set o (rdO s a n d)):=by rw[du h (by simp) rfl];rfl
theorem Rd.s3 (h:Rd st o s a e d) (n:Nat):stV st 1 (.ptr o 3) (i64 n)=some (st.set o (rdO s a e n)):=by rw[du h (by simp) rfl];rfl
theorem Rd.set (h:Rd st o s a e d) {s':Tx} {a' d':Nat} {e':Int}:Rd (st.set o (rdO s' a' e' d')) o s' a' e' d':=bu h
theorem Rd.app {y:al} (h:Rd st o s a e d):Rd (st++[y]) o s a e d:=bU h
theorem Rd.fr {S:Nat→Prop} (h:Rd st o s a e d) (hf:Fr st st' S) (hs:¬ S o):Rd st' o s a e d:=hf.get h hs
theorem Rd.id (h:Rd st o s a e d):st.set o (rdO s a e d)=st:=by
 apply List.ext_getElem?
 intro j
 by_cases hj:j=o
 ·subst hj;rw[List.getElem?_set_self h.lt,h]
 ·rw[List.getElem?_set_ne (Ne.symm hj)]
theorem cA {i:Nat} {c:UInt8} {k:IntKind} (h:s[i]?=some c):cn (.str s) (.int k (i:Nat))=some (u8 c):=by
 simp only[cn]
 rw[if_pos (by omega)]
 simp[h]
theorem dN (h:Rd st o s a e d) (hR:R (.bool (e != 0)) st):au Tryz.prog 75 [.ptr o 0] st R:=by
 refine c75 _ ?_
 simp only[w75,aq,ab,ao,Nat.zero_add,h.l2,ag,bw]
 exact hR
theorem ff (h:Rd st o s a 0 d) (hR:R (.tup []) (st.set o (rdO s n e d))):au Tryz.prog 76 [.ptr o 0,i64 n,i64 e] st R:=by
 refine c76 _ _ _ ?_
 simp only[w76,aq,ab,ao,Nat.zero_add,h.l2,ag,aR,beq_self_eq_true,ah,h.s1 n,ay,ai]
 rw[(h.set).s2]
 simp only[ay,ai,List.set_set]
 exact hR
theorem tM {e':Int} (h:Rd st o s a e d) (he:e≠0) (hR:R (.tup []) st):au Tryz.prog 76 [.ptr o 0,i64 n,i64 e'] st R:=by
 refine c76 _ _ _ ?_
 have:(e==0)=false:=by simpa using he
 simp only[w76,aq,ab,ao,Nat.zero_add,h.l2,ag,aR,this,ae]
 exact hR
theorem jL {c:UInt8} (h:Rd st o s a 0 d) (hc:s[a]?=some c) (hs:a<2 ^ 40) (hR:R (.bool true) (st.set o (rdO s (a+1) 0 d))):au Tryz.prog 137 [.ptr o 0,u8 c] st R:=by
 refine c137 _ _ ?_
 refine dN h ?_
 have h1:=(List.getElem?_eq_some_iff.1 hc).1
 have c1:¬ ((a:Int)≥s.length):=by omega
 simp only[bne_self_eq_false,ae,aq,ab,ao,Nat.zero_add,h.l1,h.l0,aL,ag,cZ,c1,decide_false,cA hc,bw]
 refine p137_1 _ _ ?_
 simp only[w137_1,ae,aq,ab,ao,Nat.zero_add,h.l1,ag,aK,aJ hs,h.s1,ay,ai]
 exact hR
theorem gv {c:UInt8} (h:Rd st o s a e d) (hc:e≠0∨s[a]?≠some c) (hR:R (.bool false) st):au Tryz.prog 137 [.ptr o 0,u8 c] st R:=by
 have fin:P137_1 (.ptr o 0) (.bool true) R st:=by
  refine p137_1 _ _ ?_
  simp only[w137_1,ah]
  exact hR
 refine c137 _ _ ?_
 refine dN h ?_
 by_cases he:e=0
 ·subst he
  have hc:s[a]?≠some c:=by simpa using hc
  simp only[bne_self_eq_false,ae,aq,ab,ao,Nat.zero_add,h.l1,h.l0,aL,ag,cZ]
  rcases Nat.lt_or_ge a s.length with h1|h1
  ·have c1:¬ ((a:Int)≥s.length):=by omega
   have hx:s[a]?=some s[a]:=List.getElem?_eq_getElem h1
   have c2:(((s[a].toNat:Nat):Int) != (c.toNat:Nat))=true:=by
    have:s[a]≠c:=fun k=>hc (hx.trans (congrArg some k))
    have:s[a].toNat≠c.toNat:=fun k=>this (UInt8.toNat_inj.1 k)
    simp;omega
   simp only[c1,decide_false,ae,cA hx,ab,ag,bw,c2]
   exact fin
  ·have c1:((a:Int)≥s.length):=by omega
   simp only[c1,decide_true,ah]
   exact fin
 ·have:(e != 0)=true:=by simpa using he
  simp only[this,ah]
  exact fin
theorem jM {c:UInt8} (h:Rd st o s a 0 d) (hc:s[a]?=some c) (hs:a<2 ^ 40) (hR:R (.tup []) (st.set o (rdO s (a+1) 0 d))):au Tryz.prog 184 [.ptr o 0,u8 c] st R:=by
 refine c184 _ _ ?_
 refine dN h ?_
 simp only[bne_self_eq_false,bq,ab,Bool.not_false,ah]
 refine jL h hc hs ?_
 simp only[bq,ab,Bool.not_true,ae]
 exact hR
theorem lU {c:UInt8} (h:Rd st o s a 0 d) (hc:s[a]?≠some c) (hR:R (.tup []) (st.set o (rdO s a 4 d))):au Tryz.prog 184 [.ptr o 0,u8 c] st R:=by
 refine c184 _ _ ?_
 refine dN h ?_
 simp only[bne_self_eq_false,bq,ab,Bool.not_false,ah]
 refine gv h (.inr hc) ?_
 simp only[bq,ab,Bool.not_false,ah,aq,ao,Nat.zero_add,h.l1]
 exact ff h hR
theorem gw {c:UInt8} (h:Rd st o s a e d) (he:e≠0) (hR:R (.tup []) st):au Tryz.prog 184 [.ptr o 0,u8 c] st R:=by
 refine c184 _ _ ?_
 refine dN h ?_
 have:(e != 0)=true:=by simpa using he
 simp only[this,bq,ab,Bool.not_true,ae]
 exact hR
theorem nP (c:UInt8):Pu Tryz.prog 262 [u8 c] (.bool (fT c)):=by
 refine Pu.of (c262 _ ?_) rfl rfl
 have e:fT c=(decide (97≤c.toNat)&&decide (c.toNat≤122)||decide (48≤c.toNat)&&decide (c.toNat≤57)):=by simp[fT,isLet]
 rw[e]
 have g1:(decide (((c.toNat:Nat):Int)≥97))=decide (97≤c.toNat):=decide_eq_decide.2 (by omega)
 have g2:(decide (((c.toNat:Nat):Int)≤122))=decide (c.toNat≤122):=decide_eq_decide.2 (by omega)
 have g3:(decide (((c.toNat:Nat):Int)≥48))=decide (48≤c.toNat):=decide_eq_decide.2 (by omega)
 have g4:(decide (((c.toNat:Nat):Int)≤57))=decide (c.toNat≤57):=decide_eq_decide.2 (by omega)
 simp only[w262,ag,cZ,dA,ab,g1,g2,g3,g4]
 generalize decide (97≤c.toNat)=b1
 generalize decide (c.toNat≤122)=b2
 generalize decide (48≤c.toNat)=b3
 generalize decide (c.toNat≤57)=b4
 cases b1<;>cases b2<;>cases b3<;>cases b4<;>exact (rfl:_=_)
theorem qO (s p:Tx):Pu Tryz.prog 226 [.str s,.str p] (.bool (p.isPrefixOf s)):=by
 refine Pu.of (c226 _ _ ?_) rfl rfl
 simp only[w226,aL,ab,ag,cZ]
 rw[bj]
 refine ⟨fun h=>?_,fun h=>?_⟩
 ·have hl:p.length≤s.length:=by omega
  have e1:(ob3 none (some (i64 p.length)) none fun l h m=>cq (.str s) l h m)=some (.str (s.take p.length)):=by
   simp[ob3,fC,cq,hl]
  simp only[e1,ab,bA,ct]
  show LV.bool _=LV.bool _
  congr 1
  rw[Bool.eq_iff_iff]
  simp only[beq_iff_eq,List.isPrefixOf_iff_prefix,List.prefix_iff_eq_take]
  exact eq_comm
 ·have hl:¬ p.length≤s.length:=by omega
  have:p.isPrefixOf s=false:=by
   rw[Bool.eq_false_iff]
   intro hc
   exact hl (List.isPrefixOf_iff_prefix.1 hc).length_le
  rw[this];exact (rfl:_=_)
theorem xQ (s p:Tx):Pu Tryz.prog 186 [.str s,.str p] (.bool (p.isPrefixOf s)):=by
 refine Pu.of (c186 _ _ ?_) rfl rfl
 refine (qO s p).call ?_
 exact (rfl:_=_)
end
end Go.Proofs.YtknegckgmklnhaaGreatDoor
