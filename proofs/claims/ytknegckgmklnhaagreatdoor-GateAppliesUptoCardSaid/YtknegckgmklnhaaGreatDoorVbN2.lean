/- Parts of the proof. -/
import Derived.Test.YtknegckgmklnhaaGreatDoorVbK6
namespace Go.Proofs.YtknegckgmklnhaaGreatDoor
open Go Go.CP
set_option maxRecDepth 100000
theorem iO {c:UInt8}:∀ {s:Tx},∀ w ∈ splitB c s,w.length≤s.length
 | [],w,h=>by simp[splitB] at h;subst h;simp
 | b::l,w,h=>by
  have ih:=iO (c:=c) (s:=l)
  rw[dF] at h
  split at h
  ·rcases List.mem_cons.1 h with rfl|h
   ·simp
   ·have:=ih w h;simp;omega
  ·split at h
   ·rename_i e;exact absurd e dd
   ·rename_i p ps e
    rw[e] at ih
    rcases List.mem_cons.1 h with rfl|h
    ·have:=ih p (by simp);simp;omega
    ·have:=ih w (by simp[h]);simp;omega
theorem Al {s:Tx} {t:KT} (h:ew s=some t):t.wf 8:=by
 unfold ew at h
 split at h
 ·cases h
 ·split at h
  ·rename_i t' e
   simp only[aM] at h
   subst h
   exact (oV e).2
  ·cases h
def AtQ (s:Tx) (v:LV):Prop:=match fp s with
 | some a=>v=.tup [aV a,.bool true]
 | none=>∃ nm tv tnil m o h n,qA tv tnil∧v=.tup [.agg (aX nm tv m o h n),.bool false]
theorem dG {r:List Tx} {i:Nat} {w x:Tx} (h:r[i]?=some w):(r.take (i+1)).contains x=((r.take i).contains x||x==w):=by
 have e:(x==w)=decide (x=w):=by by_cases h:x=w<;>simp[h]
 rw[List.take_add_one,h,e]
 simp
section
variable {st st':aa} {R:LV→aa→Prop}
theorem uk {o:Nat} {l cs:List LV} (h:st[o]?=some (.cells .rw l)) (hl:l.length=6) (hc:cs.length=6) (h1:cs.all LV.one=true):stV st 6 (.ptr o 0) (.agg cs)=some (st.set o (.cells .rw cs)):=by
 refine (fq h (by omega) h1 hc).trans ?_
 congr 3
 unfold cy
 rw[List.take_zero,bD,aj,bR (by omega),List.append_nil]
theorem ld6 {o:Nat} {m:Md} {l:List LV} (h:st[o]?=some (.cells m l)) (hl:l.length=6):ldA st (.ptr o 0) 6=some (.agg l):=by
 rw[du h (by omega),List.drop_zero,List.take_of_length_le (by omega)]
theorem Cx {s nm:Tx} {tv:LV} {tnil:Bool} {e:Int} {r:List Tx} (hr:r.length≤2 ^ 32) (ht:qA tv tnil)
  (hK:∀ st,st[1]?=some (.cells .rw (aX nm tv (r.contains de) (r.contains eG) (r.contains dh) (r.contains eH)))→(∃ l,st[0]?=some (.cells .rw l)∧l.length=6)→st.length=2→
   lg (.str s) (.ptr 0 0) (i64 e) (.ptr 1 0) (.isl (r.map .str) r.length none) (i64 r.length) (i64 r.length) R st) :
  ∀ (d i:Nat) (st:aa),i+d=r.length→st[1]?=some (.cells .rw (aX nm tv ((r.take i).contains de) ((r.take i).contains eG) ((r.take i).contains dh) ((r.take i).contains eH)))→(∃ l,st[0]?=some (.cells .rw l)∧l.length=6)→st.length=2→
   lg (.str s) (.ptr 0 0) (i64 e) (.ptr 1 0) (.isl (r.map .str) r.length none) (i64 r.length) (i64 i) R st:=by
 intro d
 induction d with
 | zero=>
  intro i st hi h1 h0 hl
  have hi:i=r.length:=by omega
  subst hi
  rw[List.take_length] at h1
  exact hK st h1 h0 hl
 | succ d ih=>
  intro i st hi h1 h0 hl
  refine HD _ _ _ _ _ _ _ ?_
  have hlt:i<r.length:=by omega
  have c1:((i:Int)<r.length):=by omega
  have e1:bn 1 (.isl (r.map .str) r.length none) (i64 i)=some (.iptr (r.map .str) (i*1)):=cj hlt
  have hx:r[i]?=some r[i]:=bg hlt
  generalize r[i]=w at hx
  have hg:(r.map LV.str)[i*1]?=some (.str w):=by rw[Nat.mul_one,bT,hx];rfl
  have hw:=aK (show i<2 ^ 40 by omega)
  have go:∀ st2,st2[1]?=some (.cells .rw (aX nm tv ((r.take i).contains de||de==w) ((r.take i).contains eG||eG==w) ((r.take i).contains dh||dh==w) ((r.take i).contains eH||eH==w)))→(∃ l,st2[0]?=some (.cells .rw l)∧l.length=6)→st2.length=2→
    bd (al .add (i64 i) (i64 1)) fun v=>lg (.str s) (.ptr 0 0) (i64 e) (.ptr 1 0) (.isl (r.map .str) r.length none) (i64 r.length) v R st2:=by
   intro st2 g1 g0 gl
   rw[← dG hx,← dG hx,← dG hx,← dG hx] at g1
   simp only[ad,aH,ab,hw]
   exact ih (i+1) st2 (by omega) g1 g0 gl
  have s0:∀ y,∃ l,(st.set 1 y)[0]?=some (.cells .rw l)∧l.length=6:=fun y=>by
   obtain ⟨l,a,b⟩:=h0
   exact ⟨l,by rw[List.getElem?_set_ne (by omega)];exact a,b⟩
  have sl:∀ y,(st.set 1 y).length=2:=fun y=>by simp[hl]
  simp only[DR,ad,au,ab,c1,aZ,ah,e1,bA,hg,ct,da,ao,aj]
  have q2:=dZ (k:=2) (v:=.bool true) h1 (by simp) rfl
  have q3:=dZ (k:=3) (v:=.bool true) h1 (by simp) rfl
  have q4:=dZ (k:=4) (v:=.bool true) h1 (by simp) rfl
  have q5:=dZ (k:=5) (v:=.bool true) h1 (by simp) rfl
  simp only[q2,q3,q4,q5,aA,af]
  generalize (r.take i).contains de=m at h1 go
  generalize (r.take i).contains eG=o at h1 go
  generalize (r.take i).contains dh=h at h1 go
  generalize (r.take i).contains eH=n at h1 go
  by_cases k1:w=de
  ·subst k1
   refine go _ ?_ (s0 _) (sl _)
   rw[bO h1]
   simp[de,eG,dh,eH]
  have b1:(w==[109,117,115,116])=false:=by simpa[de] using k1
  have b1':(de==w)=false:=by simpa using Ne.symm k1
  by_cases k2:w=eG
  ·subst k2
   refine go _ ?_ (s0 _) (sl _)
   rw[bO h1]
   simp[de,eG,dh,eH]
  have b2:(w==[111,119,110])=false:=by simpa[eG] using k2
  have b2':(eG==w)=false:=by simpa using Ne.symm k2
  by_cases k3:w=dh
  ·subst k3
   refine go _ ?_ (s0 _) (sl _)
   rw[bO h1]
   simp[de,eG,dh,eH]
  have b3:(w==[104,105,100,101])=false:=by simpa[dh] using k3
  have b3':(dh==w)=false:=by simpa using Ne.symm k3
  by_cases k4:w=eH
  ·subst k4
   refine go _ ?_ (s0 _) (sl _)
   rw[bO h1]
   simp[de,eG,dh,eH]
  have b4:(w==[110,101,119])=false:=by simpa[eH] using k4
  have b4':(eH==w)=false:=by simpa using Ne.symm k4
  simp only[b1,b2,b3,b4,ae]
  refine go _ ?_ h0 hl
  rw[b1',b2',b3',b4']
  simpa using h1
theorem I2 {s:Tx} (hs:s.length≤2 ^ 32):Pb Tryz.prog 82 [.str s] (AtQ s):=by
 refine Pb.of (c82 _ ?_) rfl
 have zag:bh (aB (aF [(0,1),(1,1),(2,1),(3,1),(4,1),(5,1)]) [LV.str [],LV.nilp,LV.bool false,LV.bool false,LV.bool false,LV.bool false] [])=some (.agg (aX [] .nilp false false false false)):=rfl
 simp only[w82,cv,bD,aR]
 refine (IZ (c:=32) s hs).call ?_
 have hle:=iO (c:=32) (s:=s)
 have hcl:=eR (c:=32) (s:=s)
 have hcc:s.count 32≤s.length:=List.count_le_length
 have hp:∀ v,AtQ s v↔match fp s with
  | some a=>v=.tup [aV a,.bool true]
  | none=>∃ nm tv tnil m o h n,qA tv tnil∧v=.tup [.agg (aX nm tv m o h n),.bool false]:=fun v=>Iff.rfl
 have bad:fp s=none→∀ {st:aa} {x:LV} {nm tv tnil m o h n},qA tv tnil→x=.tup [.agg (aX nm tv m o h n),.bool false]→Dp (AtQ s) x st:=by
  intro e st x nm tv tnil m o h n ht hx
  subst hx
  have hpl:(LV.tup [.agg (aX nm tv m o h n),.bool false]).plain=true:=by simp[LV.plain,LV.aG,ht.plain]
  exact ⟨_,bu _ hpl,hpl,by rw[hp,e];exact ⟨nm,tv,tnil,m,o,h,n,ht,rfl⟩⟩
 have nil:qA .nilp true:=.inl ⟨rfl,rfl⟩
 generalize hws:splitB 32 s=ws at hle hcl
 simp only[aU,ab,ad,au,aL]
 refine ⟨fun h3=>?_,fun h3=>?_⟩
 ·have e:fp s=none:=by
   unfold fp
   rw[hws]
   match ws,h3 with
   | [],_=>rfl
   | [_],_=>rfl
   | [_,_],_=>rfl
   | _::_::_::_,h=>simp only[aW] at h;omega
  rw[zag]
  simp only[ab]
  rw[uk (l:=aX [] .nilp false false false false) rfl rfl rfl rfl]
  simp only[aA,af]
  rw[ld6 (l:=aX [] .nilp false false false false) rfl rfl]
  exact bad e nil rfl
 ·obtain ⟨w0,w1,w2,r,rfl⟩:∃ w0 w1 w2 r,ws=w0::w1::w2::r:=by
   match ws,h3 with
   | [],h=>exact absurd (show ((([]:List Tx).length:Nat):Int)<3 by decide) h
   | [_],h=>exact absurd (show (((1:Nat)):Int)<3 by decide) h
   | [_,_],h=>exact absurd (show (((2:Nat)):Int)<3 by decide) h
   | w0::w1::w2::r,_=>exact ⟨w0,w1,w2,r,rfl⟩
  have i0:bn 1 (sL (w0::w1::w2::r)) (.int .i64 0)=some (.iptr ((w0::w1::w2::r).map .str) (0*1)):=cj (i:=0) (by simp)
  have i1:bn 1 (sL (w0::w1::w2::r)) (.int .i64 1)=some (.iptr ((w0::w1::w2::r).map .str) (1*1)):=cj (i:=1) (by simp)
  have i2:bn 1 (sL (w0::w1::w2::r)) (.int .i64 2)=some (.iptr ((w0::w1::w2::r).map .str) (2*1)):=cj (i:=2) (by simp)
  have g0:((w0::w1::w2::r).map LV.str)[0*1]?=some (.str w0):=rfl
  have g1:((w0::w1::w2::r).map LV.str)[1*1]?=some (.str w1):=rfl
  have g2:((w0::w1::w2::r).map LV.str)[2*1]?=some (.str w2):=rfl
  have e0:(!(w0==[97,116,116,114]))=decide (w0≠jx):=by
   show (!(w0==jx))=_
   by_cases h:w0=jx<;>simp[h]
  simp only[i0,ab,bA,g0,ct,iV,e0,aL]
  have pa:fp s=if w0≠jx then none else match ew w2 with
   | none=>none
   | some t=>if nr ⟨w1,t,r.contains de,r.contains eG,r.contains dh,r.contains eH⟩=s then some ⟨w1,t,r.contains de,r.contains eG,r.contains dh,r.contains eH⟩ else none:=by unfold fp;rw[hws];rfl
  refine ⟨fun h0=>?_,fun h0=>?_⟩
  ·rw[zag]
   simp only[ab]
   rw[uk (l:=aX [] .nilp false false false false) rfl rfl rfl rfl]
   simp only[aA,af]
   rw[ld6 (l:=aX [] .nilp false false false false) rfl rfl]
   exact bad (by rw[pa,if_pos h0]) nil rfl
  ·rw[if_neg h0] at pa
   have hr3:r.length≤2 ^ 32:=by simp only[aW] at hcl;omega
   have hw1:w1.length≤2 ^ 32:=by have:=hle w1 (by simp);omega
   have hsl:∀ st:aa,(ob3 (some (i64 3)) none none fun l h m=>dn st 1 (sL (w0::w1::w2::r)) l h m)=some (.isl (r.map .str) r.length none):=by
    intro st
    simp[ob3,fP,dn,rB]
    exact List.take_of_length_le (by simp)
   simp only[i2,ab,bA,g2]
   have rest:∀ (tv:LV) (tnil:Bool) (e:Int) (a:Int),qA tv tnil→(∀ st,st[1]?=some (.cells .rw (aX w1 tv (r.contains de) (r.contains eG) (r.contains dh) (r.contains eH)))→(∃ l,st[0]?=some (.cells .rw l)∧l.length=6)→st.length=2→
     lg (.str s) (.ptr 0 0) (i64 e) (.ptr 1 0) (.isl (r.map .str) r.length none) (i64 r.length) (i64 r.length) (Dp (AtQ s)) st)→
     bd (ai (.tup [tv,i64 a,i64 e]) 0) fun v21=>bd (ai (.tup [tv,i64 a,i64 e]) 1) fun _v22=>bd (ai (.tup [tv,i64 a,i64 e]) 2) fun v23=>bd (bn 1 (sL (w0::w1::w2::r)) (i64 1)) fun v24=>bd (ld1 [ar.cells .rw [LV.str [],LV.nilp,LV.bool false,LV.bool false,LV.bool false,LV.bool false]] v24) fun v25=>bd (bh (aB (aF [(0,1),(1,1),(2,1),(3,1),(4,1),(5,1)]) [LV.str [],LV.nilp,LV.bool false,LV.bool false,LV.bool false,LV.bool false] [(0,v25),(1,v21)])) fun v26=>bd2 (lmk (stV ([ar.cells .rw [LV.str [],LV.nilp,LV.bool false,LV.bool false,LV.bool false,LV.bool false]]++[ar.cells .rw [LV.str [],LV.nilp,LV.bool false,LV.bool false,LV.bool false,LV.bool false]]) 6 (.ptr 1 0) v26)) fun _v29 st30=>bd (ob3 (some (i64 3)) none none fun l h m=>dn st30 1 (sL (w0::w1::w2::r)) l h m) fun v31=>bd (bB v31) fun v32=>lg (.str s) (.ptr 0 0) v23 (.ptr 1 0) v31 v32 (i64 0) (Dp (AtQ s)) st30:=by
    intro tv tnil e a ht hK
    have ea:bh (aB (aF [(0,1),(1,1),(2,1),(3,1),(4,1),(5,1)]) [LV.str [],LV.nilp,LV.bool false,LV.bool false,LV.bool false,LV.bool false] [(0,.str w1),(1,tv)])=some (.agg (aX w1 tv false false false false)):=by
     rcases ht with ⟨rfl,_⟩ | ⟨t,rfl,_⟩<;>rfl
    simp only[av,aN,aO,ab,i1,bA,g1,ea]
    rw[uk (l:=aX [] .nilp false false false false) rfl rfl rfl (xY ht)]
    simp only[aA,af,hsl,ab,aU]
    exact Cx hr3 ht hK r.length 0 _ (by omega) rfl ⟨_,rfl,rfl⟩ rfl
   refine Co w2 (fun t ht=>?_) fun hn a e he=>?_
   ·have hwf:=Al ht
    simp only[ht] at pa
    refine rest (kV t) false 0 0 (.inr ⟨t,rfl,rfl⟩) fun st1 h1 h0' hl1=>?_
    obtain ⟨l0,h0l,h0n⟩:=h0'
    refine HD _ _ _ _ _ _ _ ?_
    have c1:¬ ((r.length:Int)<r.length):=by omega
    have g6:=ld6 h1 rfl
    simp only[DR,ad,au,ab,c1,a8,ae,g6,bj]
    rw[show ((0:Int)==0)=true from rfl,ah,kc (by simp only[aW,aR];omega),ab]
    refine (Oi (a:=⟨w1,t,r.contains de,r.contains eG,r.contains dh,r.contains eH⟩) hwf hw1).call ⟨g6,?_⟩
    simp only[ct,da,ab]
    rw[uk h0l h0n rfl rfl]
    simp only[aA,af]
    refine HE _ _ ?_
    have h00:(st1.set 0 (ar.cells .rw (aX w1 (kV t) (r.contains de) (r.contains eG) (r.contains dh) (r.contains eH))))[0]?=some (ar.cells .rw (aX w1 (kV t) (r.contains de) (r.contains eG) (r.contains dh) (r.contains eH))):=bO h0l
    simp only[BV]
    rw[ld6 h00 rfl,ab]
    by_cases hal:nr ⟨w1,t,r.contains de,r.contains eG,r.contains dh,r.contains eH⟩=s
    ·rw[if_pos hal] at pa
     have:(nr ⟨w1,t,r.contains de,r.contains eG,r.contains dh,r.contains eH⟩++[10]==s++[10])=true:=by rw[hal];simp
     rw[this]
     have hpl:(LV.tup [aV ⟨w1,t,r.contains de,r.contains eG,r.contains dh,r.contains eH⟩,.bool true]).plain=true:=by simp only[LV.plain,LV.aG,me];rfl
     exact ⟨_,bu _ hpl,hpl,by rw[hp,pa];rfl⟩
    ·rw[if_neg hal] at pa
     have:(nr ⟨w1,t,r.contains de,r.contains eG,r.contains dh,r.contains eH⟩++[10]==s++[10])=false:=by
      rw[Bool.eq_false_iff]
      intro h
      exact hal (List.append_cancel_right (beq_iff_eq.1 h))
     rw[this]
     exact bad pa (.inr ⟨t,rfl,rfl⟩) rfl
   ·simp only[hn] at pa
    refine rest .nilp true e a (.inl ⟨rfl,rfl⟩) fun st1 h1 h0' hl1=>?_
    obtain ⟨l0,h0l,h0n⟩:=h0'
    refine HD _ _ _ _ _ _ _ ?_
    have c1:¬ ((r.length:Int)<r.length):=by omega
    have g6:=ld6 h1 rfl
    have he':(e==0)=false:=by simpa using he
    simp only[DR,ad,au,ab,c1,a8,ae,g6,bj,he']
    rw[uk h0l h0n rfl rfl]
    simp only[aA,af]
    refine HE _ _ ?_
    have h00:(st1.set 0 (ar.cells .rw (aX w1 .nilp (r.contains de) (r.contains eG) (r.contains dh) (r.contains eH))))[0]?=some (ar.cells .rw (aX w1 .nilp (r.contains de) (r.contains eG) (r.contains dh) (r.contains eH))):=bO h0l
    simp only[BV]
    rw[ld6 h00 rfl,ab]
    exact bad pa (.inl ⟨rfl,rfl⟩) rfl
end
structure Row where
 nm:Tx
 tv:LV
 tnil:Bool
 must:Bool
 own:Bool
 hide:Bool
 new:Bool
abbrev Row.cells (r:Row):List LV:=aX r.nm r.tv r.must r.own r.hide r.new
structure Row.ok (r:Row):Prop where
 tv:qA r.tv r.tnil
 nm:r.nm.length≤2 ^ 32
def ga:List Row→List LV
 | []=>[]
 | r::l=>r.cells++ga l
def jf:Tx→List Row→Int
 | _,[]=>0
 | last,r::l=>if aWr last r.nm r.tnil r.must r.own=0 then jf r.nm l else aWr last r.nm r.tnil r.must r.own
def mkW (v:Int) (l:List Row):Int:=if v<0∨1000<v then 2 else if 16<l.length then 3 else jf [] l
def gF:Nat→List Tx→List (LV × LV)
 | _,[]=>[]
 | j,n::ns=>(.str n,i64 j)::gF (j+1) ns
theorem qB:∀ {l:List Row},(ga l).length=l.length*6
 | []=>rfl
 | r::l=>by simp only[ga,b8,qB (l:=l),aW,aR];omega
theorem vt:∀ {a b:List Row},ga (a++b)=ga a++ga b
 | [],_=>rfl
 | r::a,b=>by rw[List.cons_append,ga,ga,vt,List.append_assoc]
theorem qC:∀ {l:List Row} {i:Nat} {r:Row},l[i]?=some r→((ga l).drop (i*6)).take 6=r.cells
 | r::l,0,r',h=>by
  simp only[aN,aM] at h
  subst h
  rfl
 | r::l,i+1,r',h=>by
  simp only[aO] at h
  rw[ga,show (i+1)*6=r.cells.length+i*6 by simp;omega,List.drop_append,bR (by omega),bD,Nat.add_sub_cancel_left,qC h]
theorem mf:∀ {ns:List Tx} {j:Nat},(gF j ns).length=ns.length
 | [],_=>rfl
 | n::ns,j=>by simp[gF,mf]
theorem Am:∀ {a b:List Tx} {j:Nat},gF j (a++b)=gF j a++gF (j+a.length) b
 | [],_,_=>rfl
 | n::a,b,j=>by
  rw[List.cons_append,gF,gF,Am,List.cons_append,aW,show j+1+a.length=j+(a.length+1) by omega]
theorem vu {a b:Tx}:jm (.str a) (.str b)=some (a==b):=rfl
theorem um {k:Tx}:∀ {ns:List Tx} {j:Nat},k ∉ ns→ed (.str k) (gF j ns)=some none
 | [],_,_=>rfl
 | n::ns,j,h=>by
  have h1:(k==n)=false:=by simp at h ⊢;exact h.1
  rw[gF,ed,vu,h1]
  exact um (by simp at h;exact h.2)
theorem Cy:∀ {n:Nat},wc (n:Nat) (List.range n++[n])=some n:=by
 have go:∀ (d a n:Nat),a+d=n→wc (n:Nat) (List.range' a d++[n])=some d:=by
  intro d
  induction d with
  | zero=>intro a n h;simp[wc]
  | succ d ih=>
   intro a n h
   rw[List.range'_succ,List.cons_append,wc]
   have:¬ ((a:Int)=n):=by omega
   rw[if_neg this,ih (a+1) n (by omega)]
   rfl
 intro n
 have:=go n 0 n (by omega)
 rwa [← List.range_eq_range'] at this
section
variable {st st':aa} {R:LV→aa→Prop}
theorem KZ {f:Option Nat} {sz n:Nat} {cs:List LV} (h:ca .rw st f sz n cs):eA st sz (osl f sz n)=some (n,cs):=by
 have hl:=h.1
 cases f with
 | none=>
  have hz:n=0:=h.2
  subst hz
  have:cs=[]:=List.eq_nil_of_length_eq_zero (by omega)
  subst this;rfl
 | some o=>
  obtain ⟨rest,ho⟩:=h.2
  simp only[osl,eA,ho]
  rw[if_pos (by simp;omega)]
  congr 2
  rw[List.drop_zero,List.take_append_of_le_length (by omega),List.take_of_length_le (by omega)]
theorem K0 {f:Option Nat} {n:Nat} {cs:List LV} (h:ca .rw st f 6 n cs) (hf:0<n∨f=none) (hn:n≤2 ^ 30)
  (hR:∀ f' s,Fr st s (fun _=>False)→ca .rw s f' 6 n cs→(∀ o,f'=some o→st.length≤o)→(0<n∨f'=none)→R (osl f' 6 n) s):aw Tryz.prog 78 [osl f 6 n] st R:=by
 refine c78 _ ?_
 cases f with
 | none=>
  have hz:n=0:=h.2
  subst hz
  have:cs=[]:=List.eq_nil_of_length_eq_zero (by have:=h.1;omega)
  subst this
  exact hR none st Fr.refl ca.nil (fun _ h=>by cases h) (.inr rfl)
 | some o=>
  have hn0:0<n:=by rcases hf with h|h;exact h;cases h
  have e0:sj (osl (some o) 6 n) .nils=some false:=rfl
  have ef:aB (fun i=>some (i*6,6)) (List.replicate 0 [LV.str [],LV.nilp,LV.bool false,LV.bool false,LV.bool false,LV.bool false]).flatten []=some []:=rfl
  have h':=h.fr (st':=st++[.cells .rw []]) (S:=fun _=>False) Fr.app (fun _ _ h=>h)
  have hr:eJ n 32=true:=dR (by omega) (by omega)
  have hap:bo (st++[ar.cells .rw []]) 6 32 .rw (.sl st.length 0 0 (.ex 0)) (osl (some o) 6 n)=some (.sl (st++[ar.cells .rw []]).length 0 n (.rest 6),(st++[.cells .rw []])++[.cells .rw cs]):=by
   have c1:¬ (n=0):=by omega
   have c2:¬ (n≤0):=by omega
   unfold bo
   rw[KZ h']
   simp only[c1,if_false,ay,c2,hr,List.take_zero,List.drop_zero,Nat.zero_mul,aj,aR,Nat.le_refl,and_self,if_true,bD]
  simp only[w78,e0,dL,dz,ab,ae,ef,bE,af]
  rw[hap]
  simp only[af]
  refine hR (some (st++[ar.cells Md.rw []]).length) _ ?_ ⟨h.1,[],by rw[ay,List.append_nil]⟩ (fun j hj=>by simp at hj;omega) (.inl hn0)
  exact (Fr.app (S:=fun _=>False)).trans Fr.app fun _ _ h=>h
theorem K2 {a b:Tx} (h:a≠b) (h':Op.bytesLess a b=false):ltB b a:=by
 unfold ltB
 rw[bytesLess_eq] at h' ⊢
 simp only[decide_eq_false_iff_not,decide_eq_true_eq] at h' ⊢
 by_cases k:b<a
 ·exact k
 ·exact absurd (List.le_antisymm (List.not_lt.1 k) (List.not_lt.1 h')) h
theorem I3 {a b c:Tx} (h:ltB a b) (k:ltB b c):ltB a c:=by
 unfold ltB at *
 rw[bytesLess_eq] at *
 simp only[decide_eq_true_eq] at *
 exact List.lt_trans h k
theorem I4 {s:Tx} (h:named s=true):s≠[]:=by
 simp only[named,bp,decide_eq_true_eq] at h;exact h.1.2
theorem An {last nm:Tx} {tnil m o:Bool} (h:aWr last nm tnil m o=0):named nm=true∧ltB last nm∧tnil=false∧(m&&o)=false:=by
 unfold aWr at h
 split at h
 ·omega
 split at h
 ·omega
 split at h
 ·omega
 split at h
 ·omega
 split at h
 ·omega
 rename_i a b c d e
 exact ⟨by simpa using a,K2 b (by simpa using c),by simpa using d,by simpa using e⟩
theorem Cz {a:Tx}:¬ ltB a a:=fun h=>by
 unfold ltB at h
 rw[bytesLess_eq] at h
 exact absurd (by simpa using h) (List.lt_irrefl a)
theorem Gb {v:Int} {l:List Row} {f f':Option Nat} {B M:Nat} (hl:∀ r ∈ l,r.ok) (hb:l.length≤16) (st0:aa) (hBM:st0.length≤B∧st0.length≤M) (hfB:∀ o,f=some o→o≠B∧o≠M) (hf':∀ o,f'=some o→o≠B∧o≠M) (hne:B≠M)
  (h1:∀ e st',e≠0→jf [] l=e→Fr st0 st' (fun _=>False)→R (.tup [.nilp,i64 e]) st')
  (h2:∀ st',jf [] l=0→Fr st0 st' (fun _=>False)→st'[B]?=some (.cells .rw [i64 v,osl f' 6 l.length,.map M])→ca .rw st' f' 6 l.length (ga l)→st'[M]?=some (.map .rw (gF 0 (l.map (·.nm))) (List.range l.length) l.length)→(l.map (·.nm)).Pairwise ltB→R (.tup [.ptr B 0,i64 0]) st') :
  ∀ (d i:Nat) (last:Tx) (st:aa),i+d=l.length→jf [] l=jf last (l.drop i)→(i=0∧last=[]∨∀ n ∈ (l.map (·.nm)).take i,n=last∨ltB n last)→((l.map (·.nm)).take i).Pairwise ltB→Fr st0 st (fun _=>False)→
   ca .rw st f 6 l.length (ga l)→ca .rw st f' 6 l.length (ga l)→st[B]?=some (.cells .rw [i64 v,osl f' 6 l.length,.map M])→st[M]?=some (.map .rw (gF 0 ((l.map (·.nm)).take i)) (List.range i) i)→
   xg (.ptr B 0) (.str last) (osl f 6 l.length) (i64 l.length) (i64 i) R st:=by
 intro d
 induction d with
 | zero=>
  intro i last st hi hw hla hpw hfr ho ho' hB hM
  refine Hz _ _ _ _ _ ?_
  have c1:¬ ((i:Int)<l.length):=by omega
  simp only[BR,ad,au,ab,c1,a8,ae]
  have hi:i=l.length:=by omega
  subst hi
  rw[List.drop_length] at hw
  rw[List.take_of_length_le (by simp)] at hpw hM
  exact h2 st hw hfr hB ho' hM hpw
 | succ d ih=>
  intro i last st hi hw hla hpw hfr ho ho' hB hM
  refine Hz _ _ _ _ _ ?_
  have hlt:i<l.length:=by omega
  have c1:((i:Int)<l.length):=by omega
  have hx:l[i]?=some l[i]:=bg hlt
  have hok:=hl _ (List.getElem_mem hlt)
  have hdr:l.drop i=l[i]::l.drop (i+1):=b6 hlt
  generalize l[i]=r at hx hok hdr
  rw[hdr,jf] at hw
  obtain ⟨o,hfo,e3⟩:=ho.ix (i:=(i:Int)) (kk:=.i64) (by omega) (by omega)
  have hg:=ho
  rw[hfo] at hg
  have hld:ldA st (.ptr o ((i:Int).toNat*6)) 6=some (.agg r.cells):=by
   rw[hg.ldA (by rw[qB];simp;omega),Int.toNat_natCast,qC hx]
  have hput:stV (st++[ar.cells .rw [LV.str [],LV.nilp,LV.bool false,LV.bool false,LV.bool false,LV.bool false]]) 6 (.ptr st.length 0) (.agg r.cells)=some (st++[.cells .rw r.cells]):=by
   rw[uk ay rfl rfl (xY hok.tv)]
   simp
  have g6:ldA (st++[ar.cells .rw r.cells]) (.ptr st.length 0) 6=some (.agg r.cells):=ld6 ay rfl
  have g0:ld1 (st++[ar.cells .rw r.cells]) (.ptr st.length 0)=some (.str r.nm):=bx ay
  simp only[BR,ad,au,ab,c1,aZ,ah,e3,hld,cv,hput,aA,af,g6]
  refine (KY hok.tv (by have:=hok.nm;omega)).call ?_
  have fr1:Fr st (st++[ar.cells .rw r.cells]) (fun _=>False):=Fr.app
  have fr0:=hfr.trans fr1 fun _ _ h=>h
  have hne0:∀ e:Int,(e != 0)=decide (e≠0):=fun e=>by by_cases h:e=0<;>simp[h]
  simp only[ad,bJ,hne0,ab,aL]
  refine ⟨fun he=>?_,fun he=>?_⟩
  ·rw[if_neg he] at hw
   exact h1 _ _ he hw fr0
  ·have he':aWr last r.nm r.tnil r.must r.own=0:=Classical.byContradiction he
   rw[if_pos he'] at hw
   have hB1:=fr1.get hB id
   have hM1:=fr1.get hM id
   obtain ⟨_,hlast,_,_⟩:=An he'
   have hle:∀ n ∈ (l.map (·.nm)).take i,ltB n r.nm:=fun n hn=>by
    rcases hla with ⟨rfl,_⟩ | h
    ·simp at hn
    ·rcases h n hn with rfl|h
     ·exact hlast
     ·exact I3 h hlast
   have hnot:r.nm ∉ (l.map (·.nm)).take i:=fun h=>Cz (hle _ h)
   have hlB:ld1 (st++[ar.cells .rw r.cells]) (.ptr B 2)=some (.map M):=by rw[bx hB1];rfl
   have hmN:((l.map (·.nm)).take i).length=i:=by simp;omega
   have hme:sq (st++[ar.cells .rw r.cells]) true (some (.int .i64 0)) (.map M) (.str r.nm)=some (.tup [.int .i64 0,.int .i64 i],(st++[ar.cells .rw r.cells]).set M (.map .rw (gF 0 ((l.map (·.nm)).take i)++[(.str r.nm,.int .i64 0)]) (List.range i++[i]) (i+1))):=by
    simp only[sq,plainKey,if_true,hM1,um hnot]
   have hw1:=aK (show i<2 ^ 40 by omega)
   have hMs:((st++[ar.cells .rw r.cells]).set M (.map .rw (gF 0 ((l.map (·.nm)).take i)++[(.str r.nm,.int .i64 0)]) (List.range i++[i]) (i+1)))[M]?=some (.map .rw (gF 0 ((l.map (·.nm)).take i)++[(.str r.nm,.int .i64 0)]) (List.range i++[i]) (i+1)):=bO hM1
   have hes:(gF 0 ((l.map (·.nm)).take i)++[(.str r.nm,.int .i64 0)])[i]?=some (.str r.nm,.int .i64 0):=by
    rw[List.getElem?_append_right (by rw[mf];omega),mf,hmN,Nat.sub_self];rfl
   have hls:iI ((st++[ar.cells .rw r.cells]).set M (.map .rw (gF 0 ((l.map (·.nm)).take i)++[(.str r.nm,.int .i64 0)]) (List.range i++[i]) (i+1))) (.map M) (.int .i64 i) (i64 i)=some (((st++[ar.cells .rw r.cells]).set M (.map .rw (gF 0 ((l.map (·.nm)).take i)++[(.str r.nm,.int .i64 0)]) (List.range i++[i]) (i+1))).set M (.map .rw (gF 0 ((l.map (·.nm)).take (i+1))) (List.range (i+1)) (i+1))):=by
    have e1:(gF 0 ((l.map (·.nm)).take i)++[(LV.str r.nm,LV.int .i64 0)]).set i (.str r.nm,i64 i)=gF 0 ((l.map (·.nm)).take (i+1)):=by
     rw[List.set_append_right _ _ (by rw[mf];omega),mf,hmN,Nat.sub_self,List.take_add_one,bT,hx,Am,hmN,aj]
     rfl
    simp only[iI,hMs,Cy,hes]
    rw[e1,List.range_succ]
   rw[List.set_set] at hls
   have hLne:st.length≠M:=by have:=cA hM;omega
   have frM:∀ y,Fr st ((st++[ar.cells .rw r.cells]).set M y) (fun j=>j=M):=fun y=>by
    have q1:Fr st (st++[ar.cells .rw r.cells]) (fun j=>j=M):=Fr.app
    exact q1.trans (Fr.set (S:=fun j=>j=M) rfl) fun _ _ h=>h
   have g0'':∀ y,ld1 ((st++[ar.cells .rw r.cells]).set M y) (.ptr st.length 0)=some (.str r.nm):=fun y=>by
    have hq:((st++[ar.cells .rw r.cells]).set M y)[st.length]?=some (.cells .rw r.cells):=by rw[bK (Ne.symm hLne)];exact ay
    rw[bx hq];rfl
   simp only[aI,ao,aj,ab,hlB,g0,hme,af,g0'',true_and,av,aN,aO,hls,aA,aH,hw1]
   refine ih (i+1) r.nm _ (by omega) hw (.inr fun n hn=>?_) ?_ (hfr.trans (frM _) fun j hj h=>by omega) (ho.fr (frM _) fun j hj=>(hfB j hj).2) (ho'.fr (frM _) fun j hj=>(hf' j hj).2) ((frM _).get hB hne) (bO hM1)
   ·rw[List.take_add_one,bT,hx] at hn
    rcases List.mem_append.1 hn with h|h
    ·exact .inr (hle n h)
    ·simp at h;exact .inl h
   ·rw[List.take_add_one,bT,hx]
    exact List.pairwise_append.2 ⟨hpw,by simp,fun a ha b hb=>by simp at hb;subst hb;exact hle a ha⟩
theorem vv {v:Int} {l:List Row} {f:Option Nat} (hl:∀ r ∈ l,r.ok) (hn:l.length≤2 ^ 30) (ho:ca .rw st f 6 l.length (ga l)) (hf:0<l.length∨f=none)
  (h1:∀ e st',e≠0→mkW v l=e→Fr st st' (fun _=>False)→R (.tup [.nilp,i64 e]) st')
  (h2:∀ st' B M f',mkW v l=0→Fr st st' (fun _=>False)→st.length≤B→st.length≤M→(∀ o,f'=some o→st.length≤o)→(0<l.length∨f'=none)→st'[B]?=some (.cells .rw [i64 v,osl f' 6 l.length,.map M])→ca .rw st' f' 6 l.length (ga l)→st'[M]?=some (.map .rw (gF 0 (l.map (·.nm))) (List.range l.length) l.length)→(l.map (·.nm)).Pairwise ltB→R (.tup [.ptr B 0,i64 0]) st') :
  aw Tryz.prog 20 [i64 v,osl f 6 l.length] st R:=by
 refine c20 _ _ ?_
 simp only[w20,ad,au,cT,ab,aL,ho.bB]
 have hm1:v<0∨1000<v→mkW v l=2:=fun h=>by unfold mkW;rw[if_pos h]
 refine ⟨fun h=>h1 2 st (by omega) (hm1 (.inl h)) Fr.refl,fun ha=>⟨fun h=>h1 2 st (by omega) (hm1 (.inr h)) Fr.refl,fun hb=>⟨fun h=>?_,fun hc=>?_⟩⟩⟩
 ·refine h1 3 st (by omega) ?_ Fr.refl
  unfold mkW
  rw[if_neg (by omega),if_pos (by omega)]
 ·have hmw:mkW v l=jf [] l:=by unfold mkW;rw[if_neg (by omega),if_neg (by omega)]
  refine K0 ho hf hn fun f' s hfr ho' hfo hf'=>?_
  have em:bh (aB (aF [(0,1),(1,1),(2,1)]) [i64 0,LV.nils,LV.nilm] [(0,i64 v),(1,osl f' 6 l.length),(2,.map s.length)])=some (.agg [i64 v,osl f' 6 l.length,.map s.length]):=by
   cases f'<;>rfl
  simp only[za,em,ab,pq,af]
  have fr2:Fr s (s++[ar.map .rw [] [] 0]++[ar.cells .rw [i64 v,osl f' 6 l.length,.map s.length]]) (fun _=>False):=by
   have q1:Fr s (s++[ar.map .rw [] [] 0]) (fun _=>False):=Fr.app
   exact q1.trans Fr.app fun _ _ h=>h
  have hfs:∀ o,f=some o→o<s.length:=fun o e=>by subst e;have:=ho.lt;have:=hfr.len;omega
  have hfs':∀ o,f'=some o→o<s.length:=fun o e=>by subst e;exact ho'.lt
  have hlen:(s++[ar.map .rw [] [] 0]).length=s.length+1:=by simp
  have hsl:=hfr.len
  rw[hlen]
  refine Gb (v:=v) (f':=f') (M:=s.length) hl (by omega) st ⟨by omega,by omega⟩ (fun o e=>?_) (fun o e=>?_) (by omega) (fun e st' he hw hfr'=>h1 e st' he (hmw.trans hw) hfr') (fun st' hw hfr' hB ho2 hM hpw=>h2 st' (s.length+1) s.length f' (hmw.trans hw) hfr' (by omega) hsl hfo hf' hB ho2 hM hpw) l.length 0 [] _ (by omega) rfl (.inl ⟨rfl,rfl⟩) (by simp) (hfr.trans fr2 fun _ _ h=>h) ?_ (ho'.fr fr2 fun _ _ h=>h) ?_ ?_
  ·have:=hfs o e;omega
  ·have:=hfs' o e;omega
  ·exact (ho.fr hfr fun _ _ h=>h).fr fr2 fun _ _ h=>h
  ·rw[← hlen];exact ay
  ·rw[bW (by simp)];exact ay
end
theorem CA {s:Tx} {n:Int} (h:Lib.atoiAll s=.ok n) : -9223372036854775808≤n∧n≤9223372036854775807:=by
 cases s with
 | nil=>simp[Lib.atoiAll] at h
 | cons c r=>
  simp only[Lib.atoiAll] at h
  generalize Lib.parseMag (if c.toNat=43∨c.toNat=45 then r else c::r)=x at h
  cases x with
  | ok u=>
   simp only at h
   by_cases hc:c.toNat=45
   ·simp only[hc,not_true,false_and,if_false,true_and,if_true] at h
    split at h
    ·cases h
    ·simp only[Lib.NumEnd.ok.injEq] at h;omega
   ·simp only[hc,not_false_eq_true,false_and,if_false,true_and] at h
    split at h
    ·cases h
    ·simp only[Lib.NumEnd.ok.injEq] at h;omega
  | _=>simp at h
def xZ (s:Tx):Option Int:=if cO.isPrefixOf s then match Lib.atoiAll (s.drop 8) with
  | .ok n=>if Lib.itoa n=s.drop 8 then some n else none
  | _=>none
 else none
structure GlS (st:aa):Prop where
 p:st[0]?=some ME
 n:∃ u,st[1]?=some (MF u)
 f:∃ u,st[2]?=some (MG u)
section
variable {st st':aa} {R:LV→aa→Prop}
theorem GlS.fr {S:Nat→Prop} (h:GlS st) (k:Fr st st' S) (h0:¬ S 0) (h1:¬ S 1) (h2:¬ S 2):GlS st':=
 ⟨k.get h.p h0,by obtain ⟨u,e⟩:=h.n;exact ⟨u,k.get e h1⟩,by obtain ⟨u,e⟩:=h.f;exact ⟨u,k.get e h2⟩⟩
theorem GlS.len (h:GlS st):3≤st.length:=by obtain ⟨u,e⟩:=h.f;have:=cA e;omega
theorem vw (g:GlS st) {s:Tx} (hs:s.length≤2 ^ 32) (h1:∀ n,xZ s=some n→R (.tup [i64 n,.bool true]) st) (h2:xZ s=none→∀ n,R (.tup [i64 n,.bool false]) st):aw Tryz.prog 81 [.str s] st R:=by
 refine c81 _ ?_
 refine (Og s cO).call ?_
 simp only[av,aN,aO,ab]
 obtain ⟨u,gn⟩:=g.n
 obtain ⟨u',gf⟩:=g.f
 cases hp:cO.isPrefixOf s with
 | false=>
  have hv:xZ s=none:=by unfold xZ;rw[hp];rfl
  simp only[Bool.false_eq_true,if_false]
  refine vr gn gf (by omega) (fun v e=>?_) fun n e=>?_
  ·exact h2 hv v
  ·exact h2 hv n
 | true=>
  simp only[if_true]
  have h8:cO.length=8:=rfl
  rw[h8]
  have hv:xZ s=match Lib.atoiAll (s.drop 8) with
   | .ok n=>if Lib.itoa n=s.drop 8 then some n else none
   | _=>none:=by unfold xZ;rw[hp];rfl
  refine vr gn gf (by simp;omega) (fun v e=>?_) fun n e=>?_
  ·rw[e] at hv
   simp only at hv
   have hr:=CA e
   have eq0:sk true (iP Tryz.prog) .nili .nili=some true:=rfl
   simp only[av,aN,aO,ab,ah,eq0,dL,dz]
   refine F7 g.p hr.1 hr.2 ?_
   simp only[ct,da,ab]
   by_cases hi:Lib.itoa v=s.drop 8
   ·rw[if_pos hi] at hv
    rw[hi,beq_self_eq_true]
    exact h1 v hv
   ·rw[if_neg hi] at hv
    have:(Lib.itoa v==s.drop 8)=false:=by simpa using hi
    rw[this]
    exact h2 hv v
  ·have hv':xZ s=none:=by
    rw[hv]
    cases h:Lib.atoiAll (s.drop 8) with
    | ok v=>exact absurd h (e v)
    | _=>rfl
   have eq0:sk true (iP Tryz.prog) (.iface 290 .aY) .nili=some false:=rfl
   simp only[av,aN,aO,ab,ah,eq0,dL,dz,ae]
   exact h2 hv' n
end
def jy (a:AT):Row:=⟨a.nm,kV a.ty,false,a.must,a.own,a.hide,a.new⟩
def atC (l:List AT):List LV:=ga (l.map jy)
def rF:Nat→List AT→List LV
 | _,[]=>[]
 | j,_::l=>i64 j::rF (j+1) l
def sC (s:ST):List LV:=[i64 s.ver,.isl (atC s.l) s.l.length none,.imap (s.l.map fun a=>.str a.nm) (rF 0 s.l)]
def sV (s:ST):LV:=.iptr (sC s) 0
theorem vz {a:AT}:(jy a).cells=aC a:=rfl
theorem Oj {a:AT} (h:a.nm.length≤2 ^ 32):(jy a).ok:=⟨.inr ⟨a.ty,rfl,rfl⟩,h⟩
theorem kf:∀ {l:List AT},LV.aG (atC l)=true
 | []=>rfl
 | a::l=>by
  have:=kf (l:=l)
  unfold atC at this ⊢
  rw[List.map_cons,ga,dP,this,vz,me];rfl
theorem Ey {l:List AT}:(atC l).length=l.length*6:=by unfold atC;rw[qB,bH]
theorem nX:∀ {l:List AT} {j:Nat},LV.aG (rF j l)=true
 | [],_=>rfl
 | _::l,j=>by simp only[rF,LV.aG,LV.plain,nX (l:=l),Bool.and_true]
theorem ie {s:ST}:(sV s).plain=true:=by
 simp only[sV,sC,LV.plain,LV.aG,kf,nX,bV (f:=fun a:AT=>LV.str a.nm) fun _ _=>rfl];rfl
theorem Ao:∀ {l:List AT} {j:Nat},(gF j ((l.map jy).map (·.nm))).map (·.1)=l.map fun a=>.str a.nm
 | [],_=>rfl
 | a::l,j=>by simp only[List.map_cons,gF];rw[Ao (l:=l)];rfl
theorem Ap:∀ {l:List AT} {j:Nat},(gF j ((l.map jy).map (·.nm))).map (·.2)=rF j l
 | [],_=>rfl
 | a::l,j=>by simp only[List.map_cons,gF,rF];rw[Ap (l:=l)]
def fw (s:Tx):ST ⊕ Int × Int:=match splitB 10 s with
 | p::q::r=>match xZ p with
  | none=>.inr (1,4)
  | some v=>if v<0∨1000<v then .inr (1,2) else match dS [] 2 (q::r) with
   | .inl l=>.inl ⟨v,l⟩
   | .inr e=>.inr e
 | _=>.inr (1,4)
theorem uo:∀ {l:List AT} {a:AT} {last:Tx},jf last (l.map jy)=0→jf last ((l++[a]).map jy)=jc (match l.getLast? with
  | none=>last
  | some b=>b.nm) a
 | [],a,last,_=>by
  simp only[bD,List.map_cons,List.map_nil,jf,List.getLast?_nil]
  show (if jc last a=0 then 0 else jc last a)=jc last a
  split<;>simp_all
 | b::l,a,last,h=>by
  simp only[List.map_cons,jf,List.cons_append] at h ⊢
  split at h
  ·rename_i e
   rw[if_pos e,uo (l:=l) h]
   cases l with
   | nil=>rfl
   | cons c l=>
    rw[List.getLast?_cons_cons]
    cases hq:(c::l).getLast? with
    | none=>simp at hq
    | some q=>rfl
  ·rename_i e;exact absurd h e
theorem I5 {v:Int} {l:List AT} {a:AT} (hv:¬ (v<0∨1000<v)) (hl:l.length≤16) (h:jf [] (l.map jy)=0):mkW v ((l++[a]).map jy)=gD l a:=by
 unfold mkW gD
 rw[if_neg hv]
 simp only[bH,b8,List.length_singleton]
 by_cases h16:l.length=16
 ·rw[if_pos (by omega),if_pos h16]
 ·rw[if_neg (by omega),if_neg h16,uo h]
  rfl
theorem nY {c:UInt8}:∀ {s a b:Tx} {l:List Tx},splitB c s=a::b::l→splitB c (s.drop (a.length+1))=b::l
 | [],a,b,l,h=>by simp[splitB] at h
 | x::s,a,b,l,h=>by
  rw[dF] at h
  split at h
  ·simp only[List.cons.injEq] at h
   obtain ⟨rfl,h⟩:=h
   simpa using h
  ·split at h
   ·simp at h
   ·rename_i p ps e
    simp only[List.cons.injEq] at h
    obtain ⟨rfl,h⟩:=h
    simp only[aW,List.drop_succ_cons]
    exact nY (by rw[e,h])
theorem pr {c:UInt8} {s a:Tx} (h:splitB c s=[a]):a=s:=by
 by_cases hi:Lib.indexByte s c = -1
 ·rw[kR hi] at h;simpa using h.symm
 ·have hg:=Lib.indexByte_ge s c
  obtain ⟨m,hm⟩:∃ m:Nat,Lib.indexByte s c=m:=⟨(Lib.indexByte s c).toNat,by omega⟩
  have:=(kS hm).1
  rw[this] at h
  simp only[List.cons.injEq] at h
  exact absurd h.2 dd
end Go.Proofs.YtknegckgmklnhaaGreatDoor
