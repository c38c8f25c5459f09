/- Parts of the proof. -/
import Derived.Test.YtknegckgmklnhaaGreatDoorVbT6
namespace Go.Proofs.YtknegckgmklnhaaGreatDoor
open Go Go.CP
set_option maxRecDepth 100000
section
variable {R:LV→aa→Prop} {z0:ar} {nm tx:Tx} {t0 t1 t2 t3:LV} {m o h n:Bool}
theorem bs6 {b:Bool}:stV [z0,.cells .rw (bX nm tx t0 t1 t2 t3 m o h n)] 1 (.ptr 1 6) (.bool b)=some [z0,.cells .rw (bX nm tx t0 t1 t2 t3 b o h n)]:=rfl
theorem bs7 {b:Bool}:stV [z0,.cells .rw (bX nm tx t0 t1 t2 t3 m o h n)] 1 (.ptr 1 7) (.bool b)=some [z0,.cells .rw (bX nm tx t0 t1 t2 t3 m b h n)]:=rfl
theorem bs8 {b:Bool}:stV [z0,.cells .rw (bX nm tx t0 t1 t2 t3 m o h n)] 1 (.ptr 1 8) (.bool b)=some [z0,.cells .rw (bX nm tx t0 t1 t2 t3 m o b n)]:=rfl
theorem bs9 {b:Bool}:stV [z0,.cells .rw (bX nm tx t0 t1 t2 t3 m o h n)] 1 (.ptr 1 9) (.bool b)=some [z0,.cells .rw (bX nm tx t0 t1 t2 t3 m o h b)]:=rfl
theorem bl6:ld1 [z0,.cells .rw (bX nm tx t0 t1 t2 t3 m o h n)] (.ptr 1 6)=some (.bool m):=rfl
theorem bl7:ld1 [z0,.cells .rw (bX nm tx t0 t1 t2 t3 m o h n)] (.ptr 1 7)=some (.bool o):=rfl
theorem bl8:ld1 [z0,.cells .rw (bX nm tx t0 t1 t2 t3 m o h n)] (.ptr 1 8)=some (.bool h):=rfl
theorem bl9:ld1 [z0,.cells .rw (bX nm tx t0 t1 t2 t3 m o h n)] (.ptr 1 9)=some (.bool n):=rfl
theorem Qx {s:Tx} {ws:List Tx} {i:Nat} {w:Tx} (hx:ws[i]?=some w) (hi:i<2 ^ 40)
  (hK:lS (.str s) (.ptr 0 0) (sL ws) (.ptr 1 0) (i64 (i+1:Nat)) R [z0,.cells .rw (bX nm tx t0 t1 t2 t3 (m||w==de) (o||w==eG) (h||w==dh) (n||w==eH))]) :
  lS (.str s) (.ptr 0 0) (sL ws) (.ptr 1 0) (i64 i) R [z0,.cells .rw (bX nm tx t0 t1 t2 t3 m o h n)]:=by
 refine HN _ _ _ _ _ ?_
 have hlt:=(List.getElem?_eq_some_iff.1 hx).1
 have c1:((i:Int)<ws.length):=by omega
 have e1:bn 1 (sL ws) (i64 i)=some (.iptr (ws.map .str) (i*1)):=cj hlt
 have hg:(ws.map LV.str)[i*1]?=some (.str w):=by rw[Nat.mul_one,bT,hx];rfl
 have hw1:=aK hi
 simp only[B0,oO,oP,oQ,aU,ad,au,ab,c1,aZ,ah,ao,aj,bl6]
 cases m<;>cases o<;>cases h<;>cases n<;>simp only[ah,ae,bs6,bs7,bs8,bs9,bl7,bl8,bl9,e1,bA,hg,ct,da,ab,aA,af,aH,hw1]<;>exact hK
theorem Qy {s:Tx} {ws:List Tx} (hl:ws.length≤2 ^ 32) (r:List Tx) (h3:ws.drop 3=r)
  (hK:lS (.str s) (.ptr 0 0) (sL ws) (.ptr 1 0) (i64 ws.length) R [z0,.cells .rw (bX nm tx t0 t1 t2 t3 (r.contains de) (r.contains eG) (r.contains dh) (r.contains eH))]) (hw:3≤ws.length) :
  ∀ (d i:Nat),3≤i→i+d=ws.length→lS (.str s) (.ptr 0 0) (sL ws) (.ptr 1 0) (i64 i) R [z0,.cells .rw (bX nm tx t0 t1 t2 t3 ((r.take (i-3)).contains de) ((r.take (i-3)).contains eG) ((r.take (i-3)).contains dh) ((r.take (i-3)).contains eH))]:=by
 intro d
 induction d with
 | zero=>
  intro i h hi
  have hi:i=ws.length:=by omega
  subst hi
  rw[List.take_of_length_le (by rw[← h3];simp)]
  exact hK
 | succ d ih=>
  intro i h hi
  have hx:ws[i]?=some (ws[i]'(by omega)):=bg (by omega)
  generalize ws[i]'(by omega)=w at hx
  refine Qx hx (by omega) ?_
  have hr:r[i-3]?=some w:=by rw[← h3,List.getElem?_drop,show 3+(i-3)=i by omega];exact hx
  have e:∀ x:Tx,(w==x)=(x==w):=fun x=>Bool.eq_iff_iff.2 ⟨fun h=>beq_iff_eq.2 (beq_iff_eq.1 h).symm,fun h=>beq_iff_eq.2 (beq_iff_eq.1 h).symm⟩
  have k:=ih (i+1) (by omega) (by omega)
  rw[show i+1-3=i-3+1 by omega,dG hr,dG hr,dG hr,dG hr] at k
  rw[e,e,e,e]
  exact k
theorem MN {st:aa} {o:Nat} {l cs:List LV} (h:st[o]?=some (.cells .rw l)) (hl:l.length=10) (hc:cs.length=10) (h1:cs.all LV.one=true):stV st 10 (.ptr o 0) (.agg cs)=some (st.set o (.cells .rw cs)):=by
 refine (fq h (by omega) h1 hc).trans ?_
 congr 3
 unfold cy
 rw[List.take_zero,bD,aj,bR (by omega),List.append_nil]
theorem Qz {st:aa} {o:Nat} {md:Md} {l:List LV} (h:st[o]?=some (.cells md l)) (hl:l.length=10):ldA st (.ptr o 0) 10=some (.agg l):=by
 rw[du h (by omega),List.drop_zero,List.take_of_length_le (by omega)]
def bC (a:AT):List LV:=.str a.nm::.str (kpr a.ty)::(rkC a.ty++[.bool a.must,.bool a.own,.bool a.hide,.bool a.new])
def BtQ (s:Tx) (v:LV):Prop:=match fp s with
 | some a=>v=.tup [.agg (bC a),.bool true]
 | none=>∃ cs,v=.tup [.agg cs,.bool false]∧cs.length=10∧LV.aG cs=true∧cs.all LV.one=true
theorem vH {s:Tx} {t:KT} (h:ew s=some t):s=kpr t:=by
 unfold ew at h
 split at h
 ·cases h
 ·split at h
  ·rename_i t' e
   simp only[aM] at h
   subst h
   have:=(oV e).1
   simpa using this
  ·cases h
theorem CS {x:Tx}:splitB 32 (jx++32::x)=jx::splitB 32 x:=rfl
theorem Jt {s:Tx} (hs:s.length≤2 ^ 29):Pb Tryz.prog 106 [.str s] (BtQ s):=by
 refine Pb.of (Q4 _ ?_) rfl
 have zag:bh (aB (aF [(0,1),(1,1),(2,4),(6,1),(7,1),(8,1),(9,1)]) [LV.str [],LV.str [],i64 0,LV.nils,LV.nils,LV.nils,LV.bool false,LV.bool false,LV.bool false,LV.bool false] [])=some (.agg (bX [] [] (i64 0) .nils .nils .nils false false false false)):=rfl
 have yu:∀ x y:Tx,bh (aB (aF [(0,1),(1,1),(2,4),(6,1),(7,1),(8,1),(9,1)]) [LV.str [],LV.str [],i64 0,LV.nils,LV.nils,LV.nils,LV.bool false,LV.bool false,LV.bool false,LV.bool false] [(0,.str x),(1,.str y)])=some (.agg (bX x y (i64 0) .nils .nils .nils false false false false)):=fun _ _=>rfl
 simp only[PR,cv,bD,aR]
 refine (Jr hs).call ?_
 have hle:=iO (c:=32) (s:=s)
 have hcl:=eR (c:=32) (s:=s)
 have hcc:s.count 32≤s.length:=List.count_le_length
 have bad:fp s=none→∀ {st:aa} {x:LV} {cs:List LV},cs.length=10→LV.aG cs=true→cs.all LV.one=true→x=.tup [.agg cs,.bool false]→Dp (BtQ s) x st:=by
  intro e st x cs h1 h2 h3 hx
  subst hx
  have hpl:(LV.tup [.agg cs,.bool false]).plain=true:=by simp[LV.plain,LV.aG,h2]
  exact ⟨_,bu _ hpl,hpl,by unfold BtQ;rw[e];exact ⟨cs,rfl,h1,h2,h3⟩⟩
 generalize hws:splitB 32 s=ws at hle hcl
 simp only[aU,ab,ad,au,aL]
 refine ⟨fun h3=>?_,fun h3=>?_⟩
 ·have e:fp s=none:=by
   unfold fp
   rw[hws]
   match ws,h3 with
   | [],_=>rfl
   | [_],_=>rfl
   | [_,_],_=>rfl
   | _::_::_::_,h=>simp only[aW] at h;omega
  rw[zag]
  simp only[ab]
  rw[MN (l:=bX [] [] (i64 0) .nils .nils .nils false false false false) rfl rfl rfl rfl]
  simp only[aA,af]
  rw[Qz (l:=bX [] [] (i64 0) .nils .nils .nils false false false false) rfl rfl]
  exact bad e (cs:=bX [] [] (i64 0) .nils .nils .nils false false false false) rfl rfl rfl rfl
 ·obtain ⟨w0,w1,w2,r,rfl⟩:∃ w0 w1 w2 r,ws=w0::w1::w2::r:=by
   match ws,h3 with
   | [],h=>exact absurd (show ((([]:List Tx).length:Nat):Int)<3 by decide) h
   | [_],h=>exact absurd (show (((1:Nat)):Int)<3 by decide) h
   | [_,_],h=>exact absurd (show (((2:Nat)):Int)<3 by decide) h
   | w0::w1::w2::r,_=>exact ⟨w0,w1,w2,r,rfl⟩
  have i1:bn 1 (sL (w0::w1::w2::r)) (.int .i64 1)=some (.iptr ((w0::w1::w2::r).map .str) (1*1)):=cj (i:=1) (by simp)
  have i2:bn 1 (sL (w0::w1::w2::r)) (.int .i64 2)=some (.iptr ((w0::w1::w2::r).map .str) (2*1)):=cj (i:=2) (by simp)
  have g1:((w0::w1::w2::r).map LV.str)[1*1]?=some (.str w1):=rfl
  have g2:((w0::w1::w2::r).map LV.str)[2*1]?=some (.str w2):=rfl
  have pa:fp s=if w0≠jx then none else match ew w2 with
   | none=>none
   | some t=>if nr ⟨w1,t,r.contains de,r.contains eG,r.contains dh,r.contains eH⟩=s then some ⟨w1,t,r.contains de,r.contains eG,r.contains dh,r.contains eH⟩ else none:=by unfold fp;rw[hws];rfl
  have hw1:w1.length≤2 ^ 32:=by have:=hle w1 (by simp);omega
  have hw2:w2.length≤2 ^ 32:=by have:=hle w2 (by simp);omega
  simp only[i1,i2,ab,bA,g1,g2,yu,true_and]
  have pt:stV ([ar.cells .rw (bX [] [] (i64 0) .nils .nils .nils false false false false)]++[ar.cells .rw (bX [] [] (i64 0) .nils .nils .nils false false false false)]) 10 (.ptr [ar.cells Md.rw (bX [] [] (i64 0) .nils .nils .nils false false false false)].length 0) (.agg (bX w1 w2 (i64 0) .nils .nils .nils false false false false))=some [ar.cells .rw (bX [] [] (i64 0) .nils .nils .nils false false false false),.cells .rw (bX w1 w2 (i64 0) .nils .nils .nils false false false false)]:=rfl
  rw[pt]
  simp only[aA,af]
  refine NX _ _ _ _ ?_
  simp only[HM]
  refine Qy (z0:=.cells .rw (bX [] [] (i64 0) .nils .nils .nils false false false false)) (ws:=w0::w1::w2::r) (by omega) r rfl ?_ (by simp) ((w0::w1::w2::r).length-3) 3 (Nat.le_refl _) (by simp;omega)
  refine HN _ _ _ _ _ ?_
  have c1:¬ (((w0::w1::w2::r).length:Int)<(w0::w1::w2::r).length):=by omega
  simp only[B0,oO,oP,oQ,aU,ad,au,ab,c1,a8,ae,i2,bA,g2]
  refine (Gg w2).call fun v hv=>?_
  obtain ⟨t,a,e,rfl,hcase⟩:∃ (t:KT) (a e:Int),v=tE t a e∧(e=0∧ew w2=some t∨e≠0∧ew w2=none):=by
   unfold iu at hv
   split at hv
   ·rename_i t ht
    obtain ⟨a,rfl⟩:=hv
    exact ⟨t,a,0,rfl,.inl ⟨rfl,ht⟩⟩
   ·rename_i ht
    obtain ⟨t,a,e,he,rfl⟩:=hv
    exact ⟨t,a,e,rfl,.inr ⟨he,ht⟩⟩
  have hmark:∀ (m o h n:Bool),(match ew w2 with
    | none=>none
    | some t=>if nr ⟨w1,t,m,o,h,n⟩=s then some (⟨w1,t,m,o,h,n⟩:AT) else none)=(match ew w2 with
    | none=>none
    | some t=>if pJ w1 w2 m o h n=s then some ⟨w1,t,m,o,h,n⟩ else none):=by
   intro m o h n
   cases ht:ew w2 with
   | none=>rfl
   | some t=>
    have:=vH ht
    simp only
    rw[← Js,this]
  rw[hmark] at pa
  generalize r.contains de=m at pa ⊢
  generalize r.contains eG=o at pa ⊢
  generalize r.contains dh=h at pa ⊢
  generalize r.contains eH=n at pa ⊢
  have hpl:LV.aG (rkC t)=true:=fJ
  have hbc:bC ⟨w1,t,m,o,h,n⟩=.str w1::.str (kpr t)::(rkC t++[.bool m,.bool o,.bool h,.bool n]):=rfl
  have ev0:ai (tE t a e) 0=some (.agg (rkC t)):=rfl
  have ev1:ai (tE t a e) 1=some (.agg [i64 a,i64 e]):=rfl
  rw[gd] at hpl hbc ev0
  have p1:stV ([ar.cells .rw (bX [] [] (i64 0) .nils .nils .nils false false false false),.cells .rw (bX w1 w2 (i64 0) .nils .nils .nils m o h n)]++[ar.cells .rw [i64 0,LV.nils,LV.nils,LV.nils]]++[ar.cells .rw [i64 0,i64 0]]) 4 (.ptr 2 0) (.agg [i64 t.f,.isl (dj t.l) t.l.length none,.isl (t.ns.map .str) t.ns.length none,.isl (t.ls.map .bool) t.ls.length none]) =
   some [ar.cells .rw (bX [] [] (i64 0) .nils .nils .nils false false false false),.cells .rw (bX w1 w2 (i64 0) .nils .nils .nils m o h n),.cells .rw [i64 t.f,.isl (dj t.l) t.l.length none,.isl (t.ns.map .str) t.ns.length none,.isl (t.ls.map .bool) t.ls.length none],.cells .rw [i64 0,i64 0]]:=rfl
  have p2:stV [ar.cells .rw (bX [] [] (i64 0) .nils .nils .nils false false false false),.cells .rw (bX w1 w2 (i64 0) .nils .nils .nils m o h n),.cells .rw [i64 t.f,.isl (dj t.l) t.l.length none,.isl (t.ns.map .str) t.ns.length none,.isl (t.ls.map .bool) t.ls.length none],.cells .rw [i64 0,i64 0]] 2 (.ptr 3 0) (.agg [i64 a,i64 e]) =
   some [ar.cells .rw (bX [] [] (i64 0) .nils .nils .nils false false false false),.cells .rw (bX w1 w2 (i64 0) .nils .nils .nils m o h n),.cells .rw [i64 t.f,.isl (dj t.l) t.l.length none,.isl (t.ns.map .str) t.ns.length none,.isl (t.ls.map .bool) t.ls.length none],.cells .rw [i64 a,i64 e]]:=rfl
  have p3:ldA [ar.cells .rw (bX [] [] (i64 0) .nils .nils .nils false false false false),.cells .rw (bX w1 w2 (i64 0) .nils .nils .nils m o h n),.cells .rw [i64 t.f,.isl (dj t.l) t.l.length none,.isl (t.ns.map .str) t.ns.length none,.isl (t.ls.map .bool) t.ls.length none],.cells .rw [i64 a,i64 e]] (.ptr 2 0) 4=some (.agg [i64 t.f,.isl (dj t.l) t.l.length none,.isl (t.ns.map .str) t.ns.length none,.isl (t.ls.map .bool) t.ls.length none]):=rfl
  have p4:stV [ar.cells .rw (bX [] [] (i64 0) .nils .nils .nils false false false false),.cells .rw (bX w1 w2 (i64 0) .nils .nils .nils m o h n),.cells .rw [i64 t.f,.isl (dj t.l) t.l.length none,.isl (t.ns.map .str) t.ns.length none,.isl (t.ls.map .bool) t.ls.length none],.cells .rw [i64 a,i64 e]] 4 (.ptr 1 2) (.agg [i64 t.f,.isl (dj t.l) t.l.length none,.isl (t.ns.map .str) t.ns.length none,.isl (t.ls.map .bool) t.ls.length none]) =
   some [ar.cells .rw (bX [] [] (i64 0) .nils .nils .nils false false false false),.cells .rw (bX w1 w2 (i64 t.f) (.isl (dj t.l) t.l.length none) (.isl (t.ns.map .str) t.ns.length none) (.isl (t.ls.map .bool) t.ls.length none) m o h n),.cells .rw [i64 t.f,.isl (dj t.l) t.l.length none,.isl (t.ns.map .str) t.ns.length none,.isl (t.ls.map .bool) t.ls.length none],.cells .rw [i64 a,i64 e]]:=rfl
  have g9:∀ {y1 y2 y3:ar} {v:LV},ld1 [y1,y2,y3,.cells .rw [i64 a,v]] (.ptr 3 1)=some v:=rfl
  simp only[ev0,ev1,ab,cv,b8,aW,aR,aj,p1,aA,af,p2,p3,ao,p4]
  have hB:LV.aG (bX w1 w2 (i64 t.f) (.isl (dj t.l) t.l.length none) (.isl (t.ns.map .str) t.ns.length none) (.isl (t.ls.map .bool) t.ls.length none) m o h n)=true:=by
   simp only[LV.aG,LV.plain,bp] at hpl ⊢
   simp[hpl]
  have hp4:LV.aG [i64 t.f,.isl (dj t.l) t.l.length none,.isl (t.ns.map .str) t.ns.length none,.isl (t.ls.map .bool) t.ls.length none]=true:=hpl
  have q1:∀ y1 y3 y4:ar,ldA [y1,.cells .rw (bX w1 w2 (i64 t.f) (.isl (dj t.l) t.l.length none) (.isl (t.ns.map .str) t.ns.length none) (.isl (t.ls.map .bool) t.ls.length none) m o h n),y3,y4] (.ptr 1 0) 10=some (.agg (bX w1 w2 (i64 t.f) (.isl (dj t.l) t.l.length none) (.isl (t.ns.map .str) t.ns.length none) (.isl (t.ls.map .bool) t.ls.length none) m o h n)):=fun _ _ _=>rfl
  have q3:∀ y2 y3 y4:ar,stV [ar.cells .rw (bX [] [] (i64 0) .nils .nils .nils false false false false),y2,y3,y4] 10 (.ptr 0 0) (.agg (bX w1 w2 (i64 t.f) (.isl (dj t.l) t.l.length none) (.isl (t.ns.map .str) t.ns.length none) (.isl (t.ls.map .bool) t.ls.length none) m o h n))=some [.cells .rw (bX w1 w2 (i64 t.f) (.isl (dj t.l) t.l.length none) (.isl (t.ns.map .str) t.ns.length none) (.isl (t.ls.map .bool) t.ls.length none) m o h n),y2,y3,y4]:=fun _ _ _=>rfl
  have q4:∀ y2 y3 y4:ar,ldA [.cells .rw (bX w1 w2 (i64 t.f) (.isl (dj t.l) t.l.length none) (.isl (t.ns.map .str) t.ns.length none) (.isl (t.ls.map .bool) t.ls.length none) m o h n),y2,y3,y4] (.ptr 0 0) 10=some (.agg (bX w1 w2 (i64 t.f) (.isl (dj t.l) t.l.length none) (.isl (t.ns.map .str) t.ns.length none) (.isl (t.ls.map .bool) t.ls.length none) m o h n)):=fun _ _ _=>rfl
  have hl10:(bX w1 w2 (i64 t.f) (.isl (dj t.l) t.l.length none) (.isl (t.ns.map .str) t.ns.length none) (.isl (t.ls.map .bool) t.ls.length none) m o h n).length=10:=rfl
  have h1B:(bX w1 w2 (i64 t.f) (.isl (dj t.l) t.l.length none) (.isl (t.ns.map .str) t.ns.length none) (.isl (t.ls.map .bool) t.ls.length none) m o h n).all LV.one=true:=rfl
  simp only[q1,g9,ab,ad,bj,q3,aA,af]
  rcases hcase with ⟨rfl,ht⟩ | ⟨he,ht⟩
  ·rw[show ((0:Int)==0)=true from rfl,ah]
   refine (Lp hp4 hw1 hw2).call ⟨rfl,?_⟩
   simp only[ct,da,ab,q3,aA,af]
   refine DZ _ _ ?_
   simp only[xp,q4,ab]
   have ht':=vH ht
   by_cases h0:w0=jx
   ·rw[if_neg (by simpa using h0)] at pa
    rw[ht] at pa
    simp only at pa
    by_cases hb:pJ w1 w2 m o h n=s
    ·rw[if_pos hb] at pa
     rw[hb,beq_self_eq_true]
     have hv2:bC ⟨w1,t,m,o,h,n⟩=(bX w1 w2 (i64 t.f) (.isl (dj t.l) t.l.length none) (.isl (t.ns.map .str) t.ns.length none) (.isl (t.ls.map .bool) t.ls.length none) m o h n):=by rw[hbc,← ht'];rfl
     have hpl2:(LV.tup [.agg (bX w1 w2 (i64 t.f) (.isl (dj t.l) t.l.length none) (.isl (t.ns.map .str) t.ns.length none) (.isl (t.ls.map .bool) t.ls.length none) m o h n),.bool true]).plain=true:=by
      simp only[LV.plain,LV.aG,bp] at hB ⊢
      simp[hB]
     exact ⟨_,bu _ hpl2,hpl2,by unfold BtQ;rw[pa];show _=LV.tup [.agg (bC _),_];rw[hv2]⟩
    ·rw[if_neg hb] at pa
     have:(pJ w1 w2 m o h n==s)=false:=by simpa using hb
     rw[this]
     exact bad pa hl10 hB h1B rfl
   ·have hne:pJ w1 w2 m o h n≠s:=by
     intro hb
     rw[← hb,show pJ w1 w2 m o h n=jx++32::(w1++32::(w2++mk4 m o h n)) from rfl,CS] at hws
     simp only[List.cons.injEq] at hws
     exact h0 hws.1.symm
    rw[if_pos h0] at pa
    have:(pJ w1 w2 m o h n==s)=false:=by simpa using hne
    rw[this]
    exact bad pa hl10 hB h1B rfl
  ·have he':(e==0)=false:=by simpa using he
   rw[he',ae]
   refine DZ _ _ ?_
   simp only[xp,q4,ab]
   have pn:fp s=none:=by
    rw[pa,ht]
    split<;>rfl
   exact bad pn hl10 hB h1B rfl
end
def ErQ (v:LV):Prop:=∃ e:Int,e≠0∧v=i64 e
theorem vI {st:aa} {e:Int} (h:e≠0):Dp ErQ (i64 e) st:=⟨i64 e,rfl,rfl,e,h,rfl⟩
theorem rv {d:Tx} (hd:d.length≤2 ^ 30):∀ (k i:Nat) (st:aa),i+k=d.length→mG (.str d) (i64 i) (Dp ErQ) st
 | 0,i,st,hi=>by
  refine DW _ _ ?_
  have c1:¬ ((i:Int)<d.length):=by omega
  simp only[xn,bF,ad,au,ab,c1,a8,ae]
  exact vI (by decide)
 | k+1,i,st,hi=>by
  refine DW _ _ ?_
  have hlt:i<d.length:=by omega
  have c1:((i:Int)<d.length):=by omega
  have hx:d[i]?=some d[i]:=bg hlt
  have hw1:=aK (show i<2 ^ 40 by omega)
  simp only[xn,bF,ad,au,cT,ab,c1,aZ,ah,dB hx,aL,aH,hw1]
  exact ⟨fun _=>vI (by decide),fun _=>⟨fun _=>vI (by decide),fun _=>rv hd k (i+1) st (by omega)⟩⟩
theorem Ju {x:Option LV} {v:LV} {K:LV→Prop} (h:x=some v) (k:K v):bd x K:=by rw[h];exact k
theorem Jv {s:Tx} (hs:s.length≤2 ^ 29):Pb Tryz.prog 105 [.str s] ErQ:=by
 refine Pb.of (c105 _ ?_) rfl
 simp only[PQ,tC,bF,ad,eo,ab,aL]
 refine ⟨fun _=>vI (by decide),fun h8=>?_⟩
 have h8':8<s.length:=by omega
 have e1:(ob3 none (some (.int .i64 8)) none fun l h m=>dm (.str s) l h m)=some (.str (s.take 8)):=nW (m:=8) (by omega)
 have e2:(ob3 (some (.int .i64 8)) none none fun l h m=>dm (.str s) l h m)=some (.str (s.drop 8)):=gw (x:=8) (by omega)
 have hl:(s.drop 8).length=s.length-8:=by simp
 simp only[e1,e2,ab,ct,iV]
 generalize s.drop 8=d at hl
 have tail:∀ (x:Tx),x.length≤2 ^ 29→0<x.length→∀ {most:Tx},(bd (cm (.str x)) fun v23=>bd (al BinOp.eql v23 (i64 0)) fun v24=>aq v24 (Dp ErQ (i64 4) []) (bd (cm (.str x)) fun v25=>bd (al BinOp.gtr v25 (i64 19)) fun v26=>aq v26 (Dp ErQ (i64 4) []) (bd (cm (.str x)) fun v27=>bd (al BinOp.eql v27 (i64 19)) fun v28=>aq v28 (bd (ck BinOp.gtr (.str x) (LV.str most)) fun v29=>aq v29 (Dp ErQ (i64 4) []) (bd (dJ (.str x) (i64 0)) fun v30=>bd (al BinOp.lss v30 (LV.int IntKind.u8 49)) fun v31=>aq v31 (Dp ErQ (i64 4) []) (bd (dJ (.str x) (i64 0)) fun v32=>bd (al BinOp.gtr v32 (LV.int IntKind.u8 57)) fun v33=>aq v33 (Dp ErQ (i64 4) []) (mG (.str x) (i64 0) (Dp ErQ) [])))) (bd (dJ (.str x) (i64 0)) fun v34=>bd (al BinOp.lss v34 (LV.int IntKind.u8 49)) fun v35=>aq v35 (Dp ErQ (i64 4) []) (bd (dJ (.str x) (i64 0)) fun v36=>bd (al BinOp.gtr v36 (LV.int IntKind.u8 57)) fun v37=>aq v37 (Dp ErQ (i64 4) []) (mG (.str x) (i64 0) (Dp ErQ) [])))))):=by
  intro x hx h0 most
  have h4:Dp ErQ (i64 4) []:=vI (by decide)
  have hx0:x[0]?=some x[0]:=bg h0
  have ei:dJ (.str x) (.int .i64 0)=some (u8 x[0]):=dB (i:=0) hx0
  have hP:=rv (d:=x) (by omega) x.length 0 [] (by omega)
  have hg:ck BinOp.gtr (.str x) (.str most)=some (.bool (!(Op.bytesLess x most||x==most))):=rfl
  have sp:∀ {b:Bool} {A B:Prop},A→B→aq (.bool b) A B:=fun {b A B} ha hb=>by cases b;exact hb;exact ha
  simp only[bF,ad,bj,cT,au,ab,ei,hg]
  exact sp h4 (sp h4 (sp (sp h4 (sp h4 (sp h4 hP))) (sp h4 (sp h4 hP))))
 have sp:∀ {b:Bool} {A B:Prop},A→B→aq (.bool b) A B:=fun {b A B} ha hb=>by cases b;exact hb;exact ha
 have h4:Dp ErQ (i64 4) []:=vI (by decide)
 have hd0:d[0]?=some (d[0]'(by omega)):=bg (by omega)
 have ei:dJ (.str d) (.int .i64 0)=some (u8 (d[0]'(by omega))):=dB (i:=0) hd0
 have e3:(ob3 (some (.int .i64 1)) none none fun l h m=>dm (.str d) l h m)=some (.str (d.drop 1)):=gw (x:=1) (by omega)
 refine sp h4 ?_
 refine Ju ei (Ju (v:=.bool ((((d[0]'(by omega)).toNat:Int))==45)) rfl (sp ?_ (tail d (by omega) (by omega))))
 refine Ju e3 ?_
 by_cases h1:(d.drop 1).length=0
 ·have:((d.drop 1).length:Int)==0:=by rw[h1];rfl
  simp only[bF,ab,ad,bj,this,ah]
  exact h4
 ·exact tail (d.drop 1) (by simp;omega) (by omega)
section
variable {st:aa} {R:LV→aa→Prop}
def dig (n:Nat):UInt8:=UInt8.ofNat (48+n % 10)
theorem Lr {n:Nat}:(dig n).toNat=48+n % 10:=by
 unfold dig
 rw[UInt8.toNat_ofNat']
 omega
theorem vJ {c:UInt8}:fD (st++[ar.cells .rw [.int .u8 c.toNat]]) (.sl st.length 0 1 (.ex 1))=some (.str [c]):=by
 have hl:eA (st++[ar.cells .rw [.int .u8 c.toNat]]) 1 (.sl st.length 0 1 (.ex 1))=some (1,[.int .u8 c.toNat]):=by simp[eA]
 simp only[fD,hl,bytesOf]
 simp
theorem mh {n:Nat}:Lib.decDigits n=if n<10 then [dig n] else Lib.decDigits (n / 10)++[dig n]:=by
 rw[Lib.decDigits]
 split
 ·rename_i h
  unfold dig
  rw[Nat.mod_eq_of_lt h]
 ·rfl
theorem Jw {n:Nat} (hn:n≤2 ^ 40) {t:Tx} (ht:t.length≤2 ^ 40) (h:t=[]∨0<n) (hK:∀ st,lU (i64 (n / 10:Nat)) (.str (dig n::t)) R st):lU (i64 n) (.str t) R st:=by
 refine HP _ _ ?_
 have e1:al .rem (i64 n) (i64 10)=some (i64 (n % 10:Nat)):=by
  show (if (10:Int)=0 then none else some (LV.int .i64 ((n:Int).tmod 10)))=_
  rw[if_neg (by decide)]
  congr 2
 have e2:al .quo (i64 n) (i64 10)=some (i64 (n / 10:Nat)):=by
  show (if (10:Int)=0 then none else some (LV.int .i64 (IntKind.i64.wrap ((n:Int).tdiv 10))))=_
  rw[if_neg (by decide)]
  congr 2
  rw[Int.tdiv_eq_ediv_of_nonneg (by omega),wrap_i64 (by omega) (by omega)];omega
 have e3:al .add (i64 48) (i64 (n % 10:Nat))=some (i64 (48+n % 10:Nat)):=by
  show some (LV.int .i64 (IntKind.i64.wrap (48+((n % 10:Nat):Int))))=_
  rw[wrap_i64 (by omega) (by omega)]
  rfl
 have e4:gR .u8 (i64 (48+n % 10:Nat))=some (.int .u8 (dig n).toNat):=by
  rw[mw,Lr]
  congr 2
  rw[IntKind.wrap_u8];omega
 have ef:∀ v:LV,aB (fun i=>some (i*1,1)) (List.replicate 1 [LV.int IntKind.u8 0]).flatten [(0,.int .u8 (dig n).toNat)]=some [.int .u8 (dig n).toNat]:=fun _=>rfl
 have hb:ck .add (.str [dig n]) (.str t)=some (.str (dig n::t)):=kc (x:=[dig n]) (by simp;omega)
 simp only[B4,ct,da,ab]
 by_cases h0:t=[]
 ·subst h0
  rw[show (([]:Tx)==[])=true from rfl,ah,e1,ab,e3,ab,e4,ab,ef .nili]
  simp only[bE,af,vJ,ab]
  rw[hb,ab,e2,ab]
  exact hK _
 ·have hpos:0<n:=by rcases h with h|h;exact absurd h h0;exact h
  have c1:((n:Int) > 0):=by omega
  rw[show (t==[])=false by simpa using h0,ae]
  have c2:al .gtr (i64 n) (i64 0)=some (.bool true):=by
   show some (LV.bool (decide ((n:Int) > 0)))=_
   rw[decide_eq_true c1]
  rw[c2,ab,ah]
  rw[e1,ab,e3,ab,e4,ab,ef .nili]
  simp only[bE,af,vJ,ab]
  rw[hb,ab,e2,ab]
  exact hK _
theorem Jx {t:Tx} (ht:t≠[]) (hR:R (.str t) st):lU (i64 (0:Nat)) (.str t) R st:=by
 refine HP _ _ ?_
 simp only[B4,ct,da,ab]
 rw[show (t==[])=false by simpa using ht,ae]
 exact hR
theorem Jy:∀ {n:Nat},n≤2 ^ 40→∀ {t:Tx},t.length+n≤2 ^ 40→(t=[]∨0<n)→(∀ st,R (.str (Lib.decDigits n++t)) st)→∀ {st},lU (i64 n) (.str t) R st:=by
 intro n
 induction n using Nat.strongRecOn with
 | ind n ih=>
  intro hn t ht h hR st
  refine Jw hn (by omega) h fun st2=>?_
  rw[mh] at hR
  by_cases h10:n<10
  ·rw[Nat.div_eq_of_lt h10]
   rw[if_pos h10] at hR
   exact Jx (by simp) (hR _)
  ·rw[if_neg h10] at hR
   refine ih (n / 10) (by omega) (by omega) (by simp;omega) (.inr (by omega)) fun st3=>?_
   have:=hR st3
   simpa using this
theorem Gh {n:Nat} (hn:n≤2 ^ 39):Pu Tryz.prog 104 [i64 n] (.str (Lib.decDigits n)):=by
 refine Pu.of (Q7 _ ?_) rfl rfl
 have c1:¬ ((n:Int)<0):=by omega
 simp only[PU,ad,au,ab,c1,a8,ae]
 refine Jy (by omega) (t:=[]) (by simp;omega) (.inl rfl) fun st=>?_
 rw[List.append_nil]
 exact rfl
end
section
variable {R:LV→aa→Prop}
theorem EP:∀ {n:Nat},n≤1000→(Lib.decDigits n).length≤4:=by
 intro n hn
 rw[mh]
 split
 ·simp
 ·rw[mh]
  split
  ·simp
  ·rw[mh]
   split
   ·simp
   ·rw[mh]
    have:n / 10 / 10 / 10<10:=by omega
    rw[if_pos this]
    simp
abbrev A35:ar:=.cells .rw [i64 0,.nils]
theorem Gi {x0 x6 x7:LV} {p:Tx} {n i:Nat} {k:Int} (hi:i<2 ^ 40) (hOk:iy x0 (.ptr 0 0) (.ptr 1 0) x6 x7 (i64 (i+1:Nat)) (.str p) (i64 n) (i64 k) R [A35,.cells .rw [i64 n,.nils]]) :
  qu x0 (.ptr 0 0) (.ptr 1 0) x6 x7 (i64 i) (.str p) (i64 n) (i64 k) R [A35,A35]:=by
 refine BX _ _ _ _ _ _ _ _ _ ?_
 have c1:¬ ((n:Int)<0):=by omega
 have hw:=aK hi
 have fin:bd (ag 0 (.ptr 1 0)) fun v17=>bd2 (lmk (stV [A35,A35] 1 v17 (i64 n))) fun _v18 st19=>bd (al BinOp.add (i64 i) (i64 1)) fun v20=>iy x0 (.ptr 0 0) (.ptr 1 0) x6 x7 v20 (.str p) (i64 n) (i64 k) R st19:=by
  simp only[ao,aj,ab,ad,aH,hw]
  exact hOk
 simp only[xk,ad,eo,au,ab,c1,a8,ae,aL]
 simp only[ad] at fin
 exact ⟨fun _=>fin,fun _=>fin⟩
theorem Jz {x0 x6 x7:LV} {p:Tx} {i:Nat} (hp:p.length≤2 ^ 29) (hi:i<2 ^ 40)
  (hOk:∀ (n:Nat) (k:Int),n≤1000→p=cO++Lib.decDigits n→iy x0 (.ptr 0 0) (.ptr 1 0) x6 x7 (i64 (i+1:Nat)) (.str p) (i64 n) (i64 k) R [A35,.cells .rw [i64 n,.nils]])
  (hBad:(∀ n,n≤1000→p≠cO++Lib.decDigits n)→∀ e,e≠0→R (.tup [.agg [i64 0,.nils],i64 1,i64 e]) [A35,A35]) :
  ∀ (d k:Nat),k+d=1001→(∀ n,n<k→p≠cO++Lib.decDigits n)→qu x0 (.ptr 0 0) (.ptr 1 0) x6 x7 (i64 i) (.str p) (i64 (-1)) (i64 k) R [A35,A35]:=by
 intro d
 have er:∀ {A:Prop},(∀ n,n≤1000→p≠cO++Lib.decDigits n)→(aq (.bool true) (bd (bh (aB (aF [(0,1),(1,1)]) [i64 0,LV.nils] [])) fun v11=>aw Tryz.prog 105 [.str p] [A35,A35] fun v12 st13=>bd2 (lmk (stV st13 2 (.ptr 0 0) v11)) fun _v14 st15=>bd (ldA st15 (.ptr 0 0) 2) fun v16=>R (LV.tup [v16,i64 1,v12]) st15) A):=by
  intro A hn
  rw[ah,show bh (aB (aF [(0,1),(1,1)]) [i64 0,LV.nils] [])=some (.agg [i64 0,.nils]) from rfl,ab]
  refine (Jv hp).call fun v hv=>?_
  obtain ⟨e,he,rfl⟩:=hv
  exact hBad hn e he
 have cneg:decide ((-1:Int)<0)=true:=rfl
 induction d with
 | zero=>
  intro k hk hn
  refine BX _ _ _ _ _ _ _ _ _ ?_
  have c1:¬ ((k:Int)≤1000):=by omega
  simp only[xk,ad,eo,au,ab,c1,a8,ae,cneg]
  exact er fun n h=>hn n (by omega)
 | succ d ih=>
  intro k hk hn
  refine BX _ _ _ _ _ _ _ _ _ ?_
  have c1:((k:Int)≤1000):=by omega
  have hw:=aK (show k<2 ^ 40 by omega)
  simp only[xk,ad,eo,au,bF,ab,c1,aZ,cneg]
  rw[ah,ah]
  by_cases h14:p.length<14
  ·have c2:((p.length:Int)<14):=by omega
   simp only[c2,aZ]
   rw[ah]
   refine (Gh (by omega)).call ?_
   have hd:=EP (n:=k) (by omega)
   have hb:ck .add (.str [118,101,114,115,105,111,110,32]) (.str (Lib.decDigits k))=some (.str (cO++Lib.decDigits k)):=kc (x:=cO) (by simp[cO];omega)
   rw[hb]
   simp only[ab,ct,da,aH,hw]
   by_cases he:p=cO++Lib.decDigits k
   ·rw[show (p==cO++Lib.decDigits k)=true by simp[← he],ah]
    exact Gi hi (hOk k _ (by omega) he)
   ·rw[show (p==cO++Lib.decDigits k)=false by simpa using he,ae]
    exact ih (k+1) (by omega) fun n h=>by
     by_cases hnk:n=k
     ·subst hnk;exact he
     ·exact hn n (by omega)
  ·have c2:¬ ((p.length:Int)<14):=by omega
   simp only[c2,a8]
   rw[ae]
   refine er fun n h=>fun e=>?_
   have:=EP h
   rw[e] at h14
   simp[cO] at h14
   omega
end
def bCs:List AT→List LV
 | []=>[]
 | a::l=>bC a++bCs l
theorem jH {a:AT}:(bC a).length=10:=by unfold bC;simp[dT]
theorem JA {a:AT}:LV.aG (bC a)=true:=by
 unfold bC
 simp only[LV.aG,LV.plain,dP,fJ];rfl
theorem JB {a:AT}:(bC a).all LV.one=true:=by unfold bC;rw[gd];rfl
theorem pK:∀ {l:List AT},(bCs l).length=l.length*10
 | []=>rfl
 | a::l=>by simp only[bCs,b8,jH,pK (l:=l),aW];omega
theorem yo:∀ {a b:List AT},bCs (a++b)=bCs a++bCs b
 | [],_=>rfl
 | x::a,b=>by rw[List.cons_append,bCs,bCs,yo,List.append_assoc]
theorem qG:∀ {l:List AT},LV.aG (bCs l)=true
 | []=>rfl
 | a::l=>by rw[bCs,dP,JA,qG];rfl
theorem JC {l:List AT} {b:AT} (h:l.getLast?=some b):(bCs l)[(l.length-1)*10]?=some (.str b.nm):=by
 obtain ⟨ys,rfl⟩:=List.getLast?_eq_some_iff.1 h
 rw[yo,b8,List.length_singleton,Nat.add_sub_cancel,List.getElem?_append_right (by rw[pK];omega),pK,Nat.sub_self]
 rfl
structure RSt (st:aa) (v:Int) (l:List AT) (f:Option Nat):Prop where
 a:∃ x y,st[0]?=some (.cells .rw [x,y])
 b:st[1]?=some (.cells .rw [i64 v,osl f 10 l.length])
 o:ca .rw st f 10 l.length (bCs l)
 n:∀ o,f=some o→2≤o
section
variable {R:LV→aa→Prop} {st:aa}
theorem ko {x y a b:LV} {o:Nat} (h:st[o]?=some (.cells .rw [x,y])) (h1:[a,b].all LV.one=true):stV st 2 (.ptr o 0) (.agg [a,b])=some (st.set o (.cells .rw [a,b])):=fq (k:=0) (vs:=[a,b]) (n:=2) h (by simp) h1 rfl
theorem RSt.app {v:Int} {l:List AT} {f:Option Nat} {y:ar} (h:RSt st v l f):RSt (st++[y]) v l f:=
 ⟨by obtain ⟨p,q,e⟩:=h.a;exact ⟨p,q,jg e⟩,by rw[bW (cA h.b)];exact h.b,h.o.fr (Fr.app (S:=fun _=>False)) fun _ _ h=>h,h.n⟩
theorem RSt.more {v:Int} {l:List AT} {f:Option Nat} {a:AT} (h:RSt st v l f) (hl:l.length≤16) :
  ∃ st2 f2,bo (st++[.cells .rw (bC a)]) 10 120 .rw (osl f 10 l.length) (.sl st.length 0 1 (.ex 1))=some (osl f2 10 (l.length+1),st2)∧∃ st3,stV st2 1 (.ptr 1 1) (osl f2 10 (l.length+1))=some st3∧RSt st3 v (l++[a]) f2:=by
 obtain ⟨st2,f2,q1,q2,q3,q4⟩:=mN h.o (new:=bC a) jH JB (by omega) (b:=120)
 have hb2:st2[1]?=some (.cells .rw [i64 v,osl f 10 l.length]):=q3.get h.b fun e=>by have:=h.n 1 e;omega
 have hone:(osl f2 10 (l.length+1)).one=true:=by cases f2<;>rfl
 have hn2:∀ o,f2=some o→2≤o:=fun o e=>by
  rcases q4 o e with k|k
  ·exact h.n o k
  ·have:=cA h.b;omega
 have fr1:Fr st2 (st2.set 1 (.cells .rw [i64 v,osl f2 10 (l.length+1)])) (fun j=>j=1):=Fr.set rfl
 refine ⟨st2,f2,q1,_,dZ hb2 (by simp) hone,⟨?_,?_,?_,hn2⟩⟩
 ·obtain ⟨x,y,e⟩:=h.a
  exact ⟨x,y,fr1.get (q3.get e fun e=>by have:=h.n 0 e;omega) (by decide)⟩
 ·rw[bO hb2];simp
 ·have:=(q2.fr fr1 fun o e e'=>by have:=hn2 o e;omega)
  rw[yo]
  simpa[bCs] using this
end
end Go.Proofs.YtknegckgmklnhaaGreatDoor
