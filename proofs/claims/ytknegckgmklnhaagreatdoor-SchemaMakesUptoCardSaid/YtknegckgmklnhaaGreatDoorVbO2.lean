/- Parts of the proof. -/
import Derived.Test.YtknegckgmklnhaaGreatDoorVbT6
namespace Go.Proofs.YtknegckgmklnhaaGreatDoor
open Go Go.CP
set_option maxRecDepth 100000
abbrev bX (nm tx:Tx) (t0 t1 t2 t3:LV) (m o h n:Bool):List LV:=[.str nm,.str tx,t0,t1,t2,t3,.bool m,.bool o,.bool h,.bool n]
def mk4 (m o h n:Bool):Tx:=(if m then 32::cd else [])++((if o then 32::dm else [])++((if h then 32::cf else [])++(if n then 32::dn else [])))
def mg (nm tx:Tx) (m o h n:Bool):Tx:=fy++32::(nm++32::(tx++mk4 m o h n))
theorem zM {a:AT}:mg a.nm (kpr a.ty) a.must a.own a.hide a.new=dc a:=rfl
section
variable {st st':aa} {R:LV→aa→Prop}
theorem A1 {nm tx:Tx} {t0 t1 t2 t3:LV} {m o h n:Bool} (hp:LV.aF [t0,t1,t2,t3]=true) (hn:nm.length≤2 ^ 32) (ht:tx.length≤2 ^ 32) :
  Pu Tryz.prog 162 [.agg (bX nm tx t0 t1 t2 t3 m o h n)] (.str (mg nm tx m o h n)):=by
 refine Pu.of (c162 _ ?_) (by simp only[LV.aF,LV.plain,Bool.and_eq_true] at hp ⊢;simp[hp]) rfl
 have g:∀ k:Nat,ld1 ([]++[al.cells .rw (bX nm tx t0 t1 t2 t3 m o h n)]) (.ptr 0 k)=(bX nm tx t0 t1 t2 t3 m o h n)[k]?:=fun k=>aM rfl
 simp only[w162,l8,ai,List.length_nil,ao,Nat.zero_add,ab,g,List.getElem?_cons_zero,List.getElem?_cons_succ]
 rw[gy (by simp only[List.length_cons,List.length_nil];omega),ab,gy (by simp only[List.length_append,List.length_cons,List.length_nil];omega),ab,gy (by simp only[List.length_append,List.length_cons,List.length_nil];omega),ab]
 have fin:∀ {x y:Tx},x=y→dp ([]++[al.cells .rw (bX nm tx t0 t1 t2 t3 m o h n)]) (.str y) (.str x):=fun e=>by subst e;exact rfl
 cases m<;>cases o<;>cases h<;>cases n<;>simp only[ah,ae]<;>(repeat rw[gy (by simp only[List.length_append,List.length_cons,List.length_nil];omega),ab,])<;>(refine fin ?_)<;>simp[mg,mk4,fy,cd,dm,cf,dn]
theorem wV {s:Tx} (hs:s.length<2 ^ 40):Pu Tryz.prog 19 [.str s] (.bool (named s)):=by
 refine Pu.of (c19 _ ?_) rfl rfl
 refine (C6 hs (i:=0) (by omega)).call fun v hv=>?_
 have parts:∃ a e:Int,v=.agg [i64 a,i64 e]∧((e==0)&&(a==(s.length:Int)))=named s:=by
  unfold NmQ at hv
  rw[List.drop_zero] at hv
  have hpre:=gP s
  have heq:cJ s=s↔(cJ s).length=s.length:=by
   constructor
   ·intro h;rw[h]
   ·intro h
    rw[h,List.drop_length,List.append_nil] at hpre
    exact hpre.symm
  unfold fP at hv
  split at hv
  ·rename_i p e
   split at e
   ·cases e
   ·rename_i hc
    cases e
    refine ⟨_,_,hv,?_⟩
    unfold named
    simp only[Nat.zero_add,beq_self_eq_true,Bool.true_and]
    by_cases h:cJ s=s
    ·have h1:s≠[]:=fun e=>hc (.inl (by rw[h];exact e))
     have h2:s.length≤20:=by
      refine Nat.le_of_not_lt fun e=>hc (.inr (by rw[h];exact e))
     simp[h,h1,h2]
    ·have:¬ ((cJ s).length:Int)=s.length:=fun e=>h (heq.2 (by omega))
     simp[h,this]
  ·rename_i e
   split at e
   ·rename_i hc
    obtain ⟨a,e',he,rfl⟩:=hv
    refine ⟨a,e',rfl,?_⟩
    have:(e' == 0)=false:=by simpa using he
    rw[this,Bool.false_and]
    symm
    unfold named
    rcases hc with hc|hc
    ·by_cases h:cJ s=s
     ·rw[h] at hc;simp[hc]
     ·simp[h]
    ·have:¬ s.length≤20:=by
      have h1:=congrArg List.length hpre
      rw[List.length_append] at h1
      omega
     simp[this]
   ·cases e
 obtain ⟨a,e,rfl,he⟩:=parts
 have hp:stV [al.cells .rw [i64 0,i64 0]] 2 (.ptr 0 0) (.agg [i64 a,i64 e])=some [al.cells .rw [i64 a,i64 e]]:=rfl
 have g0:ld1 [al.cells .rw [i64 a,i64 e]] (.ptr 0 0)=some (i64 a):=rfl
 have g1:ld1 [al.cells .rw [i64 a,i64 e]] (.ptr 0 1)=some (i64 e):=rfl
 simp only[cY,List.nil_append,List.length_nil,hp,ay,ai,ao,Nat.zero_add,ab,g1,ag,aR]
 rw[← he]
 cases e==0 with
 | false=>exact rfl
 | true=>
  simp only[ah,g0,ab,aL,ag,aR]
  exact rfl
end
section
variable {R:LV→aa→Prop} {z0:al} {nm tx:Tx} {t0 t1 t2 t3:LV} {m o h n:Bool}
theorem bs6 {b:Bool}:stV [z0,.cells .rw (bX nm tx t0 t1 t2 t3 m o h n)] 1 (.ptr 1 6) (.bool b)=some [z0,.cells .rw (bX nm tx t0 t1 t2 t3 b o h n)]:=rfl
theorem bs7 {b:Bool}:stV [z0,.cells .rw (bX nm tx t0 t1 t2 t3 m o h n)] 1 (.ptr 1 7) (.bool b)=some [z0,.cells .rw (bX nm tx t0 t1 t2 t3 m b h n)]:=rfl
theorem bs8 {b:Bool}:stV [z0,.cells .rw (bX nm tx t0 t1 t2 t3 m o h n)] 1 (.ptr 1 8) (.bool b)=some [z0,.cells .rw (bX nm tx t0 t1 t2 t3 m o b n)]:=rfl
theorem bs9 {b:Bool}:stV [z0,.cells .rw (bX nm tx t0 t1 t2 t3 m o h n)] 1 (.ptr 1 9) (.bool b)=some [z0,.cells .rw (bX nm tx t0 t1 t2 t3 m o h b)]:=rfl
theorem bl6:ld1 [z0,.cells .rw (bX nm tx t0 t1 t2 t3 m o h n)] (.ptr 1 6)=some (.bool m):=rfl
theorem bl7:ld1 [z0,.cells .rw (bX nm tx t0 t1 t2 t3 m o h n)] (.ptr 1 7)=some (.bool o):=rfl
theorem bl8:ld1 [z0,.cells .rw (bX nm tx t0 t1 t2 t3 m o h n)] (.ptr 1 8)=some (.bool h):=rfl
theorem bl9:ld1 [z0,.cells .rw (bX nm tx t0 t1 t2 t3 m o h n)] (.ptr 1 9)=some (.bool n):=rfl
theorem C7 {s:Tx} {ws:List Tx} {i:Nat} {w:Tx} (hx:ws[i]?=some w) (hi:i<2 ^ 40)
  (hK:P106_7 (.str s) (.ptr 0 0) (sL ws) (.ptr 1 0) (i64 (i+1:Nat)) R [z0,.cells .rw (bX nm tx t0 t1 t2 t3 (m||w==cd) (o||w==dm) (h||w==cf) (n||w==dn))]) :
  P106_7 (.str s) (.ptr 0 0) (sL ws) (.ptr 1 0) (i64 i) R [z0,.cells .rw (bX nm tx t0 t1 t2 t3 m o h n)]:=by
 refine p106_7 _ _ _ _ _ ?_
 have hlt:=(List.getElem?_eq_some_iff.1 hx).1
 have c1:((i:Int)<ws.length):=by omega
 have e1:bh 1 (sL ws) (i64 i)=some (.iptr (ws.map .str) (i*1)):=gr hlt
 have hg:(ws.map LV.str)[i*1]?=some (.str w):=by rw[Nat.mul_one,List.getElem?_map,hx];rfl
 have hw1:=aJ hi
 simp only[w106_7,ca,ag,aG,ab,c1,decide_true,ah,ao,Nat.zero_add,bl6]
 cases m<;>cases o<;>cases h<;>cases n<;>simp only[ah,ae,bs6,bs7,bs8,bs9,bl7,bl8,bl9,e1,cQ,hg,bA,ct,ab,ay,ai,aK,hw1]<;>exact hK
theorem C8 {s:Tx} {ws:List Tx} (hl:ws.length≤2 ^ 32) (r:List Tx) (h3:ws.drop 3=r)
  (hK:P106_7 (.str s) (.ptr 0 0) (sL ws) (.ptr 1 0) (i64 ws.length) R [z0,.cells .rw (bX nm tx t0 t1 t2 t3 (r.contains cd) (r.contains dm) (r.contains cf) (r.contains dn))]) (hw:3≤ws.length) :
  ∀ (d i:Nat),3≤i→i+d=ws.length→P106_7 (.str s) (.ptr 0 0) (sL ws) (.ptr 1 0) (i64 i) R [z0,.cells .rw (bX nm tx t0 t1 t2 t3 ((r.take (i-3)).contains cd) ((r.take (i-3)).contains dm) ((r.take (i-3)).contains cf) ((r.take (i-3)).contains dn))]:=by
 intro d
 induction d with
 | zero=>
  intro i h hi
  have hi:i=ws.length:=by omega
  subst hi
  rw[List.take_of_length_le (by rw[← h3];simp)]
  exact hK
 | succ d ih=>
  intro i h hi
  have hx:ws[i]?=some (ws[i]'(by omega)):=List.getElem?_eq_getElem (by omega)
  generalize ws[i]'(by omega)=w at hx
  refine C7 hx (by omega) ?_
  have hr:r[i-3]?=some w:=by rw[← h3,List.getElem?_drop,show 3+(i-3)=i by omega];exact hx
  have e:∀ x:Tx,(w==x)=(x==w):=fun x=>Bool.eq_iff_iff.2 ⟨fun h=>beq_iff_eq.2 (beq_iff_eq.1 h).symm,fun h=>beq_iff_eq.2 (beq_iff_eq.1 h).symm⟩
  have k:=ih (i+1) (by omega) (by omega)
  rw[show i+1-3=i-3+1 by omega,cG hr,cG hr,cG hr,cG hr] at k
  rw[e,e,e,e]
  exact k
theorem zN {st:aa} {o:Nat} {l cs:List LV} (h:st[o]?=some (.cells .rw l)) (hl:l.length=10) (hc:cs.length=10) (h1:cs.all LV.one=true):stV st 10 (.ptr o 0) (.agg cs)=some (st.set o (.cells .rw cs)):=by
 refine (kc h (by omega) h1 hc).trans ?_
 congr 3
 unfold bK
 rw[List.take_zero,List.nil_append,Nat.zero_add,List.drop_eq_nil_of_le (by omega),List.append_nil]
theorem C9 {st:aa} {o:Nat} {md:Md} {l:List LV} (h:st[o]?=some (.cells md l)) (hl:l.length=10):ldA st (.ptr o 0) 10=some (.agg l):=by
 rw[eS h (by omega),List.drop_zero,List.take_of_length_le (by omega)]
def bC (a:AT):List LV:=.str a.nm::.str (kpr a.ty)::(rkC a.ty++[.bool a.must,.bool a.own,.bool a.hide,.bool a.new])
def BtQ (s:Tx) (v:LV):Prop:=match dd s with
 | some a=>v=.tup [.agg (bC a),.bool true]
 | none=>∃ cs,v=.tup [.agg cs,.bool false]∧cs.length=10∧LV.aF cs=true∧cs.all LV.one=true
theorem mT {s:Tx} {t:KT} (h:bV s=some t):s=kpr t:=by
 unfold bV at h
 split at h
 ·cases h
 ·split at h
  ·rename_i t' e
   simp only[Option.some.injEq] at h
   subst h
   have:=(lR e).1
   simpa using this
  ·cases h
theorem qc {x:Tx}:splitB 32 (fy++32::x)=fy::splitB 32 x:=rfl
theorem zO {s:Tx} (hs:s.length≤2 ^ 29):Pb Tryz.prog 106 [.str s] (BtQ s):=by
 refine Pb.of (c106 _ ?_) rfl
 have zag:aN (av (ax [(0,1),(1,1),(2,4),(6,1),(7,1),(8,1),(9,1)]) [LV.str [],LV.str [],i64 0,LV.nils,LV.nils,LV.nils,LV.bool false,LV.bool false,LV.bool false,LV.bool false] [])=some (.agg (bX [] [] (i64 0) .nils .nils .nils false false false false)):=rfl
 have zag2:∀ x y:Tx,aN (av (ax [(0,1),(1,1),(2,4),(6,1),(7,1),(8,1),(9,1)]) [LV.str [],LV.str [],i64 0,LV.nils,LV.nils,LV.nils,LV.bool false,LV.bool false,LV.bool false,LV.bool false] [(0,.str x),(1,.str y)])=some (.agg (bX x y (i64 0) .nils .nils .nils false false false false)):=fun _ _=>rfl
 simp only[w106,cY,List.nil_append,List.length_nil]
 refine (zL hs).call ?_
 have hle:=ga (c:=32) (s:=s)
 have hcl:=dF (c:=32) (s:=s)
 have hcc:s.count 32≤s.length:=List.count_le_length
 have bad:dd s=none→∀ {st:aa} {x:LV} {cs:List LV},cs.length=10→LV.aF cs=true→cs.all LV.one=true→x=.tup [.agg cs,.bool false]→Dp (BtQ s) x st:=by
  intro e st x cs h1 h2 h3 hx
  subst hx
  have hpl:(LV.tup [.agg cs,.bool false]).plain=true:=by simp[LV.plain,LV.aF,h2]
  exact ⟨_,bH _ hpl,hpl,by unfold BtQ;rw[e];exact ⟨cs,rfl,h1,h2,h3⟩⟩
 generalize hws:splitB 32 s=ws at hle hcl
 simp only[ca,ab,ag,aG,bj]
 refine ⟨fun h3=>?_,fun h3=>?_⟩
 ·have e:dd s=none:=by
   unfold dd
   rw[hws]
   match ws,h3 with
   | [],_=>rfl
   | [_],_=>rfl
   | [_,_],_=>rfl
   | _::_::_::_,h=>simp only[List.length_cons] at h;omega
  rw[zag]
  simp only[ab]
  rw[zN (l:=bX [] [] (i64 0) .nils .nils .nils false false false false) rfl rfl rfl rfl]
  simp only[ay,ai]
  rw[C9 (l:=bX [] [] (i64 0) .nils .nils .nils false false false false) rfl rfl]
  exact bad e (cs:=bX [] [] (i64 0) .nils .nils .nils false false false false) rfl rfl rfl rfl
 ·obtain ⟨w0,w1,w2,r,rfl⟩:∃ w0 w1 w2 r,ws=w0::w1::w2::r:=by
   match ws,h3 with
   | [],h=>exact absurd (show ((([]:List Tx).length:Nat):Int)<3 by decide) h
   | [_],h=>exact absurd (show (((1:Nat)):Int)<3 by decide) h
   | [_,_],h=>exact absurd (show (((2:Nat)):Int)<3 by decide) h
   | w0::w1::w2::r,_=>exact ⟨w0,w1,w2,r,rfl⟩
  have i1:bh 1 (sL (w0::w1::w2::r)) (.int .i64 1)=some (.iptr ((w0::w1::w2::r).map .str) (1*1)):=gr (i:=1) (by simp)
  have i2:bh 1 (sL (w0::w1::w2::r)) (.int .i64 2)=some (.iptr ((w0::w1::w2::r).map .str) (2*1)):=gr (i:=2) (by simp)
  have g1:((w0::w1::w2::r).map LV.str)[1*1]?=some (.str w1):=rfl
  have g2:((w0::w1::w2::r).map LV.str)[2*1]?=some (.str w2):=rfl
  have pa:dd s=if w0≠fy then none else match bV w2 with
   | none=>none
   | some t=>if dc ⟨w1,t,r.contains cd,r.contains dm,r.contains cf,r.contains dn⟩=s then some ⟨w1,t,r.contains cd,r.contains dm,r.contains cf,r.contains dn⟩ else none:=by unfold dd;rw[hws];rfl
  have hw1:w1.length≤2 ^ 32:=by have:=hle w1 (by simp);omega
  have hw2:w2.length≤2 ^ 32:=by have:=hle w2 (by simp);omega
  simp only[i1,i2,ab,cQ,g1,g2,zag2,true_and]
  have pt:stV ([al.cells .rw (bX [] [] (i64 0) .nils .nils .nils false false false false)]++[al.cells .rw (bX [] [] (i64 0) .nils .nils .nils false false false false)]) 10 (.ptr [al.cells Md.rw (bX [] [] (i64 0) .nils .nils .nils false false false false)].length 0) (.agg (bX w1 w2 (i64 0) .nils .nils .nils false false false false))=some [al.cells .rw (bX [] [] (i64 0) .nils .nils .nils false false false false),.cells .rw (bX w1 w2 (i64 0) .nils .nils .nils false false false false)]:=rfl
  rw[pt]
  simp only[ay,ai]
  refine p106_4 _ _ _ _ ?_
  simp only[w106_4]
  refine C8 (z0:=.cells .rw (bX [] [] (i64 0) .nils .nils .nils false false false false)) (ws:=w0::w1::w2::r) (by omega) r rfl ?_ (by simp) ((w0::w1::w2::r).length-3) 3 (Nat.le_refl _) (by simp;omega)
  refine p106_7 _ _ _ _ _ ?_
  have c1:¬ (((w0::w1::w2::r).length:Int)<(w0::w1::w2::r).length):=by omega
  simp only[w106_7,ca,ag,aG,ab,c1,decide_false,ae,i2,cQ,g2]
  refine (xY w2).call fun v hv=>?_
  obtain ⟨t,a,e,rfl,hcase⟩:∃ (t:KT) (a e:Int),v=tE t a e∧(e=0∧bV w2=some t∨e≠0∧bV w2=none):=by
   unfold fN at hv
   split at hv
   ·rename_i t ht
    obtain ⟨a,rfl⟩:=hv
    exact ⟨t,a,0,rfl,.inl ⟨rfl,ht⟩⟩
   ·rename_i ht
    obtain ⟨t,a,e,he,rfl⟩:=hv
    exact ⟨t,a,e,rfl,.inr ⟨he,ht⟩⟩
  have hmark:∀ (m o h n:Bool),(match bV w2 with
    | none=>none
    | some t=>if dc ⟨w1,t,m,o,h,n⟩=s then some (⟨w1,t,m,o,h,n⟩:AT) else none)=(match bV w2 with
    | none=>none
    | some t=>if mg w1 w2 m o h n=s then some ⟨w1,t,m,o,h,n⟩ else none):=by
   intro m o h n
   cases ht:bV w2 with
   | none=>rfl
   | some t=>
    have:=mT ht
    simp only
    rw[← zM,this]
  rw[hmark] at pa
  generalize r.contains cd=m at pa ⊢
  generalize r.contains dm=o at pa ⊢
  generalize r.contains cf=h at pa ⊢
  generalize r.contains dn=n at pa ⊢
  have hpl:LV.aF (rkC t)=true:=gd
  have hbc:bC ⟨w1,t,m,o,h,n⟩=.str w1::.str (kpr t)::(rkC t++[.bool m,.bool o,.bool h,.bool n]):=rfl
  have ev0:ar (tE t a e) 0=some (.agg (rkC t)):=rfl
  have ev1:ar (tE t a e) 1=some (.agg [i64 a,i64 e]):=rfl
  rw[dU] at hpl hbc ev0
  have p1:stV ([al.cells .rw (bX [] [] (i64 0) .nils .nils .nils false false false false),.cells .rw (bX w1 w2 (i64 0) .nils .nils .nils m o h n)]++[al.cells .rw [i64 0,LV.nils,LV.nils,LV.nils]]++[al.cells .rw [i64 0,i64 0]]) 4 (.ptr 2 0) (.agg [i64 t.f,.isl (cS t.l) t.l.length none,.isl (t.ns.map .str) t.ns.length none,.isl (t.ls.map .bool) t.ls.length none]) =
   some [al.cells .rw (bX [] [] (i64 0) .nils .nils .nils false false false false),.cells .rw (bX w1 w2 (i64 0) .nils .nils .nils m o h n),.cells .rw [i64 t.f,.isl (cS t.l) t.l.length none,.isl (t.ns.map .str) t.ns.length none,.isl (t.ls.map .bool) t.ls.length none],.cells .rw [i64 0,i64 0]]:=rfl
  have p2:stV [al.cells .rw (bX [] [] (i64 0) .nils .nils .nils false false false false),.cells .rw (bX w1 w2 (i64 0) .nils .nils .nils m o h n),.cells .rw [i64 t.f,.isl (cS t.l) t.l.length none,.isl (t.ns.map .str) t.ns.length none,.isl (t.ls.map .bool) t.ls.length none],.cells .rw [i64 0,i64 0]] 2 (.ptr 3 0) (.agg [i64 a,i64 e]) =
   some [al.cells .rw (bX [] [] (i64 0) .nils .nils .nils false false false false),.cells .rw (bX w1 w2 (i64 0) .nils .nils .nils m o h n),.cells .rw [i64 t.f,.isl (cS t.l) t.l.length none,.isl (t.ns.map .str) t.ns.length none,.isl (t.ls.map .bool) t.ls.length none],.cells .rw [i64 a,i64 e]]:=rfl
  have p3:ldA [al.cells .rw (bX [] [] (i64 0) .nils .nils .nils false false false false),.cells .rw (bX w1 w2 (i64 0) .nils .nils .nils m o h n),.cells .rw [i64 t.f,.isl (cS t.l) t.l.length none,.isl (t.ns.map .str) t.ns.length none,.isl (t.ls.map .bool) t.ls.length none],.cells .rw [i64 a,i64 e]] (.ptr 2 0) 4=some (.agg [i64 t.f,.isl (cS t.l) t.l.length none,.isl (t.ns.map .str) t.ns.length none,.isl (t.ls.map .bool) t.ls.length none]):=rfl
  have p4:stV [al.cells .rw (bX [] [] (i64 0) .nils .nils .nils false false false false),.cells .rw (bX w1 w2 (i64 0) .nils .nils .nils m o h n),.cells .rw [i64 t.f,.isl (cS t.l) t.l.length none,.isl (t.ns.map .str) t.ns.length none,.isl (t.ls.map .bool) t.ls.length none],.cells .rw [i64 a,i64 e]] 4 (.ptr 1 2) (.agg [i64 t.f,.isl (cS t.l) t.l.length none,.isl (t.ns.map .str) t.ns.length none,.isl (t.ls.map .bool) t.ls.length none]) =
   some [al.cells .rw (bX [] [] (i64 0) .nils .nils .nils false false false false),.cells .rw (bX w1 w2 (i64 t.f) (.isl (cS t.l) t.l.length none) (.isl (t.ns.map .str) t.ns.length none) (.isl (t.ls.map .bool) t.ls.length none) m o h n),.cells .rw [i64 t.f,.isl (cS t.l) t.l.length none,.isl (t.ns.map .str) t.ns.length none,.isl (t.ls.map .bool) t.ls.length none],.cells .rw [i64 a,i64 e]]:=rfl
  have g9:∀ {y1 y2 y3:al} {v:LV},ld1 [y1,y2,y3,.cells .rw [i64 a,v]] (.ptr 3 1)=some v:=rfl
  simp only[ev0,ev1,ab,cY,List.length_append,List.length_cons,List.length_nil,Nat.zero_add,p1,ay,ai,p2,p3,ao,p4]
  have hB:LV.aF (bX w1 w2 (i64 t.f) (.isl (cS t.l) t.l.length none) (.isl (t.ns.map .str) t.ns.length none) (.isl (t.ls.map .bool) t.ls.length none) m o h n)=true:=by
   simp only[LV.aF,LV.plain,Bool.and_eq_true] at hpl ⊢
   simp[hpl]
  have hp4:LV.aF [i64 t.f,.isl (cS t.l) t.l.length none,.isl (t.ns.map .str) t.ns.length none,.isl (t.ls.map .bool) t.ls.length none]=true:=hpl
  have q1:∀ y1 y3 y4:al,ldA [y1,.cells .rw (bX w1 w2 (i64 t.f) (.isl (cS t.l) t.l.length none) (.isl (t.ns.map .str) t.ns.length none) (.isl (t.ls.map .bool) t.ls.length none) m o h n),y3,y4] (.ptr 1 0) 10=some (.agg (bX w1 w2 (i64 t.f) (.isl (cS t.l) t.l.length none) (.isl (t.ns.map .str) t.ns.length none) (.isl (t.ls.map .bool) t.ls.length none) m o h n)):=fun _ _ _=>rfl
  have q3:∀ y2 y3 y4:al,stV [al.cells .rw (bX [] [] (i64 0) .nils .nils .nils false false false false),y2,y3,y4] 10 (.ptr 0 0) (.agg (bX w1 w2 (i64 t.f) (.isl (cS t.l) t.l.length none) (.isl (t.ns.map .str) t.ns.length none) (.isl (t.ls.map .bool) t.ls.length none) m o h n))=some [.cells .rw (bX w1 w2 (i64 t.f) (.isl (cS t.l) t.l.length none) (.isl (t.ns.map .str) t.ns.length none) (.isl (t.ls.map .bool) t.ls.length none) m o h n),y2,y3,y4]:=fun _ _ _=>rfl
  have q4:∀ y2 y3 y4:al,ldA [.cells .rw (bX w1 w2 (i64 t.f) (.isl (cS t.l) t.l.length none) (.isl (t.ns.map .str) t.ns.length none) (.isl (t.ls.map .bool) t.ls.length none) m o h n),y2,y3,y4] (.ptr 0 0) 10=some (.agg (bX w1 w2 (i64 t.f) (.isl (cS t.l) t.l.length none) (.isl (t.ns.map .str) t.ns.length none) (.isl (t.ls.map .bool) t.ls.length none) m o h n)):=fun _ _ _=>rfl
  have hl10:(bX w1 w2 (i64 t.f) (.isl (cS t.l) t.l.length none) (.isl (t.ns.map .str) t.ns.length none) (.isl (t.ls.map .bool) t.ls.length none) m o h n).length=10:=rfl
  have h1B:(bX w1 w2 (i64 t.f) (.isl (cS t.l) t.l.length none) (.isl (t.ns.map .str) t.ns.length none) (.isl (t.ls.map .bool) t.ls.length none) m o h n).all LV.one=true:=rfl
  simp only[q1,g9,ab,ag,aR,q3,ay,ai]
  rcases hcase with ⟨rfl,ht⟩ | ⟨he,ht⟩
  ·rw[show ((0:Int)==0)=true from rfl,ah]
   refine (A1 hp4 hw1 hw2).call ⟨rfl,?_⟩
   simp only[bA,ct,ab,q3,ay,ai]
   refine p106_17 _ _ ?_
   simp only[w106_17,q4,ab]
   have ht':=mT ht
   by_cases h0:w0=fy
   ·rw[if_neg (by simpa using h0)] at pa
    rw[ht] at pa
    simp only at pa
    by_cases hb:mg w1 w2 m o h n=s
    ·rw[if_pos hb] at pa
     rw[hb,beq_self_eq_true]
     have hv2:bC ⟨w1,t,m,o,h,n⟩=(bX w1 w2 (i64 t.f) (.isl (cS t.l) t.l.length none) (.isl (t.ns.map .str) t.ns.length none) (.isl (t.ls.map .bool) t.ls.length none) m o h n):=by rw[hbc,← ht'];rfl
     have hpl2:(LV.tup [.agg (bX w1 w2 (i64 t.f) (.isl (cS t.l) t.l.length none) (.isl (t.ns.map .str) t.ns.length none) (.isl (t.ls.map .bool) t.ls.length none) m o h n),.bool true]).plain=true:=by
      simp only[LV.plain,LV.aF,Bool.and_eq_true] at hB ⊢
      simp[hB]
     exact ⟨_,bH _ hpl2,hpl2,by unfold BtQ;rw[pa];show _=LV.tup [.agg (bC _),_];rw[hv2]⟩
    ·rw[if_neg hb] at pa
     have:(mg w1 w2 m o h n==s)=false:=by simpa using hb
     rw[this]
     exact bad pa hl10 hB h1B rfl
   ·have hne:mg w1 w2 m o h n≠s:=by
     intro hb
     rw[← hb,show mg w1 w2 m o h n=fy++32::(w1++32::(w2++mk4 m o h n)) from rfl,qc] at hws
     simp only[List.cons.injEq] at hws
     exact h0 hws.1.symm
    rw[if_pos h0] at pa
    have:(mg w1 w2 m o h n==s)=false:=by simpa using hne
    rw[this]
    exact bad pa hl10 hB h1B rfl
  ·have he':(e==0)=false:=by simpa using he
   rw[he',ae]
   refine p106_17 _ _ ?_
   simp only[w106_17,q4,ab]
   have pn:dd s=none:=by
    rw[pa,ht]
    split<;>rfl
   exact bad pn hl10 hB h1B rfl
end
theorem zP {x:Option LV} {v:LV} {K:LV→Prop} (h:x=some v) (k:K v):bd x K:=by rw[h];exact k
section
variable {st:aa} {R:LV→aa→Prop}
def dig (n:Nat):UInt8:=UInt8.ofNat (48+n % 10)
theorem eC {n:Nat}:(dig n).toNat=48+n % 10:=by
 unfold dig
 rw[UInt8.toNat_ofNat']
 omega
theorem rf {c:UInt8}:dV (st++[al.cells .rw [.int .u8 c.toNat]]) (.sl st.length 0 1 (.ex 1))=some (.str [c]):=by
 have hl:fD (st++[al.cells .rw [.int .u8 c.toNat]]) 1 (.sl st.length 0 1 (.ex 1))=some (1,[.int .u8 c.toNat]):=by simp[fD]
 simp only[dV,hl,bytesOf]
 simp
theorem dq {n:Nat}:Lib.decDigits n=if n<10 then [dig n] else Lib.decDigits (n / 10)++[dig n]:=by
 rw[Lib.decDigits]
 split
 ·rename_i h
  unfold dig
  rw[Nat.mod_eq_of_lt h]
 ·rfl
theorem zQ {n:Nat} (hn:n≤2 ^ 40) {t:Tx} (ht:t.length≤2 ^ 40) (h:t=[]∨0<n) (hK:∀ st,P104_7 (i64 (n / 10:Nat)) (.str (dig n::t)) R st):P104_7 (i64 n) (.str t) R st:=by
 refine p104_7 _ _ ?_
 have e1:aj .rem (i64 n) (i64 10)=some (i64 (n % 10:Nat)):=by
  show (if (10:Int)=0 then none else some (LV.int .i64 ((n:Int).tmod 10)))=_
  rw[if_neg (by decide)]
  congr 2
 have e2:aj .quo (i64 n) (i64 10)=some (i64 (n / 10:Nat)):=by
  show (if (10:Int)=0 then none else some (LV.int .i64 (IntKind.i64.wrap ((n:Int).tdiv 10))))=_
  rw[if_neg (by decide)]
  congr 2
  rw[Int.tdiv_eq_ediv_of_nonneg (by omega),wrap_i64 (by omega) (by omega)];omega
 have e3:aj .add (i64 48) (i64 (n % 10:Nat))=some (i64 (48+n % 10:Nat)):=by
  show some (LV.int .i64 (IntKind.i64.wrap (48+((n % 10:Nat):Int))))=_
  rw[wrap_i64 (by omega) (by omega)]
  rfl
 have e4:fj .u8 (i64 (48+n % 10:Nat))=some (.int .u8 (dig n).toNat):=by
  rw[kb,eC]
  congr 2
  rw[IntKind.wrap_u8];omega
 have ef:∀ v:LV,av (fun i=>some (i*1,1)) (List.replicate 1 [LV.int IntKind.u8 0]).flatten [(0,.int .u8 (dig n).toNat)]=some [.int .u8 (dig n).toNat]:=fun _=>rfl
 have hb:bg .add (.str [dig n]) (.str t)=some (.str (dig n::t)):=gy (x:=[dig n]) (by simp;omega)
 simp only[w104_7,bA,ct,ab]
 by_cases h0:t=[]
 ·subst h0
  rw[show (([]:Tx)==[])=true from rfl,ah,e1,ab,e3,ab,e4,ab,ef .nili]
  simp only[bz,ai,rf,ab]
  rw[hb,ab,e2,ab]
  exact hK _
 ·have hpos:0<n:=by rcases h with h|h;exact absurd h h0;exact h
  have c1:((n:Int) > 0):=by omega
  rw[show (t==[])=false by simpa using h0,ae]
  have c2:aj .gtr (i64 n) (i64 0)=some (.bool true):=by
   show some (LV.bool (decide ((n:Int) > 0)))=_
   rw[decide_eq_true c1]
  rw[c2,ab,ah]
  rw[e1,ab,e3,ab,e4,ab,ef .nili]
  simp only[bz,ai,rf,ab]
  rw[hb,ab,e2,ab]
  exact hK _
theorem zR {t:Tx} (ht:t≠[]) (hR:R (.str t) st):P104_7 (i64 (0:Nat)) (.str t) R st:=by
 refine p104_7 _ _ ?_
 simp only[w104_7,bA,ct,ab]
 rw[show (t==[])=false by simpa using ht,ae]
 exact hR
theorem zS:∀ {n:Nat},n≤2 ^ 40→∀ {t:Tx},t.length+n≤2 ^ 40→(t=[]∨0<n)→(∀ st,R (.str (Lib.decDigits n++t)) st)→∀ {st},P104_7 (i64 n) (.str t) R st:=by
 intro n
 induction n using Nat.strongRecOn with
 | ind n ih=>
  intro hn t ht h hR st
  refine zQ hn (by omega) h fun st2=>?_
  rw[dq] at hR
  by_cases h10:n<10
  ·rw[Nat.div_eq_of_lt h10]
   rw[if_pos h10] at hR
   exact zR (by simp) (hR _)
  ·rw[if_neg h10] at hR
   refine ih (n / 10) (by omega) (by omega) (by simp;omega) (.inr (by omega)) fun st3=>?_
   have:=hR st3
   simpa using this
theorem xZ {n:Nat} (hn:n≤2 ^ 39):Pu Tryz.prog 104 [i64 n] (.str (Lib.decDigits n)):=by
 refine Pu.of (c104 _ ?_) rfl rfl
 have c1:¬ ((n:Int)<0):=by omega
 simp only[w104,ag,aG,ab,c1,decide_false,ae]
 refine zS (by omega) (t:=[]) (by simp;omega) (.inl rfl) fun st=>?_
 rw[List.append_nil]
 exact rfl
end
section
variable {R:LV→aa→Prop}
theorem wW:∀ {n:Nat},n≤1000→(Lib.decDigits n).length≤4:=by
 intro n hn
 rw[dq]
 split
 ·simp
 ·rw[dq]
  split
  ·simp
  ·rw[dq]
   split
   ·simp
   ·rw[dq]
    have:n / 10 / 10 / 10<10:=by omega
    rw[if_pos this]
    simp
abbrev A35:al:=.cells .rw [i64 0,.nils]
theorem ya {x0 x6 x7:LV} {p:Tx} {n i:Nat} {k:Int} (hi:i<2 ^ 40) (hOk:P35_5 x0 (.ptr 0 0) (.ptr 1 0) x6 x7 (i64 (i+1:Nat)) (.str p) (i64 n) (i64 k) R [A35,.cells .rw [i64 n,.nils]]) :
  P35_16 x0 (.ptr 0 0) (.ptr 1 0) x6 x7 (i64 i) (.str p) (i64 n) (i64 k) R [A35,A35]:=by
 refine p35_16 _ _ _ _ _ _ _ _ _ ?_
 have c1:¬ ((n:Int)<0):=by omega
 have hw:=aJ hi
 have fin:bd (ad 0 (.ptr 1 0)) fun v17=>bd2 (lmk (stV [A35,A35] 1 v17 (i64 n))) fun _v18 st19=>bd (aj BinOp.add (i64 i) (i64 1)) fun v20=>P35_5 x0 (.ptr 0 0) (.ptr 1 0) x6 x7 v20 (.str p) (i64 n) (i64 k) R st19:=by
  simp only[ao,Nat.zero_add,ab,ag,aK,hw]
  exact hOk
 simp only[w35_16,ag,dA,aG,ab,c1,decide_false,ae,bj]
 simp only[ag] at fin
 exact ⟨fun _=>fin,fun _=>fin⟩
end
def bCs:List AT→List LV
 | []=>[]
 | a::l=>bC a++bCs l
theorem fO {a:AT}:(bC a).length=10:=by unfold bC;simp[cR]
theorem zT {a:AT}:LV.aF (bC a)=true:=by
 unfold bC
 simp only[LV.aF,LV.plain,dS,gd];rfl
theorem vN {a:AT}:(bC a).all LV.one=true:=by unfold bC;rw[dU];rfl
theorem mh:∀ {l:List AT},(bCs l).length=l.length*10
 | []=>rfl
 | a::l=>by simp only[bCs,List.length_append,fO,mh (l:=l),List.length_cons];omega
theorem sn:∀ {a b:List AT},bCs (a++b)=bCs a++bCs b
 | [],_=>rfl
 | x::a,b=>by rw[List.cons_append,bCs,bCs,sn,List.append_assoc]
theorem mU:∀ {l:List AT},LV.aF (bCs l)=true
 | []=>rfl
 | a::l=>by rw[bCs,dS,zT,mU];rfl
theorem zU {l:List AT} {b:AT} (h:l.getLast?=some b):(bCs l)[(l.length-1)*10]?=some (.str b.nm):=by
 obtain ⟨ys,rfl⟩:=List.getLast?_eq_some_iff.1 h
 rw[sn,List.length_append,List.length_singleton,Nat.add_sub_cancel,List.getElem?_append_right (by rw[mh];omega),mh,Nat.sub_self]
 rfl
structure RSt (st:aa) (v:Int) (l:List AT) (f:Option Nat):Prop where
 a:∃ x y,st[0]?=some (.cells .rw [x,y])
 b:st[1]?=some (.cells .rw [i64 v,osl f 10 l.length])
 o:br .rw st f 10 l.length (bCs l)
 n:∀ o,f=some o→2≤o
section
variable {R:LV→aa→Prop} {st:aa}
theorem uk {x y a b:LV} {o:Nat} (h:st[o]?=some (.cells .rw [x,y])) (h1:[a,b].all LV.one=true):stV st 2 (.ptr o 0) (.agg [a,b])=some (st.set o (.cells .rw [a,b])):=kc (k:=0) (vs:=[a,b]) (n:=2) h (by simp) h1 rfl
theorem RSt.app {v:Int} {l:List AT} {f:Option Nat} {y:al} (h:RSt st v l f):RSt (st++[y]) v l f:=
 ⟨by obtain ⟨p,q,e⟩:=h.a;exact ⟨p,q,wT e⟩,by rw[List.getElem?_append_left (cI h.b)];exact h.b,h.o.fr (Fr.app (S:=fun _=>False)) fun _ _ h=>h,h.n⟩
theorem RSt.more {v:Int} {l:List AT} {f:Option Nat} {a:AT} (h:RSt st v l f) (hl:l.length≤16) :
  ∃ st2 f2,aP (st++[.cells .rw (bC a)]) 10 120 .rw (osl f 10 l.length) (.sl st.length 0 1 (.ex 1))=some (osl f2 10 (l.length+1),st2)∧∃ st3,stV st2 1 (.ptr 1 1) (osl f2 10 (l.length+1))=some st3∧RSt st3 v (l++[a]) f2:=by
 obtain ⟨st2,f2,q1,q2,q3,q4⟩:=ki h.o (new:=bC a) fO vN (by omega) (b:=120)
 have hb2:st2[1]?=some (.cells .rw [i64 v,osl f 10 l.length]):=q3.get h.b fun e=>by have:=h.n 1 e;omega
 have hone:(osl f2 10 (l.length+1)).one=true:=by cases f2<;>rfl
 have hn2:∀ o,f2=some o→2≤o:=fun o e=>by
  rcases q4 o e with k|k
  ·exact h.n o k
  ·have:=cI h.b;omega
 have fr1:Fr st2 (st2.set 1 (.cells .rw [i64 v,osl f2 10 (l.length+1)])) (fun j=>j=1):=Fr.set rfl
 refine ⟨st2,f2,q1,_,du hb2 (by simp) hone,⟨?_,?_,?_,hn2⟩⟩
 ·obtain ⟨x,y,e⟩:=h.a
  exact ⟨x,y,fr1.get (q3.get e fun e=>by have:=h.n 0 e;omega) (by decide)⟩
 ·rw[bu hb2];simp
 ·have:=(q2.fr fr1 fun o e e'=>by have:=hn2 o e;omega)
  rw[sn]
  simpa[bCs] using this
end
end Go.Proofs.YtknegckgmklnhaaGreatDoor
