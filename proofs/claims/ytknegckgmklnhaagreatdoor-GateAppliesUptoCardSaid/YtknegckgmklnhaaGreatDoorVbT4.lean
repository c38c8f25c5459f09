/- Parts of the proof. -/
import Derived.Test.YtknegckgmklnhaaGreatDoorVbT
namespace Go.Proofs.YtknegckgmklnhaaGreatDoor
open Go Go.CP
set_option maxRecDepth 100000
section
variable {st st' st0:aa} {s:Tx} {a d D n form:Nat} {Q:LV→Prop} {fl fn fb:Option Nat} {l:List KT} {ns:List Tx} {ls:List Bool}
theorem Jm (ih:nu d (D+1)) (hs:s.length≤4096) (hD:D<2 ^ 20) (ha:a≤s.length) (hl:l.length<2 ^ 20) (h:MIn st 8 fl fn fb l ns ls)
  (h0:pT d (s.drop a)=none→∀ (t:KT) (x y:Int),y≠0→Q (tE t x y))
  (h1:∀ t a1,a1≤s.length→pT d (s.drop a)=some (t,s.drop a1)→s[a1]?=some 125→Q (tE (.mk 8 (l++[t]) ns ls) (a1+1:Nat) 0))
  (h2:∀ t a1,a1≤s.length→pT d (s.drop a)=some (t,s.drop a1)→s[a1]?≠some 125→s[a1]?≠some 44→∀ (t:KT) (x y:Int),y≠0→Q (tE t x y))
  (h3:∀ t a1 st2 fl2,a1<s.length→pT d (s.drop a)=some (t,s.drop a1)→s[a1]?=some 44→MIn st2 8 fl2 fn fb (l++[t]) ns ls→gN (.str s) (i64 (a1+1:Nat)) (i64 D) (.bool true) (.ptr 0 0) (.ptr 1 0) (.ptr 2 0) (.int .i32 125) (Dp Q) st2) :
  kT (.str s) (i64 a) (i64 D) (.bool true) (.ptr 0 0) (.ptr 1 0) (.ptr 2 0) (.int .i32 125) (Dp Q) st:=by
 refine Lj _ _ _ _ _ _ _ _ ?_
 simp only[EL,ad,aH,aK (show D<2 ^ 40 by omega),ab]
 refine (ih hs a ha).call fun v hv=>?_
 unfold TyQ at hv
 cases hp:pT d (s.drop a) with
 | none=>
  rw[hp] at hv
  obtain ⟨t,x,y,hy,rfl⟩:=hv
  simp only[tE,av,aN,aO,ab]
  refine h.store fun o1 o2 s2 hM ho2 g1 g2 hfl=>?_
  have l1:ld1 s2 (.ptr o2 1)=some (i64 y):=by rw[bx g2];rfl
  have e4:(y != 0)=true:=by simpa using hy
  simp only[ao,aj,ab,l1,ad,bJ,e4,ah,hM.ld,ux g2 rfl]
  exact hM.Oy ho2 g2 (h0 hp _ _ _ hy) fun s3 h3=>EM _ _ h3
 | some p=>
  obtain ⟨t,r⟩:=p
  rw[hp] at hv
  obtain ⟨a1,ha1,hr1,rfl⟩:=hv
  simp only at hr1
  subst hr1
  simp only[tE,av,aN,aO,ab]
  refine h.store fun o1 o2 s2 hM ho2 g1 g2 hfl=>?_
  have l1:ld1 s2 (.ptr o2 1)=some (i64 0):=by rw[bx g2];rfl
  simp only[ao,aj,ab,l1,ad,bJ,bne_self_eq_false,ae,(ldO hM).1,CN g1 dT]
  refine hM.more (by omega) fun s3 fl3 hM3 hk3=>?_
  have l2:ld1 s3 (.ptr o2 0)=some (i64 a1):=by rw[bx (hk3 o2 _ ho2 hfl g2)];rfl
  simp only[ab,l2]
  refine vE (endc:=125) hs hM3 ha1 (by decide) (fun t' ht' hc=>?_) (fun hc hc2=>h2 t a1 ha1 hp hc hc2) fun hc=>?_
  ·subst ht';exact h1 t a1 ha1 hp hc
  ·exact h3 t a1 s3 fl3 (List.getElem?_eq_some_iff.1 hc).1 hp hc hM3
theorem vF (hs:s.length≤4096) (hln:ns.length<2 ^ 20) (hlb:ls.length<2 ^ 20) (ha:a≤s.length) (h:MIn st 8 fl fn fb l ns ls) {w:Tx} {g:Bool} {K:LV→aa→Prop}
  (h2:s[a]?≠some 58→∀ (t:KT) (x y:Int),y≠0→Q (tE t x y))
  (h3:s[a]?=some 58→∀ st2 fn2 fb2,MIn st2 8 fl fn2 fb2 l (ns++[w]) (ls++[g])→K (i64 (a+1:Nat)) st2) :
  aw Tryz.prog 243 [.str s,i64 a] st fun v1 st2=>bd (al BinOp.neq v1 (i64 58)) fun v3=>aq v3
   (bd (ldA st2 (.ptr 2 0) 4) fun v4=>bd (bh (aB (aF [(0,1),(1,1)]) [i64 0,i64 0] [(0,i64 a),(1,i64 4)])) fun v5=>
    bd2 (lmk (stV st2 4 (.ptr 0 0) v4)) fun _v6 st7=>bd2 (lmk (stV st7 2 (.ptr 1 0) v5)) fun _v8 st9=>sd (.ptr 0 0) (.ptr 1 0) (Dp Q) st9)
   (bd (al BinOp.add (i64 a) (i64 1)) fun v10=>bd (ag 2 (.ptr 2 0)) fun v11=>bd (ld1 st2 v11) fun v12=>
    bd2 (cq st2 1 (aB (fun i=>some (i*1,1)) (List.replicate 1 [LV.str []]).flatten [(0,.str w)])) fun v13 st14=>
    bd2 (bo st14 1 16 Md.rw v12 v13) fun v15 st16=>bd (ag 2 (.ptr 2 0)) fun v17=>bd2 (lmk (stV st16 1 v17 v15)) fun _v18 st19=>
    bd (ag 3 (.ptr 2 0)) fun v20=>bd (ld1 st19 v20) fun v21=>bd2 (cq st19 1 (aB (fun i=>some (i*1,1)) (List.replicate 1 [LV.bool false]).flatten [(0,.bool g)])) fun v22 st23=>
    bd2 (bo st23 1 1 Md.rw v21 v22) fun v24 st25=>bd (ag 3 (.ptr 2 0)) fun v26=>bd2 (lmk (stV st25 1 v26 v24)) fun _v27 st28=>K v10 st28):=by
 refine (gG a).call ?_
 have e2:(atB s a != 58) = !(decide (s[a]?=some 58)):=by rw[← jh];rfl
 simp only[ad,bJ,e2,ab]
 by_cases hc:s[a]?=some 58
 ·simp only[hc,aZ,bM,ae,aH,aK (show a<2 ^ 40 by omega),ab,ao,aj,(ldO h).2.1]
  exact h.pair hln hlb fun st2 fn2 fb2 h4=>h3 hc st2 fn2 fb2 h4
 ·simp only[hc,a8,bL,ah,h.ld,ab,mk2]
  have:=h.out (x:=(a:Int)) (y:=4) (h2 hc _ _ _ (by decide))
  revert this
  rw[CO h.h0 rfl rfl yn]
  simp only[aA,af]
  have k1:(st.set 0 (.cells .rw (mC 8 fl fn fb l ns ls)))[1]?=some (.cells .rw [i64 0,i64 0]):=(bK (by decide)).trans h.h1
  rw[uK k1 rfl]
  simp only[aA,af]
  exact fun h3=>Li _ _ h3
theorem Jn (hs:s.length≤4096) (hln:ns.length<2 ^ 20) (hlb:ls.length<2 ^ 20) (ha:a≤s.length) (h:MIn st 8 fl fn fb l ns ls) {w:Tx}
  (h2:(∀ c r,(dc (s.drop a)).2=c::r→c≠58)→∀ (t:KT) (x y:Int),y≠0→Q (tE t x y))
  (h3:∀ a1,a1≤s.length→(dc (s.drop a)).2=58::s.drop a1→∀ st2 fn2 fb2,MIn st2 8 fl fn2 fb2 l (ns++[w]) (ls++[(dc (s.drop a)).1])→kT (.str s) (i64 a1) (i64 D) (.bool true) (.ptr 0 0) (.ptr 1 0) (.ptr 2 0) (.int .i32 125) (Dp Q) st2) :
  aw Tryz.prog 243 [.str s,i64 a] st fun v51 st52=>bd (al BinOp.eql v51 (i64 63)) fun v53=>pB (.str s) (i64 a) (i64 D) (.bool true) (.ptr 0 0) (.ptr 1 0) (.ptr 2 0) (.int .i32 125) (.str w) v53 (Dp Q) st52:=by
 refine (gG a).call ?_
 have e2:(atB s a==63)=decide (s[a]?=some 63):=jh (c:=63)
 simp only[ad,bj,e2,ab]
 refine Lg _ _ _ _ _ _ _ _ _ _ ?_
 by_cases hc:s[a]?=some 63
 ·have hlt:=(List.getElem?_eq_some_iff.1 hc).1
  have e1:dc (s.drop a)=(true,s.drop (a+1)):=by rw[drop_cons hc,ib,if_pos rfl]
  rw[e1] at h2 h3
  have ea:al BinOp.add (i64 a) (i64 1)=some (i64 (a+1:Nat)):=by rw[ad,aH,aK (show a<2 ^ 40 by omega)]
  rw[decide_eq_true hc]
  unfold yg
  rw[ah,ea,ab]
  refine vF (g:=true) (K:=fun v s2=>kT (.str s) v (i64 D) (.bool true) (.ptr 0 0) (.ptr 1 0) (.ptr 2 0) (.int .i32 125) (Dp Q) s2) hs hln hlb (a:=a+1) (by omega) h (fun hc2=>h2 fun c r e=>?_) fun hc2 st2 fn2 fb2 h4=>?_
  ·intro e3;subst e3
   have e':s.drop (a+1)=58::r:=e
   have:s[a+1]?=some 58:=by rw[← cx,e'];rfl
   exact hc2 this
  ·exact h3 (a+1+1) (by have:=(List.getElem?_eq_some_iff.1 hc2).1;omega) (drop_cons hc2) st2 fn2 fb2 h4
 ·have e1:dc (s.drop a)=(false,s.drop a):=by
   cases hd:s.drop a with
   | nil=>rfl
   | cons c r=>
    have hx:s[a]?=some c:=by rw[← cx,hd];rfl
    rw[ib,if_neg (fun e=>hc (by rw[hx,e]))]
  rw[e1] at h2 h3
  rw[decide_eq_false hc]
  unfold yg
  rw[ae]
  refine vF (g:=false) (K:=fun v s2=>kT (.str s) v (i64 D) (.bool true) (.ptr 0 0) (.ptr 1 0) (.ptr 2 0) (.int .i32 125) (Dp Q) s2) hs hln hlb ha h (fun hc2=>h2 fun c r e=>?_) fun hc2 st2 fn2 fb2 h4=>?_
  ·intro e3;subst e3
   have e':s.drop a=58::r:=e
   have:s[a]?=some 58:=by rw[← cx,e'];rfl
   exact hc2 this
  ·exact h3 (a+1) (by have:=(List.getElem?_eq_some_iff.1 hc2).1;omega) (drop_cons hc2) st2 fn2 fb2 h4
end
section
variable {st st' st0:aa} {s:Tx} {a d D n form:Nat} {Q:LV→Prop} {fl fn fb:Option Nat} {l:List KT} {ns:List Tx} {ls:List Bool}
theorem Jo (ih:nu d (D+1)) (hs:s.length≤4096) (hD:D<2 ^ 20) {res:Option (List Fld × Tx)}
  (h1:∀ l a',a'≤s.length→res=some (l,s.drop a')→Q (tE (kO l) a' 0))
  (h2:res=none→∀ (t:KT) (a e:Int),e≠0→Q (tE t a e)) :
  ∀ (k:Nat) (acc:List Fld) (fl fn fb:Option Nat) (st:aa) (a:Nat),acc.length+k=16→a≤s.length→MIn st 8 fl fn fb (acc.map (·.2.2)) (acc.map (·.1)) (acc.map (·.2.1))→
   (res=match dE (pT d) k (acc.map (·.1)).getLast? (s.drop a) with
    | none=>none
    | some (l,r)=>some (acc++l,r))→gN (.str s) (i64 a) (i64 D) (.bool true) (.ptr 0 0) (.ptr 1 0) (.ptr 2 0) (.int .i32 125) (Dp Q) st:=by
 intro k
 induction k with
 | zero=>
  intro acc fl fn fb st a hk ha h hres
  have hres:res=none:=hres
  refine se _ _ _ _ _ _ _ _ ?_
  have c1:(((acc.map (·.2.2)).length:Int)==16)=true:=by
   have:(acc.map (·.2.2)).length=16:=by rw[bH];omega
   rw[this];rfl
  simp only[pE,ao,aj,ab,(ldO h).1,h.ol.bB,ad,bj,c1,ah,h.ld,mk2]
  exact h.out (h2 hres _ _ _ (by decide))
 | succ k ihk=>
  intro acc fl fn fb st a hk ha h hres
  rw[o0] at hres
  refine se _ _ _ _ _ _ _ _ ?_
  have c1:(((acc.map (·.2.2)).length:Int)==16)=false:=by
   have:((acc.map (·.2.2)).length:Int)≠16:=by rw[bH];omega
   simpa using this
  simp only[pE,ao,aj,ab,(ldO h).1,h.ol.bB,ad,bj,c1,ae]
  refine EK _ _ _ _ _ _ _ _ _ ?_
  simp only[yf,mO,mP,ah]
  refine (Qw (by omega) ha).call fun v hv=>?_
  unfold NmQ at hv
  have l0:=cA h.h2
  have g1:(st++[ar.cells .rw [i64 0,i64 0]])[st.length]?=some (.cells .rw [i64 0,i64 0]):=ay
  have F:∀ x y:Int,Fr st ((st++[ar.cells .rw [i64 0,i64 0]]).set st.length (.cells .rw [i64 x,i64 y])) (fun _=>False):=fun x y=>by
   refine ⟨by simp,fun j hj _=>?_⟩
   rw[bK (by omega),bW hj]
  cases hw:iz (s.drop a) with
  | none=>
   rw[hw] at hv
   obtain ⟨x,y,hy,rfl⟩:=hv
   have hn:res=none:=by
    rw[hres]
    have:fi (pT d) (acc.map (·.1)).getLast? (s.drop a)=none:=by unfold fi;rw[hw]
    rw[this]
   have hM:=h.fr (F x y)
   have g2:=bO (y:=ar.cells .rw [i64 x,i64 y]) g1
   have l1:ld1 ((st++[ar.cells .rw [i64 0,i64 0]]).set st.length (.cells .rw [i64 x,i64 y])) (.ptr st.length 1)=some (i64 y):=by rw[bx g2];rfl
   have e4:(y != 0)=true:=by simpa using hy
   simp only[cv,uK g1 rfl,aA,af,ao,aj,ab,l1,ad,bJ,e4,ah,hM.ld,ux g2 rfl]
   exact hM.Oy l0 g2 (h2 hn _ _ _ hy) fun s3 h3=>Lc _ _ h3
  | some p=>
   obtain ⟨w,r⟩:=p
   rw[hw] at hv
   subst hv
   obtain ⟨w1,_,_⟩:=nS hw
   have hwl:a+w.length≤s.length:=by
    have:=congrArg List.length w1
    simp only[List.length_drop,b8] at this
    omega
   have hr1:r=s.drop (a+w.length):=by
    rw[← List.drop_drop,w1];simp
   subst hr1
   have hpart:(ob3 (some (i64 a)) (some (i64 (a+w.length:Nat))) none fun l h m=>dm (.str s) l h m)=some (.str w):=by
    rw[eO (by omega) hwl,Nat.add_sub_cancel_left,w1,List.take_left]
   have hM:=h.fr (F ((a+w.length:Nat):Int) 0)
   have g2:=bO (y:=ar.cells .rw [i64 ((a+w.length:Nat):Int),i64 0]) g1
   have l1:ld1 ((st++[ar.cells .rw [i64 0,i64 0]]).set st.length (.cells .rw [i64 ((a+w.length:Nat):Int),i64 0])) (.ptr st.length 1)=some (i64 0):=by rw[bx g2];rfl
   have l2:ld1 ((st++[ar.cells .rw [i64 0,i64 0]]).set st.length (.cells .rw [i64 ((a+w.length:Nat):Int),i64 0])) (.ptr st.length 0)=some (i64 ((a+w.length:Nat):Int)):=by rw[bx g2];rfl
   simp only[cv,uK g1 rfl,aA,af,ao,aj,ab,l1,l2,ad,bJ,bne_self_eq_false,ae,hpart,(ldO hM).2.1,hM.on.bB,cT]
   generalize (st++[ar.cells .rw [i64 0,i64 0]]).set st.length (.cells .rw [i64 ((a+w.length:Nat):Int),i64 0])=S at hM g2 l1 l2
   have hlm:((acc.map (·.1)).map LV.str).length=acc.length:=by simp
   -- behind the name
   have go:nR (acc.map (·.1)).getLast? w=true→aw Tryz.prog 243 [.str s,i64 (a+w.length:Nat)] S fun v51 st52=>bd (al BinOp.eql v51 (i64 63)) fun v53=>
     pB (.str s) (i64 (a+w.length:Nat)) (i64 D) (.bool true) (.ptr 0 0) (.ptr 1 0) (.ptr 2 0) (.int .i32 125) (.str w) v53 (Dp Q) st52:=by
    intro hah
    have hpf:fi (pT d) (acc.map (·.1)).getLast? (s.drop a)=match (dc (s.drop (a+w.length))).2 with
      | []=>none
      | c::r2=>if c≠58 then none else match pT d r2 with
       | none=>none
       | some (x,r1)=>some ((w,(dc (s.drop (a+w.length))).1,x),r1):=by
     unfold fi
     rw[hw]
     simp only[hah]
     rfl
    refine Jn hs (by rw[bH];omega) (by rw[bH];omega) hwl hM (fun hc=>h2 ?_) fun a1 ha1 hl st2 fn2 fb2 h4=>?_
    ·rw[hres,hpf]
     cases hd:(dc (s.drop (a+w.length))).2 with
     | nil=>rfl
     | cons c r=>simp only[hc c r hd,ne_eq,not_false_eq_true,if_true]
    ·rw[hl] at hpf
     simp only[ne_eq,not_true,if_false] at hpf
     refine Jm ih hs hD ha1 (by rw[bH];omega) h4 (fun hp=>h2 ?_) (fun t a2 ha2 hp hc=>?_) (fun t a2 ha2 hp hc hc2=>h2 ?_) fun t a2 st3 fl3 ha2 hp hc h5=>?_
     ·rw[hres,hpf,hp]
     ·have hlt:=(List.getElem?_eq_some_iff.1 hc).1
      have e5:res=some (acc++[(w,(dc (s.drop (a+w.length))).1,t)],s.drop (a2+1)):=by rw[hres,hpf,hp,drop_cons hc];simp
      have:=h1 _ (a2+1) (by omega) e5
      simpa[kO] using this
     ·rw[hres,hpf,hp]
      cases hd:s.drop a2 with
      | nil=>rfl
      | cons c r=>
       have hx:s[a2]?=some c:=by rw[← cx,hd];rfl
       have n1:¬ c=125:=fun e=>hc (by rw[hx,e])
       have n2:¬ c=44:=fun e=>hc2 (by rw[hx,e])
       simp only[n1,n2,if_false]
     ·refine ihk (acc++[(w,(dc (s.drop (a+w.length))).1,t)]) fl3 fn2 fb2 st3 (a2+1) (by simp;omega) (by omega) ?_ ?_
      ·rw[List.map_append,List.map_append,List.map_append];exact h5
      ·rw[hres,hpf,hp,drop_cons hc]
       have n1:¬ (44:UInt8)=125:=by decide
       have hlast:((acc++[(w,(dc (s.drop (a+w.length))).1,t)]).map (·.1)).getLast?=some w:=by simp
       simp only[n1,if_false,if_true,hlast]
       cases dE (pT d) k (some w) (s.drop (a2+1)) with
       | none=>rfl
       | some p=>simp
   by_cases h0:acc.length=0
   ·have ha0:acc=[]:=List.eq_nil_of_length_eq_zero h0
    have g0:¬ ((((acc.map (·.1)).map LV.str).length:Int) > 0):=by rw[hlm];omega
    simp only[g0,a8,ae]
    exact go (by rw[ha0];rfl)
   ·obtain ⟨k0,hk0⟩:∃ k,acc.length=k+1:=⟨acc.length-1,by omega⟩
    have hlast:(acc.map (·.1)).getLast?=(acc.map (·.1))[k0]?:=by
     rw[List.getLast?_eq_getElem?,bH]
     congr 1;omega
    have hget:(acc.map (·.1))[k0]?=some ((acc.map (·.1))[k0]'(by rw[bH];omega)):=bg _
    generalize (acc.map (·.1))[k0]'(by rw[bH];omega)=last at hget
    rw[hget] at hlast
    have g0:((((acc.map (·.1)).map LV.str).length:Int) > 0):=by rw[hlm];omega
    have e9:IntKind.i64.wrap ((((acc.map (·.1)).map LV.str).length:Int)-1)=(k0:Int):=by rw[hlm,wrap_i64 (by omega) (by omega)];omega
    obtain ⟨j,hj,hix⟩:=hM.on.ix (i:=(k0:Int)) (kk:=.i64) (by omega) (by rw[hlm];omega)
    have hld:ld1 S (.ptr j ((k0:Int).toNat*1))=some (.str last):=by
     have hon:=hM.on
     subst hj
     refine hon.ld ?_
     simp only[Int.toNat_natCast,Nat.mul_one,bT] at hget ⊢
     rw[hget];rfl
    have hpa:nR (acc.map (·.1)).getLast? w=Op.bytesLess last w:=by rw[hlast];rfl
    have hnone:Op.bytesLess last w=false→res=none:=fun hb=>by
     rw[hres]
     have:fi (pT d) (acc.map (·.1)).getLast? (s.drop a)=none:=by
      unfold fi
      rw[hw]
      simp only[hpa,hb,if_true]
     rw[this]
    simp only[g0,aZ,ah,ab,dM,e9,hix,hld,ct,uB]
    by_cases he:w=last
    ·subst he
     have:(w==w)=true:=by simp
     simp only[this,ah,hM.ld,ab,mk2]
     have h3:=hM.out (x:=(a:Int)) (y:=9) (h2 (hnone (mH w)) _ _ _ (by decide))
     revert h3
     rw[CO hM.h0 rfl rfl yn]
     simp only[aA,af]
     have k1:(S.set 0 (.cells .rw (mC 8 fl fn fb (acc.map (·.2.2)) (acc.map (·.1)) (acc.map (·.2.1)))))[1]?=some (.cells .rw [i64 0,i64 0]):=(bK (by decide)).trans hM.h1
     rw[uK k1 rfl]
     simp only[aA,af]
     exact fun h3=>Lf _ _ h3
    ·have:(w==last)=false:=by simpa using he
     simp only[this,ae]
     rw[cd]
     refine ⟨fun hb=>?_,fun hb=>?_⟩
     ·simp only[hM.ld,ab,mk2]
      exact hM.out (h2 (hnone (zN hb)) _ _ _ (by decide))
     ·refine go ?_
      rw[hpa]
      cases hc:Op.bytesLess last w
      ·exact absurd (tJ hb hc) he
      ·rfl
theorem vG (ih:nu d (D+1)) (hs:s.length≤4096) (hD:D<2 ^ 20) (ha:a<s.length) (obj:Bool) :
  Pb Tryz.prog 244 [.str s,i64 a,i64 D,.bool obj] (TyQ s (if obj then (match o7 d (s.drop (a+1)) with
   | none=>none
   | some (l,r)=>some (kO l,r)) else match oY d (s.drop (a+1)) with
   | none=>none
   | some (l,r)=>some (.mk 7 l [] [],r))):=by
 refine Pb.of (Rx _ _ _ _ ?_) rfl
 have e1:bh (aB (aF [(0,1),(1,1),(2,1),(3,1)]) [i64 0,LV.nils,LV.nils,LV.nils] [(0,i64 7)])=some (.agg [i64 7,.nils,.nils,.nils]):=rfl
 have hw:IntKind.i64.wrap ((a:Int)+1)=((a+1:Nat):Int):=aK (by omega)
 have p1:stV [ar.cells .rw [i64 0,LV.nils,LV.nils,LV.nils],.cells .rw [i64 0,i64 0],.cells .rw [i64 0,LV.nils,LV.nils,LV.nils]] 4 (.ptr 2 0) (.agg [i64 7,.nils,.nils,.nils]) =
   some [ar.cells .rw [i64 0,LV.nils,LV.nils,LV.nils],.cells .rw [i64 0,i64 0],.cells .rw [i64 7,LV.nils,LV.nils,LV.nils]]:=rfl
 have p2:stV [ar.cells .rw [i64 0,LV.nils,LV.nils,LV.nils],.cells .rw [i64 0,i64 0],.cells .rw [i64 7,LV.nils,LV.nils,LV.nils]] 1 (.ptr 2 0) (i64 8) =
   some [ar.cells .rw [i64 0,LV.nils,LV.nils,LV.nils],.cells .rw [i64 0,i64 0],.cells .rw [i64 8,LV.nils,LV.nils,LV.nils]]:=rfl
 have hM:∀ f:Nat,MIn [ar.cells .rw [i64 0,LV.nils,LV.nils,LV.nils],.cells .rw [i64 0,i64 0],.cells .rw [i64 f,LV.nils,LV.nils,LV.nils]] f none none none [] [] []:=fun f=>
  ⟨rfl,rfl,rfl,ca.nil,ca.nil,ca.nil,(fun _ h=>by cases h),(fun _ h=>by cases h),(fun _ h=>by cases h),(fun _ h=>by cases h),(fun _ h=>by cases h)⟩
 have cv1:gR IntKind.i64 (LV.int IntKind.i32 125)=some (i64 125):=CQ 125
 have cv2:gR IntKind.i64 (LV.int IntKind.i32 93)=some (i64 93):=CQ 93
 simp only[Qt,cv,bD,List.cons_append,aR,aW,aj,e1,ab,p1,aA,af,ao]
 cases obj with
 | true=>
  simp only[ah,p2,aA,af,ad,aH,hw,ab,if_true]
  refine (gG (a+1)).call ?_
  have e2:(atB s (a+1)==125)=decide (s[a+1]?=some 125):=jh (c:=125)
  simp only[cv1,ab,ad,bj,e2]
  by_cases hc:s[a+1]?=some 125
  ·have hlt:=(List.getElem?_eq_some_iff.1 hc).1
   have hw2:IntKind.i64.wrap (((a+1:Nat):Int)+1)=((a+2:Nat):Int):=aK (by omega)
   simp only[hc,aZ,ah,ab,hw2,mk2]
   have hp:o7 d (s.drop (a+1))=some ([],s.drop (a+2)):=by unfold o7;rw[cx,if_pos hc,drop_cons hc];rfl
   refine (hM 8).out ?_
   rw[hp];exact ⟨a+2,by omega,rfl,rfl⟩
  ·simp only[hc,a8,ae]
   have hp:o7 d (s.drop (a+1))=dE (pT d) 16 none (s.drop (a+1)):=by unfold o7;rw[cx,if_neg hc]
   rw[hp]
   refine Jo ih hs hD (res:=dE (pT d) 16 none (s.drop (a+1))) (fun l a' ha' hl=>?_) (fun hn t x y hy=>?_) 16 [] none none none _ (a+1) rfl (by omega) (hM 8) ?_
   ·rw[hl];exact ⟨a',ha',rfl,rfl⟩
   ·rw[hn];exact ⟨t,x,y,hy,rfl⟩
   ·show _=match dE (pT d) 16 none (s.drop (a+1)) with
     | none=>none
     | some (l,r)=>some ([]++l,r)
    cases dE (pT d) 16 none (s.drop (a+1))<;>rfl
 | false=>
  simp only[ae,ad,aH,hw,ab,Bool.false_eq_true,if_false]
  refine (gG (a+1)).call ?_
  have e2:(atB s (a+1)==93)=decide (s[a+1]?=some 93):=jh (c:=93)
  simp only[cv2,ab,ad,bj,e2]
  by_cases hc:s[a+1]?=some 93
  ·have hlt:=(List.getElem?_eq_some_iff.1 hc).1
   have hw2:IntKind.i64.wrap (((a+1:Nat):Int)+1)=((a+2:Nat):Int):=aK (by omega)
   have hp:oY d (s.drop (a+1))=some ([],s.drop (a+2)):=by unfold oY;rw[cx,if_pos hc,drop_cons hc];rfl
   simp only[hc,aZ,ah,ab,hw2,mk2]
   refine (hM 7).out ?_
   rw[hp];exact ⟨a+2,by omega,rfl,rfl⟩
  ·simp only[hc,a8,ae]
   have hp:oY d (s.drop (a+1))=eN (pT d) 16 (s.drop (a+1)):=by unfold oY;rw[cx,if_neg hc]
   rw[hp]
   refine Jl ih hs hD (res:=eN (pT d) 16 (s.drop (a+1))) (fun l a' ha' hl=>?_) (fun hn t x y hy=>?_) 16 [] none _ (a+1) rfl (by omega) (hM 7) ?_
   ·rw[hl];exact ⟨a',ha',rfl,rfl⟩
   ·rw[hn];exact ⟨t,x,y,hy,rfl⟩
   ·cases eN (pT d) 16 (s.drop (a+1))<;>rfl
end
end Go.Proofs.YtknegckgmklnhaaGreatDoor
