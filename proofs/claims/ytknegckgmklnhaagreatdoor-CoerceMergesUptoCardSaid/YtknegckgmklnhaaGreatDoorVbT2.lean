/- Parts of the proof. -/
import Derived.Test.YtknegckgmklnhaaGreatDoorVbW3
namespace Go.Proofs.YtknegckgmklnhaaGreatDoor
open Go Go.CP
set_option maxRecDepth 100000
structure MIn (st:aa) (form:Nat) (fl fn fb:Option Nat) (l:List KT) (ns:List Tx) (ls:List Bool):Prop where
 h0:st[0]?=some (.cells .rw [i64 0,.nils,.nils,.nils])
 h1:st[1]?=some (.cells .rw [i64 0,i64 0])
 h2:st[2]?=some (.cells .rw [i64 form,osl fl 4 l.length,osl fn 1 (ns.map LV.str).length,osl fb 1 (ls.map LV.bool).length])
 ol:bH .rw st fl 4 l.length (r5 l)
 on:bH .rw st fn 1 (ns.map LV.str).length (ns.map .str)
 ob:bH .rw st fb 1 (ls.map LV.bool).length (ls.map .bool)
 gl:∀ j,fl=some j→3≤j
 gn:∀ j,fn=some j→3≤j
 gb:∀ j,fb=some j→3≤j
 d1:∀ j,fl=some j→fn≠some j∧fb≠some j
 d2:∀ j,fn=some j→fb≠some j
section
variable {st st' st0:aa} {s:Tx} {a d D n form:Nat} {Q:LV→Prop} {fl fn fb:Option Nat} {l:List KT} {ns:List Tx} {ls:List Bool}
theorem MIn.fr (h:MIn st form fl fn fb l ns ls) (F:Fr st st' (fun _=>False)):MIn st' form fl fn fb l ns ls:=
 ⟨F.get h.h0 id,F.get h.h1 id,F.get h.h2 id,h.ol.fr F fun _ _ h=>h,h.on.fr F fun _ _ h=>h,h.ob.fr F fun _ _ h=>h,h.gl,h.gn,h.gb,h.d1,h.d2⟩
theorem xQ {f:Option Nat} {sz n:Nat}:(osl f sz n).one=true:=by cases f<;>rfl
abbrev mC (form:Nat) (fl fn fb:Option Nat) (l:List KT) (ns:List Tx) (ls:List Bool):List LV:=[i64 form,osl fl 4 l.length,osl fn 1 (ns.map LV.str).length,osl fb 1 (ls.map LV.bool).length]
theorem Bc:(mC form fl fn fb l ns ls).all LV.one=true:=by
 simp only[List.all_cons,List.all_nil,xQ];rfl
theorem Cw {o:Nat} {l:List LV} (h:st[o]?=some (.cells .rw l)) (hl:l.length=4):ldA st (.ptr o 0) 4=some (.agg l):=by
 rw[dJ h (by omega)]
 congr 2
 rw[List.drop_zero,List.take_of_length_le (by omega)]
theorem Cx {o:Nat} {l vs:List LV} (h:st[o]?=some (.cells .rw l)) (hl:l.length=4) (hv:vs.length=4) (h1:vs.all LV.one=true):stV st 4 (.ptr o 0) (.agg vs)=some (st.set o (.cells .rw vs)):=by
 have h:=eg (k:=0) (n:=4) h (by omega) h1 hv
 refine h.trans ?_
 congr 3
 simp only[bz,List.take_zero,bw,av]
 rw[dy (by omega),List.append_nil]
theorem MIn.out (h:MIn st form fl fn fb l ns ls) {x y:Int} (hQ:Q (tE (.mk form l ns ls) x y)) :
  bd2 (lmk (stV st 4 (.ptr 0 0) (.agg (mC form fl fn fb l ns ls)))) fun _v6 st7=>bd2 (lmk (stV st7 2 (.ptr 1 0) (.agg [i64 x,i64 y]))) fun _v8 st9=>bd (ldA st9 (.ptr 0 0) 4) fun v10=>bd (ldA st9 (.ptr 1 0) 2) fun v11=>Dp Q (LV.tup [v10,v11]) st9:=by
 rw[Cx h.h0 rfl rfl Bc]
 simp only[aB,aj]
 have k1:(st.set 0 (.cells .rw (mC form fl fn fb l ns ls)))[1]?=some (.cells .rw [i64 0,i64 0]):=(bn (by decide)).trans h.h1
 rw[Cu k1 rfl]
 simp only[aB,aj]
 have k0:((st.set 0 (.cells .rw (mC form fl fn fb l ns ls))).set 1 (.cells .rw [i64 x,i64 y]))[0]?=some (.cells .rw (mC form fl fn fb l ns ls)):=(bn (by decide)).trans (bQ h.h0)
 rw[Cw k0 rfl]
 simp only[ae]
 rw[Cv (bQ k1) rfl]
 have F:Fr st ((st.set 0 (.cells .rw (mC form fl fn fb l ns ls))).set 1 (.cells .rw [i64 x,i64 y])) (fun j=>j<2):=(Fr.set (S:=fun j=>j<2) (by omega)).trans (Fr.set (S:=fun j=>j<2) (by omega)) fun _ _ h=>h
 have q:∀ {f:Option Nat},(∀ j,f=some j→3≤j)→∀ j,f=some j→¬ j<2:=fun g j e=>by have:=g j e;omega
 refine ⟨_,?_,r6,hQ⟩
 generalize ((st.set 0 (ah.cells .rw (mC form fl fn fb l ns ls))).set 1 (.cells .rw [i64 x,i64 y]))=S at F
 have a1:dp S (.isl (r5 l) l.length none) (osl fl 4 l.length):=eY (h.ol.fr F (q h.gl)) rfl (bq _ jE)
 have a2:dp S (.isl (ns.map .str) ns.length none) (osl fn 1 (ns.map LV.str).length):=by
  have t:=eY (h.on.fr F (q h.gn)) rfl (bq S (bF (f:=LV.str) (l:=ns) fun _ _=>rfl))
  rw[aU] at t ⊢
  exact t
 have a3:dp S (.isl (ls.map .bool) ls.length none) (osl fb 1 (ls.map LV.bool).length):=by
  have t:=eY (h.ob.fr F (q h.gb)) rfl (bq S (bF (f:=LV.bool) (l:=ls) fun _ _=>rfl))
  rw[aU] at t ⊢
  exact t
 refine ⟨_,rfl,_,_,rfl,⟨_,rfl,?_⟩,_,_,rfl,bk (v:=.agg [i64 x,i64 y]) _ rfl,rfl⟩
 exact ⟨_,_,rfl,rfl,_,_,rfl,a1,_,_,rfl,a2,_,_,rfl,a3,rfl⟩
end
section
variable {st st' st0:aa} {s:Tx} {a d D n:Nat} {Q:LV→Prop}
structure WIn (st:aa):Prop where
 h0:st[0]?=some (.cells .rw [i64 0,.nils,.nils,.nils])
 h1:st[1]?=some (.cells .rw [i64 0,i64 0])
theorem WIn.fr (h:WIn st) (F:Fr st st' (fun j=>2≤j)):WIn st':=⟨F.get h.h0 (by omega),F.get h.h1 (by omega)⟩
theorem WIn.out (h:WIn st) {cs:List LV} (hl:cs.length=4) (h1:cs.all LV.one=true) {t:KT} {x y:Int} (hd:∀ S,Fr st S (fun j=>j<2)→dps S (rkC t) cs) (hQ:Q (tE t x y)) :
  ∃ S1 S2,stV st 4 (.ptr 0 0) (.agg cs)=some S1∧stV S1 2 (.ptr 1 0) (.agg [i64 x,i64 y])=some S2∧Fr st S1 (fun j=>j<2)∧(bd (ldA S2 (.ptr 0 0) 4) fun v10=>bd (ldA S2 (.ptr 1 0) 2) fun v11=>Dp Q (LV.tup [v10,v11]) S2):=by
 have k1:(st.set 0 (.cells .rw cs))[1]?=some (.cells .rw [i64 0,i64 0]):=(bn (by decide)).trans h.h1
 refine ⟨_,_,Cx h.h0 rfl hl h1,Cu k1 rfl,Fr.set (by omega),?_⟩
 have k0:((st.set 0 (.cells .rw cs)).set 1 (.cells .rw [i64 x,i64 y]))[0]?=some (.cells .rw cs):=(bn (by decide)).trans (bQ h.h0)
 rw[Cw k0 hl]
 simp only[ae]
 rw[Cv (bQ k1) rfl]
 have F:Fr st ((st.set 0 (.cells .rw cs)).set 1 (.cells .rw [i64 x,i64 y])) (fun j=>j<2):=(Fr.set (S:=fun j=>j<2) (by omega)).trans (Fr.set (S:=fun j=>j<2) (by omega)) fun _ _ h=>h
 refine ⟨tE t x y,?_,r6,hQ⟩
 exact ⟨_,rfl,_,_,rfl,⟨_,rfl,hd _ F⟩,_,_,rfl,bk (v:=.agg [i64 x,i64 y]) _ rfl,rfl⟩
end
section
variable {R:LV→aa→Prop} {z0:ah} {nm tx:Tx} {t0 t1 t2 t3:LV} {m o h n:Bool}
def bC (a:AT):List LV:=.str a.nm::.str (kpr a.ty)::(rkC a.ty++[.bool a.must,.bool a.own,.bool a.hide,.bool a.new])
end
def bCs:List AT→List LV
 | []=>[]
 | a::l=>bC a++bCs l
structure RSt (st:aa) (v:Int) (l:List AT) (f:Option Nat):Prop where
 a:∃ x y,st[0]?=some (.cells .rw [x,y])
 b:st[1]?=some (.cells .rw [i64 v,osl f 10 l.length])
 o:bH .rw st f 10 l.length (bCs l)
 n:∀ o,f=some o→2≤o
section
variable {R:LV→aa→Prop} {st:aa}
theorem RSt.app {v:Int} {l:List AT} {f:Option Nat} {y:ah} (h:RSt st v l f):RSt (st++[y]) v l f:=
 ⟨by obtain ⟨p,q,e⟩:=h.a;exact ⟨p,q,r0 e⟩,by rw[bD (bR h.b)];exact h.b,h.o.fr (Fr.app (S:=fun _=>False)) fun _ _ h=>h,h.n⟩
end
def bS (v:Int) (l:List AT):LV:=.agg [i64 v,.isl (bCs l) l.length none]
def Cy (x5 x6 x8 x9 x54:LV) (R:LV.RT) (st:aa):Prop:=LTg Tryz.prog (kindOf false) [.tmp 4] (cw Tryz.f9 10) [] R (LV.jk 5 (x5::x6::.aJ::x8::x9::(LV.jk 44 (x54::(LV.jk 55 []))))) st
def w9 (a0 a1:LV) (R:LV.RT) (st:aa):Prop:=
 bd2 (cn st a1) fun v0 c8=>bd (ldA c8 v0 7) fun v2=>LZ 24 [v2] c8 fun v3 dO=>bd (aI BinOp.gtr v3 (i64 0)) fun v5=>aG v5 (LZ 17 [] dO fun v6 tO=>R v6 tO)
 (LZ 17 [] dO fun v8 lE=>bd (lun UnOp.not v8) fun v10=>aG v10 (LZ 17 [] lE fun v11 iN=>R v11 iN)
 (LZ 26 [a0] lE fun iS mK=>bd (af iS 0) fun lT=>bd (af iS 1) fun v16=>bd (af iS 2) fun v17=>nw mK [i64 0,LV.nils] fun nE oF=>bd2 (lmk (stV oF 2 nE v16)) fun _v20 gT=>bd (ldA gT v0 7) fun v22=>LZ 27 [v22] gT fun v23 oR=>LZ 29 [v23] oR fun v25 rW=>nw rW [LV.nili] fun aC aS=>bd2 (lmk (stV aS 1 aC v25)) fun _v29 gE=>bd (aI BinOp.gtr v17 (i64 0)) fun v31=>aG v31 (R (LV.bool true) gE)
 (bd (ldA gE aC 1) fun v32=>LZ 42 [lT,v32] gE fun p7 aT=>bd (af p7 0) fun v35=>bd (af p7 1) fun v36=>nw aT [LV.nili] fun iF bY=>bd2 (lmk (stV bY 1 iF v35)) fun _v39 eQ=>bd (aI BinOp.neq v36 (i64 0)) fun v41=>aG v41
 (bd (ldA eQ iF 1) fun v42=>LZ 46 [v42] eQ fun v43 c7=>bd (aI BinOp.eql v43 (i64 0)) fun v45=>R v45 c7)
 (bd (ldA eQ iF 1) fun v46=>bd (al 1 nE) fun p8=>bd (ld1 eQ p8) fun p9=>bd (bj p9) fun v49=>LZ 49 [v46] eQ fun v50 iD=>ld1 iD p8=some p9∧bd (bj v50) fun v52=>bd (aI BinOp.neq v52 v49) fun v53=>Cy lT nE aC iF v53 R iD))))
structure LSt (st:aa) (A B C:Nat) (n:Int) (l:List AT) (v x:T):Prop where
 a:st[A]?=some (.cells .rw [i64 n,.isl (bCs l) l.length none])
 b:st[B]?=some (.cells .rw [lvT v])
 c:st[C]?=some (.cells .rw [lvT x])
section
variable {R:LV→aa→Prop} {st:aa}
theorem LSt.app {A B C:Nat} {n:Int} {l:List AT} {v x:T} {y:ah} (h:LSt st A B C n l v x):LSt (st++[y]) A B C n l v x:=
 ⟨by rw[bD (bR h.a)];exact h.a,by rw[bD (bR h.b)];exact h.b,by rw[bD (bR h.c)];exact h.c⟩
theorem gX {o:Nat} {v:T} (h:st[o]?=some (.cells .rw [lvT v])):ldA st (.ptr o 0) 1=some (vT v):=by rw[dJ h (by simp)];rfl
end
end Go.Proofs.YtknegckgmklnhaaGreatDoor
namespace Go.CP
theorem ag.Cz {P:Program} {g:FuncId} {ws bs:List LV} {st:aa} {o n:Nat} {ci:cJ} {cs rest:List LV} {R:LV→aa→Prop} (h2:st[o]?=some (.cells .rw (cs++rest)))
  (h:∀ st',Fr st st' (fun j=>o=j)→ag P g (ws++.isl cs n none::bs) st' R):ag P g (ws++.sl o 0 n ci::bs) st R:=by
 refine (h (st.set o .dead) (Fr.set rfl)).rR fun w0 β w vs h1 hv=>?_
 have hle:=mF h1 h2 (rfl:ah.rw (.cells .rw (cs++rest))=true)
 refine ⟨β.nJ o w,h1.nJ h2 rfl,?_,hle⟩
 obtain ⟨u,v,rfl,h3,h4⟩:=Rps.split hv
 obtain ⟨x,xs,rfl,⟨b,hb,hcap,rfl⟩,h6⟩:=h4
 refine (h3.mono hle).append ⟨_,xs,rfl,?_,h6.mono hle⟩
 obtain ⟨us,r1,r2⟩:=jA h1 h2 hb (k:=0) (n:=cs.length) (by simp)
 rw[List.drop_zero,List.take_left] at r1
 exact ⟨us,r1.mono hle,_,_,rfl,hcap,fun _ e=>(by cases e),.inr ⟨b.blk,b.base+0,rfl,r2⟩⟩
end Go.CP
namespace Go.Proofs.YtknegckgmklnhaaGreatDoor
open Go Go.CP
set_option maxRecDepth 100000
abbrev kS (k:Tx):LV:=.agg [.str k,i64 (-1)]
theorem C3:bK (aN (aR [(0,1)]) [LV.nili] [])=some (vT .null):=rfl
theorem gC {st:aa} {o:Nat} {x:LV} {t:T} (h:st[o]?=some (.cells .rw [x])):stV st 1 (.ptr o 0) (vT t)=some (st.set o (.cells .rw [lvT t])):=
 eg (k:=0) (vs:=[lvT t]) (n:=1) h (by simp) (by simp[gr]) rfl
theorem uX {es:List (Tx × T)} (hm:(T.map es).ok) (k:Tx):Pu Tryz.prog 180 [vT (.map es),kS k] (.tup [vT ((T.find es k).getD .null),i64 (if (T.find es k).isSome then 0 else 8)]):=by
 refine Pu.of (CV _ _ ?_) (by simp only[LV.au,LV.plain,ct];rfl) (by simp[LV.plain,LV.au])
 simp only[T.ok] at hm
 have lk:∀ {st:aa},cn st (kS k)=some (.ptr st.length 0,st++[.cells .rw [.str k,i64 (-1)]]):=rfl
 have cm1:decide ((-1:Int)≥0)=false:=rfl
 have g0:∀ {x:ah},ld1 [ah.cells .rw [lvT (.map es)],.cells .rw [.str k,i64 (-1)],x] (.ptr 0 0)=some (.iface 173 (.imap (es.map fun e=>.str e.1) (dm es))):=rfl
 have g0':∀ {x y:ah},ld1 [ah.cells .rw [lvT (.map es)],.cells .rw [.str k,i64 (-1)],x,y] (.ptr 0 0)=some (.iface 173 (.imap (es.map fun e=>.str e.1) (dm es))):=rfl
 have g1:∀ {x:ah},ld1 [ah.cells .rw [lvT (.map es)],.cells .rw [.str k,i64 (-1)],x] (.ptr 1 1)=some (i64 (-1)):=rfl
 have g2:∀ {x:ah},ld1 [ah.cells .rw [lvT (.map es)],.cells .rw [.str k,i64 (-1)],x] (.ptr 1 0)=some (.str k):=rfl
 have g2':∀ {x y:ah},ld1 [ah.cells .rw [lvT (.map es)],.cells .rw [.str k,i64 (-1)],x,y] (.ptr 1 0)=some (.str k):=rfl
 have ea:asC 173 (some LV.nilm) (.iface 173 (.imap (es.map fun e=>.str e.1) (dm es))) false=some (.imap (es.map fun e=>.str e.1) (dm es)):=rfl
 simp only[Cb,gu,lk,aj,dc,bw,List.cons_append,bu,bg,av,Nat.reduceAdd,aF,g1,ae,an,hY,cm1,ax,g0,ea,g2,pQ (b6 hm.2.2),if_true,aV,bB,bJ,g0',g2',true_and]
 have e3:∀ {t:T},stV [ah.cells .rw [lvT (.map es)],.cells .rw [.str k,i64 (-1)],.cells .rw [.nili],.cells .rw [.nili]] 1 (.ptr 3 0) (vT t)=some [ah.cells .rw [lvT (.map es)],.cells .rw [.str k,i64 (-1)],.cells .rw [.nili],.cells .rw [lvT t]]:=gC (x:=.nili) rfl
 simp only[e3,aB,aj]
 refine A0 _ _ _ ?_
 have e4:∀ {t u:T},stV [ah.cells .rw [lvT (.map es)],.cells .rw [.str k,i64 (-1)],.cells .rw [.nili],.cells .rw [lvT u]] 1 (.ptr 2 0) (vT t)=some [ah.cells .rw [lvT (.map es)],.cells .rw [.str k,i64 (-1)],.cells .rw [lvT t],.cells .rw [lvT u]]:=gC (x:=.nili) rfl
 have e5:∀ {t u:T},ldA [ah.cells .rw [lvT (.map es)],.cells .rw [.str k,i64 (-1)],.cells .rw [lvT t],.cells .rw [lvT u]] (.ptr 2 0) 1=some (vT t):=gX rfl
 have e6:∀ {t u:T},ldA [ah.cells .rw [lvT (.map es)],.cells .rw [.str k,i64 (-1)],.cells .rw [.nili],.cells .rw [lvT u]] (.ptr 3 0) 1=some (vT u):=gX rfl
 cases hf:T.find es k with
 | none=>
  simp only[tz,Option.getD_none,Option.isSome_none,dI,gI,ae,a8,C3,e4,aB,aj,e5,Bool.false_eq_true,if_false]
  exact bk (v:=.tup [vT .null,i64 8]) _ rfl
 | some y=>
  simp only[tz,Option.getD_some,Option.isSome_some,dI,dA,ae,ax,e6 (t:=.null),e4,aB,aj,e5,if_true]
  exact bk (v:=.tup [vT y,i64 0]) _ (by simp[LV.plain,LV.au])
end Go.Proofs.YtknegckgmklnhaaGreatDoor
namespace Go.CP
theorem qg {α β:Type} {f:α→β} {a c:List β} (h:a.Perm c):∀ {b:List α},c=b.map f→∃ b':List α,b'.Perm b∧a=b'.map f:=by
 induction h with
 | nil=>
  intro b hb
  match b,hb with
  | [],_=>exact ⟨[],List.Perm.refl _,rfl⟩
 | cons x _ ih=>
  intro b hb
  match b,hb with
  | y::b,hb=>
   simp only[List.map_cons,List.cons.injEq] at hb
   obtain ⟨b',h1,h2⟩:=ih hb.2
   exact ⟨y::b',h1.cons y,by rw[h2,hb.1];rfl⟩
 | swap x y l=>
  intro b hb
  match b,hb with
  | u::v::b,hb=>
   simp only[List.map_cons,List.cons.injEq] at hb
   exact ⟨v::u::b,.swap u v b,by rw[hb.2.2,hb.1,hb.2.1];rfl⟩
 | trans _ _ ih1 ih2=>
  intro b hb
  obtain ⟨b1,h1,h2⟩:=ih2 hb
  obtain ⟨b2,h3,h4⟩:=ih1 h2
  exact ⟨b2,h3.trans h1,h4⟩
namespace T
def upd (k:List UInt8) (y:T):List (List UInt8 × T)→List (List UInt8 × T)
 | []=>[(k,y)]
 | e::es=>if e.1=k then (k,y)::es else e::upd k y es
theorem lz {k:List UInt8} {es:List (List UInt8 × T)} (h:k ∉ es.map (·.1)):es.filter (fun e=>decide (e.1≠k))=es:=by
 rw[List.filter_eq_self]
 intro e he
 simp only[ne_eq,decide_eq_true_eq]
 rintro rfl
 exact h (List.mem_map.2 ⟨e,he,rfl⟩)
theorem r7 {k:List UInt8} {y:T}:∀ {es:List (List UInt8 × T)},(es.map (·.1)).Nodup→(upd k y es).Perm ((k,y)::es.filter (fun e=>decide (e.1≠k)))
 | [],_=>.refl _
 | e::es,h=>by
  simp only[List.map_cons,List.nodup_cons] at h
  unfold upd
  by_cases hk:e.1=k
  ·subst hk
   rw[if_pos rfl,List.filter_cons_of_neg (by simp),lz h.1]
  ·rw[if_neg hk,List.filter_cons_of_pos (by simpa using hk)]
   exact ((r7 h.2).cons e).trans (.swap _ _ _)
theorem r8 {k:List UInt8} {y:T}:∀ {es:List (List UInt8 × T)},(es.map (·.1)).Pairwise ltB→(ins k y es).Perm ((k,y)::es.filter (fun e=>decide (e.1≠k)))
 | [],_=>.refl _
 | e::es,h=>by
  simp only[List.map_cons,List.pairwise_cons] at h
  unfold ins
  by_cases hk:k=e.1
  ·subst hk
   rw[if_pos rfl,List.filter_cons_of_neg (by simp),lz fun c=>ig (h.1 _ c) rfl]
  ·rw[if_neg hk]
   split
   ·rename_i hl
    rw[lz]
    simp only[List.map_cons,List.mem_cons,not_or]
    exact ⟨hk,fun c=>ig (eA hl (h.1 _ c)) rfl⟩
   ·rw[List.filter_cons_of_pos (by simpa using Ne.symm hk)]
    exact ((r8 h.2).cons e).trans (.swap _ _ _)
theorem yX {k:List UInt8} {y:T} {es es':List (List UInt8 × T)} (h:(es.map (·.1)).Pairwise ltB) (hp:es'.Perm es):(ins k y es).Perm (upd k y es'):=by
 have hn:(es'.map (·.1)).Nodup:=(hp.map _).nodup_iff.2 (b6 h)
 exact (r8 h).trans (((hp.filter _).cons _).symm.trans (r7 hn).symm)
end T
end Go.CP
namespace Go.Proofs.YtknegckgmklnhaaGreatDoor
open Go Go.CP
set_option maxRecDepth 100000
theorem r9 {k:Tx} {y:T}:∀ {es:List (Tx × T)},nX (.str k) (vT y) (mE es)=some (mE (T.upd k y es))
 | []=>rfl
 | e::es=>by
  have ih:=r9 (k:=k) (y:=y) (es:=es)
  simp only[mE,List.map_cons,nX,fo,T.upd]
  by_cases h:e.1=k
  ·have h1:(k==e.1)=true:=by simp[h]
   rw[if_pos h,h1]
   simp[]
  ·have h1:(k==e.1)=false:=by simpa using Ne.symm h
   rw[if_neg h,h1]
   simp only[mE] at ih
   simp only[ih]
   rfl
section
variable {st:aa} {R:LV→aa→Prop}
theorem zH {t y:T} {sl:LV} (hl:bj sl=some (i64 0)) (hp:sl.plain=true):Pu Tryz.prog 181 [vT t,vT y,sl] (.tup [vT y,i64 0]):=by
 refine Pu.of (Ca _ _ _ ?_) (by simp only[LV.au,LV.plain,ct,hp,Bool.and_true]) (by simp[LV.plain,LV.au])
 have c0:((0:Int)==0)=true:=rfl
 have g1:ldA [ah.cells .rw [lvT t],.cells .rw [lvT y],.cells .rw [.nili]] (.ptr 1 0) 1=some (vT y):=gX rfl
 have e1:stV [ah.cells .rw [lvT t],.cells .rw [lvT y],.cells .rw [.nili]] 1 (.ptr 2 0) (vT y)=some [ah.cells .rw [lvT t],.cells .rw [lvT y],.cells .rw [lvT y]]:=gC (x:=.nili) rfl
 have g2:ldA [ah.cells .rw [lvT t],.cells .rw [lvT y],.cells .rw [lvT y]] (.ptr 2 0) 1=some (vT y):=gX rfl
 simp only[AV,gu,aj,dc,bw,List.cons_append,bu,bg,av,Nat.reduceAdd,hl,ae,an,b5,c0,a8,g1,e1,aB,g2]
 exact bk (v:=.tup [vT y,i64 0]) _ (by simp[LV.plain,LV.au])
theorem xR {es:List (Tx × T)} (hR:∀ (es':List (Tx × T)) (bs:List Nat) (n:Nat),es'.Perm es→R (.map st.length) (st++[.map .rw (mE es') bs n])) :
  ag Tryz.prog 259 [.imap (es.map fun e=>.str e.1) (dm es)] st R:=by
 refine CX _ ?_
 have e1:eqB .eql (tV (.imap (es.map fun e=>LV.str e.1) (dm es)) LV.nilm)=some (.bool false):=rfl
 simp only[Ce,e1,ae,ax]
 refine rl (fn:=Tryz.f288) Tryz.func288 (by kernel_rfl) (by kernel_rfl) (by kernel_rfl) (by kernel_rfl) (by simp[kg]) fun es0 bs n hp=>?_
 have hz:(es.map fun e=>LV.str e.1).zip (dm es)=mE es:=by
  rw[ke,List.zip_map']
 rw[hz] at hp
 obtain ⟨es',h1,rfl⟩:=qg hp rfl
 have ea:asC 173 (some LV.nilm) (.iface 173 (.map st.length)) false=some (.map st.length):=rfl
 simp only[ea,ae]
 exact hR es' bs n h1
theorem Bd {es:List (Tx × T)} (hm:(T.map es).ok) (k:Tx) (y:T):Pu Tryz.prog 218 [vT (.map es),vT y,kS k] (vT (.map (T.ins k y es))):=by
 refine Pu.of (c218 _ _ _ ?_) (by simp only[LV.au,LV.plain,ct];rfl) bG
 simp only[T.ok] at hm
 have lk:∀ {st:aa},cn st (kS k)=some (.ptr st.length 0,st++[.cells .rw [.str k,i64 (-1)]]):=rfl
 have cm1:decide ((-1:Int)≥0)=false:=rfl
 have g0:ld1 [ah.cells .rw [lvT (.map es)],.cells .rw [lvT y],.cells .rw [.str k,i64 (-1)],.cells .rw [.nili]] (.ptr 0 0)=some (.iface 173 (.imap (es.map fun e=>.str e.1) (dm es))):=rfl
 have g1:ld1 [ah.cells .rw [lvT (.map es)],.cells .rw [lvT y],.cells .rw [.str k,i64 (-1)],.cells .rw [.nili]] (.ptr 2 1)=some (i64 (-1)):=rfl
 have ea:asC 173 (some LV.nilm) (.iface 173 (.imap (es.map fun e=>.str e.1) (dm es))) false=some (.imap (es.map fun e=>.str e.1) (dm es)):=rfl
 simp only[Cc,gu,lk,aj,dc,bw,List.cons_append,bu,bg,av,Nat.reduceAdd,aF,g1,ae,an,hY,cm1,ax,g0,ea]
 refine xR fun es' bs n hp=>?_
 generalize hX:ah.map Md.rw (mE es') bs n=X
 have h2:ld1 [ah.cells .rw [lvT (.map es)],.cells .rw [lvT y],.cells .rw [.str k,i64 (-1)],.cells .rw [.nili],X] (.ptr 2 0)=some (.str k):=rfl
 have h3:ldA [ah.cells .rw [lvT (.map es)],.cells .rw [lvT y],.cells .rw [.str k,i64 (-1)],.cells .rw [.nili],X] (.ptr 1 0) 1=some (vT y):=gX rfl
 have h4:∃ bs' n',pg [ah.cells .rw [lvT (.map es)],.cells .rw [lvT y],.cells .rw [.str k,i64 (-1)],.cells .rw [.nili],X] true (.map 4) (.str k) (vT y)=some [ah.cells .rw [lvT (.map es)],.cells .rw [lvT y],.cells .rw [.str k,i64 (-1)],.cells .rw [.nili],.map .rw (mE (T.upd k y es')) bs' n']:=by
  have hx:([ah.cells .rw [lvT (.map es)],.cells .rw [lvT y],.cells .rw [.str k,i64 (-1)],.cells .rw [.nili],X]:aa)[4]?=some (.map .rw (mE es') bs n):=by rw[← hX];rfl
  simp only[pg,plainKey,if_true,hx,r9]
  unfold jI
  split
  ·exact ⟨_,_,rfl⟩
  ·exact ⟨_,_,rfl⟩
 obtain ⟨bs',n',h4⟩:=h4
 have e1:bK (aN (aR [(0,1)]) [LV.nili] [(0,LV.iface 173 (.map 4))])=some (.agg [.iface 173 (.map 4)]):=rfl
 have e2:∀ {Y:ah},stV [ah.cells .rw [lvT (.map es)],.cells .rw [lvT y],.cells .rw [.str k,i64 (-1)],.cells .rw [.nili],Y] 1 (.ptr 3 0) (.agg [.iface 173 (.map 4)])=some [ah.cells .rw [lvT (.map es)],.cells .rw [lvT y],.cells .rw [.str k,i64 (-1)],.cells .rw [.iface 173 (.map 4)],Y]:=fun {Y}=>eg (k:=0) (vs:=[.iface 173 (.map 4)]) (n:=1) (l:=[.nili]) rfl (by simp) rfl rfl
 have e3:∀ {Y:ah},ldA [ah.cells .rw [lvT (.map es)],.cells .rw [lvT y],.cells .rw [.str k,i64 (-1)],.cells .rw [.iface 173 (.map 4)],Y] (.ptr 3 0) 1=some (.agg [.iface 173 (.map 4)]):=fun {Y}=>dJ (l:=[.iface 173 (.map 4)]) rfl (by simp)
 simp only[List.cons_append,bw,bg,bu,av,Nat.reduceAdd,h2,h3,ae,h4,aB,aj,e1,e2,e3]
 refine wZ (es':=T.upd k y es') (bs:=bs') (n:=n') rfl (T.yX hm.2.2 hp) (b6 (T.e9 hm.2.2))
theorem xS {t:T} {k:Tx}:Pu Tryz.prog 217 [vT t,kS k,i64 8] (.bool true):=by
 refine Pu.of (CW _ _ _ ?_) (by simp only[LV.au,LV.plain,ct];rfl) rfl
 have lk:∀ {st:aa},cn st (kS k)=some (.ptr st.length 0,st++[.cells .rw [.str k,i64 (-1)]]):=rfl
 have c0:((8:Int)==8)=true:=rfl
 simp only[Cd,gu,lk,aj,an,b5,c0,ae,a8]
 exact rfl
theorem yY {es:List (Tx × T)} (hm:(T.map es).ok) (k:Tx) (y:T):Pu Tryz.prog 181 [vT (.map es),vT y,.isl [.str k,i64 (-1)] 1 none] (.tup [vT (.map (T.ins k y es)),i64 0]):=by
 refine Pu.of (Ca _ _ _ ?_) (by simp only[LV.au,LV.plain,ct];rfl) (by simp[LV.plain,LV.au])
 have c0:((1:Int)==0)=false:=rfl
 have i0:bo 2 (.isl [.str k,i64 (-1)] 1 none) (i64 0)=some (.iptr [.str k,i64 (-1)] 0):=rfl
 have gk:∀ {s:aa},ldA s (.iptr [.str k,i64 (-1)] 0) 2=some (kS k):=rfl
 have g0:∀ {l:aa},ldA (ah.cells .rw [lvT (.map es)]::l) (.ptr 0 0) 1=some (vT (.map es)):=gX rfl
 have g1:∀ {x:ah} {l:aa},ldA (x::ah.cells .rw [lvT y]::l) (.ptr 1 0) 1=some (vT y):=gX rfl
 have g3:∀ {x y z:ah} {t:T} {l:aa},ldA (x::y::z::ah.cells .rw [lvT t]::l) (.ptr 3 0) 1=some (vT t):=gX rfl
 have g4:∀ {x y z u:ah} {t:T} {l:aa},ldA (x::y::z::u::ah.cells .rw [lvT t]::l) (.ptr 4 0) 1=some (vT t):=gX rfl
 have g2:∀ {x y:ah} {t:T} {l:aa},ldA (x::y::ah.cells .rw [lvT t]::l) (.ptr 2 0) 1=some (vT t):=gX rfl
 have e3:∀ {x y z:ah} {t:T},stV [x,y,z,.cells .rw [.nili]] 1 (.ptr 3 0) (vT t)=some [x,y,z,.cells .rw [lvT t]]:=fun {x y z t}=>gC (x:=.nili) rfl
 have e4:∀ {x y z u:ah} {t:T},stV [x,y,z,u,.cells .rw [.nili]] 1 (.ptr 4 0) (vT t)=some [x,y,z,u,.cells .rw [lvT t]]:=fun {x y z u t}=>gC (x:=.nili) rfl
 have e2:∀ {x y z u:ah} {t:T},stV [x,y,.cells .rw [.nili],z,u] 1 (.ptr 2 0) (vT t)=some [x,y,.cells .rw [lvT t],z,u]:=fun {x y z u t}=>gC (x:=.nili) rfl
 have next:∀ {d:Int} {t:T},d=0∨d=8→qb (.isl [.str k,i64 (-1)] 1 none) (.ptr 0 0) (.ptr 1 0) (.ptr 2 0) (.ptr 3 0) (i64 d) (fun r s=>dp s (.tup [vT (.map (T.ins k y es)),i64 0]) r) [ah.cells .rw [lvT (.map es)],.cells .rw [lvT y],.cells .rw [.nili],.cells .rw [lvT t]]:=by
  intro d t hd
  have four:nQ (.isl [.str k,i64 (-1)] 1 none) (.ptr 0 0) (.ptr 1 0) (.ptr 2 0) (.ptr 3 0) (i64 d) (.bool false) (fun r s=>dp s (.tup [vT (.map (T.ins k y es)),i64 0]) r) [ah.cells .rw [lvT (.map es)],.cells .rw [lvT y],.cells .rw [.nili],.cells .rw [lvT t]]:=by
   refine AX _ _ _ _ _ _ _ ?_
   obtain ⟨sl,hs,hl,hp⟩:∃ sl,(∀ s,(ob3 (some (i64 1)) none none fun l h m=>cp s 2 (.isl [.str k,i64 (-1)] 1 none) l h m)=some sl)∧bj sl=some (i64 0)∧sl.plain=true:=⟨_,fun _=>rfl,rfl,rfl⟩
   have six:qc (.isl [.str k,i64 (-1)] 1 none) (.ptr 0 0) (.ptr 2 0) (i64 0) (.ptr 4 0) (fun r s=>dp s (.tup [vT (.map (T.ins k y es)),i64 0]) r) [ah.cells .rw [lvT (.map es)],.cells .rw [lvT y],.cells .rw [.nili],.cells .rw [lvT t],.cells .rw [lvT y]]:=by
    refine AY _ _ _ _ _ ?_
    have c1:((0:Int) != 0)=false:=rfl
    simp only[xA,an,cU,c1,ae,ax,g0,g4,i0,gk]
    refine (Bd hm k y).call ?_
    simp only[e2,aB,aj]
    refine AZ _ _ ?_
    simp only[xB,g2,ae]
    exact bk (v:=.tup [vT (.map (T.ins k y es)),i64 0]) _ (by simp[LV.plain,LV.au])
   simp only[xz,ax,g3,g1,ae,hs,dc,List.cons_append,bw,bg,bu,av,Nat.reduceAdd,true_and]
   refine ⟨?_,?_⟩
   ·refine (zH hl hp).call ?_
    simp only[aV,bB,bJ,ae,e4,aB,aj]
    exact six
   ·refine (zH hl hp).call ?_
    simp only[aV,bB,bJ,ae,List.cons_append,bw,bg,bu,av,Nat.reduceAdd,g3,g1,e4,aB,aj,true_and]
    exact six
  refine AW _ _ _ _ _ _ ?_
  rcases hd with rfl|rfl
  ·have c1:((0:Int) != 0)=false:=rfl
   simp only[tu,an,cU,c1,ae,ax]
   exact four
  ·have c1:((8:Int) != 0)=true:=rfl
   have c2:decide (((1:Nat):Int) > 1)=false:=rfl
   simp only[tu,an,cU,c1,ae,a8,aP,jV,c2,ax,g0,i0,gk]
   refine xS.call ?_
   simp only[dI,dA,ae]
   exact four
 have hd:(if (T.find es k).isSome=true then (0:Int) else 8)=0∨(if (T.find es k).isSome=true then (0:Int) else 8)=8:=by split<;>simp
 have c0':(((1:Nat):Int)==0)=false:=rfl
 simp only[AV,gu,aj,dc,bw,List.cons_append,bu,bg,av,Nat.reduceAdd,aP,ae,an,b5,c0',ax,g0,i0,gk,true_and]
 refine ⟨?_,?_⟩
 ·refine (uX hm k).call ?_
  simp only[aV,bB,bJ,ae,e3,aB,aj]
  exact next hd
 ·refine (uX hm k).call ?_
  simp only[aV,bB,bJ,ae,bw,List.cons_append,bu,bg,av,Nat.reduceAdd,g0,true_and,e3,aB,aj]
  exact next hd
theorem tC {es:List (Tx × T)} (hm:(T.map es).ok) (k:Tx) (y:T):Pu Tryz.prog 131 [vT (.map es),vT y,.isl [.str k,i64 (-1)] 1 none] (.tup [vT (.map (T.ins k y es)),i64 0]):=by
 refine Pu.of (c131 _ _ _ ?_) (by simp only[LV.au,LV.plain,ct];rfl) (by simp[LV.plain,LV.au])
 have g0:∀ {l:aa},ldA (ah.cells .rw [lvT (.map es)]::l) (.ptr 0 0) 1=some (vT (.map es)):=gX rfl
 have g1:∀ {x:ah} {l:aa},ldA (x::ah.cells .rw [lvT y]::l) (.ptr 1 0) 1=some (vT y):=gX rfl
 have g2:∀ {x y:ah} {t:T} {l:aa},ldA (x::y::ah.cells .rw [lvT t]::l) (.ptr 2 0) 1=some (vT t):=gX rfl
 have e2:∀ {x y z:ah} {t:T},stV [x,y,.cells .rw [.nili],z] 1 (.ptr 2 0) (vT t)=some [x,y,.cells .rw [lvT t],z]:=fun {x y z t}=>gC (x:=.nili) rfl
 have e3:∀ {x y z:ah},stV [x,y,z,.cells .rw [i64 0]] 1 (.ptr 3 0) (i64 0)=some [x,y,z,.cells .rw [i64 0]]:=fun {x y z}=>rfl
 have g3:∀ {x y z:ah},ld1 [x,y,z,.cells .rw [i64 0]] (.ptr 3 0)=some (i64 0):=rfl
 simp only[B9,gu,aj,dc,bw,List.cons_append,bu,bg,av,Nat.reduceAdd,g0,g1,ae]
 refine (yY hm k y).call ?_
 simp only[aV,bB,bJ,ae,e2,e3,aB,aj]
 refine CY _ ?_
 have en:eqB .neq (nV true (fm Tryz.prog) LV.nili LV.nili)=some (.bool false):=by kernel_rfl
 simp only[Cf,en,ae,ax,g2,g3]
 exact bk (v:=.tup [vT (.map (T.ins k y es)),i64 0]) _ (by simp[LV.plain,LV.au])
theorem Be {es:List (Tx × T)} (hm:(T.map es).ok) (k:Tx) (y:T):Pu Tryz.prog 68 [vT (.map es),vT y,.isl [.str k,i64 (-1)] 1 none] (.tup [vT (.map (T.ins k y es)),i64 0]):=by
 refine Pu.of (c68 _ _ _ ?_) (by simp only[LV.au,LV.plain,ct];rfl) (by simp[LV.plain,LV.au])
 have g0:∀ {l:aa},ldA (ah.cells .rw [lvT (.map es)]::l) (.ptr 0 0) 1=some (vT (.map es)):=gX rfl
 have g1:∀ {x:ah} {l:aa},ldA (x::ah.cells .rw [lvT y]::l) (.ptr 1 0) 1=some (vT y):=gX rfl
 have g2:∀ {x y:ah} {t:T} {l:aa},ldA (x::y::ah.cells .rw [lvT t]::l) (.ptr 2 0) 1=some (vT t):=gX rfl
 have e2:∀ {x y:ah} {t:T},stV [x,y,.cells .rw [.nili]] 1 (.ptr 2 0) (vT t)=some [x,y,.cells .rw [lvT t]]:=fun {x y t}=>gC (x:=.nili) rfl
 simp only[w68,gu,aj,dc,bw,List.cons_append,bu,bg,av,Nat.reduceAdd,g0,g1,ae]
 refine (tC hm k y).call ?_
 simp only[aV,bB,bJ,ae,e2,aB,aj,g2]
 exact bk (v:=.tup [vT (.map (T.ins k y es)),i64 0]) _ (by simp[LV.plain,LV.au])
end
end Go.Proofs.YtknegckgmklnhaaGreatDoor
