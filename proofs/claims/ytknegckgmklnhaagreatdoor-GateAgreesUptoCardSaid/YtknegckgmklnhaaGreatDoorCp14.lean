/- Parts of the proof. -/
import Derived.Test.YtknegckgmklnhaaGreatDoorCp12
namespace Go.CP
theorem cu {α:Type} (zs:List α):∀ n,(List.replicate n zs).flatten.length=n*zs.length
 | 0=>by simp
 | n+1=>by simp[List.replicate_succ,cu zs n,Nat.succ_mul,Nat.add_comm]
theorem jT {α:Type} (zs:List α):∀ (n i:Nat),i<n*zs.length→(List.replicate n zs).flatten[i]?=zs[i % zs.length]?
 | 0,i,h=>by simp at h
 | n+1,i,h=>by
  rw[List.replicate_succ,List.flatten_cons]
  rcases Nat.lt_or_ge i zs.length with k|k
  ·rw[bH k,Nat.mod_eq_of_lt k]
  ·rw[List.getElem?_append_right k,jT zs n _ (by rw[Nat.succ_mul] at h;omega),Nat.mod_eq_sub_mod k]
theorem lh (zs:Array Value) (n:Nat):((Array.range (n*zs.size)).map (fun i=>zs[i % zs.size]!)).toList=(List.replicate n zs.toList).flatten:=by
 apply List.ext_getElem?
 intro i
 rcases Nat.lt_or_ge i (n*zs.size) with h|h
 ·have hz:0<zs.size:=by
   rcases Nat.eq_zero_or_pos zs.size with e|e
   ·rw[e] at h;simp at h
   ·exact e
  have hm:i % zs.size<zs.size:=Nat.mod_lt _ hz
  rw[jT _ _ _ (by simpa using h)]
  simp[h,hm]
 ·rw[List.getElem?_eq_none (by simpa using h),List.getElem?_eq_none (by rw[cu];simpa using h)]
theorem oD (zs:Array Value) (n:Nat):(Builtin.zeroCells zs n).toList=(List.replicate n zs.toList).flatten:=lh zs n
theorem nu (zs:Array Value) (n:Nat):(Builtin.zeroCells zs n).size=n*zs.size:=by
 unfold Builtin.zeroCells;simp
section
variable {β:Lay} {P:Program} {w w0:World} {st:aa}
theorem Rps.jU {l:List LV} {vs:List Value} (h:Rps β l vs):∀ n,Rps β (List.replicate n l).flatten (List.replicate n vs).flatten
 | 0=>by simp[Rps]
 | n+1=>by simp only[List.replicate_succ,List.flatten_cons];exact h.append (Rps.jU h n)
theorem eS {e:TypeId} (h:mV P e=true):∃ z u,known P e=true∧eu P e=some z∧(∀ w,(zeroValue e).run P w=.ok u w)∧(∀ β,Rps β z.cells u.cells.toList)∧u.cells.size=szT P e∧z.cells.length=szT P e∧z.cells.all LV.one=true:=by
 unfold mV at h
 simp only[aF] at h
 obtain ⟨h1,h2⟩:=h
 split at h2
 ·rename_i z hz
  simp only[aF,beq_iff_eq] at h2
  obtain ⟨u,_,h4,i,hi,hu⟩:=dW (P:=P) (w:=default) hz
  refine ⟨z,u,h1,hz,fun w=>by simp[zeroValue,typeInfo,hi,hu],fun β=>(cR h4).cells (nh h4),?_,h2.1,h2.2⟩
  have:=((cR (β:=Lay.nil 0) h4).cells (nh h4)).length
  rw[← h2.1,← this];simp
 ·simp at h2
theorem gL {t e:TypeId} (h:jd P t=some e):P.underlying t=some (.slice e)∧mV P e=true:=by
 unfold jd at h
 split at h
 ·rename_i e' ht
  split at h
  ·rename_i ho;simp at h;subst h;exact ⟨ht,ho⟩
  ·simp at h
 ·simp at h
theorem oQ {sz n:Nat} {x:LV} {u:Value} {cs:List LV} (h:Rel w0 β st w) (hx:Rp β x u) (hs:fT st sz x=some (n,cs)) :
  (Builtin.lenOf u).run P w=.ok n w∧cs.length=n*sz∧∀ m,m≤n→∃ us:List Value,us.length=m*sz∧Rps β (cs.take (m*sz)) us∧∀ k,(Builtin.firstCells sz m u).run P { w with drawn:=k }=.ok ⟨us⟩ { w with drawn:=k }:=by
 unfold fT at hs
 split at hs
 ·simp only[Rp] at hx;subst hx;simp at hs;obtain ⟨rfl,rfl⟩:=hs
  refine ⟨rfl,by simp,fun m hm=>⟨[],by simp at hm;simp[hm],by simp[Rps],fun k=>rfl⟩⟩
 ·obtain ⟨a,c,rfl⟩:=hx;simp at hs;obtain ⟨rfl,rfl⟩:=hs
  refine ⟨rfl,by simp,fun m hm=>⟨[],by simp at hm;simp[hm],by simp[Rps],fun k=>?_⟩⟩
  simp at hm;subst hm
  simp[Builtin.firstCells,loadCells,loadCellsFrom]
 ·rename_i s
  simp only[Rp] at hx;subst hx
  split at hs
  ·rename_i h1
   subst h1
   simp only[ao,Prod.mk.injEq] at hs;obtain ⟨rfl,rfl⟩:=hs
   refine ⟨rfl,by simp,fun m hm=>⟨(s.take m).map fun b=>Value.int .u8 b.toNat,by simp;omega,?_,fun k=>?_⟩⟩
   ·rw[Nat.mul_one,← List.map_take]
    generalize s.take m=q
    induction q with
    | nil=>simp[Rps]
    | cons b q ih=>exact ⟨_,_,rfl,rfl,ih⟩
   ·simp only[Builtin.firstCells,an,lL]
    congr 1
    apply Array.ext'
    simp
  ·simp at hs
 ·rename_i o k len ci
  split at hs
  ·rename_i md l ho
   split at hs
   ·rename_i hn
    simp at hs;obtain ⟨rfl,rfl⟩:=hs
    obtain ⟨b,hb,hlen,rfl⟩:=hx
    refine ⟨rfl,by simp;omega,fun m hm=>?_⟩
    have hmn:m*sz≤len*sz:=Nat.mul_le_mul_right _ hm
    obtain ⟨us,h1,h2,h3⟩:=gq (P:=P) (n:=m*sz) (k:=k) h ho hb (by omega)
    refine ⟨us,h1,?_,fun j=>?_⟩
    ·rw[List.take_take,Nat.min_eq_left hmn];exact h3
    ·simp only[Builtin.firstCells]
     obtain ⟨vs,e1,e2,e3⟩:=h.cells ho hb (n:=m*sz) (k:=k) (by omega)
     have a1:=run_loadCells_list (P:=P) w ⟨b.blk,b.base+k,none⟩ vs (fun j v hv=>by rw[addr_add];exact e3 j v hv)
     have a2:=run_loadCells_list (P:=P) { w with drawn:=j } ⟨b.blk,b.base+k,none⟩ vs (fun j v hv=>by rw[addr_add];exact e3 j v hv)
     rw[e1] at a1 a2
     rw[a1] at h2
     simp only[Result.ok.injEq,Array.mk.injEq] at h2
     rw[a2,h2.1]
   ·simp at hs
  ·simp at hs
 ·rename_i cs0 len cap
  split at hs
  ·rename_i hn
   simp only[ao,Prod.mk.injEq] at hs;obtain ⟨rfl,rfl⟩:=hs
   obtain ⟨us,hus,a,c,rfl,hlc,hcap,hF⟩:=hx
   refine ⟨rfl,hn,fun m hm=>?_⟩
   have hmn:m*sz≤len*sz:=Nat.mul_le_mul_right _ hm
   rcases hF with ⟨hF,_⟩ | ⟨b,base,rfl,hF⟩
   ·subst hF
    have:m=0:=by omega
    subst this
    exact ⟨[],by simp,by simp[Rps],fun k=>by cases a<;>simp[Builtin.firstCells,loadCells,loadCellsFrom]⟩
   ·obtain ⟨vs,e1,e2,e3⟩:=h.um hus hF (n:=m*sz) (k:=0) (by omega)
    have e3':∀ (i:Nat) v,vs[i]?=some v→w.cell? ⟨b,base+i,none⟩=some v:=fun i v hv=>by simpa using e3 i v hv
    refine ⟨vs,e1,by simpa using e2,fun j=>?_⟩
    simp only[Builtin.firstCells]
    have a2:=run_loadCells_list (P:=P) { w with drawn:=j } ⟨b,base,none⟩ vs (fun i v hv=>by rw[addr_add];exact e3' i v hv)
    rw[e1] at a2
    exact a2
  ·simp at hs
 ·simp at hs
theorem oS (n:Nat):∀ (r c:Nat),256≤n→c≤2*n→Builtin.growBy n r c≤2*n
 | 0,c,_,h=>h
 | r+1,c,h0,h=>by
  unfold Builtin.growBy
  split
  ·exact h
  ·exact oS n r _ h0 (by omega)
theorem s9 {n c:Nat} (h:c<n):Builtin.nextslicecap n c≤2*n:=by
 unfold Builtin.nextslicecap
 split
 ·omega
 ·split
  ·omega
  ·exact oS n 4 c (by omega) (by omega)
theorem vz {n bytes:Nat} (h:dn n bytes=true):n*bytes≤2 ^ 47∧n≤2 ^ 47:=by
 unfold dn at h
 simp only[aF,decide_eq_true_eq] at h
 exact h
structure mw (P:Program) (ats:Array TypeId) (e:TypeId) (i:TypeInfo) (z:Value):Prop where
 a0:∃ t,ats[0]?=some t∧P.underlying t=some (.slice e)
 a1:∃ t d,ats[1]?=some t∧P.underlying t=some d∧∀ k,d≠.int k
 info:P.info? e=some i
 size:i.size=szT P e
 bytes:i.bytes=dV P e
 bpos:0<dV P e
 zero:i.zero=some z
theorem dz {ats:Array TypeId} {rt e:TypeId} {i:TypeInfo} {z:Value} (A:mw P ats e i z) {base:Option Addr} {sLen sCap n:Nat} {x:Value} {us:List Value} (hn:sLen+n≤sCap)
  (hl:(Builtin.lenOf x).run P w=.ok n w) (hf:(Builtin.firstCells (szT P e) n x).run P w=.ok ⟨us⟩ w) :
  (Builtin.append_ ats rt #[.slice base sLen sCap,x]).run P w =
   ((match base with
    | some a=>storeCells (a.add (sLen*szT P e)) us
    | none=>pure ()).run P w).andThen fun _ w'=>.ok (.slice base (sLen+n) sCap) w':=by
 obtain ⟨t0,ht0,hu0⟩:=A.a0
 obtain ⟨t1,d1,ht1,hu1,hd1⟩:=A.a1
 unfold Builtin.append_
 simp only[ht0,List.getElem?_toArray,bh,bE,ae,ai hu0,ab,ht1,ai hu1,an,sizeOf,typeInfo,run_program,A.info,A.size]
 cases d1 with
 | int k=>exact absurd rfl (hd1 k)
 | _=>
  simp only[Bool.false_eq_true,if_false,ae,hl,ab,if_pos hn,eN,if_true,hf]
  cases base with
  | none=>rfl
  | some q=>simp only[ae,an]
theorem ta {n b c:Nat} (hr:n*b≤2 ^ 47) (hc:c<n):¬ Builtin.nextslicecap n c*b > 2 ^ 48:=by
 have h1:=Nat.mul_le_mul_right b (s9 hc)
 have h2:2*n*b=2*(n*b):=Nat.mul_assoc _ _ _
 omega
theorem ig {ats:Array TypeId} {rt e:TypeId} {i:TypeInfo} {z:Value} (A:mw P ats e i z) {base:Option Addr} {sLen sCap n:Nat} {x:Value} {os us:List Value} (hn:sCap<sLen+n)
  (hr:dn (sLen+n) (dV P e)=true) (hzs:z.cells.size=szT P e)
  (hl:(Builtin.lenOf x).run P w=.ok n w) (ho:(Builtin.firstCells (szT P e) sLen (.slice base sLen sCap)).run P w.drew=.ok ⟨os⟩ w.drew)
  (hf:(Builtin.firstCells (szT P e) n x).run P w.drew=.ok ⟨us⟩ w.drew) (hos:os.length=sLen*szT P e) (hus:us.length=n*szT P e) :
  ∃ (newCap:Nat) (r:List Value),sLen+n≤newCap∧(os++us++r).length=newCap*szT P e∧
   (Builtin.append_ ats rt #[.slice base sLen sCap,x]).run P w=.ok (.slice (some ⟨w.heap.size,0,none⟩) (sLen+n) newCap) (w.drew.alloc (.cells ⟨os++us++r⟩ e)):=by
 obtain ⟨t0,ht0,hu0⟩:=A.a0
 obtain ⟨t1,d1,ht1,hu1,hd1⟩:=A.a1
 obtain ⟨hr1,hr2⟩:=vz hr
 refine ⟨(Question.appendCap (sLen+n) sCap e).cut (w.tape w.drawn (Question.appendCap (sLen+n) sCap e)),(Builtin.zeroCells z.cells ((Question.appendCap (sLen+n) sCap e).cut (w.tape w.drawn (Question.appendCap (sLen+n) sCap e))-(sLen+n))).toList,?_,?_,?_⟩
 ·simp only[Question.cut];omega
 ·have hge:sLen+n≤(Question.appendCap (sLen+n) sCap e).cut (w.tape w.drawn (Question.appendCap (sLen+n) sCap e)):=by simp only[Question.cut];omega
  generalize (Question.appendCap (sLen+n) sCap e).cut (w.tape w.drawn (Question.appendCap (sLen+n) sCap e))=c at hge
  have:=nu z.cells (c-(sLen+n))
  simp only[gg,Array.length_toList,this,hos,hus,hzs]
  rw[← Nat.add_mul,← Nat.add_mul]
  congr 1;omega
 ·unfold Builtin.append_
  simp only[ht0,List.getElem?_toArray,bh,bE,ae,ai hu0,ab,ht1,ai hu1,an,sizeOf,typeInfo,run_program,A.info,A.size]
  have hmax:¬ (((sLen+n:Nat):Int) > IntKind.i64.max):=by
   have:IntKind.i64.max=9223372036854775807:=by decide
   rw[this];omega
  have hbig:¬ Builtin.nextslicecap (sLen+n) sCap*i.bytes > 2 ^ 48:=by
   rw[A.bytes];exact ta hr1 hn
  have hforced:(Question.appendCap (sLen+n) sCap e).forced=false:=rfl
  cases d1 with
  | int k=>exact absurd rfl (hd1 k)
  | _=>
   simp only[Bool.false_eq_true,if_false,ae,hl,ab]
   rw[if_neg (by omega)]
   simp only[ae,run_program,ab,A.info,an]
   rw[if_neg (fun e=>hmax e.1)]
   simp only[ae,run_program,ab,A.info,an]
   rw[if_neg hbig]
   simp only[ae,run_choose,hforced,Bool.false_eq_true,if_false,ab,run_program,A.info,an,run_askRoom,World.drew_eq,ho,hf,eN,if_true,zeroValue,typeInfo,A.zero,newRow,run_newObj]
   congr 2
   ·apply Array.ext';simp
end
section
variable {β:Lay} {P:Program} {w w0:World} {st:aa}
def eT (w0:World) (β:Lay) (v:LV) (st':aa) (u:Value) (w':World):Prop:=
 ∃ β',Rp β' v u∧Rel w0 β' st' w'∧β.le β'
theorem td {ats:Array TypeId} {e:TypeId} (h1:1<ats.size) (h2:sS P (ats.getD 1 0)=false) (h3:(P.underlying (ats.getD 1 0)).isSome=true) (he:jd P (ats.getD 0 0)=some e)
  (hb:0<dV P e):∃ i z,mw P ats e i z∧z.cells.size=szT P e:=by
 obtain ⟨ht,ho⟩:=gL he
 obtain ⟨z,u,hk,hz,hrun,hrel,hsz,hlen,hone⟩:=eS ho
 obtain ⟨u',_,h5,i,hi,hu⟩:=dW (P:=P) (w:=default) hz
 have:u'=u:=by
  have a:=hrun default
  simp[zeroValue,typeInfo,hi,hu] at a
  exact a
 subst this
 obtain ⟨d,hd⟩:=Option.isSome_iff_exists.1 h3
 refine ⟨i,u',⟨⟨ats.getD 0 0,by simp[Array.getD_eq_getD_getElem?,Nat.lt_trans Nat.zero_lt_one h1],ht⟩,⟨ats.getD 1 0,d,by simp[Array.getD_eq_getD_getElem?,h1],hd,?_⟩,hi,by simp[szT,hi],by simp[dV,hi],hb,hu⟩,hsz⟩
 intro k e;subst e
 unfold sS at h2
 rw[hd] at h2
 simp at h2
theorem Rel.old {o k len:Nat} {m:Md} {l:List LV} {b:Bl} {sz c:Nat} (h:Rel w0 β st w) (ho:st[o]?=some (.cells m l)) (hb:β o=some b) (hn:k+len*sz≤l.length) :
  ∃ os:List Value,os.length=len*sz∧Rps β ((l.drop k).take (len*sz)) os∧(Builtin.firstCells sz len (.slice (some ⟨b.blk,b.base+k,none⟩) len c)).run P w.drew=.ok ⟨os⟩ w.drew:=by
 obtain ⟨us,h1,h2,h3⟩:=gq (P:=P) (k:=k) h.draw ho hb hn
 exact ⟨us,h1,h3,h2⟩
theorem Rel.te {e:TypeId} {m0:Md} {l:List LV} {vs r:List Value} (hm0:m0=.rw∨m0=.ro∨m0=.bt e) (h:Rel w0 β st w) (hl:Rps β l vs) :
  Rel w0 (β.put st.length ⟨w.heap.size,0,(vs++r).length⟩) (st++[.cells m0 l]) (w.drew.alloc (.cells ⟨vs++r⟩ e)):=by
 have:=(h.draw).alloc (m:=m0) (l:=l) (c:=⟨vs++r⟩) (e:=e) (fz:=(0,0)) (by simp[hl.length]) (fun i x hx=>by
  obtain ⟨u,hu,ru⟩:=hl.get hx
  refine ⟨u,?_,ru⟩
  have hi:i<vs.length:=by
   rcases Nat.lt_or_ge i vs.length with k|k
   ·exact k
   ·simp[List.getElem?_eq_none k] at hu
  simp only[List.getElem?_toArray]
  rw[bH hi];exact hu) (by simp) hm0
 simpa using this
theorem gr {n c sz a b:Nat} (hsz:0<sz) (hn:n≤c):n≤(cK.rest sz).cap ⟨a,b,c*sz⟩ 0∧(cK.rest sz).cap ⟨a,b,c*sz⟩ 0=c:=by
 simp only[cK.cap,Nat.sub_zero,Nat.mul_div_cancel _ hsz]
 exact ⟨hn,trivial⟩
theorem Rel.move {o k:Nat} {md md':Md} {l l':List LV} {b:Bl} (h:Rel w0 β st w) (ho:st[o]?=some (.cells md l)) (hmd:md.w=true) (hmd':md'=.rw∨md'=md∧k=0) (hb:β o=some b) (hk:k≤b.room) (hl:l'=l.drop k) :
  Rel w0 (β.put st.length ⟨b.blk,b.base+k,b.room-k⟩) (st.set o .dead++[.cells md' l']) w:=by
 have hd:Rel w0 β (st.set o .dead) w:=h.weaken ho (by simp[al.rw]) (by simp[al.live]) (fun _=>trivial)
 have hlen:(st.set o .dead).length=st.length:=by simp
 rw[← hlen]
 have hlt:=h.lt hb
 refine hd.push ?_ ?_ fun _=>h.sepf o _ b ho hmd hb
 ·intro i y b' hy hyl hb'
  by_cases e:i=o
  ·subst e;simp[hlt] at hy;subst hy;simp[al.live] at hyl
  ·have hy':st[i]?=some y:=by simpa[List.getElem?_set,Ne.symm e] using hy
   exact fun e'=>h.sep o i _ y b b' ho hmd hy' hyl (Ne.symm e) hb hb' e'.symm
 ·obtain ⟨b',hb',c,e,fz,hh,h1,h2,h3,h4⟩:=h.obj o _ ho
  rw[hb] at hb';cases hb'
  have hle:β.le (β.put (st.set o .dead).length ⟨b.blk,b.base+k,b.room-k⟩):=Lay.cf (hd.dom _ (Nat.le_refl _))
  refine ⟨_,Lay.aM,c,e,fz,hh,by simp;omega,by subst hl;simp;omega,?_,?_⟩
  rotate_left
  ·rcases hmd' with rfl|⟨rfl,rfl⟩
   ·exact ⟨fun _=>h4.1 hmd,by rintro t ⟨⟩,by rintro g n ⟨⟩⟩
   ·exact h4
  intro i x hx
  subst hl
  rw[List.getElem?_drop] at hx
  obtain ⟨u,hu,r⟩:=h3 _ _ hx
  exact ⟨u,by simpa[Nat.add_assoc] using hu,r.mono hle⟩
theorem jV {m us:List Value} {k L:Nat} (h:k+us.length≤L) (hL:L≤m.length):bJ (m.take L) k us=(bJ m k us).take L:=by
 unfold bJ
 have h1:(m.take k++us).length=k+us.length:=by simp;omega
 rw[List.take_append,List.take_of_length_le (l:=m.take k++us) (by omega),h1,List.take_take,Nat.min_eq_left (by omega),List.drop_take]
theorem q8 {m us:List Value} {k L:Nat} (h:k≤L) (hL:L≤m.length):(m.take L).take k++us=(bJ m k us).take (k+us.length):=by
 unfold bJ
 have h1:(m.take k++us).length=k+us.length:=by simp;omega
 rw[List.take_append,List.take_of_length_le (l:=m.take k++us) (by omega),h1,List.take_take,Nat.min_eq_left h,Nat.sub_self,List.take_zero,List.append_nil]
theorem fw {l vs:List LV} {k:Nat} (h:k+vs.length≤l.length):(bu l k vs).length=l.length:=by
 unfold CP.bu;simp;omega
theorem pO {ats:Array TypeId} {rt e:TypeId} {i:TypeInfo} {z:Value} {s x v:LV} {p q:Value} {st':aa} (A:mw P ats e i z) (hzs:z.cells.size=szT P e) (hpos:0<szT P e)
  {m0:Md} (hm0:m0=.rw∨m0=.bt e)
  (h:Rel w0 β st w) (hs:Rp β s p) (hx:Rp β x q) (ha:a6 st (szT P e) (dV P e) m0 s x=some (v,st')) :
  ∃ u w',(Builtin.append_ ats rt #[p,q]).run P w=.ok u w'∧eT w0 β v st' u w':=by
 have hm1:m0=.rw∨m0=.ro∨m0=.bt e:=hm0.elim .inl fun k=>.inr (.inr k)
 unfold a6 at ha
 split at ha
 ·simp at ha
 ·rename_i n new hsrc
  obtain ⟨hl,hnl,hf⟩:=oQ (P:=P) h hx hsrc
  obtain ⟨us,hus,rus,fus⟩:=hf n (Nat.le_refl _)
  rw[List.take_of_length_le (by omega)] at rus
  have fus0:(Builtin.firstCells (szT P e) n q).run P w=.ok ⟨us⟩ w:=fus w.drawn
  have fus1:(Builtin.firstCells (szT P e) n q).run P w.drew=.ok ⟨us⟩ w.drew:=fus (w.drawn+1)
  split at ha
  ·simp only[Rp] at hs;subst hs
   split at ha
   ·rename_i hn;subst hn
    simp at ha;obtain ⟨rfl,rfl⟩:=ha
    refine ⟨.slice none 0 0,w,?_,β,rfl,h,Lay.le.refl _⟩
    rw[dz A (by omega) hl fus0];rfl
   ·rename_i hn
    split at ha
    ·rename_i hr
     simp at ha;obtain ⟨rfl,rfl⟩:=ha
     obtain ⟨c,r,hc1,hc2,hrun⟩:=ig (rt:=rt) A (base:=none) (sLen:=0) (sCap:=0) (os:=[]) (by omega) (by simpa using hr) hzs hl (by rfl) fus1 (by simp) hus
     simp only[aR,av] at hrun hc1 hc2
     refine ⟨_,_,hrun,_,?_,h.te hm1 rus,Lay.cf (h.dom _ (Nat.le_refl _))⟩
     rw[hc2]
     exact ⟨_,Lay.aM,(gr hpos hc1).1,by rw[(gr hpos hc1).2]⟩
    ·simp at ha
  ·obtain ⟨a,c,rfl⟩:=hs
   split at ha
   ·rename_i hn;subst hn
    simp at ha;obtain ⟨rfl,rfl⟩:=ha
    have hu0:us=[]:=List.eq_nil_of_length_eq_zero (by simpa using hus)
    subst hu0
    refine ⟨.slice (some a) 0 c,w,?_,β,⟨a,c,rfl⟩,h,Lay.le.refl _⟩
    rw[dz A (by omega) hl fus0]
    simp[storeCells]
   ·simp at ha
  ·rename_i o k len ci
   obtain ⟨b,hb,hlen,rfl⟩:=hs
   split at ha
   ·rename_i hn;subst hn
    simp at ha;obtain ⟨rfl,rfl⟩:=ha
    have hu0:us=[]:=List.eq_nil_of_length_eq_zero (by simpa using hus)
    subst hu0
    refine ⟨.slice (some ⟨b.blk,b.base+k,none⟩) len (ci.cap b k),w,?_,β,⟨b,hb,hlen,rfl⟩,h,Lay.le.refl _⟩
    rw[dz A (by omega) hl fus0]
    simp[storeCells]
   ·rename_i hn
    split at ha
    ·rename_i m l ho
     -- what happens where there is room
     have inplace:∀ {c:Nat},m.w=true→k+(len+n)*szT P e≤l.length→new.all LV.one=true→len+n≤c→
       ∃ w',(Builtin.append_ ats rt #[.slice (some ⟨b.blk,b.base+k,none⟩) len c,q]).run P w=.ok (.slice (some ⟨b.blk,b.base+k,none⟩) (len+n) c) w'∧
        Rel w0 β (st.set o (.cells m (CP.bu l (k+len*szT P e) new))) w':=by
      intro c hm hfit hone hc
      obtain ⟨b',hb',c',e',fz,hh,h1,h2,h3,h4⟩:=h.obj o _ ho
      rw[hb] at hb';cases hb'
      have hmul:(len+n)*szT P e=len*szT P e+n*szT P e:=Nat.add_mul _ _ _
      obtain ⟨w',hw1,hw2⟩:=h.bu (P:=P) (k:=k+len*szT P e) (l':=CP.bu l (k+len*szT P e) new) (us:=us) ho hm hb (by omega) (gK rus hone)
       (by rw[fw (l:=l) (vs:=new) (k:=k+len*szT P e) (by omega)];exact h2)
       (by
        intro mm hmm hrel
        rw[fw (l:=l) (vs:=new) (k:=k+len*szT P e) (by omega)]
        have:=(hrel.bu (k+len*szT P e) rus)
        rwa [jV (by omega) (by omega)] at this)
      refine ⟨w',?_,hw2⟩
      rw[dz A hc hl fus0]
      simp only[addr_add]
      rw[show b.base+k+len*szT P e=b.base+(k+len*szT P e) from by omega,hw1];rfl
     have realloc:∀ {c:Nat},k+len*szT P e≤l.length→dn (len+n) (dV P e)=true→c<len+n→
       ∃ (nc:Nat) (r os:List Value),len+n≤nc∧(os++us++r).length=nc*szT P e∧Rps β ((l.drop k).take (len*szT P e)) os∧
        (Builtin.append_ ats rt #[.slice (some ⟨b.blk,b.base+k,none⟩) len c,q]).run P w=.ok (.slice (some ⟨w.heap.size,0,none⟩) (len+n) nc) (w.drew.alloc (.cells ⟨os++us++r⟩ e)):=by
      intro c hk hr hc
      obtain ⟨os,ho1,ho2,ho3⟩:=h.old (P:=P) (sz:=szT P e) (c:=c) ho hb hk
      obtain ⟨nc,r,hc1,hc2,hrun⟩:=ig (rt:=rt) A hc hr hzs hl ho3 fus1 ho1 hus
      exact ⟨nc,r,os,hc1,hc2,ho2,hrun⟩
     split at ha
     ·rename_i c
      simp only[cK.cap] at hlen ⊢
      split at ha
      ·rename_i hc
       split at ha
       ·rename_i hcond
        simp at ha;obtain ⟨rfl,rfl⟩:=ha
        obtain ⟨w',h1,h2⟩:=inplace hcond.1 hcond.2.1 hcond.2.2 hc
        exact ⟨_,w',h1,β,⟨b,hb,hc,rfl⟩,h2,Lay.le.refl _⟩
       ·simp at ha
      ·rename_i hc
       split at ha
       ·rename_i hcond
        simp at ha;obtain ⟨rfl,rfl⟩:=ha
        obtain ⟨nc,r,os,hc1,hc2,ho2,hrun⟩:=realloc (c:=c) hcond.2 hcond.1 (by omega)
        refine ⟨_,_,hrun,_,?_,h.te hm1 (ho2.append rus),Lay.cf (h.dom _ (Nat.le_refl _))⟩
        rw[hc2]
        exact ⟨_,Lay.aM,(gr hpos hc1).1,by rw[(gr hpos hc1).2]⟩
       ·simp at ha
     ·rename_i s
      split at ha
      ·rename_i hcond
       obtain ⟨rfl,hmw,hone⟩:=hcond
       simp only[cK.cap] at hlen ⊢
       obtain ⟨b',hb',c',e',fz,hh,h1,h2,h3,h4⟩:=h.obj o _ ho
       rw[hb] at hb';cases hb'
       split at ha
       ·rename_i hfit
        simp at ha;obtain ⟨rfl,rfl⟩:=ha
        have hc:len+n≤(b.room-k) / szT P e:=by
         rw[Nat.le_div_iff_mul_le hpos];omega
        obtain ⟨w',h5,h6⟩:=inplace hmw hfit hone hc
        exact ⟨_,w',h5,β,⟨b,hb,hc,rfl⟩,h6,Lay.le.refl _⟩
       ·split at ha
        ·rename_i hfit hcond
         simp at ha;obtain ⟨rfl,rfl⟩:=ha
         by_cases hc:len+n≤(b.room-k) / szT P e
         ·-- in place,beyond what the object holds
          have hfitr:(len+n)*szT P e≤b.room-k:=(Nat.le_div_iff_mul_le hpos).1 hc
          have hmul:(len+n)*szT P e=len*szT P e+n*szT P e:=Nat.add_mul _ _ _
          have hnz:0<n*szT P e:=Nat.mul_pos (by omega) hpos
          obtain ⟨w',hw1,hw2⟩:=h.bu (P:=P) (k:=k+len*szT P e) (l':=l.take (k+len*szT P e)++new) (us:=us) ho hmw hb (by omega) (gK rus hone)
           (by simp;omega)
           (by
            intro mm hmm hrel
            have hh1:=(hrel.take (k+len*szT P e)).append rus
            rw[q8 (by omega) (by omega)] at hh1
            have e1:(l.take (k+len*szT P e)++new).length=k+len*szT P e+us.length:=by simp[hnl,hus];omega
            rw[e1];exact hh1)
          have hlt:=h.lt hb
          have hjoin:ez m m0 k=.rw∨ez m m0 k=m∧k=0:=by
           unfold ez;split
           ·rename_i hj;exact .inr ⟨rfl,hj.2⟩
           ·exact .inl rfl
          have hset:(st.set o (.cells m (l.take (k+len*szT P e)++new)))[o]?=some (.cells m (l.take (k+len*szT P e)++new)):=by simp[hlt]
          have hmv:=hw2.move (k:=k) (l':=(l.drop k).take (len*szT P e)++new) (md':=ez m m0 k) hset hmw hjoin hb (by omega) (by
           rw[List.drop_append_of_le_length (by simp;omega),List.drop_take,Nat.add_sub_cancel_left])
          simp only[List.set_set,List.length_set] at hmv
          refine ⟨.slice (some ⟨b.blk,b.base+k,none⟩) (len+n) ((b.room-k) / szT P e),w',?_,_,?_,hmv,Lay.cf (h.dom _ (Nat.le_refl _))⟩
          ·rw[dz A hc hl fus0]
           simp only[addr_add]
           rw[show b.base+k+len*szT P e=b.base+(k+len*szT P e) from by omega,hw1];rfl
          ·refine ⟨_,Lay.aM,?_,?_⟩
           ·simpa[cK.cap] using hc
           ·simp[cK.cap]
         ·obtain ⟨nc,r,os,hc1,hc2,ho2,hrun⟩:=realloc (c:=(b.room-k) / szT P e) hcond.2 hcond.1 (by omega)
          have hd:Rel w0 β (st.set o .dead) w:=h.weaken ho (by simp[al.rw]) (by simp[al.live]) (fun _=>trivial)
          have hnew:=hd.te (e:=e) (r:=r) (m0:=ez m m0 k) (by
           unfold ez;split
           ·rename_i hj;rw[hj.1];exact hm1
           ·exact .inl rfl) (ho2.append rus)
          simp only[List.length_set] at hnew
          refine ⟨_,_,hrun,_,?_,hnew,Lay.cf (h.dom _ (Nat.le_refl _))⟩
          rw[hc2]
          exact ⟨_,Lay.aM,(gr hpos hc1).1,by rw[(gr hpos hc1).2]⟩
        ·simp at ha
      ·simp at ha
    ·simp at ha
  ·simp at ha
end
end Go.CP
