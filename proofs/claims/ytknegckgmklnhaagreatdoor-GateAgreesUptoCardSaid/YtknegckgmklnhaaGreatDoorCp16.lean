/- Parts of the proof. -/
import Derived.Test.YtknegckgmklnhaaGreatDoorCp14
namespace Go.CP
section
variable {β:Lay} {P:Program} {w w0:World} {st:aa}
theorem Rel.write {o k:Nat} {md:Md} {l new:List LV} {b:Bl} {us:List Value} (h:Rel w0 β st w) (ho:st[o]?=some (.cells md l)) (hmd:md.w=true) (hb:β o=some b) (rus:Rps β new us)
  (hk:k+new.length≤l.length) (hone:new.all LV.one=true) :
  ∃ w',(storeCells ⟨b.blk,b.base+k,none⟩ us 0).run P w=.ok () w'∧Rel w0 β (st.set o (.cells md (CP.bu l k new))) w':=by
 obtain ⟨b',hb',c',e',fz,hh,h1,h2,h3,h4⟩:=h.obj o _ ho
 rw[hb] at hb';cases hb'
 have hul:=rus.length
 exact h.bu (P:=P) (k:=k) (l':=CP.bu l k new) (us:=us) ho hmd hb (by omega) (gK rus hone)
  (by rw[fw (l:=l) (vs:=new) (k:=k) (by omega)];exact h2)
  (by
   intro mm hmm hrel
   rw[fw (l:=l) (vs:=new) (k:=k) (by omega)]
   have:=hrel.bu k rus
   rwa [jV (by omega) (by omega)] at this)
theorem tf {l:List LV} {k:Nat} {v:LV} (h:k<l.length):bu l k [v]=l.set k v:=by
 unfold CP.bu
 rw[List.set_eq_take_append_cons_drop,if_pos h]
 simp
theorem q9 {ty:TypeId} {p v:LV} {a u:Value} {st':aa} (h:Rel w0 β st w) (hp:Rp β p a) (hv:Rp β v u) (hs:sJ P st ty p v=some st') :
  ∃ w',(Instr.storeAt ty a u).run P w=.ok () w'∧Rel w0 β st' w':=by
 unfold sJ at hs
 split at hs
 case isFalse=>simp at hs
 rename_i hk
 unfold stV at hs
 split at hs
 ·rename_i hc
  obtain ⟨hc1,hvok⟩:=hc
  have hcells:=hv.cells hvok
  have hsz:u.cells.size=szT P ty:=by rw[← hc1,← hcells.length];simp
  have hgo:∀ {o k:Nat} {md:Md} {l:List LV} {b:Bl},st[o]?=some (.cells md l)→md.w=true→β o=some b→a=.pointer (some ⟨b.blk,b.base+k,none⟩)→k+v.cells.length≤l.length→v.cells.all LV.one=true→
    ∃ w',(Instr.storeAt ty a u).run P w=.ok () w'∧Rel w0 β (st.set o (.cells md (CP.bu l k v.cells))) w':=by
   intro o k md l b ho hmd hb ha hk' hone
   subst ha
   obtain ⟨w',h1,h2⟩:=h.write (P:=P) ho hmd hb hcells hk' hone
   refine ⟨w',?_,h2⟩
   unfold Instr.storeAt storeVar
   simp only[Instr.sureAddr,ae,an,ab,run_sizeOf' hk]
   rw[if_neg (by simpa using hsz)]
   exact h1
  split at hs
  ·rename_i cs
   unfold stA at hs
   split at hs
   ·rename_i o k
    split at hs
    ·rename_i md l ho
     split at hs
     ·rename_i hcond
      simp at hs;subst hs
      obtain ⟨b,hb,ha⟩:=hp
      exact hgo ho hcond.2.2 hb ha hcond.1 hcond.2.1
     ·simp at hs
    ·simp at hs
   ·simp at hs
  ·rename_i hna
   have hcs:v.cells=[v]:=by
    cases v<;>first|rfl|exact absurd rfl (hna _)
   unfold st1 at hs
   split at hs
   ·rename_i o k
    split at hs
    ·rename_i md l ho
     split at hs
     ·rename_i hcond
      simp at hs;subst hs
      obtain ⟨b,hb,ha⟩:=hp
      have:=hgo ho hcond.2.2 hb ha (by rw[hcs];simp;omega) (by rw[hcs];simpa using hcond.2.1)
      rw[hcs,tf hcond.1] at this
      exact this
     ·simp at hs
    ·simp at hs
   ·simp at hs
 ·simp at hs
theorem Rel.newObj {e:TypeId} {m0:Md} {l:List LV} {vs:List Value} (h:Rel w0 β st w) (hl:Rps β l vs)
  (hm0:m0=.rw∨m0=.ro∨m0=.bt e:=by first|exact .inl rfl|exact .inr (.inr rfl)) :
  Rel w0 (β.put st.length ⟨w.heap.size,0,vs.length⟩) (st++[.cells m0 l]) (w.alloc (.cells ⟨vs⟩ e)):=by
 have:=h.alloc (m:=m0) (l:=l) (c:=⟨vs⟩) (e:=e) (fz:=(0,0)) (by simp[hl.length]) (fun i x hx=>by
  obtain ⟨u,hu,ru⟩:=hl.get hx
  exact ⟨u,by simpa using hu,ru⟩) (by simp) hm0
 simpa using this
theorem ra {e:TypeId} {z:LV} (h:Rel w0 β st w) (hz:eu P e=some z) :
  ∃ u w',(Instr.alloc e true (.tuple #[])).run P w=.ok u w'∧eT w0 β (jx P e st z.cells).1 (jx P e st z.cells).2 u w':=by
 have hm:jx P e st z.cells=(.ptr st.length 0,st++[.cells (if zJ P e then .bt e else .rw) z.cells]):=by
  unfold jx yy zy;split<;>rfl
 rw[hm]
 obtain ⟨u,h1,h2,_⟩:=dW (w:=w) hz
 have hc:=(cR (β:=β) h2).cells (nh h2)
 refine ⟨.pointer (some ⟨w.heap.size,0,none⟩),w.alloc (.cells u.cells e),?_,_,⟨_,Lay.aM,rfl⟩,h.newObj hc (by split;exact .inr (.inr rfl);exact .inl rfl),Lay.cf (h.dom _ (Nat.le_refl _))⟩
 unfold Instr.alloc
 simp only[ae,h1,ab,newVar,newRow,run_newObj,an]
 rfl
theorem vA {e:TypeId} {v:LV} {u:Value} (h:Rel w0 β st w) (hv:Rp β v u) (hok:v.ok=true) :
  ∃ u' w',(Instr.box e u).run P w=.ok u' w'∧eT w0 β (.ptr st.length 0) (st++[.cells .rw v.cells]) u' w':=by
 refine ⟨.pointer (some ⟨w.heap.size,0,none⟩),w.alloc (.cells u.cells e),?_,_,⟨_,Lay.aM,rfl⟩,h.newObj (hv.cells hok),Lay.cf (h.dom _ (Nat.le_refl _))⟩
 unfold Instr.box
 simp only[ae,ab,newVar,newRow,run_newObj,an]
 rfl
theorem oT {place:Nat→Option (Nat × Nat)}:∀ {ps:List (Nat × LV)} {cells r:List LV},aV place cells ps=some r→r.length=cells.length
 | [],cells,r,h=>by simp[aV] at h;subst h;rfl
 | (i,v)::ps,cells,r,h=>by
  simp only[aV] at h
  split at h
  ·simp at h
  ·rename_i off size hp
   split at h
   ·rename_i hs
    rw[oT h,fw (by omega)]
   ·simp at h
theorem lj {ty:TypeId} {n:Nat} {ps:List (Nat × LV)} {qs:List (Nat × Value)} {cs:List LV} (h:Rel w0 β st w) (h1:ps.map (·.1)=qs.map (·.1)) (h2:Rps β (ps.map (·.2)) (qs.map (·.2)))
  (hb:ia P ty n ps=some cs):∃ u w',(Instr.buildSlice ty n ⟨qs⟩).run P w=.ok u w'∧eT w0 β (.sl st.length 0 n (.ex n)) (st++[.cells .rw cs]) u w':=by
 unfold ia at hb
 split at hb
 ·rename_i e ht
  split at hb
  ·rename_i hc
   obtain ⟨z,u,hk,hz,hrun,hrel,husz,hlen,_⟩:=eS hc.2
   rw[hz] at hb
   simp only at hb
   -- the row of zeros
   have hrow:∃ zs:Array Value,(n*szT P e=0→zs = #[])∧(¬ n*szT P e=0→zs=u.cells)∧
     Rps β (List.replicate n z.cells).flatten (((Array.range (n*szT P e)).map (fun i=>zs[i % zs.size]!)).toList):=by
    by_cases h0:n*szT P e=0
    ·refine ⟨#[],fun _=>rfl,fun h=>absurd h0 h,?_⟩
     rw[h0]
     have:(List.replicate n z.cells).flatten=[]:=List.eq_nil_of_length_eq_zero (by rw[cu,hlen,h0])
     rw[this];simp[Rps]
    ·refine ⟨u.cells,fun h=>absurd h h0,fun _=>rfl,?_⟩
     rw[← husz,lh]
     exact (hrel β).jU n
   obtain ⟨zs,hz0,hz1,hz2⟩:=hrow
   obtain ⟨cs',hf1,hf2⟩:=gH h1 h2 hz2 hb
   have hsize:cs'.size=n*szT P e:=by
    have a:=hf2.length
    have b:=oT hb
    rw[cu,hlen] at b
    rw[Array.length_toList] at a
    omega
   refine ⟨.slice (some ⟨w.heap.size,0,none⟩) n n,w.alloc (.cells cs' e),?_,_,⟨_,Lay.aM,Nat.le_refl _,rfl⟩,h.newObj hf2,Lay.cf (h.dom _ (Nat.le_refl _))⟩
   unfold Instr.buildSlice
   simp only[ae,ai ht,ab,run_sizeOf' hk]
   rw[if_neg (by omega)]
   by_cases h0:n*szT P e=0
   ·rw[if_pos h0]
    have:=hz0 h0;subst this
    simp only[ae,an,ab,hf1,newRow,run_newObj]
    rfl
   ·rw[if_neg h0]
    have:=hz1 h0;subst this
    simp only[ae,an,ab,hrun,hf1,newRow,run_newObj]
    rfl
  ·simp at hb
 ·simp at hb
theorem oE {ty:TypeId} (h:Rel w0 β st w):∃ u w',(Instr.makeMap ty none).run P w=.ok u w'∧eT w0 β (.map st.length) (st++[.map .rw [] [] 0]) u w':=
 ⟨.map (some w.heap.size),w.alloc (.map #[] 0),rfl,_,⟨_,Lay.aM,rfl⟩,h.allocMap,Lay.cf (h.dom _ (Nat.le_refl _))⟩
theorem uo {n:Int} (h0:0≤n) (h:n≤2 ^ 47):IntKind.i64.wrap n=n:=by
 exact IntWalk.i64_in n ⟨by omega,by omega⟩
theorem mn {ty e:TypeId} {l c v:LV} {a b:Value} {z:LV} {st':aa} (h:Rel w0 β st w) (ha:Rp β l a) (hb:Rp β c b) (he:jd P ty=some e) (hz:eu P e=some z)
  (hm:pI (dV P e) z.cells st l c=some (v,st')):∃ u w',(Instr.makeSlice ty a b).run P w=.ok u w'∧eT w0 β v st' u w':=by
 obtain ⟨ht,ho⟩:=gL he
 obtain ⟨z',u,hk,hz',hrun,hrel,husz,hlen,_⟩:=eS ho
 rw[hz] at hz';cases hz'
 unfold pI at hm
 split at hm
 ·rename_i l c
  simp only[Rp] at ha hb;subst ha;subst hb
  split at hm
  ·rename_i hc
   obtain ⟨h0,h1,h2,h3⟩:=hc
   simp at hm;obtain ⟨rfl,rfl⟩:=hm
   obtain ⟨i,hi⟩:=jz hk
   have hby:i.bytes=dV P e:=by simp[dV,hi]
   have hrow:∃ zs:Array Value,(c.toNat*szT P e=0→zs = #[])∧(¬ c.toNat*szT P e=0→zs=u.cells)∧
     Rps β (List.replicate c.toNat z.cells).flatten (((Array.range (c.toNat*szT P e)).map (fun i=>zs[i % zs.size]!)).toList):=by
    by_cases h0:c.toNat*szT P e=0
    ·refine ⟨#[],fun _=>rfl,fun h=>absurd h0 h,?_⟩
     rw[h0]
     have:(List.replicate c.toNat z.cells).flatten=[]:=List.eq_nil_of_length_eq_zero (by rw[cu,hlen,h0])
     rw[this];simp[Rps]
    ·refine ⟨u.cells,fun h=>absurd h h0,fun _=>rfl,?_⟩
     rw[← husz,lh]
     exact (hrel β).jU c.toNat
   obtain ⟨zs,hz0,hz1,hz2⟩:=hrow
   refine ⟨.slice (some ⟨w.heap.size,0,none⟩) l.toNat c.toNat,w.alloc (.cells ((Array.range (c.toNat*szT P e)).map (fun i=>zs[i % zs.size]!)) e),?_,_,⟨_,Lay.aM,?_,rfl⟩,h.newObj hz2,Lay.cf (h.dom _ (Nat.le_refl _))⟩
   ·unfold Instr.makeSlice
    simp only[ae,ai ht,ab,asInt,asIntOf,an,typeInfo,run_program,hi,uo h0 (by omega),uo (by omega:0≤c) h3,hby]
    have hb1:((dV P e:Int)*c > 2 ^ 48)=False:=by
     rw[eq_iff_iff,iff_false,Int.mul_comm];omega
    have hb2:(c<0)=False:=by rw[eq_iff_iff,iff_false];omega
    have hb3:(l<0)=False:=by rw[eq_iff_iff,iff_false];omega
    have hb4:(l > c)=False:=by rw[eq_iff_iff,iff_false];omega
    simp only[hb1,hb2,hb3,hb4,ft,Bool.or_self,Bool.false_eq_true,if_false,ae,run_askRoom,ab,run_sizeOf' hk]
    by_cases h0:c.toNat*szT P e=0
    ·rw[if_pos h0]
     have:=hz0 h0;subst this
     simp only[ae,an,ab,newRow,run_newObj]
     rfl
    ·rw[if_neg h0]
     have:=hz1 h0;subst this
     simp only[ae,an,ab,hrun,newRow,run_newObj]
     rfl
   ·simp[cK.cap];omega
  ·simp at hm
 ·simp at hm
theorem rb {ats:Array TypeId} {rt e:TypeId} {z x:LV} {u:Value} {st':aa} (h:Rel w0 β st w) (hx:Rp β x u) (h0:0<ats.size) (he:jd P (ats.getD 0 0)=some e) (hz:eu P e=some z)
  (hc:sO st z.cells x=some st'):∃ w',(Builtin.clear_ ats rt #[u]).run P w=.ok (.tuple #[]) w'∧Rel w0 β st' w':=by
 obtain ⟨ht,ho⟩:=gL he
 obtain ⟨z',q,hk,hz',hrun,hrel,husz,hlen,hone⟩:=eS ho
 rw[hz] at hz';cases hz'
 have ha:ats[0]?=some (ats.getD 0 0):=by simp[Array.getD_eq_getD_getElem?,h0]
 unfold Builtin.clear_
 simp only[ha,List.getElem?_toArray,bh,ae,ai ht,ab]
 unfold sO at hc
 split at hc
 ·simp only[Rp] at hx;subst hx;simp at hc;subst hc
  exact ⟨w,rfl,h⟩
 ·obtain ⟨a,c,rfl⟩:=hx;simp at hc;subst hc
  exact ⟨w,rfl,h⟩
 ·obtain ⟨b,_,_,rfl⟩:=hx;simp at hc;subst hc
  exact ⟨w,rfl,h⟩
 ·rename_i o k n ci hn
  obtain ⟨b,hb,_,rfl⟩:=hx
  split at hc
  ·rename_i l ho'
   split at hc
   ·rename_i hcond
    simp at hc;subst hc
    have hl:((List.replicate n z.cells).flatten).length=n*z.cells.length:=cu _ _
    have hall:((List.replicate n z.cells).flatten).all LV.one=true:=by
     rw[List.all_eq_true]
     intro y hy
     rw[List.mem_flatten] at hy
     obtain ⟨l',hl',hy⟩:=hy
     rw[List.mem_replicate] at hl'
     rw[hl'.2] at hy
     exact List.all_eq_true.1 hcond.2.1 y hy
    obtain ⟨w',h1,h2⟩:=h.write (P:=P) ho' hcond.2.2 hb ((hrel β).jU n) (by rw[hl];exact hcond.1) hall
    refine ⟨w',?_,h2⟩
    obtain ⟨n,rfl⟩:∃ m,n=m+1:=⟨n-1,by
     cases n with
     | zero=>exact (hn rfl).elim
     | succ n=>rfl⟩
    simp only[ae,hrun,ab,oD,h1,an]
   ·simp at hc
  ·simp at hc
 ·simp at hc
theorem tg {ats:Array TypeId} {rt e:TypeId} {d x v:LV} {p q:Value} {st':aa} (h:Rel w0 β st w) (hd:Rp β d p) (hx:Rp β x q) (h0:0<ats.size) (he:jd P (ats.getD 0 0)=some e)
  (hc:wz st (szT P e) d x=some (v,st')):∃ u w',(Builtin.copy_ ats rt #[p,q]).run P w=.ok u w'∧eT w0 β v st' u w':=by
 obtain ⟨ht,ho⟩:=gL he
 obtain ⟨z',_,hk,_⟩:=eS ho
 have ha:ats[0]?=some (ats.getD 0 0):=by simp[Array.getD_eq_getD_getElem?,h0]
 unfold wz at hc
 split at hc
 ·simp at hc
 ·rename_i n cs hs
  obtain ⟨hl,hnl,hf⟩:=oQ (P:=P) h hx hs
  unfold Builtin.copy_
  simp only[ha,List.getElem?_toArray,bh,bE,ae,ai ht,ab]
  split at hc
  ·simp only[Rp] at hd;subst hd;simp at hc;obtain ⟨rfl,rfl⟩:=hc
   obtain ⟨us,h1,h2,h3⟩:=hf 0 (Nat.zero_le _)
   have h4:=h3 w.drawn
   simp only[ae,hl,ab,run_sizeOf' hk,an,show Nat.min n 0=0 from Nat.min_zero n]
   exact ⟨_,w,by rw[show (Builtin.firstCells (szT P e) 0 q).run P w=_ from h4];rfl,β,rfl,h,Lay.le.refl _⟩
  ·obtain ⟨a,c,rfl⟩:=hd;simp at hc;obtain ⟨rfl,rfl⟩:=hc
   obtain ⟨us,h1,h2,h3⟩:=hf 0 (Nat.zero_le _)
   have h4:=h3 w.drawn
   have hu0:us=[]:=List.eq_nil_of_length_eq_zero (by simpa using h1)
   subst hu0
   simp only[ae,hl,ab,run_sizeOf' hk,an,show Nat.min n 0=0 from Nat.min_zero n]
   exact ⟨_,w,by rw[show (Builtin.firstCells (szT P e) 0 q).run P w=_ from h4];rfl,β,rfl,h,Lay.le.refl _⟩
  ·rename_i o k len ci
   obtain ⟨b,hb,hlen,rfl⟩:=hd
   split at hc
   ·rename_i l ho'
    split at hc
    ·rename_i hcond
     simp at hc;obtain ⟨rfl,rfl⟩:=hc
     obtain ⟨us,h1,h2,h3⟩:=hf (min n len) (Nat.min_le_left _ _)
     have h4:(Builtin.firstCells (szT P e) (min n len) q).run P w=.ok ⟨us⟩ w:=h3 w.drawn
     have hle:min n len*szT P e≤len*szT P e:=Nat.mul_le_mul_right _ (Nat.min_le_right _ _)
     have hle2:min n len*szT P e≤n*szT P e:=Nat.mul_le_mul_right _ (Nat.min_le_left _ _)
     obtain ⟨w',h5,h6⟩:=h.write (P:=P) (k:=k) ho' hcond.2.2 hb h2 (by rw[List.length_take,hnl,Nat.min_eq_left hle2];omega) (by
      rw[List.all_eq_true];intro y hy;exact List.all_eq_true.1 hcond.2.1 y (List.mem_of_mem_take hy))
     refine ⟨_,w',?_,β,rfl,h6,Lay.le.refl _⟩
     simp only[ae,hl,ab,run_sizeOf' hk,an]
     rw[show (Builtin.firstCells (szT P e) (Nat.min n len) q).run P w=.ok ⟨us⟩ w from h4]
     simp only[ab,h5]
     rfl
    ·simp at hc
   ·simp at hc
  ·simp at hc
theorem Rel.jD {o:Nat} {es es':List (LV × LV)} {b:Bl} {bs bs':List Nat} {c c':Array MapEntry} {k k':Nat} (h:Rel w0 β st w) (ho:st[o]?=some (.map .rw es bs k)) (hb:β o=some b) (hh:w.heap[b.blk]?=some (.map c k))
  (he:Entries β es' c'.toList) (hs:ja c' k') (hbs:c'.toList.map (·.born)=bs'):Rel w0 β (st.set o (.map .rw es' bs' k')) (bM w b.blk (.map c' k')):=
 h.upd ho rfl hb rfl rfl rfl eR (fun _ hj=>dZ hj) ⟨b,hb,c',dL hh,he,fun _=>(h.obj o _ ho).mR rfl hb,hs,hbs⟩
theorem ja.push {c:Array MapEntry} {k:Nat} (h:ja c k) (a u:Value):ja (c.push { key:=a,val:=u,born:=k }) (k+1):=by
 refine ⟨fun x hx=>?_,?_⟩
 ·rw[Array.toList_push,List.mem_append] at hx
  rcases hx with hx|hx
  ·exact Nat.lt_succ_of_lt (h.1 x hx)
  ·simp at hx;subst hx;simp
 ·rw[Array.toList_push,List.map_append,List.nodup_append]
  refine ⟨h.2,by simp,fun a ha b hb=>?_⟩
  simp at hb;subst hb
  obtain ⟨x,hx,rfl⟩:=List.mem_map.1 ha
  exact Nat.ne_of_lt (h.1 x hx)
theorem map_eraseIdx {α γ:Type} (f:α→γ):∀ (l:List α) (j:Nat),(l.eraseIdx j).map f=(l.map f).eraseIdx j
 | [],_=>rfl
 | _::_,0=>rfl
 | a::l,j+1=>by simp only[List.eraseIdx_cons_succ,List.map_cons,map_eraseIdx f l j]
theorem rf {l:List MapEntry} {j:Nat} {e e':MapEntry} (hj:l[j]?=some e) (hb:e'.born=e.born):(l.set j e').map (·.born)=l.map (·.born):=by
 apply List.ext_getElem?
 intro i
 rw[bU,bU,List.getElem?_set]
 by_cases e0:j=i
 ·subst e0
  have hl:=(List.getElem?_eq_some_iff.1 hj).1
  simp only[if_true,hl,hj,Option.map_some,hb]
 ·simp[e0]
theorem ja.set {c c':Array MapEntry} {k j:Nat} {e e':MapEntry} (h:ja c k) (hj:c.toList[j]?=some e) (hb:e'.born=e.born) (hc:c'.toList=c.toList.set j e'):ja c' k:=by
 refine ⟨fun x hx=>?_,?_⟩
 ·rw[hc] at hx
  rcases List.mem_or_eq_of_mem_set hx with hx|hx
  ·exact h.1 x hx
  ·subst hx;rw[hb];exact h.1 e (cd hj)
 ·have:c'.toList.map (·.born)=c.toList.map (·.born):=by
   rw[hc]
   apply List.ext_getElem?
   intro i
   rw[bU,bU,List.getElem?_set]
   by_cases e0:j=i
   ·subst e0
    have hl:=(List.getElem?_eq_some_iff.1 hj).1
    simp only[if_true,hl,hj,Option.map_some,hb]
   ·simp[e0]
  rw[this];exact h.2
theorem ja.erase {c c':Array MapEntry} {k j:Nat} (h:ja c k) (hc:c'.toList=c.toList.eraseIdx j):ja c' k:=by
 refine ⟨fun x hx=>?_,?_⟩
 ·rw[hc] at hx;exact h.1 x (List.mem_of_mem_eraseIdx hx)
 ·rw[hc]
  exact h.2.sublist ((List.eraseIdx_sublist _ _).map _)
theorem jW {ty:TypeId} {m k v:LV} {p q u:Value} {st':aa} (h:Rel w0 β st w) (hm:Rp β m p) (hk:Rp β k q) (hv:Rp β v u) (hp:mu P st ty m k v=some st') :
  ∃ w',(Instr.mapUpdate ty p q u).run P w=.ok () w'∧Rel w0 β st' w':=by
 unfold mu at hp
 split at hp
 ·rename_i kt e ht
  split at hp
  ·rename_i s hs
   unfold qL at hs
   split at hs
   ·rename_i d hd
    unfold ox at hp
    split at hp
    ·rename_i hpl
     have hka:=ie hk hpl hs
     split at hp
     ·rename_i o
      split at hp
      ·rename_i es bs clock ho
       split at hp
       ·rename_i es' hput
        simp at hp;subst hp
        obtain ⟨b,hb,rfl⟩:=hm
        obtain ⟨c,h1,h2,hst,hbs⟩:=h.gV ho hb
        unfold Instr.mapUpdate
        simp only[ae,ai ht,ab,MapKept.run_getObj_map h1,dK hd hka]
        rcases nq hka hk hv 0 h2 hput with ⟨h3,h4⟩ | ⟨j,e2,h3,h4,h5,h6⟩
        ·simp only[MapKept.run_findKey hd h3,ab,MapKept.run_setObj_map _ h1]
         have hl:es'.length≠es.length:=by
          have e1:=(h4 clock).length
          have e2:=h2.length
          rw[gg] at e1
          simp only[aN,a8] at e1
          omega
         simp only[jN,if_neg hl]
         exact ⟨_,rfl,h.jD (c':=c.push { key:=q,val:=u,born:=clock }) ho hb h1 (by simpa using h4 clock) (hst.push _ _) (by simp[hbs])⟩
        ·have hj:j<c.size:=by
          rcases Nat.lt_or_ge j c.size with a|a
          ·exact a
          ·simp[a] at h4
         have hcj:c[j]=e2:=by simpa[hj] using h4
         have hkey:((c[0+j]?).map (·.key)).getD q=q:=by
          simp[hj,hcj,h5]
         simp only[MapKept.run_findKey hd h3,ab,ae,hkey,q0 hka,MapKept.run_setObj_map _ h1]
         have:(c.modify (0+j) fun e=>{ e with key:=q,val:=u }).toList=c.toList.set j { e2 with key:=q,val:=u }:=by
          apply List.ext_getElem?
          intro i
          rw[av,Array.getElem?_toList,Array.getElem?_modify,List.getElem?_set,Array.getElem?_toList]
          by_cases e:j=i
          ·subst e;simp[hj,hcj]
          ·simp[e]
         have hl:es'.length=es.length:=by
          have e1:=h6.length
          have e2:=h2.length
          rw[List.length_set] at e1;omega
         simp only[jN,if_pos hl]
         exact ⟨_,rfl,h.jD (c':=c.modify (0+j) fun e=>{ e with key:=q,val:=u }) ho hb h1 (by rw[this];exact h6) (hst.set (e':={ e2 with key:=q,val:=u }) h4 rfl this) (by rw[this,rf (e':={ e2 with key:=q,val:=u }) h4 rfl];exact hbs)⟩
       ·simp at hp
      ·simp at hp
     ·simp at hp
    ·simp at hp
   ·simp at hs
  ·simp at hp
 ·simp at hp
theorem pP {ats:Array TypeId} {rt:TypeId} {m k:LV} {p q:Value} {st':aa} (h:Rel w0 β st w) (hm:Rp β m p) (hk:Rp β k q) (h0:0<ats.size) (hp:pG P st (ats.getD 0 0) m k=some st') :
  ∃ w',(Builtin.delete_ ats rt #[p,q]).run P w=.ok (.tuple #[]) w'∧Rel w0 β st' w':=by
 have ha:ats[0]?=some (ats.getD 0 0):=by simp[Array.getD_eq_getD_getElem?,h0]
 unfold pG at hp
 split at hp
 ·rename_i kt e ht
  split at hp
  ·rename_i s hs
   unfold qL at hs
   split at hs
   ·rename_i d hd
    unfold BG at hp
    split at hp
    ·rename_i hpl
     have hka:=ie hk hpl hs
     split at hp
     ·rename_i o
      split at hp
      ·rename_i es bs clock ho
       split at hp
       ·rename_i es' hput
        simp at hp;subst hp
        obtain ⟨b,hb,rfl⟩:=hm
        obtain ⟨c,h1,h2,hst,hbs⟩:=h.gV ho hb
        unfold Builtin.delete_
        simp only[ha,List.getElem?_toArray,bh,bE,ae,ai ht,ab,MapKept.run_getObj_map h1,dK hd hka]
        rcases nr hka 0 h2 hput with ⟨h3,h4⟩ | ⟨j,e2,h3,h4,h6,hji⟩
        ·simp only[MapKept.run_findKey hd h3,ab,ae,MapKept.run_setObj_map _ h1,an]
         exact ⟨_,rfl,h.jD (c':=c) ho hb h1 h4 hst (by rw[if_pos (by have e1:=h4.length;have e2:=h2.length;omega)];exact hbs)⟩
        ·simp only[MapKept.run_findKey hd h3,ab,ae,MapKept.run_setObj_map _ h1,an]
         have hj:j<c.size:=by simpa using h4
         have:(c.eraseIdxIfInBounds (0+j)).toList=c.toList.eraseIdx j:=by
          rw[av];unfold Array.eraseIdxIfInBounds;simp[hj]
         exact ⟨_,rfl,h.jD (c':=c.eraseIdxIfInBounds (0+j)) ho hb h1 (by rw[this];exact h6) (hst.erase this) (by
          rw[if_neg (by have e1:=h6.length;have e2:=h2.length;rw[List.length_eraseIdx] at e1;simp only[h4,if_true] at e1;omega),this,hji,← hbs,map_eraseIdx])⟩
       ·simp at hp
      ·simp at hp
     ·simp at hp
    ·simp at hp
   ·simp at hs
  ·simp at hp
 ·simp at hp
end
section
variable {β:Lay} {P:Program} {w w0:World} {st:aa}
theorem jE {b:Int}:∀ {bs:List Nat} {i:Nat},wD b bs=some i→∃ x,bs[i]?=some x∧(x:Int)=b∧∀ j y,j<i→bs[j]?=some y→(y:Int)≠b
 | [],i,h=>by cases h
 | x::xs,i,h=>by
  unfold wD at h
  split at h
  ·rename_i e
   cases h
   exact ⟨x,rfl,e,fun j y hj=>by omega⟩
  ·rename_i e
   simp only[Option.map_eq_some_iff] at h
   obtain ⟨i',h,rfl⟩:=h
   obtain ⟨y,h1,h2,h3⟩:=jE h
   refine ⟨y,by simpa using h1,h2,fun j z hj hz=>?_⟩
   cases j with
   | zero=>simp at hz;subst hz;exact e
   | succ j=>exact h3 j z (by omega) (by simpa using hz)
theorem find_born {l:List MapEntry} (hn:(l.map (·.born)).Nodup) {e:MapEntry} (he:e ∈ l):l.find? (fun x=>x.born==e.born)=some e:=by
 induction l with
 | nil=>cases he
 | cons a l ih=>
  simp only[List.map_cons,List.nodup_cons] at hn
  rcases List.mem_cons.1 he with rfl|he
  ·simp
  ·have hne:a.born≠e.born:=fun h=>hn.1 (List.mem_map.2 ⟨e,he,h.symm⟩)
   rw[List.find?_cons_of_neg (by simpa using hne)]
   exact ih hn.2 he
theorem rh {x v:LV} {p:Value} (h:Rel w0 β st w) (hx:Rp β x p) (hp:kU st x=some v) :
  ∃ u,(Instr.entry p).run P w=.ok u w∧Rp β v u:=by
 unfold kU at hp
 split at hp
 case h_2=>cases hp
 rename_i r
 obtain ⟨b,hb,rfl⟩:=hx
 split at hp
 ·rename_i c rest hr
  simp only[ao] at hp;subst hp
  obtain ⟨b',hb',mb,seen,clk,hh,⟨es,h1,h2,_,e,he,hse,hc⟩,hbase,hN⟩:=h.obj r _ hr
  rw[hb] at hb';cases hb'
  have hm:=h.froz _ _ h1
  have hfind:es.find? (fun x=>x.born==e.born)=some e:=by
   have:=find_born h2.2 he
   simpa using this
  refine ⟨.tuple #[e.key,e.val],?_,⟨_,rfl,_,_,rfl,hc.1,_,_,rfl,hc.2,rfl⟩⟩
  unfold Instr.entry
  rw[hbase]
  have hback:(⟨seen⟩:Array Nat).back?=some e.born:=by rw[← hse];simp
  simp only[ae,getObj,Sem.run,hh,ab,hback,hm,bne_self_eq_false,Bool.false_eq_true,if_false,hfind]
  rfl
 case h_3=>cases hp
 rename_i o since seen last hr
 split at hp
 case h_2=>cases hp
 rename_i stamp md es bs n hst ho
 split at hp
 case isFalse=>cases hp
 rename_i hn
 subst hn
 split at hp
 case h_2=>cases hp
 rename_i i hi
 split at hp
 case h_2=>cases hp
 rename_i e he
 simp only[ao] at hp;subst hp
 obtain ⟨b',hb',mb,hh,⟨b2,hb2,rfl⟩,hbase,hN⟩:=h.obj r _ hr
 rw[hb] at hb';cases hb'
 obtain ⟨c,h1,h2,hstm,hbs⟩:=h.gV ho hb2
 obtain ⟨x,hx1,hx2,hx3⟩:=jE hi
 have hxs:x=stamp:=by omega
 subst hxs
 obtain ⟨ce,hce,hre⟩:=h2.at he
 have hi':i<c.size:=by
  have:=(List.getElem?_eq_some_iff.1 hce).1
  simpa using this
 have hci:c[i]=ce:=by simpa[hi'] using hce
 have hborn:ce.born=x:=by
  rw[← hbs,bU,hce] at hx1
  simpa using hx1
 have hfind:c.find? (fun e=>e.born==x)=some ce:=by
  rw[Array.find?_eq_some_iff_getElem]
  refine ⟨by rw[hborn];simp,i,hi',hci,fun j hj=>?_⟩
  have hj':j<c.size:=by omega
  have:=hx3 j (c[j]).born hj (by rw[← hbs,bU,Array.getElem?_toList];simp[hj'])
  simp only[Bool.not_eq_true',beq_eq_false_iff_ne]
  intro e;exact this (by rw[e])
 refine ⟨.tuple #[ce.key,ce.val],?_,⟨_,rfl,_,_,rfl,hre.1,_,_,rfl,hre.2,rfl⟩⟩
 unfold Instr.entry
 rw[hbase]
 have hback:(⟨seen⟩:Array Nat).back?=some x:=by rw[← hst];simp
 simp only[ae,getObj,Sem.run,hh,ab,hback,h1,bne_self_eq_false,Bool.false_eq_true,if_false,hfind]
 rfl
end
end Go.CP
