/- Parts of the proof. -/
import Derived.Test.YtknegckgmklnhaaGreatDoorCp7
namespace Go.CP
section
variable {β:Lay} {P:Program} {w:World}
theorem qj {ty:TypeId} {x v:LV} {u:Value} {f:Nat} (hx:Rp β x u) (h:kL P ty x f=some v) :
  ∃ u',(Instr.fieldAt ty u f).run P w=.ok u' w∧Rp β v u':=by
 unfold kL at h
 split at h
 ·rename_i fs ht
  split at h
  ·rename_i fd hf
   split at h
   ·rename_i hc
    unfold ad at h
    split at h
    ·obtain ⟨b,hb,rfl⟩:=hx
     simp at h;subst h
     refine ⟨_,?_,b,hb,rfl⟩
     unfold Instr.fieldAt
     simp only[Sem.run_bind,aw ht,Result.andThen_ok,hf,Instr.sureAddr,Sem.run_pure,fieldPlace,run_sizeOf' hc.1]
     rw[if_neg hc.2]
     simp[addr_add,Nat.add_assoc]
    ·simp only[Rp] at hx;subst hx
     simp at h;subst h
     refine ⟨_,?_,rfl⟩
     unfold Instr.fieldAt
     simp only[Sem.run_bind,aw ht,Result.andThen_ok,hf,Instr.sureAddr,Sem.run_pure,fieldPlace,run_sizeOf' hc.1]
     rw[if_neg hc.2]
     simp[addr_add]
    ·obtain ⟨us,b,base,hus,rfl,hF⟩:=hx
     simp at h;subst h
     refine ⟨_,?_,us,b,base,hus,rfl,hF⟩
     unfold Instr.fieldAt
     simp only[Sem.run_bind,aw ht,Result.andThen_ok,hf,Instr.sureAddr,Sem.run_pure,fieldPlace,run_sizeOf' hc.1]
     rw[if_neg hc.2]
     simp[addr_add,Nat.add_assoc]
    ·simp at h
   ·simp at h
  ·simp at h
 ·simp at h
theorem nj {ty:TypeId} {x v:LV} {off:Nat} (h:mu P ty x off=some v):∃ cs,x=.agg cs∧lk P ty cs off=some v:=by
 unfold mu at h
 split at h
 ·rename_i hk
  split at h
  ·rename_i ha
   unfold BT at h
   split at h
   ·exact ⟨_,rfl,by simp only[lk,hk,ha,if_true];exact h⟩
   ·simp at h
  ·rename_i ha
   unfold xl at h
   split at h
   ·exact ⟨_,rfl,by simp only[lk,hk,if_true];rw[if_neg ha];exact h⟩
   ·simp at h
 ·simp at h
theorem sG {ty:TypeId} {x v:LV} {u:Value} {f:Nat} (hx:Rp β x u) (h:uK P ty x f=some v) :
  ∃ u',(Instr.field ty u f).run P w=.ok u' w∧Rp β v u':=by
 unfold uK at h
 split at h
 ·rename_i fs ht
  split at h
  ·rename_i fd hf
   obtain ⟨cs,rfl,hp⟩:=nj h
   obtain ⟨vs,rfl,hvs⟩:=hx
   obtain ⟨u',h1,h2⟩:=eL (w:=w) hvs hp
   refine ⟨u',?_,h2⟩
   unfold Instr.field
   simp only[Sem.run_bind,aw ht,Result.andThen_ok,hf,asAgg,Sem.run_pure,h1]
  ·simp at h
 ·simp at h
theorem qk {ty:TypeId} {x i v:LV} {u j:Value} (hx:Rp β x u) (hi:Rp β i j) (h:kM P ty x i=some v) :
  ∃ u',(Instr.indexAt ty u j).run P w=.ok u' w∧Rp β v u':=by
 unfold kM at h
 split at h
 ·rename_i n e ht
  split at h
  ·rename_i hk
   unfold Bq at h
   split at h
   ·obtain ⟨b,hb,rfl⟩:=hx
    simp only[Rp] at hi;subst hi
    split at h
    ·rename_i hc
     simp at h;subst h
     refine ⟨_,?_,b,hb,rfl⟩
     unfold Instr.indexAt
     simp only[asIntOf,Sem.run_bind,Sem.run_pure,aw ht,Result.andThen_ok,Instr.sureAddr]
     rw[if_pos hc]
     simp only[Sem.run_bind,run_sizeOf' hk,Result.andThen_ok,Sem.run_pure,addr_add,Nat.add_assoc]
    ·simp at h
   ·simp only[Rp] at hx;subst hx
    simp only[Rp] at hi;subst hi
    split at h
    ·rename_i hc
     simp at h;subst h
     refine ⟨_,?_,rfl⟩
     unfold Instr.indexAt
     simp only[asIntOf,Sem.run_bind,Sem.run_pure,aw ht,Result.andThen_ok,Instr.sureAddr]
     rw[if_pos hc]
     simp only[Sem.run_bind,run_sizeOf' hk,Result.andThen_ok,Sem.run_pure,addr_add]
    ·simp at h
   ·simp at h
  ·simp at h
 ·rename_i e ht
  split at h
  ·rename_i hk
   unfold bh at h
   split at h
   ·obtain ⟨b,hb,hlen,rfl⟩:=hx
    simp only[Rp] at hi;subst hi
    split at h
    ·rename_i hc
     simp at h;subst h
     refine ⟨_,?_,b,hb,rfl⟩
     unfold Instr.indexAt
     simp only[asIntOf,Sem.run_bind,Sem.run_pure,aw ht,Result.andThen_ok]
     rw[if_pos hc]
     simp only[Sem.run_bind,run_sizeOf' hk,Result.andThen_ok,Sem.run_pure,addr_add,Nat.add_assoc]
    ·simp at h
   ·rename_i cs len cap _ i'
    obtain ⟨us,hus,a,c,rfl,hlc,hcap,hF⟩:=hx
    simp only[Rp] at hi;subst hi
    split at h
    ·rename_i hc
     simp at h;subst h
     rcases hF with hF|⟨b,base,rfl,hF⟩
     ·omega
     refine ⟨_,?_,us,b,base,hus,rfl,hF⟩
     unfold Instr.indexAt
     simp only[asIntOf,Sem.run_bind,Sem.run_pure,aw ht,Result.andThen_ok]
     rw[if_pos hc]
     simp only[Sem.run_bind,run_sizeOf' hk,Result.andThen_ok,Sem.run_pure,addr_add]
    ·simp at h
   ·simp at h
  ·simp at h
 ·simp at h
theorem sH {ty:TypeId} {x i v:LV} {u j:Value} (hx:Rp β x u) (hi:Rp β i j) (h:uL P ty x i=some v) :
  ∃ u',(Instr.index ty u j).run P w=.ok u' w∧Rp β v u':=by
 unfold uL at h
 split at h
 ·rename_i n e ht
  split at h
  ·rename_i hk
   have hg:∃ k z,i=.int k z∧0≤z∧z<n∧mu P e x (z.toNat*szT P e)=some v:=by
    split at h
    ·rename_i ha
     unfold oE at h
     split at h
     ·split at h
      ·rename_i hc
       exact ⟨_,_,rfl,hc.1,hc.2,by simp only[mu,hk,ha,if_true];exact h⟩
      ·simp at h
     ·simp at h
    ·rename_i ha
     unfold oE at h
     split at h
     ·split at h
      ·rename_i hc
       exact ⟨_,_,rfl,hc.1,hc.2,by simp only[mu,hk,if_true];rw[if_neg ha];exact h⟩
      ·simp at h
     ·simp at h
   obtain ⟨k,z,rfl,h0,h1,hp⟩:=hg
   obtain ⟨cs,rfl,hp⟩:=nj hp
   obtain ⟨vs,rfl,hvs⟩:=hx
   obtain ⟨u',h3,h4⟩:=eL (w:=w) hvs hp
   refine ⟨u',?_,h4⟩
   simp only[Rp] at hi;subst hi
   unfold Instr.index
   simp only[asIntOf,Sem.run_bind,Sem.run_pure,aw ht,Result.andThen_ok]
   rw[if_pos ⟨h0,h1⟩]
   simp only[Sem.run_bind,run_sizeOf' hk,Result.andThen_ok,h3]
  ·simp at h
 ·rename_i ht
  unfold cn at h
  split at h
  ·simp only[Rp] at hx hi;subst hx;subst hi
   split at h
   ·rename_i s k z h0
    split at h
    ·rename_i b hb
     simp at h;subst h
     refine ⟨_,?_,rfl⟩
     unfold Instr.index
     simp only[asIntOf,Sem.run_bind,Sem.run_pure,aw ht,Result.andThen_ok]
     rw[if_pos h0]
     have:(⟨⟨s⟩⟩:ByteArray)[z.toNat]?=some b:=by
      have hlt:z.toNat<s.length:=by
       rcases Nat.lt_or_ge z.toNat s.length with k|k
       ·exact k
       ·simp[List.getElem?_eq_none k] at hb
      have hlt':z.toNat<(⟨⟨s⟩⟩:ByteArray).size:=hlt
      rw[getElem?_pos (⟨⟨s⟩⟩:ByteArray) z.toNat hlt']
      rw[List.getElem?_eq_getElem hlt] at hb
      exact hb
     rw[this];rfl
    ·simp at h
   ·simp at h
  ·simp at h
 ·simp at h
theorem rH {a xt:TypeId} {x v:LV} {u:Value} {ok:Bool} (hx:Rp β x u) (h:rE P x a ok=some v) :
  ∃ u',(Instr.typeAssert u xt a ok).run P w=.ok u' w∧Rp β v u':=by
 have zz:∀ {z:LV},fi P a=some z→∃ u',(zeroValue a).run P w=.ok u' w∧Rp β z u':=fun hz=>
  let ⟨u',h1,h2,_⟩:=et (w:=w) hz;⟨u',h1,dr h2⟩
 unfold rE at h
 split at h
 ·rename_i want ht
  unfold asI at h
  split at h
  ·rename_i t y
   obtain ⟨q,rfl,hq⟩:=hx
   split at h
   ·rename_i hf
    unfold hasAll at hf
    split at hf
    ·rename_i i hi
     simp at hf
     simp at h;subst h
     refine ⟨if ok then .tuple #[.iface t q,.bool true] else .iface t q,?_,?_⟩
     ·unfold Instr.typeAssert
      simp only[Sem.run_bind,aw ht,Result.andThen_ok,typeInfo,run_program,hi,Sem.run_pure]
      rw[hf];rfl
     ·cases ok
      ·exact ⟨q,rfl,hq⟩
      ·exact ⟨[.iface t q,.bool true],rfl,_,_,rfl,⟨q,rfl,hq⟩,_,_,rfl,rfl,rfl⟩
    ·simp at hf
   ·rename_i hf
    unfold hasAll at hf
    split at hf
    ·rename_i i hi
     simp at hf
     split at h
     ·rename_i hok
      simp at h;obtain ⟨z,hz,rfl⟩:=h
      obtain ⟨u',h1,h2⟩:=zz hz
      refine ⟨.tuple #[u',.bool false],?_,[u',.bool false],rfl,_,_,rfl,h2,_,_,rfl,rfl,rfl⟩
      unfold Instr.typeAssert
      simp only[Sem.run_bind,aw ht,Result.andThen_ok,typeInfo,run_program,hi,Sem.run_pure]
      cases hm:Instr.missingMethod want i.methods with
      | none=>rw[hm] at hf;simp at hf
      | some m=>simp[hok,h1]
     ·simp at h
    ·simp at hf
   ·simp at h
  ·simp only[Rp] at hx;subst hx
   split at h
   ·rename_i hok
    simp at h;obtain ⟨z,hz,rfl⟩:=h
    obtain ⟨u',h1,h2⟩:=zz hz
    refine ⟨.tuple #[u',.bool false],?_,[u',.bool false],rfl,_,_,rfl,h2,_,_,rfl,rfl,rfl⟩
    unfold Instr.typeAssert
    simp[aw ht,hok,h1]
   ·simp at h
  ·simp at h
 ·rename_i d hni ht
  unfold asC at h
  split at h
  ·rename_i t y
   obtain ⟨q,rfl,hq⟩:=hx
   split at h
   ·rename_i he
    subst he
    simp at h;subst h
    refine ⟨if ok then .tuple #[q,.bool true] else q,?_,?_⟩
    ·unfold Instr.typeAssert
     simp only[Sem.run_bind,aw ht,Result.andThen_ok]
     cases d<;>first | (exact (hni _ rfl).elim) | simp
    ·cases ok
     ·exact hq
     ·exact ⟨[q,.bool true],rfl,_,_,rfl,hq,_,_,rfl,rfl,rfl⟩
   ·rename_i he
    split at h
    ·rename_i hok
     simp at h;obtain ⟨z,hz,rfl⟩:=h
     obtain ⟨u',h1,h2⟩:=zz hz
     refine ⟨.tuple #[u',.bool false],?_,[u',.bool false],rfl,_,_,rfl,h2,_,_,rfl,rfl,rfl⟩
     unfold Instr.typeAssert
     simp only[Sem.run_bind,aw ht,Result.andThen_ok]
     cases d<;>first | (exact (hni _ rfl).elim) | (simp[he,hok,h1])
    ·simp at h
  ·simp only[Rp] at hx;subst hx
   split at h
   ·rename_i hok
    simp at h;obtain ⟨z,hz,rfl⟩:=h
    obtain ⟨u',h1,h2⟩:=zz hz
    refine ⟨.tuple #[u',.bool false],?_,[u',.bool false],rfl,_,_,rfl,h2,_,_,rfl,rfl,rfl⟩
    unfold Instr.typeAssert
    simp only[Sem.run_bind,aw ht,Result.andThen_ok]
    cases d<;>simp[hok,h1]
   ·simp at h
  ·simp at h
 ·simp at h
end
def bR (l:List Value) (k:Nat) (vs:List Value):List Value:=l.take k++vs++l.drop (k+vs.length)
section
variable {β:Lay} {P:Program} {w:World}
theorem Rps.bK {l vs:List LV} {m us:List Value} (k:Nat) (h:Rps β l m) (h':Rps β vs us):Rps β (bK l k vs) (bR m k us):=by
 unfold CP.bK bR
 rw[h'.length]
 exact ((h.take k).append h').append (h.drop _)
theorem Rp.cells {v:LV} {u:Value} (h:Rp β v u) (hok:v.ok=true):Rps β v.cells u.cells.toList:=by
 cases v with
 | agg cs=>obtain ⟨vs,rfl,r⟩:=h;exact r
 | tup cs=>obtain ⟨vs,rfl,r⟩:=h;exact Rps.one ⟨vs,rfl,r⟩
 | bool b=>simp only[Rp] at h;subst h;exact Rps.one rfl
 | int k n=>simp only[Rp] at h;subst h;exact Rps.one rfl
 | flt k n=>simp only[Rp] at h;subst h;exact Rps.one rfl
 | cplx k a b=>simp only[Rp] at h;subst h;exact Rps.one rfl
 | str s=>simp only[Rp] at h;subst h;exact Rps.one rfl
 | nilp=>simp only[Rp] at h;subst h;exact Rps.one rfl
 | ptr o k=>obtain ⟨b,hb,rfl⟩:=h;exact Rps.one ⟨b,hb,rfl⟩
 | nils=>simp only[Rp] at h;subst h;exact Rps.one rfl
 | sl o k n c=>obtain ⟨b,hb,hl,rfl⟩:=h;exact Rps.one ⟨b,hb,hl,rfl⟩
 | nilm=>simp only[Rp] at h;subst h;exact Rps.one rfl
 | map o=>obtain ⟨b,hb,rfl⟩:=h;exact Rps.one ⟨b,hb,rfl⟩
 | nilf=>simp only[Rp] at h;subst h;exact Rps.one rfl
 | fn f xs ys=>obtain ⟨a,b,rfl,r⟩:=h;exact Rps.one ⟨a,b,rfl,r⟩
 | nili=>simp only[Rp] at h;subst h;exact Rps.one rfl
 | iface t x=>obtain ⟨a,rfl,r⟩:=h;exact Rps.one ⟨a,rfl,r⟩
 | ee g=>simp only[Rp] at h;subst h;exact Rps.one rfl
 | emp=>obtain ⟨a,b,rfl⟩:=h;exact Rps.one ⟨a,b,rfl⟩
 | txt=>obtain ⟨a,rfl⟩:=h;exact Rps.one ⟨a,rfl⟩
 | aQ=>simp[LV.ok] at hok
 | isl cs n c=>obtain ⟨us,r,a,k,rfl,q⟩:=h;exact Rps.one ⟨us,r,a,k,rfl,q⟩
 | iptr cs k=>obtain ⟨us,b,base,r,rfl,q⟩:=h;exact Rps.one ⟨us,b,base,r,rfl,q⟩
 | imap ks vs=>obtain ⟨b,us,ws,rfl,q⟩:=h;exact Rps.one ⟨b,us,ws,rfl,q⟩
theorem gU:∀ (l:List Value) (n:Nat) (v:Value),n<l.length→(l.set n v).take (n+1)=l.take n++[v]
 | [],n,v,h=>by simp at h
 | a::l,0,v,_=>by simp
 | a::l,n+1,v,h=>by simp only[List.set_cons_succ,List.take_succ_cons,List.cons_append];rw[gU l n v (by simpa using h)]
theorem Ay {v:Value} {x:LV} (h:xh v=some x):x.ok=true:=by
 unfold xh at h
 split at h<;>simp at h<;>subst h<;>rfl
theorem oS {v:Value} {x:LV} (h:ofV v=some x):x.ok=true:=by
 unfold ofV at h
 split at h
 ·simp at h;obtain ⟨y,_,rfl⟩:=h;rfl
 ·simp at h;obtain ⟨y,_,rfl⟩:=h;rfl
 ·exact Ay h
theorem sJ (off:Nat):∀ (vs:List Value) (k:Nat) (cs:Array Value),off+k+vs.length≤cs.size→
  ((vs.zipIdx k).foldl (fun cs (x:Value × Nat)=>cs.setIfInBounds (off+x.2) x.1) cs).toList=bR cs.toList (off+k) vs
 | [],k,cs,h=>by simp[bR]
 | v::vs,k,cs,h=>by
  simp only[List.zipIdx_cons,List.foldl_cons]
  rw[sJ off vs (k+1) _ (by simp at h ⊢;omega)]
  have hlt:off+k<cs.toList.length:=by simp at h ⊢;omega
  have e1:off+(k+1)=(off+k)+1:=by omega
  unfold bR
  rw[Array.toList_setIfInBounds,e1,gU _ _ _ hlt,List.drop_set_of_lt (by omega)]
  simp[Nat.add_comm,Nat.add_left_comm]
theorem iB {place:Nat→Option (Nat × Nat)}:∀ {ps:List (Nat × LV)} {qs:List (Nat × Value)} {cells r:List LV} {cs:Array Value},
  ps.map (·.1)=qs.map (·.1)→Rps β (ps.map (·.2)) (qs.map (·.2))→Rps β cells cs.toList→av place cells ps=some r→
  ∃ cs',Instr.fill place cs qs=some cs'∧Rps β r cs'.toList
 | [],[],cells,r,cs,_,_,hc,h=>by simp[av] at h;subst h;exact ⟨cs,rfl,hc⟩
 | [],_::_,_,_,_,h1,_,_,_=>by simp at h1
 | _::_,[],_,_,_,h1,_,_,_=>by simp at h1
 | (i,v)::ps,(j,u)::qs,cells,r,cs,h1,h2,hc,h=>by
  simp only[List.map_cons,List.cons.injEq] at h1
  obtain ⟨rfl,h1⟩:=h1
  obtain ⟨u',us',e,ru,rs⟩:=h2
  simp only[List.map_cons,List.cons.injEq] at e
  obtain ⟨rfl,rfl⟩:=e
  simp only[av] at h
  split at h
  ·simp at h
  ·rename_i off size hp
   split at h
   ·rename_i hs
    obtain ⟨hs1,hs2,hs3⟩:=hs
    have hlen:u.cells.size=size:=by rw[← hs1,← (ru.cells hs3).length];simp
    have hcs:cs.size=cells.length:=by rw[← hc.length];simp
    simp only[Instr.fill,hp]
    rw[if_neg (by simp[hlen];omega)]
    refine iB h1 rs ?_ h
    have:=sJ off u.cells.toList 0 cs (by simp;omega)
    rw[← Array.foldl_toList,Array.toList_zipIdx]
    rw[this]
    exact hc.bK off (ru.cells hs3)
   ·simp at h
theorem sK {fs:Array Field} (h:fs.toList.all (fun f=>known P f.type)=true) :
  (fs.mapM (fun f:Field=>do pure (f.offset,← sizeOf f.type)):Sem (Array (Nat × Nat))).run P w=.ok (fs.map fun f=>(f.offset,szT P f.type)) w:=by
 have key:∀ l:List Field,l.all (fun f=>known P f.type)=true→(l.mapM (fun f:Field=>do pure (f.offset,← sizeOf f.type)):Sem (List (Nat × Nat))).run P w=.ok (l.map fun f=>(f.offset,szT P f.type)) w:=by
  intro l
  induction l with
  | nil=>intro _;simp
  | cons f l ih=>
   intro hl
   simp only[List.all_cons,Bool.and_eq_true] at hl
   simp only[List.mapM_cons,Sem.run_bind,run_sizeOf' hl.1,Result.andThen_ok,Sem.run_pure,ih hl.2,List.map_cons]
 rw[Array.mapM_eq_mapM_toList,Sem.run_map,key _ h]
 simp only[Result.andThen_ok]
 congr 1
 apply Array.ext'
 simp
theorem sM {ty:TypeId} {ps:List (Nat × LV)} {qs:List (Nat × Value)} {v:LV} (h1:ps.map (·.1)=qs.map (·.1)) (h2:Rps β (ps.map (·.2)) (qs.map (·.2)))
  (h:uH P ty ps=some v):∃ u,(Instr.build ty ⟨qs⟩).run P w=.ok u w∧Rp β v u:=by
 unfold uH at h
 split at h
 ·rename_i z fs hz ht
  split at h
  ·rename_i hk
   simp[aN] at h;obtain ⟨r,hr,rfl⟩:=h
   obtain ⟨zu,hz1,hz2,_⟩:=et (w:=w) hz
   have hz3:=(dr (β:=β) hz2).cells (oS hz2)
   obtain ⟨cs',h3,h4⟩:=iB (place:=ax (od P fs)) h1 h2 hz3 hr
   refine ⟨.agg cs',?_,cs'.toList,rfl,h4⟩
   unfold Instr.build
   simp only[Sem.run_bind,hz1,aw ht,Result.andThen_ok,sK hk]
   have hp:(fun i=>(Array.map (fun f:Field=>(f.offset,szT P f.type)) fs)[i]?)=ax (od P fs):=by
    funext i
    simp only[Array.getElem?_map,ax,od,List.getElem?_map,Array.getElem?_toList]
   rw[hp,h3];rfl
  ·simp at h
 ·rename_i z n e hz ht
  split at h
  ·rename_i hk
   simp[aN] at h;obtain ⟨r,hr,rfl⟩:=h
   obtain ⟨zu,hz1,hz2,_⟩:=et (w:=w) hz
   have hz3:=(dr (β:=β) hz2).cells (oS hz2)
   obtain ⟨cs',h3,h4⟩:=iB h1 h2 hz3 hr
   refine ⟨.agg cs',?_,cs'.toList,rfl,h4⟩
   unfold Instr.build
   simp only[Sem.run_bind,hz1,Sem.run_pure,aw ht,Result.andThen_ok,run_sizeOf' hk,h3]
  ·simp at h
 ·simp at h
theorem sN {x y v:LV} {a b:Value} (hx:Rp β x a) (hy:Rp β y b) (h:wh x y=some v):∃ u,(Builtin.max2 a b).run P w=.ok u w∧Rp β v u:=by
 unfold wh at h
 split at h
 ·simp only[Rp] at hx hy;subst hx;subst hy;simp at h;subst h;exact ⟨_,rfl,rfl⟩
 ·simp at h
theorem sO {x y v:LV} {a b:Value} (hx:Rp β x a) (hy:Rp β y b) (h:yC x y=some v):∃ u,(Builtin.min2 a b).run P w=.ok u w∧Rp β v u:=by
 unfold yC at h
 split at h
 ·simp only[Rp] at hx hy;subst hx;subst hy;simp at h;subst h;exact ⟨_,rfl,rfl⟩
 ·simp at h
theorem ji {f:LV→LV→Option LV} {g:Value→Value→Sem Value} (hf:∀ x y v a b,Rp β x a→Rp β y b→f x y=some v→∃ u,(g a b).run P w=.ok u w∧Rp β v u) :
  ∀ {xs:List LV} {us:List Value} {x v:LV} {a:Value},Rps β xs us→Rp β x a→oG f x xs=some v→∃ u,(us.foldlM g a).run P w=.ok u w∧Rp β v u
 | [],us,x,v,a,h1,h2,h=>by
  simp only[Rps] at h1;subst h1;simp[oG] at h;subst h;exact ⟨a,rfl,h2⟩
 | y::xs,us,x,v,a,h1,h2,h=>by
  obtain ⟨b,us,rfl,r,s⟩:=h1
  simp only[oG] at h
  split at h
  ·rename_i z hz
   obtain ⟨u,h3,h4⟩:=hf x y z a b h2 r hz
   obtain ⟨u',h5,h6⟩:=ji hf s h4 h
   exact ⟨u',by simp[List.foldlM_cons,h3,h5],h6⟩
  ·simp at h
theorem oT {st:aa} {w0:World} {rt:TypeId} {ats:Array TypeId} {x v:LV} {u:Value} (hr:Rel w0 β st w∨st=[]∧mw P (ats.getD 0 0)=false) (hx:Rp β x u) (h0:0<ats.size) (h:Aw P st (ats.getD 0 0) x=some v) :
  ∃ u',(Builtin.len_ ats rt #[u]).run P w=.ok u' w∧Rp β v u':=by
 have ha:ats[0]?=some (ats.getD 0 0):=by simp[Array.getD_eq_getD_getElem?,h0]
 unfold Builtin.len_
 rw[ha]
 simp only[List.getElem?_toArray,List.getElem?_cons_zero]
 unfold Aw at h
 split at h
 ·rename_i ht
  unfold bo at h
  split at h
  ·simp only[Rp] at hx;subst hx;simp at h;subst h
   exact ⟨_,by simp only[Sem.run_bind,aw ht,Result.andThen_ok];rfl,rfl⟩
  ·simp at h
 ·rename_i ht
  simp at h;subst h
  exact ⟨_,by simp only[Sem.run_bind,aw ht,Result.andThen_ok];rfl,rfl⟩
 ·rename_i e ht
  split at h
  ·rename_i he
   simp at h;subst h
   exact ⟨_,by simp only[Sem.run_bind,aw ht,aw he,Result.andThen_ok];rfl,rfl⟩
  ·simp at h
 ·rename_i ht
  unfold bD at h
  split at h
  ·simp only[Rp] at hx;subst hx;simp at h;subst h
   exact ⟨_,by simp only[Sem.run_bind,aw ht,Result.andThen_ok];rfl,rfl⟩
  ·obtain ⟨a,c,rfl⟩:=hx;simp at h;subst h
   exact ⟨_,by simp only[Sem.run_bind,aw ht,Result.andThen_ok];rfl,rfl⟩
  ·obtain ⟨b,_,_,rfl⟩:=hx;simp at h;subst h
   exact ⟨_,by simp only[Sem.run_bind,aw ht,Result.andThen_ok];rfl,rfl⟩
  ·obtain ⟨_,_,_,_,rfl,_⟩:=hx;simp at h;subst h
   exact ⟨_,by simp only[Sem.run_bind,aw ht,Result.andThen_ok];rfl,rfl⟩
  ·simp at h
 ·rename_i ht
  unfold yy at h
  split at h
  ·simp only[Rp] at hx;subst hx;simp at h;subst h
   exact ⟨_,by simp only[Sem.run_bind,aw ht,Result.andThen_ok];rfl,rfl⟩
  ·rename_i o
   split at h
   ·rename_i m es _ _ ho
    obtain ⟨b,hb,rfl⟩:=hx
    rcases hr with hr|hr
    ·obtain ⟨b',hb',c,hh,hes,_⟩:=hr.obj o _ ho
     rw[hb] at hb';cases hb'
     have hlen:c.size=es.length:=by
      have:∀ {l:List (LV × LV)} {v:List MapEntry},Entries β l v→v.length=l.length:=by
       intro l
       induction l with
       | nil=>intro v hv;simp only[Entries] at hv;simp[hv]
       | cons a l ih=>intro v hv;obtain ⟨q,us,rfl,_,hs⟩:=hv;simp[ih hs]
      rw[← this hes];simp
     simp at h;subst h
     refine ⟨_,?_,rfl⟩
     simp only[Sem.run_bind,aw ht,Result.andThen_ok,getObj,Sem.run,hh,Sem.run_pure,hlen];rfl
    ·rw[hr.1] at ho;simp at ho
   ·simp at h
  ·rename_i ks vs
   rcases hr with hr|hr
   ·obtain ⟨b,us,ws,rfl,r1,r2,es,clk,hF,hl,_,hp,_⟩:=hx
    have hh:=hr.froz _ _ hF
    have hlen:es.size=ks.length:=by
     have:=hp.length_eq
     have h1:=r1.length
     simp at this;omega
    simp at h;subst h
    refine ⟨_,?_,rfl⟩
    simp only[Sem.run_bind,aw ht,Result.andThen_ok,getObj,Sem.run,hh,Sem.run_pure,hlen];rfl
   ·have hm:mw P (ats.getD 0 0)=true:=by unfold mw;rw[ht]
    rw[hm] at hr;exact absurd hr.2 (by decide)
  ·simp at h
 ·simp at h
theorem uR {rt:TypeId} {ats:Array TypeId} {x v:LV} {u:Value} (hx:Rp β x u) (h0:0<ats.size) (h:BS P (ats.getD 0 0) x=some v) :
  ∃ u',(Builtin.cap_ ats rt #[u]).run P w=.ok u' w∧Rp β v u':=by
 have ha:ats[0]?=some (ats.getD 0 0):=by simp[Array.getD_eq_getD_getElem?,h0]
 unfold Builtin.cap_
 rw[ha]
 simp only[List.getElem?_toArray,List.getElem?_cons_zero]
 unfold BS at h
 split at h
 ·rename_i ht
  unfold Bj at h
  split at h
  ·simp only[Rp] at hx;subst hx;simp at h;subst h
   exact ⟨_,by simp only[Sem.run_bind,aw ht,Result.andThen_ok];rfl,rfl⟩
  ·obtain ⟨b,_,_,rfl⟩:=hx;simp at h;subst h
   exact ⟨_,by simp only[Sem.run_bind,aw ht,Result.andThen_ok];rfl,rfl⟩
  ·simp at h
 ·simp at h
end
end Go.CP
