/- Parts of the proof. -/
import Derived.Test.YtknegckgmklnhaaGreatDoorCp7
namespace Go.CP
def bJ (l:List Value) (k:Nat) (vs:List Value):List Value:=l.take k++vs++l.drop (k+vs.length)
section
variable {β:Lay} {P:Program} {w:World}
theorem Rps.bu {l vs:List LV} {m us:List Value} (k:Nat) (h:Rps β l m) (h':Rps β vs us):Rps β (bu l k vs) (bJ m k us):=by
 unfold CP.bu bJ
 rw[h'.length]
 exact ((h.take k).append h').append (h.drop _)
theorem Rp.cells {v:LV} {u:Value} (h:Rp β v u) (hok:v.ok=true):Rps β v.cells u.cells.toList:=by
 cases v with
 | agg cs=>obtain ⟨vs,rfl,r⟩:=h;exact r
 | tup cs=>obtain ⟨vs,rfl,r⟩:=h;exact Rps.one ⟨vs,rfl,r⟩
 | bool b=>simp only[Rp] at h;subst h;exact Rps.one rfl
 | int k n=>simp only[Rp] at h;subst h;exact Rps.one rfl
 | flt k n=>simp only[Rp] at h;subst h;exact Rps.one rfl
 | cplx k a b=>simp only[Rp] at h;subst h;exact Rps.one rfl
 | str s=>simp only[Rp] at h;subst h;exact Rps.one rfl
 | nilp=>simp only[Rp] at h;subst h;exact Rps.one rfl
 | ptr o k=>obtain ⟨b,hb,rfl⟩:=h;exact Rps.one ⟨b,hb,rfl⟩
 | nils=>simp only[Rp] at h;subst h;exact Rps.one rfl
 | sl o k n c=>obtain ⟨b,hb,hl,rfl⟩:=h;exact Rps.one ⟨b,hb,hl,rfl⟩
 | nilm=>simp only[Rp] at h;subst h;exact Rps.one rfl
 | map o=>obtain ⟨b,hb,rfl⟩:=h;exact Rps.one ⟨b,hb,rfl⟩
 | nilf=>simp only[Rp] at h;subst h;exact Rps.one rfl
 | fn f xs ys=>obtain ⟨a,b,rfl,r⟩:=h;exact Rps.one ⟨a,b,rfl,r⟩
 | nili=>simp only[Rp] at h;subst h;exact Rps.one rfl
 | iface t x=>obtain ⟨a,rfl,r⟩:=h;exact Rps.one ⟨a,rfl,r⟩
 | dY g=>simp only[Rp] at h;subst h;exact Rps.one rfl
 | emp=>obtain ⟨a,b,rfl⟩:=h;exact Rps.one ⟨a,b,rfl⟩
 | txt=>obtain ⟨a,rfl⟩:=h;exact Rps.one ⟨a,rfl⟩
 | aJ=>simp[LV.ok] at hok
 | isl cs n c=>obtain ⟨us,r,a,k,rfl,q⟩:=h;exact Rps.one ⟨us,r,a,k,rfl,q⟩
 | iptr cs k=>obtain ⟨us,b,base,r,rfl,q⟩:=h;exact Rps.one ⟨us,b,base,r,rfl,q⟩
 | imap ks vs=>obtain ⟨b,us,ws,rfl,q⟩:=h;exact Rps.one ⟨b,us,ws,rfl,q⟩
theorem fV:∀ (l:List Value) (n:Nat) (v:Value),n<l.length→(l.set n v).take (n+1)=l.take n++[v]
 | [],n,v,h=>by simp at h
 | a::l,0,v,_=>by simp
 | a::l,n+1,v,h=>by simp only[List.set_cons_succ,List.take_succ_cons,List.cons_append];rw[fV l n v (by simpa using h)]
theorem yB {v:Value} {x:LV} (h:vi v=some x):x.ok=true:=by
 unfold vi at h
 split at h<;>simp at h<;>subst h<;>rfl
theorem nh {v:Value} {x:LV} (h:ofV v=some x):x.ok=true:=by
 unfold ofV at h
 split at h
 ·simp at h;obtain ⟨y,_,rfl⟩:=h;rfl
 ·simp at h;obtain ⟨y,_,rfl⟩:=h;rfl
 ·exact yB h
theorem qU (off:Nat):∀ (vs:List Value) (k:Nat) (cs:Array Value),off+k+vs.length≤cs.size→
  ((vs.zipIdx k).foldl (fun cs (x:Value × Nat)=>cs.setIfInBounds (off+x.2) x.1) cs).toList=bJ cs.toList (off+k) vs
 | [],k,cs,h=>by simp[bJ]
 | v::vs,k,cs,h=>by
  simp only[List.zipIdx_cons,List.foldl_cons]
  rw[qU off vs (k+1) _ (by simp at h ⊢;omega)]
  have hlt:off+k<cs.toList.length:=by simp at h ⊢;omega
  have e1:off+(k+1)=(off+k)+1:=by omega
  unfold bJ
  rw[Array.toList_setIfInBounds,e1,fV _ _ _ hlt,List.drop_set_of_lt (by omega)]
  simp[Nat.add_comm,Nat.add_left_comm]
theorem gH {place:Nat→Option (Nat × Nat)}:∀ {ps:List (Nat × LV)} {qs:List (Nat × Value)} {cells r:List LV} {cs:Array Value},
  ps.map (·.1)=qs.map (·.1)→Rps β (ps.map (·.2)) (qs.map (·.2))→Rps β cells cs.toList→aV place cells ps=some r→
  ∃ cs',Instr.fill place cs qs=some cs'∧Rps β r cs'.toList
 | [],[],cells,r,cs,_,_,hc,h=>by simp[aV] at h;subst h;exact ⟨cs,rfl,hc⟩
 | [],_::_,_,_,_,h1,_,_,_=>by simp at h1
 | _::_,[],_,_,_,h1,_,_,_=>by simp at h1
 | (i,v)::ps,(j,u)::qs,cells,r,cs,h1,h2,hc,h=>by
  simp only[List.map_cons,List.cons.injEq] at h1
  obtain ⟨rfl,h1⟩:=h1
  obtain ⟨u',us',e,ru,rs⟩:=h2
  simp only[List.map_cons,List.cons.injEq] at e
  obtain ⟨rfl,rfl⟩:=e
  simp only[aV] at h
  split at h
  ·simp at h
  ·rename_i off size hp
   split at h
   ·rename_i hs
    obtain ⟨hs1,hs2,hs3⟩:=hs
    have hlen:u.cells.size=size:=by rw[← hs1,← (ru.cells hs3).length];simp
    have hcs:cs.size=cells.length:=by rw[← hc.length];simp
    simp only[Instr.fill,hp]
    rw[if_neg (by simp[hlen];omega)]
    refine gH h1 rs ?_ h
    have:=qU off u.cells.toList 0 cs (by simp;omega)
    rw[← Array.foldl_toList,Array.toList_zipIdx]
    rw[this]
    exact hc.bu off (ru.cells hs3)
   ·simp at h
theorem qV {fs:Array Field} (h:fs.toList.all (fun f=>known P f.type)=true) :
  (fs.mapM (fun f:Field=>do pure (f.offset,← sizeOf f.type)):Sem (Array (Nat × Nat))).run P w=.ok (fs.map fun f=>(f.offset,szT P f.type)) w:=by
 have key:∀ l:List Field,l.all (fun f=>known P f.type)=true→(l.mapM (fun f:Field=>do pure (f.offset,← sizeOf f.type)):Sem (List (Nat × Nat))).run P w=.ok (l.map fun f=>(f.offset,szT P f.type)) w:=by
  intro l
  induction l with
  | nil=>intro _;simp
  | cons f l ih=>
   intro hl
   simp only[List.all_cons,aF] at hl
   simp only[List.mapM_cons,ae,run_sizeOf' hl.1,ab,an,ih hl.2,List.map_cons]
 rw[Array.mapM_eq_mapM_toList,Sem.run_map,key _ h]
 simp only[ab]
 congr 1
 apply Array.ext'
 simp
theorem qW {ty:TypeId} {ps:List (Nat × LV)} {qs:List (Nat × Value)} {v:LV} (h1:ps.map (·.1)=qs.map (·.1)) (h2:Rps β (ps.map (·.2)) (qs.map (·.2)))
  (h:sP P ty ps=some v):∃ u,(Instr.build ty ⟨qs⟩).run P w=.ok u w∧Rp β v u:=by
 unfold sP at h
 split at h
 ·rename_i z fs hz ht
  split at h
  ·rename_i hk
   simp[bG] at h;obtain ⟨r,hr,rfl⟩:=h
   obtain ⟨zu,hz1,hz2,_⟩:=dW (w:=w) hz
   have hz3:=(cR (β:=β) hz2).cells (nh hz2)
   obtain ⟨cs',h3,h4⟩:=gH (place:=aQ (mr P fs)) h1 h2 hz3 hr
   refine ⟨.agg cs',?_,cs'.toList,rfl,h4⟩
   unfold Instr.build
   simp only[ae,hz1,ai ht,ab,qV hk]
   have hp:(fun i=>(Array.map (fun f:Field=>(f.offset,szT P f.type)) fs)[i]?)=aQ (mr P fs):=by
    funext i
    simp only[Array.getElem?_map,aQ,mr,bU,Array.getElem?_toList]
   rw[hp,h3];rfl
  ·simp at h
 ·rename_i z n e hz ht
  split at h
  ·rename_i hk
   simp[bG] at h;obtain ⟨r,hr,rfl⟩:=h
   obtain ⟨zu,hz1,hz2,_⟩:=dW (w:=w) hz
   have hz3:=(cR (β:=β) hz2).cells (nh hz2)
   obtain ⟨cs',h3,h4⟩:=gH h1 h2 hz3 hr
   refine ⟨.agg cs',?_,cs'.toList,rfl,h4⟩
   unfold Instr.build
   simp only[ae,hz1,an,ai ht,ab,run_sizeOf' hk,h3]
  ·simp at h
 ·simp at h
theorem qX {x y v:LV} {a b:Value} (hx:Rp β x a) (hy:Rp β y b) (h:uj x y=some v):∃ u,(Builtin.max2 a b).run P w=.ok u w∧Rp β v u:=by
 unfold uj at h
 split at h
 ·simp only[Rp] at hx hy;subst hx;subst hy;simp at h;subst h;exact ⟨_,rfl,rfl⟩
 ·simp at h
theorem qY {x y v:LV} {a b:Value} (hx:Rp β x a) (hy:Rp β y b) (h:uk x y=some v):∃ u,(Builtin.min2 a b).run P w=.ok u w∧Rp β v u:=by
 unfold uk at h
 split at h
 ·simp only[Rp] at hx hy;subst hx;subst hy;simp at h;subst h;exact ⟨_,rfl,rfl⟩
 ·simp at h
theorem ib {f:LV→LV→Option LV} {g:Value→Value→Sem Value} (hf:∀ x y v a b,Rp β x a→Rp β y b→f x y=some v→∃ u,(g a b).run P w=.ok u w∧Rp β v u) :
  ∀ {xs:List LV} {us:List Value} {x v:LV} {a:Value},Rps β xs us→Rp β x a→lJ f x xs=some v→∃ u,(us.foldlM g a).run P w=.ok u w∧Rp β v u
 | [],us,x,v,a,h1,h2,h=>by
  simp only[Rps] at h1;subst h1;simp[lJ] at h;subst h;exact ⟨a,rfl,h2⟩
 | y::xs,us,x,v,a,h1,h2,h=>by
  obtain ⟨b,us,rfl,r,s⟩:=h1
  simp only[lJ] at h
  split at h
  ·rename_i z hz
   obtain ⟨u,h3,h4⟩:=hf x y z a b h2 r hz
   obtain ⟨u',h5,h6⟩:=ib hf s h4 h
   exact ⟨u',by simp[List.foldlM_cons,h3,h5],h6⟩
  ·simp at h
theorem ni {st:aa} {w0:World} {rt:TypeId} {ats:Array TypeId} {x v:LV} {u:Value} (hr:Rel w0 β st w∨st=[]∧kY P (ats.getD 0 0)=false) (hx:Rp β x u) (h0:0<ats.size) (h:yz P st (ats.getD 0 0) x=some v) :
  ∃ u',(Builtin.len_ ats rt #[u]).run P w=.ok u' w∧Rp β v u':=by
 have ha:ats[0]?=some (ats.getD 0 0):=by simp[Array.getD_eq_getD_getElem?,h0]
 unfold Builtin.len_
 rw[ha]
 simp only[List.getElem?_toArray,bh]
 unfold yz at h
 split at h
 ·rename_i ht
  unfold mW at h
  split at h
  ·simp only[Rp] at hx;subst hx;simp at h;subst h
   exact ⟨_,by simp only[ae,ai ht,ab];rfl,rfl⟩
  ·simp at h
 ·rename_i ht
  simp at h;subst h
  exact ⟨_,by simp only[ae,ai ht,ab];rfl,rfl⟩
 ·rename_i e ht
  split at h
  ·rename_i he
   simp at h;subst h
   exact ⟨_,by simp only[ae,ai ht,ai he,ab];rfl,rfl⟩
  ·simp at h
 ·rename_i ht
  unfold bg at h
  split at h
  ·simp only[Rp] at hx;subst hx;simp at h;subst h
   exact ⟨_,by simp only[ae,ai ht,ab];rfl,rfl⟩
  ·obtain ⟨a,c,rfl⟩:=hx;simp at h;subst h
   exact ⟨_,by simp only[ae,ai ht,ab];rfl,rfl⟩
  ·obtain ⟨b,_,_,rfl⟩:=hx;simp at h;subst h
   exact ⟨_,by simp only[ae,ai ht,ab];rfl,rfl⟩
  ·obtain ⟨_,_,_,_,rfl,_⟩:=hx;simp at h;subst h
   exact ⟨_,by simp only[ae,ai ht,ab];rfl,rfl⟩
  ·simp at h
 ·rename_i ht
  unfold kW at h
  split at h
  ·simp only[Rp] at hx;subst hx;simp at h;subst h
   exact ⟨_,by simp only[ae,ai ht,ab];rfl,rfl⟩
  ·rename_i o
   split at h
   ·rename_i m es _ _ ho
    obtain ⟨b,hb,rfl⟩:=hx
    rcases hr with hr|hr
    ·obtain ⟨b',hb',c,hh,hes,_⟩:=hr.obj o _ ho
     rw[hb] at hb';cases hb'
     have hlen:c.size=es.length:=by
      have:∀ {l:List (LV × LV)} {v:List MapEntry},Entries β l v→v.length=l.length:=by
       intro l
       induction l with
       | nil=>intro v hv;simp only[Entries] at hv;simp[hv]
       | cons a l ih=>intro v hv;obtain ⟨q,us,rfl,_,hs⟩:=hv;simp[ih hs]
      rw[← this hes];simp
     simp at h;subst h
     refine ⟨_,?_,rfl⟩
     simp only[ae,ai ht,ab,getObj,Sem.run,hh,an,hlen];rfl
    ·rw[hr.1] at ho;simp at ho
   ·simp at h
  ·rename_i ks vs
   rcases hr with hr|hr
   ·obtain ⟨b,us,ws,rfl,r1,r2,es,clk,hF,hl,_,hp,_⟩:=hx
    have hh:=hr.froz _ _ hF
    have hlen:es.size=ks.length:=by
     have:=hp.length_eq
     have h1:=r1.length
     simp at this;omega
    simp at h;subst h
    refine ⟨_,?_,rfl⟩
    simp only[ae,ai ht,ab,getObj,Sem.run,hh,an,hlen];rfl
   ·have hm:kY P (ats.getD 0 0)=true:=by unfold kY;rw[ht]
    rw[hm] at hr;exact absurd hr.2 (by decide)
  ·simp at h
 ·simp at h
theorem sW {rt:TypeId} {ats:Array TypeId} {x v:LV} {u:Value} (hx:Rp β x u) (h0:0<ats.size) (h:Ah P (ats.getD 0 0) x=some v) :
  ∃ u',(Builtin.cap_ ats rt #[u]).run P w=.ok u' w∧Rp β v u':=by
 have ha:ats[0]?=some (ats.getD 0 0):=by simp[Array.getD_eq_getD_getElem?,h0]
 unfold Builtin.cap_
 rw[ha]
 simp only[List.getElem?_toArray,bh]
 unfold Ah at h
 split at h
 ·rename_i ht
  unfold zD at h
  split at h
  ·simp only[Rp] at hx;subst hx;simp at h;subst h
   exact ⟨_,by simp only[ae,ai ht,ab];rfl,rfl⟩
  ·obtain ⟨b,_,_,rfl⟩:=hx;simp at h;subst h
   exact ⟨_,by simp only[ae,ai ht,ab];rfl,rfl⟩
  ·simp at h
 ·simp at h
end
section
variable {β:Lay} {P:Program} {w:World}
theorem nj {x v:LV} {u:Value} {ρ:Operand→Value} {o:Oper} {y:Operand} (ho:o.op=.nilCheck y) (hu:ρ y=u) (hx:Rp β x u) (h:de x=some v) :
  (execOp ρ o).run P w=.ok (.value u) w∧Rp β v u:=by
 unfold de at h
 unfold execOp
 rw[ho]
 split at h
 ·obtain ⟨b,hb,rfl⟩:=hx;simp at h;subst h
  simp only[hu];exact ⟨rfl,b,hb,rfl⟩
 ·obtain ⟨q,rfl,r⟩:=hx;simp at h;subst h
  simp only[hu];exact ⟨rfl,q,rfl,r⟩
 ·obtain ⟨q,s,rfl,r⟩:=hx;simp at h;subst h
  simp only[hu];exact ⟨rfl,q,s,rfl,r⟩
 ·simp only[Rp] at hx;subst hx;simp at h;subst h
  simp only[hu];exact ⟨rfl,rfl⟩
 ·obtain ⟨us,b,base,q,rfl,r⟩:=hx;simp at h;subst h
  simp only[hu];exact ⟨rfl,us,b,base,q,rfl,r⟩
 ·simp at h
theorem sX {s d:TypeId} {x v:LV} {u:Value} (hx:Rp β x u) (h:wH P s d x=some v):∃ u',(convert s d u).run P w=.ok u' w∧Rp β v u':=by
 unfold wH at h
 split at h
 ·rename_i k' k h1 h2
  unfold wG at h
  split at h
  ·simp only[Rp] at hx;subst hx;simp at h;subst h
   exact ⟨_,by unfold convert;simp only[ae,ai h1,ai h2,ab];rfl,rfl⟩
  ·simp at h
 ·rename_i k' k h1 h2
  unfold vm at h
  split at h
  ·simp only[Rp] at hx;subst hx;simp at h;subst h
   exact ⟨_,by unfold convert;simp only[ae,ai h1,ai h2,ab];rfl,rfl⟩
  ·simp at h
 ·rename_i k' k h1 h2
  unfold BH at h
  split at h
  ·simp only[Rp] at hx;subst hx
   split at h
   ·rename_i n hn
    split at h
    ·rename_i hr
     simp at h;subst h
     refine ⟨.int k n,?_,rfl⟩
     unfold convert
     simp only[ae,ai h1,ai h2,ab]
     show (Conv.floatToInt _ _ k).run P w=_
     unfold Conv.floatToInt
     rw[hn]
     simp only[if_pos hr]
     rfl
    ·simp at h
   ·simp at h
  ·simp at h
 ·rename_i h1 h2
  unfold zE at h
  split at h
  ·simp only[Rp] at hx;subst hx;simp at h;subst h
   exact ⟨_,by unfold convert;simp only[ae,ai h1,ai h2,ab];rfl,rfl⟩
  ·simp at h
 ·simp at h
theorem qZ {op:UnOp} {x v:LV} {u:Value} (hx:Rp β x u) (h:lun op x=some v):∃ u',(Op.unary op u).run P w=.ok u' w∧Rp β v u':=by
 unfold lun at h
 split at h
 ·simp only[Rp] at hx;subst hx;simp only[ao] at h;subst h;exact ⟨_,rfl,rfl⟩
 ·simp only[Rp] at hx;subst hx;simp at h;subst h;exact ⟨_,rfl,rfl⟩
 ·simp at h
theorem ml {t:TypeId} {x v:LV} {u:Value} (hx:Rp β x u) (h:jv P t x=some v):∃ u',(Instr.makeInterface t u).run P w=.ok u' w∧Rp β v u':=by
 unfold jv at h
 split at h
 ·rename_i hc
  simp at h;subst h
  simp only[aF,Bool.not_eq_true'] at hc
  obtain ⟨d,hd⟩:=Option.isSome_iff_exists.1 hc.1
  have hn:=hc.2
  refine ⟨.iface t u,?_,u,rfl,hx⟩
  unfold Instr.makeInterface
  simp only[ae,ai hd,ab]
  cases d<;>first|rfl | (simp[qN,hd] at hn)
 ·simp at h
theorem gI {t:List LV} {a:Act} {xs:Array Operand} {x:LV} (ht:Rps β t a.tmps.toList) (h:evs t xs.toList=some [x]):∃ u,xs.map a.eval = #[u]∧Rp β x u:=by
 obtain ⟨u,us,e,r,s⟩:=cS ht h
 simp only[Rps] at s;subst s
 exact ⟨u,by apply Array.ext';simpa using e,r⟩
theorem jQ {t:List LV} {a:Act} {xs:Array Operand} {x y:LV} (ht:Rps β t a.tmps.toList) (h:evs t xs.toList=some [x,y]):∃ u v,xs.map a.eval = #[u,v]∧Rp β x u∧Rp β y v:=by
 obtain ⟨u,us,e,r,v,vs,rfl,s,s'⟩:=cS ht h
 simp only[Rps] at s';subst s'
 exact ⟨u,v,by apply Array.ext';simpa using e,r,s⟩
theorem bp {ρ:Operand→Value} {o:Oper} {c:Call} {b:Builtin} (ho:o.op=.call c) (hb:c.callee=.builtin b) :
  ∃ cs,(execOp ρ o).run P w=(builtin b c.argTypes o.type cs (c.args.map ρ)).run P w:=by
 unfold execOp
 rw[ho]
 simp only[resolve,hb,ae,an,ab,invoke]
 exact ⟨_,rfl⟩
theorem bX {s:Sem Value} {u:Value} {w':World} (h:s.run P w=.ok u w'):(do pure (.value (← s)):Sem Next).run P w=.ok (.value u) w':=by
 simp[h]
theorem pL {x v:LV} {u:Value} {ats:Array TypeId} {rt:TypeId} (hx:Rp β x u) (h:pH x=some v):∃ u',(Builtin.unsafeSliceData_ ats rt #[u]).run P w=.ok u' w∧Rp β v u':=by
 unfold pH at h
 split at h
 ·cases h
  simp only[Rp] at hx;subst hx
  exact ⟨_,rfl,rfl⟩
 ·rename_i o k len c
  split at h
  ·cases h
  ·rename_i hc
   cases h
   obtain ⟨b,hb,hl,rfl⟩:=hx
   refine ⟨.pointer (some ⟨b.blk,b.base+k,none⟩),?_,b,hb,rfl⟩
   show Sem.run P (ite (c≠0) _ _) w=_
   rw[if_pos hc];rfl
 ·rename_i o k len sz
  split at h
  ·cases h
  ·rename_i hlen
   cases h
   obtain ⟨b,hb,hl,rfl⟩:=hx
   refine ⟨.pointer (some ⟨b.blk,b.base+k,none⟩),?_,b,hb,rfl⟩
   have hc:¬ (cK.rest sz).cap b k=0:=by omega
   show Sem.run P (ite ((cK.rest sz).cap b k≠0) _ _) w=_
   rw[if_pos hc];rfl
 ·cases h
theorem jC {t:List LV} {a:Act} {o:Oper} {v:LV} (ht:Rps β t a.tmps.toList) (h:dQ P t o.op=some v) :
  ∃ u,(execOp a.eval o).run P w=.ok (.value u) w∧Rp β v u:=by
 cases ho:o.op with
 | move x=>
  rw[ho] at h;simp only[dQ] at h
  exact ⟨_,by unfold execOp;rw[ho];rfl,au ht h⟩
 | assign x=>
  rw[ho] at h;simp only[dQ] at h
  exact ⟨_,by unfold execOp;rw[ho];rfl,au ht h⟩
 | pick c x y=>
  rw[ho] at h;simp only[dQ] at h
  split at h
  ·rename_i c' x' y' h1 h2 h3
   unfold oM at h
   split at h
   ·rename_i b
    simp at h;subst h
    have r1:=au ht h1;have r2:=au ht h2;have r3:=au ht h3
    simp only[Rp] at r1
    refine ⟨if b then a.eval x else a.eval y,?_,?_⟩
    ·unfold execOp;rw[ho];simp only[r1,asBool,ae,an,ab]
    ·cases b
     ·exact r3
     ·exact r2
   ·simp at h
  ·simp at h
 | nilCheck x=>
  rw[ho] at h;simp only[dQ] at h
  split at h
  ·rename_i x' h1
   exact ⟨_,nj ho rfl (au ht h1) h⟩
  ·simp at h
 | binOp op ty x y yt=>
  rw[ho] at h;simp only[dQ] at h
  split at h
  ·rename_i x' y' h1 h2
   obtain ⟨u,h3,h4⟩:=sV (w:=w) (au ht h1) (au ht h2) h
   exact ⟨u,by unfold execOp;rw[ho];exact bX h3,h4⟩
  ·simp at h
 | unOp op ty x=>
  rw[ho] at h;simp only[dQ] at h
  split at h
  ·rename_i x' h1
   obtain ⟨u,h3,h4⟩:=qZ (P:=P) (w:=w) (au ht h1) h
   exact ⟨u,by unfold execOp;rw[ho];exact bX h3,h4⟩
  ·simp at h
 | convert s d x=>
  rw[ho] at h;simp only[dQ] at h
  split at h
  ·rename_i x' h1
   obtain ⟨u,h3,h4⟩:=sX (w:=w) (au ht h1) h
   exact ⟨u,by unfold execOp;rw[ho];exact bX h3,h4⟩
  ·simp at h
 | makeInterface ty x=>
  rw[ho] at h;simp only[dQ] at h
  split at h
  ·rename_i x' h1
   obtain ⟨u,h3,h4⟩:=ml (w:=w) (au ht h1) h
   exact ⟨u,by unfold execOp;rw[ho];exact bX h3,h4⟩
  ·simp at h
 | makeFunc fn xs ys=>
  rw[ho] at h;simp only[dQ] at h
  split at h
  ·rename_i x' y' h1 h2
   simp at h;subst h
   refine ⟨.func fn (xs.map a.eval) (ys.map a.eval),by unfold execOp;rw[ho];rfl,xs.toList.map a.eval,ys.toList.map a.eval,?_,cS ht h1,cS ht h2⟩
   congr 1<;>(apply Array.ext';simp)
  ·simp at h
 | field ty x f=>
  rw[ho] at h;simp only[dQ] at h
  split at h
  ·rename_i x' h1
   obtain ⟨u,h3,h4⟩:=qS (w:=w) (au ht h1) h
   exact ⟨u,by unfold execOp;rw[ho];exact bX h3,h4⟩
  ·simp at h
 | fieldAddr ty x f=>
  rw[ho] at h;simp only[dQ] at h
  split at h
  ·rename_i x' h1
   obtain ⟨u,h3,h4⟩:=oy (w:=w) (au ht h1) h
   exact ⟨u,by unfold execOp;rw[ho];exact bX h3,h4⟩
  ·simp at h
 | indexAddr ty x i=>
  rw[ho] at h;simp only[dQ] at h
  split at h
  ·rename_i x' y' h1 h2
   obtain ⟨u,h3,h4⟩:=oz (w:=w) (au ht h1) (au ht h2) h
   exact ⟨u,by unfold execOp;rw[ho];exact bX h3,h4⟩
  ·simp at h
 | index ty x i=>
  rw[ho] at h;simp only[dQ] at h
  split at h
  ·rename_i x' y' h1 h2
   obtain ⟨u,h3,h4⟩:=qT (w:=w) (au ht h1) (au ht h2) h
   exact ⟨u,by unfold execOp;rw[ho];exact bX h3,h4⟩
  ·simp at h
 | slice ty x l hh m=>
  rw[ho] at h;simp only[dQ] at h
  split at h
  ·rename_i x' l' hh' m' h1 h2 h3 h4
   unfold ob3 at h
   split at h
   ·rename_i l2 hh2 m2 e1 e2 e3
    obtain ⟨u,h5,h6⟩:=fM (w:=w) (au ht h1) (oP ht h2 e1) (oP ht h3 e2) (oP ht h4 e3) h
    exact ⟨u,by unfold execOp;rw[ho];exact bX h5,h6⟩
   ·simp at h
  ·simp at h
 | extract x i=>
  rw[ho] at h;simp only[dQ] at h
  split at h
  ·rename_i x' h1
   have r:=au ht h1
   unfold ah at h
   split at h
   ·obtain ⟨vs,e,rs⟩:=r
    obtain ⟨u,hu,ru⟩:=rs.get h
    refine ⟨u,?_,ru⟩
    unfold execOp;rw[ho]
    refine bX ?_
    rw[e]
    simp[Instr.extract,hu]
   ·simp at h
  ·simp at h
 | typeAssert x xt as_ ok=>
  rw[ho] at h;simp only[dQ] at h
  split at h
  ·rename_i x' h1
   obtain ⟨u,h3,h4⟩:=gG (w:=w) (xt:=xt) (au ht h1) h
   exact ⟨u,by unfold execOp;rw[ho];exact bX h3,h4⟩
  ·simp at h
 | build ty parts=>
  rw[ho] at h;simp only[dQ] at h
  split at h
  ·rename_i ps h1
   obtain ⟨e1,e2⟩:=k9 ht h1
   obtain ⟨u,h3,h4⟩:=qW (w:=w) (qs:=parts.toList.map fun x=>(x.1,a.eval x.2)) (by rw[List.map_map];exact e1) (by rw[List.map_map];exact e2) h
   refine ⟨u,?_,h4⟩
   unfold execOp;rw[ho]
   refine bX ?_
   rw[← h3]
   congr 2
   apply Array.ext'
   simp
  ·simp at h
 | call c=>
  rw[ho] at h;simp only[dQ] at h
  split at h
  ·rename_i x hc h1
   obtain ⟨u,e,r⟩:=gI ht h1
   obtain ⟨cs,hcs⟩:=bp (P:=P) (w:=w) (ρ:=a.eval) ho hc
   rw[hcs,e]
   by_cases h0:0<c.argTypes.size∧kY P (c.argTypes.getD 0 0)=false
   ·rw[if_pos h0] at h
    obtain ⟨u',h3,h4⟩:=ni (w0:=w) (rt:=o.type) (st:=[]) (w:=w) (.inr ⟨rfl,h0.2⟩) r h0.1 h
    exact ⟨u',by unfold builtin;exact bX h3,h4⟩
   ·rw[if_neg h0] at h;simp at h
  ·rename_i x hc h1
   obtain ⟨u,e,r⟩:=gI ht h1
   obtain ⟨cs,hcs⟩:=bp (P:=P) (w:=w) (ρ:=a.eval) ho hc
   rw[hcs,e]
   by_cases h0:0<c.argTypes.size
   ·rw[if_pos h0] at h
    obtain ⟨u',h3,h4⟩:=sW (rt:=o.type) (w:=w) r h0 h
    exact ⟨u',by unfold builtin;exact bX h3,h4⟩
   ·rw[if_neg h0] at h;simp at h
  ·rename_i xs hc h1
   obtain ⟨cs,hcs⟩:=bp (P:=P) (w:=w) (ρ:=a.eval) ho hc
   rw[hcs]
   have rs:=cS ht h1
   unfold gh at h
   split at h
   ·simp at h
   ·obtain ⟨u,us,e,r,s⟩:=rs
    obtain ⟨q,h3,h4⟩:=ib (P:=P) (w:=w) (fun x y v a b hx hy h=>qX hx hy h) s r h
    refine ⟨q,?_,h4⟩
    unfold builtin
    refine bX ?_
    unfold Builtin.max_
    rw[show (Array.map a.eval c.args).toList=u::us by rw[← e];simp]
    exact h3
  ·rename_i xs hc h1
   obtain ⟨cs,hcs⟩:=bp (P:=P) (w:=w) (ρ:=a.eval) ho hc
   rw[hcs]
   have rs:=cS ht h1
   unfold oN at h
   split at h
   ·simp at h
   ·obtain ⟨u,us,e,r,s⟩:=rs
    obtain ⟨q,h3,h4⟩:=ib (P:=P) (w:=w) (fun x y v a b hx hy h=>qY hx hy h) s r h
    refine ⟨q,?_,h4⟩
    unfold builtin
    refine bX ?_
    unfold Builtin.min_
    rw[show (Array.map a.eval c.args).toList=u::us by rw[← e];simp]
    exact h3
  ·rename_i x hc h1
   obtain ⟨u,e,r⟩:=gI ht h1
   obtain ⟨cs,hcs⟩:=bp (P:=P) (w:=w) (ρ:=a.eval) ho hc
   rw[hcs,e]
   obtain ⟨u',h3,h4⟩:=pL (P:=P) (w:=w) (ats:=c.argTypes) (rt:=o.type) r h
   exact ⟨u',by unfold builtin;exact bX h3,h4⟩
  ·rename_i x y hc h1
   obtain ⟨u1,u2,e,r1,r2⟩:=jQ ht h1
   obtain ⟨cs,hcs⟩:=bp (P:=P) (w:=w) (ρ:=a.eval) ho hc
   rw[hcs,e]
   unfold uh at h
   split at h
   ·simp only[Rp] at r1 r2;subst r1;subst r2
    split at h
    ·rename_i k a k' b hk
     subst hk
     simp only[ao] at h;subst h
     refine ⟨.complex k a b,by unfold builtin;refine bX ?_;show (if k=k then pure (.complex k a b) else stuck _:Sem Value).run P w=_;rw[if_pos rfl];rfl,rfl⟩
    ·simp at h
   ·simp at h
  ·rename_i x hc h1
   obtain ⟨u1,e,r1⟩:=gI ht h1
   obtain ⟨cs,hcs⟩:=bp (P:=P) (w:=w) (ρ:=a.eval) ho hc
   rw[hcs,e]
   unfold zF at h
   split at h
   ·simp only[Rp] at r1;subst r1
    simp at h;subst h
    exact ⟨_,by unfold builtin;exact bX rfl,rfl⟩
   ·simp at h
  ·rename_i x hc h1
   obtain ⟨u1,e,r1⟩:=gI ht h1
   obtain ⟨cs,hcs⟩:=bp (P:=P) (w:=w) (ρ:=a.eval) ho hc
   rw[hcs,e]
   unfold zG at h
   split at h
   ·simp only[Rp] at r1;subst r1
    simp at h;subst h
    exact ⟨_,by unfold builtin;exact bX rfl,rfl⟩
   ·simp at h
  ·simp at h
 | _=>rw[ho] at h;simp[dQ] at h
end
end Go.CP
