/- Parts of the proof. -/
import Derived.Test.YtknegckgmklnhaaGreatDoorCp17m
namespace Go.CP
section
variable {β:Lay} {P:Program} {w w0:World} {st:aa}
theorem gZ:∀ {n:Nat} {cs:List LV} {us:List Value} {s:List UInt8} {bl off:Nat} {acc:ByteArray},us.length=n→Rps β cs us→bytesOf cs=some s→
  (∀ j v,us[j]?=some v→w.cell? ⟨bl,off+j,none⟩=some v)→(loadBytes ⟨bl,off,none⟩ acc n).run P w=.ok (acc++⟨⟨s⟩⟩) w
 | 0,cs,us,s,bl,off,acc,hn,hr,hb,_=>by
  have:us=[]:=List.eq_nil_of_length_eq_zero hn
  subst this
  have hc:cs=[]:=by
   cases cs with
   | nil=>rfl
   | cons c cs=>obtain ⟨v,us,e,_⟩:=hr;cases e
  subst hc
  simp[bytesOf] at hb;subst hb
  have:acc++(⟨⟨[]⟩⟩:ByteArray)=acc:=by apply ByteArray.ext;rw[ByteArray.data_append];simp
  simp[loadBytes,this]
 | n+1,cs,us,s,bl,off,acc,hn,hr,hb,hc=>by
  cases cs with
  | nil=>simp only[Rps] at hr;subst hr;simp at hn
  | cons c cs=>
   obtain ⟨v,us,rfl,r,rs⟩:=hr
   unfold bytesOf at hb
   split at hb
   ·rename_i e;simp at e
   ·rename_i m rest e
    simp only[List.cons.injEq] at e
    obtain ⟨rfl,rfl⟩:=e
    simp only[Rp] at r;subst r
    split at hb
    ·rename_i s' hs'
     simp at hb;subst hb
     have h0:=hc 0 _ rfl
     unfold loadBytes
     simp only[ae,run_load,Nat.add_zero] at h0 ⊢
     rw[h0]
     simp only[ab,addr_add]
     rw[gZ (by simpa using hn) rs hs' (fun j v hv=>by
      have:=hc (j+1) v (by simpa using hv)
      rwa [show off+1+j=off+(j+1) from by omega])]
     congr 1
     apply ByteArray.ext
     simp[ByteArray.data_append]
    ·simp at hb
   ·simp at hb
theorem pR {a:Addr} {n k:Nat} (h:k≠a.block):(w.freeze a n).heap[k]?=w.heap[k]?:=by
 unfold World.freeze
 split
 ·rfl
 ·simp only[Array.getElem?_modify]
  rw[if_neg (Ne.symm h)]
theorem rk {a:Addr} {n:Nat} {c:Array Value} {e:TypeId} {fz:Nat × Nat} (h:w.heap[a.block]?=some (.cells c e fz)):∃ fz',(w.freeze a n).heap[a.block]?=some (.cells c e fz'):=by
 unfold World.freeze
 split
 ·exact ⟨fz,h⟩
 ·simp only[Array.getElem?_modify,if_true,h,Option.map_some]
  exact ⟨_,rfl⟩
theorem Rel.freeze {o off n:Nat} {m:Md} {l:List LV} {b:Bl} (h:Rel w0 β st w) (ho:st[o]?=some (.cells m l)) (hm:m.w=true) (hb:β o=some b) :
  Rel w0 β (st.set o (.cells .ro l)) (w.freeze ⟨b.blk,off,none⟩ n):=by
 obtain ⟨b',hb',c,e,fz,hh,h1,h2,h3,h4⟩:=h.obj o _ ho
 rw[hb] at hb';cases hb'
 obtain ⟨fz',hf⟩:=rk (a:=⟨b.blk,off,none⟩) (n:=n) hh
 refine h.upd ho hm hb ?_ ?_ ?_ ?_ (fun k hk=>pR hk) ⟨b,hb,c,e,fz',hf,h1,h2,h3,?_⟩
 ·unfold World.freeze;split<;>rfl
 ·unfold World.freeze;split<;>rfl
 ·unfold World.freeze;split<;>rfl
 ·unfold World.freeze;split
  ·rfl
  ·simp
 ·exact ⟨(fun k=>by cases k),(by rintro t ⟨⟩),(by rintro g n ⟨⟩)⟩
theorem pS {a:Addr} {c:Array Value} {e:TypeId} {fz:Nat × Nat} {n:Nat} (hh:w.heap[a.block]?=some (.cells c e fz)) (hz:szT P e=1) (hc:a.off+n≤c.size) :
  (variablesAt a e n).run P w=.ok true w:=by
 unfold variablesAt
 simp only[ae,run_program,ab,run_shape,World.shape?,hh,an]
 congr 1
 obtain ⟨d,hd⟩:=nx (P:=P)
 rw[hd]
 unfold liesAt
 rw[hd]
 have hr:rowAt P (fun x=>sameLayout P (d+1) x e) (d+1) e (c.size / P.cellsOf e) a.off n=true:=by
  unfold rowAt
  have h1:P.cellsOf e=1:=by rw[ik];exact hz
  simp[h1,hc,gW,Nat.mod_one]
 rw[hr];rfl
theorem tl {p n v:LV} {st':aa} {u q:Value} {ats:Array TypeId} {rt e:TypeId} (h:Rel w0 β st w) (h0:0<ats.size) (he:vo P (ats.getD 0 0)=some e) (hz:szT P e=1)
  (hp:Rp β p u) (hn:Rp β n q) (hl:wF st e p n=some (v,st')) :
  ∃ u' w',(Builtin.unsafeString_ ats rt #[u,q]).run P w=.ok u' w'∧eT w0 β v st' u' w':=by
 unfold wF at hl
 split at hl
 ·rename_i k m
  split at hl
  ·rename_i hm
   cases hl
   simp only[Rp] at hp hn;subst hp;subst hn;subst hm
   refine ⟨.string .empty,w,?_,β,rfl,h,Lay.le.refl _⟩
   obtain ⟨l⟩:=ats
   cases l with
   | nil=>simp at h0
   | cons t r=>rfl
  ·cases hl
 ·rename_i o k kk m
  split at hl
  ·rename_i hm
   cases hl
   obtain ⟨b,hb,rfl⟩:=hp
   simp only[Rp] at hn;subst hn;subst hm
   refine ⟨.string .empty,w,?_,β,rfl,h,Lay.le.refl _⟩
   obtain ⟨l⟩:=ats
   cases l with
   | nil=>simp at h0
   | cons t r=>rfl
  ·split at hl
   ·rename_i hm0 hm
    split at hl
    ·rename_i e' l ho
     split at hl
     ·rename_i hc
      obtain ⟨rfl,hlen⟩:=hc
      split at hl
      ·rename_i s hs
       cases hl
       obtain ⟨b,hb,rfl⟩:=hp
       simp only[Rp] at hn;subst hn
       obtain ⟨c,e2,fz,hh,h1,h2,h3⟩:=h.blk ho hb
       obtain ⟨rfl,hbase⟩:=h3.2.1 _ rfl
       obtain ⟨us,g1,g2,g3⟩:=h.cells (k:=k) (n:=m.toNat) ho hb hlen
       have ha:ats[0]?=some (ats.getD 0 0):=by simp[Array.getD_eq_getD_getElem?,h0]
       refine ⟨.string ⟨⟨s⟩⟩,w.freeze ⟨b.blk,b.base+k,none⟩ m.toNat,?_,β,rfl,h.freeze ho rfl hb,Lay.le.refl _⟩
       have n1:¬ m<0:=by omega
       have n2:¬ m > IntKind.i64.max:=by
        have:IntKind.i64.max=9223372036854775807:=by decide
        omega
       conv=>lhs;arg 2;whnf
       simp only[ae,an,ab,ha,n1,n2,if_false,hm0,elemOf,ai (ll he),
        pS (P:=P) (w:=w) (a:=⟨b.blk,b.base+k,none⟩) (n:=m.toNat) hh hz (by simp;omega),if_true,
        gZ (P:=P) (w:=w) (acc:=.empty) g1 g2 hs g3,run_freeze]
       congr 2
      ·cases hl
     ·cases hl
    ·cases hl
   ·cases hl
 ·cases hl
theorem vB (e:TypeId):yA P e=.rw∨yA P e=.bt e:=by
 unfold yA;split
 ·exact .inr rfl
 ·exact .inl rfl
theorem tm {t:List LV} {a:Act} {o:Oper} {v:LV} {st':aa} (h:Rel w0 β st w) (ht:Rps β t a.tmps.toList) (hl:eP P t st o.op=some (v,st')) :
  ∃ n w',(execOp a.eval o).run P w=.ok n w'∧Did w0 β v st' n w':=by
 have fin:∀ {s:Sem Value},(execOp a.eval o=do pure (.value (← s)))→(∃ u w',s.run P w=.ok u w'∧eT w0 β v st' u w')→∃ n w',(execOp a.eval o).run P w=.ok n w'∧Did w0 β v st' n w':=by
  intro s e ⟨u,w',h1,h2⟩
  exact ⟨_,w',by rw[e];exact bX h1,iQ h2⟩
 have finu:∀ {s:Sem Unit},(execOp a.eval o=do s;pure .skip)→v=af→(∃ w',s.run P w=.ok () w'∧Rel w0 β st' w')→∃ n w',(execOp a.eval o).run P w=.ok n w'∧Did w0 β v st' n w':=by
  intro s e ev ⟨w',h1,h2⟩
  subst ev
  exact ⟨_,w',by rw[e];exact BJ h1,wJ h2⟩
 cases ho:o.op with
 | alloc e=>
  rw[ho] at hl;simp only[eP] at hl
  split at hl
  ·rename_i z hz
   simp only[ao] at hl
   have e1:(jx P e st z.cells).1=v:=by rw[hl]
   have e2:(jx P e st z.cells).2=st':=by rw[hl]
   subst e1;subst e2
   exact fin (by unfold execOp;rw[ho]) (ra h hz)
  ·simp at hl
 | box e x=>
  rw[ho] at hl;simp only[eP] at hl
  split at hl
  ·rename_i x' h1
   unfold cy at hl
   split at hl
   ·rename_i hok
    simp only[yy,ao,Prod.mk.injEq] at hl;obtain ⟨rfl,rfl⟩:=hl
    exact fin (by unfold execOp;rw[ho]) (vA h (au ht h1) hok)
   ·simp at hl
  ·simp at hl
 | buildSlice ty n parts=>
  rw[ho] at hl;simp only[eP] at hl
  split at hl
  ·rename_i ps h1
   unfold eO at hl
   split at hl
   ·rename_i cs hcs
    simp only[ao,Prod.mk.injEq] at hl;obtain ⟨rfl,rfl⟩:=hl
    obtain ⟨e1,e2⟩:=k9 ht h1
    have hq:parts.map (fun x=>(x.1,a.eval x.2))=⟨parts.toList.map fun x=>(x.1,a.eval x.2)⟩:=by apply Array.ext';simp
    refine fin (s:=Instr.buildSlice ty n (parts.map fun x=>(x.1,a.eval x.2))) (by unfold execOp;rw[ho]) ?_
    rw[hq]
    exact lj h (by rw[List.map_map];exact e1) (by rw[List.map_map];exact e2) hcs
   ·simp at hl
  ·simp at hl
 | store ty p x=>
  rw[ho] at hl;simp only[eP] at hl
  split at hl
  ·rename_i p' x' h1 h2
   obtain ⟨h3,hv⟩:=gu hl
   exact finu (by unfold execOp;rw[ho]) hv (q9 h (au ht h1) (au ht h2) h3)
  ·simp at hl
 | makeMap ty r=>
  cases r with
  | none=>
   rw[ho] at hl;simp only[eP,ub,ao,Prod.mk.injEq] at hl;obtain ⟨rfl,rfl⟩:=hl
   exact fin (by unfold execOp;rw[ho];rfl) (oE h)
  | some x=>rw[ho] at hl;simp[eP] at hl
 | makeSlice ty l c=>
  rw[ho] at hl;simp only[eP] at hl
  split at hl
  ·rename_i l' c' e h1 h2 he
   split at hl
   ·rename_i z hz
    exact fin (by unfold execOp;rw[ho]) (mn h (au ht h1) (au ht h2) he hz hl)
   ·simp at hl
  ·simp at hl
 | mapUpdate ty m k x=>
  rw[ho] at hl;simp only[eP] at hl
  split at hl
  ·rename_i m' k' x' h1 h2 h3
   obtain ⟨h4,hv⟩:=gu hl
   exact finu (by unfold execOp;rw[ho]) hv (jW h (au ht h1) (au ht h2) (au ht h3) h4)
  ·simp at hl
 | insert ty m k x=>
  rw[ho] at hl;simp only[eP] at hl
  split at hl
  ·rename_i m' k' x' h1 h2 h3
   obtain ⟨h4,hv⟩:=gu hl
   exact finu (by unfold execOp;rw[ho]) hv (jW h (au ht h1) (au ht h2) (au ht h3) h4)
  ·simp at hl
 | mapEntry ty m k=>
  rw[ho] at hl;simp only[eP] at hl
  split at hl
  ·rename_i m' k' h1 h2
   exact fin (by unfold execOp;rw[ho]) (ny h (au ht h1) (au ht h2) hl)
  ·simp at hl
 | entryStore ty m k x=>
  rw[ho] at hl;simp only[eP] at hl
  split at hl
  ·rename_i m' k' x' h1 h2 h3
   obtain ⟨h4,hv⟩:=gu hl
   exact finu (by unfold execOp;rw[ho]) hv (nz h (au ht h1) (au ht h2) (au ht h3) h4)
  ·simp at hl
 | range ty x=>
  rw[ho] at hl;simp only[eP] at hl
  split at hl
  ·rename_i x' h1
   exact fin (by unfold execOp;rw[ho]) (rj h (au ht h1) hl)
  ·simp at hl
 | next it s=>
  cases s with
  | true=>rw[ho] at hl;simp[eP] at hl
  | false=>
   rw[ho] at hl;simp only[eP] at hl
   split at hl
   ·rename_i x' h1
    exact fin (by unfold execOp;rw[ho]) (gM h (au ht h1) hl)
   ·simp at hl
 | convert s d x=>
  rw[ho] at hl;simp only[eP] at hl
  split at hl
  ·rename_i v' h1
   split at hl
   case isFalse=>
    split at hl
    case isFalse=>simp at hl
    rename_i hc
    simp only[aF,beq_iff_eq] at hc
    obtain ⟨rfl,hc⟩:=hc
    obtain ⟨e,hd1,hd2⟩:=ij hc
    have hx:=au ht h1
    unfold mY at hl
    split at hl
    case h_2=>cases hl
    rename_i o' k len ci
    split at hl
    case h_2=>cases hl
    rename_i m l ho'
    split at hl
    case isFalse=>cases hl
    rename_i hm
    simp only[ao,Prod.mk.injEq] at hl;obtain ⟨rfl,rfl⟩:=hl
    obtain ⟨b,hb,hle,hxe⟩:=hx
    obtain ⟨b',hb',c,el,fz,hh,_⟩:=h.obj o' _ ho'
    rw[hb] at hb';cases hb'
    refine fin (s:=convert s s (a.eval x)) (by unfold execOp;rw[ho]) ⟨_,w.freeze ⟨b.blk,c.size,none⟩ 1,?_,β,⟨b,hb,hle,hxe⟩,h.freeze ho' hm hb,Lay.le.refl _⟩
    unfold convert
    simp only[ae,ai hd1,ab,hxe,ai hd2,beq_self_eq_true]
    simp only[markStringish,shape,Sem.run,freeze,World.shape?,hh,ae,ab]
    rfl
   rename_i hc
   unfold oJ at hl
   split at hl
   ·rename_i s'
    simp only[aF] at hc
    simp only[ao,Prod.mk.injEq] at hl;obtain ⟨rfl,rfl⟩:=hl
    have hs:=lO hc.1
    obtain ⟨e,hd1,hd2⟩:=ij hc.2
    have hx:=au ht h1
    simp only[Rp] at hx
    obtain ⟨u,w',h3,h4⟩:=tk (P:=P) (e:=e) (s:=s') h
    refine fin (s:=convert s d (a.eval x)) (by unfold execOp;rw[ho]) ⟨u,w',?_,h4⟩
    unfold convert
    simp only[ae,ai hs,ai hd1,ab,hx,ai hd2]
    exact h3
   ·simp at hl
  ·simp at hl
 | call c=>
  rw[ho] at hl;simp only[eP] at hl
  split at hl
  ·rename_i s x hc h1
   obtain ⟨p,q,e,r1,r2⟩:=jQ ht h1
   obtain ⟨cs,hcs⟩:=bp (P:=P) (w:=w) (ρ:=a.eval) ho hc
   rw[e] at hcs
   split at hl
   ·rename_i el hel
    split at hl
    ·rename_i hcond
     obtain ⟨c1,c2,c3,c4,c5⟩:=hcond
     obtain ⟨i,z,A,hzs⟩:=td c1 c2 c3 hel c5
     obtain ⟨u,w',h3,h4⟩:=pO (rt:=o.type) A hzs c4 (vB el) h r1 r2 hl
     exact ⟨_,w',by rw[hcs];unfold builtin;exact bX h3,iQ h4⟩
    ·simp at hl
   ·simp at hl
  ·rename_i x hc h1
   obtain ⟨p,e,r1⟩:=gI ht h1
   obtain ⟨cs,hcs⟩:=bp (P:=P) (w:=w) (ρ:=a.eval) ho hc
   rw[e] at hcs
   by_cases h0:0<c.argTypes.size
   ·rw[if_pos h0] at hl
    split at hl
    ·rename_i el hel
     split at hl
     ·rename_i z hz
      obtain ⟨h3,hv⟩:=gu hl
      obtain ⟨w',h5,h6⟩:=rb (rt:=o.type) h r1 h0 hel hz h3
      subst hv
      exact ⟨_,w',by rw[hcs];unfold builtin;exact bX h5,β,undef,.inl rfl,Rp.undef,h6,Lay.le.refl _⟩
     ·simp at hl
    ·simp at hl
   ·rw[if_neg h0] at hl;simp at hl
  ·rename_i d x hc h1
   obtain ⟨p,q,e,r1,r2⟩:=jQ ht h1
   obtain ⟨cs,hcs⟩:=bp (P:=P) (w:=w) (ρ:=a.eval) ho hc
   rw[e] at hcs
   by_cases h0:0<c.argTypes.size
   ·rw[if_pos h0] at hl
    split at hl
    ·rename_i el hel
     obtain ⟨u,w',h3,h4⟩:=tg (rt:=o.type) h r1 r2 h0 hel hl
     exact ⟨_,w',by rw[hcs];unfold builtin;exact bX h3,iQ h4⟩
    ·simp at hl
   ·rw[if_neg h0] at hl;simp at hl
  ·rename_i p n hc h1
   obtain ⟨u,q,e,r1,r2⟩:=jQ ht h1
   obtain ⟨cs,hcs⟩:=bp (P:=P) (w:=w) (ρ:=a.eval) ho hc
   rw[e] at hcs
   by_cases h0:0<c.argTypes.size
   ·rw[if_pos h0] at hl
    split at hl
    ·rename_i e' he
     split at hl
     ·rename_i hz
      obtain ⟨u',w',h3,h4⟩:=tl (P:=P) (rt:=o.type) h h0 he hz.2 r1 r2 hl
      exact ⟨_,w',by rw[hcs];unfold builtin;exact bX h3,iQ h4⟩
     ·simp at hl
    ·simp at hl
   ·rw[if_neg h0] at hl;simp at hl
  ·rename_i m k hc h1
   obtain ⟨p,q,e,r1,r2⟩:=jQ ht h1
   obtain ⟨cs,hcs⟩:=bp (P:=P) (w:=w) (ρ:=a.eval) ho hc
   rw[e] at hcs
   by_cases h0:0<c.argTypes.size
   ·rw[if_pos h0] at hl
    obtain ⟨h3,hv⟩:=gu hl
    obtain ⟨w',h5,h6⟩:=pP (rt:=o.type) h r1 r2 h0 h3
    subst hv
    exact ⟨_,w',by rw[hcs];unfold builtin;exact bX h5,β,undef,.inl rfl,Rp.undef,h6,Lay.le.refl _⟩
   ·rw[if_neg h0] at hl;simp at hl
  ·simp at hl
 | _=>rw[ho] at hl;simp[eP] at hl
end
section
variable {β:Lay} {P:Program} {w w0:World} {st:aa} {dl:List Deferred}
def wK (w0:World) (β:Lay) (a:Act) (dst:Option Tmp) (K:LV→aa→Prop) (a':Act) (w':World):Prop:=
 ∃ β' v st' u,K v st'∧Rp β' v u∧Rel w0 β' st' w'∧β.le β'∧a'=a.put dst u
theorem rl {ρ:Operand→Value} {o:Oper} {c:Call} {f:Operand} {g:FuncId} {first captured:Array Value} (ho:o.op=.call c) (hc:c.callee=.value f) (hf:ρ f=.func (.func g) first captured) (hg:b5 P g) :
  (execOp ρ o).run P w=.ok (.enter g (first++c.args.map ρ++captured)) w:=by
 obtain ⟨fn,body,h1,h2,h3⟩:=hg
 unfold execOp
 rw[ho]
 simp only[resolve,hc,Deferred.ofValue,hf,ae,an,ab,invoke,callFunc,run_program,h1,h3,h2,Option.isNone_some,Bool.false_eq_true,if_false]
theorem vC {ρ:Operand→Value} {o:Oper} {c:Call} {f:Operand} {g:FuncId} {first captured:Array Value} (ho:o.op=.call c) (hc:c.callee=.value f) (hf:ρ f=.func (.func g) first captured) :
  (execOp ρ o).run P w=(callFunc g (first++c.args.map ρ++captured)).run P w:=by
 unfold execOp
 rw[ho]
 simp only[resolve,hc,Deferred.ofValue,hf,ae,an,ab,invoke]
theorem fO {t:List LV} {a:Act} {o:Oper} {K:LV→aa→Prop} {Q:Exit→Act→World→Prop} (h:Rel w0 β st w) (ht:Rps β t a.tmps.toList)
  (hk:cZ P o t st K):o.wp P a w (wK w0 β a o.dst K) Q:=by
 unfold cZ at hk
 unfold Oper.wp
 split at hk
 ·unfold bd at hk
  split at hk
  ·rename_i v hv
   obtain ⟨u,h1,h2⟩:=jC (w:=w) ht hv
   rw[h1]
   exact ⟨β,v,st,u,hk,h2,h,Lay.le.refl _,rfl⟩
  ·exact hk.elim
 ·unfold bd at hk
  split at hk
  ·rename_i v hv
   obtain ⟨u,h1,h2⟩:=jF h ht hv
   rw[h1]
   exact ⟨β,v,st,u,hk,h2,h,Lay.le.refl _,rfl⟩
  ·exact hk.elim
 ·unfold bd2 at hk
  split at hk
  ·rename_i v st' hr
   obtain ⟨n,w',h1,β',u,hn,h2,h3,h4⟩:=tm h ht hr
   rw[h1]
   rcases hn with rfl|⟨rfl,rfl⟩
   ·exact ⟨β',v,st',u,hk,h2,h3,h4,rfl⟩
   ·exact ⟨β',v,st',undef,hk,h2,h3,h4,rfl⟩
  ·exact hk.elim
 ·split at hk
  ·rename_i c ho
   unfold bd2 at hk
   split at hk
   ·rename_i g xs hr
    unfold dD at hr
    split at hr
    ·rename_i f hc
     split at hr
     case h_2=>simp at hr
     rename_i v' xs' h1 h2
     unfold jO at hr
     split at hr
     ·rename_i g' first captured
      simp only[ao,Prod.mk.injEq] at hr;obtain ⟨rfl,rfl⟩:=hr
      obtain ⟨vs,us,e,r1,r2⟩:=au ht h1
      have r3:=cS ht h2
      have hargs:((⟨vs⟩:Array Value)++c.args.map a.eval++⟨us⟩)=⟨vs++c.args.toList.map a.eval++us⟩:=by
       apply Array.ext';simp
      rcases hk with hk|hk
      ·rw[rl ho hc e hk.1]
       simp only[Oper.upon]
       rw[hargs]
       refine (hk.2 w0 β w _ h ((r1.append r3).append r2)).mono ?_
       intro e w' ⟨β',r,st',v,hR,he,hv,hrel,hle⟩
       subst he
       exact ⟨β',r,st',v,hR,hv,hrel,hle,rfl⟩
      ·obtain ⟨u,w',h5,β',r,st',hR,hv,hrel,hle⟩:=hk w0 β w _ h ((r1.append r3).append r2)
       rw[vC ho hc e,hargs,h5]
       exact ⟨β',r,st',u,hR,hv,hrel,hle,rfl⟩
     ·simp at hr
    ·simp at hr
   ·exact hk.elim
  ·exact hk.elim
 ·split at hk
  ·rename_i it ho
   unfold bd at hk
   split at hk
   ·rename_i x hx
    unfold fU bd at hk
    split at hk
    ·rename_i l hl
     obtain ⟨q,hq,u,w',h1,β',h2,h3,h4⟩:=oG (P:=P) (t:=o.type) h (au ht hx) hl
     have hrun:(execOp a.eval o).run P w=.ok (.value u) w':=by unfold execOp;rw[ho];exact bX h1
     rw[hrun]
     exact ⟨β',q.1,q.2,u,qM hk q hq,h2,h3,h4,rfl⟩
    ·exact hk.elim
   ·exact hk.elim
  ·exact hk.elim
 ·exact hk.elim
theorem cv {t:List LV} {d:Nat} {b:Bool} (h:t.getD d af=.bool b):t[d]?=some (.bool b)∧t.set d (.bool b)=t:=by
 have hd:d<t.length:=by
  rcases Nat.lt_or_ge d t.length with k|k
  ·exact k
  ·simp[List.getD_eq_getElem?_getD,List.getElem?_eq_none k,af] at h
 simp only[List.getD_eq_getElem?_getD,ba hd,Option.getD_some] at h
 refine ⟨by rw[ba hd,h],?_⟩
 rw[← h];exact List.set_getElem_self hd
theorem dG {t:List LV} {a:Act} {ops:Array Oper} {j d:Nat} {b:Bool} (ht:Rps β t a.tmps.toList) (hd:(ops[j]?).bind (·.dst)=some d) (hb:t.getD d af=.bool b) :
  yielded ops a.tmps j=some b:=by
 obtain ⟨u,hu,r⟩:=ht.get (cv hb).1
 simp only[Rp] at r;subst r
 unfold yielded
 have:a.tmps[d]?=some (.bool b):=by simpa using hu
 simp[hd,this]
theorem fP {t:List LV} {a:Act} {ops:Array Oper} {j d:Nat} (ht:Rps β t a.tmps.toList) (hd:(ops[j]?).bind (·.dst)=some d) (hb:t.getD d af=.tup []) :
  yielded ops a.tmps j=none:=by
 unfold yielded
 rw[hd]
 rcases Nat.lt_or_ge d t.length with k|k
 ·have hx:t[d]?=some (.tup []):=by
   simp only[List.getD_eq_getElem?_getD,ba k,Option.getD_some] at hb
   rw[ba k,hb]
  obtain ⟨u,hu,r⟩:=ht.get hx
  obtain ⟨vs,rfl,r⟩:=r
  have:a.tmps[d]?=some (.tuple ⟨vs⟩):=by simpa using hu
  simp[this]
 ·have:a.tmps[d]?=none:=by
   rw[Array.getElem?_eq_none_iff]
   have:=ht.length
   simp at this
   omega
  simp[this]
theorem bZ {t:List LV} {a:Act} {dst:Option Tmp} {v:LV} {u:Value} (ht:Rps β t a.tmps.toList) (hv:Rp β v u):Rps β (aW t dst v) (a.put dst u).tmps.toList:=by
 cases dst with
 | none=>exact ht
 | some d=>
  simp only[aW,Act.put]
  rw[Array.toList_setIfInBounds]
  exact ht.set d hv
theorem put_defers' {a:Act} {dst:Option Tmp} {u:Value}:(a.put dst u).defers=a.defers:=by
 cases dst<;>rfl
theorem bN {ops:Array Oper} {Q:Exit→Act→World→Prop}:∀ {l:List Nat} {K:List LV→aa→Prop} {t:List LV} {st:aa} {β:Lay} {a:Act} {w:World},
  Rel w0 β st w→Rps β t a.tmps.toList→a.defers=dl→bw P ops l K t st→
  (∀ β' t' st' a' w',K t' st'→Rel w0 β' st' w'→Rps β' t' a'.tmps.toList→a'.defers=dl→β.le β'→Q .normal a' w')→wpOps P ops Q l a w
 | [],K,t,st,β,a,w,h,ht,hd,hk,hq=>hq β t st a w hk h ht hd (Lay.le.refl _)
 | i::rest,K,t,st,β,a,w,h,ht,hd,hk,hq=>by
  simp only[wpOps]
  simp only[bw,force_eq] at hk
  cases ho:ops[i]? with
  | none=>
   simp only[ho] at hk ⊢
   exact bN h ht hd hk hq
  | some o=>
   simp only[ho] at hk ⊢
   -- the operation,done
   have go:∀ {t':List LV},t'=t→cZ P o t' st (fun v st'=>bo (bV ops i) v fun v=>bw P ops rest K (aW t' o.dst v) st')→Oper.wp P o a w (wpOps P ops Q rest) Q:=by
    intro t' e hk'
    subst e
    refine Oper.wp_mono ?_ (fO (Q:=Q) h ht hk')
    intro a' w' ⟨β',v,st',u,h1,h2,h3,h4,h5⟩
    subst h5
    have h1:=cx h1
    exact bN h3 (bZ (ht.mono h4) h2) (by rw[put_defers'];exact hd) h1 (fun β'' t'' st'' a'' w'' k1 k2 k3 k4 k5=>hq β'' t'' st'' a'' w'' k1 k2 k3 k4 (h4.trans k5))
   -- the operation,passed by
   have skip:∀ {t':List LV},t'=t→bw P ops rest K (aW t' o.dst af) st→wpOps P ops Q rest (a.put o.dst undef) w:=by
    intro t' e hk'
    subst e
    exact bN h (bZ ht Rp.undef) (by rw[put_defers'];exact hd) hk' hq
   cases hg:o.guard with
   | none=>
    simp only[hg] at hk
    have hw:Region.wanted o (yielded ops a.tmps)=true:=by simp[Region.wanted,hg]
    rw[if_pos hw]
    exact .inl (go rfl hk)
   | some jw=>
    obtain ⟨j,want⟩:=jw
    simp only[hg] at hk
    cases hdst:(ops[j]?).bind (·.dst) with
    | none=>simp only[hdst] at hk
    | some d=>
     simp only[hdst] at hk
     rcases fu hk with ⟨hb,hk⟩ | ⟨hb,hk⟩ | ⟨hb,hk⟩
     ·have hy:=dG ht hdst hb
      have hs:=(cv hb).2
      cases want
      ·have hw:¬ Region.wanted o (yielded ops a.tmps)=true:=by simp[Region.wanted,hg,hy]
       rw[if_neg hw]
       exact skip hs hk
      ·have hw:Region.wanted o (yielded ops a.tmps)=true:=by simp[Region.wanted,hg,hy]
       rw[if_pos hw]
       exact .inl (go hs hk)
     ·have hy:=dG ht hdst hb
      have hs:=(cv hb).2
      cases want
      ·have hw:Region.wanted o (yielded ops a.tmps)=true:=by simp[Region.wanted,hg,hy]
       rw[if_pos hw]
       exact .inl (go hs hk)
      ·have hw:¬ Region.wanted o (yielded ops a.tmps)=true:=by simp[Region.wanted,hg,hy]
       rw[if_neg hw]
       exact skip hs hk
     ·have hy:=fP ht hdst hb
      have hw:¬ Region.wanted o (yielded ops a.tmps)=true:=by simp[Region.wanted,hg,hy]
      rw[if_neg hw]
      exact skip rfl hk
end
def cV (P:Program) (o:Oper):Bool:=match cls P o.op with
 | .A | .L=>true
 | _=>false
inductive Pk where
 | done
 | one (i:Nat)
 | many (l:List Nat)
def rowsOf (P:Program) (ops:Array Oper):List (Nat × Bool):=
 ops.toList.map fun o=>(o.after.toList.foldl (fun s e=>if Region.binds .any e then s ||| 2 ^ e.on else s) 0,cV P o)
def cT (m:Nat):List (Nat × Bool)→Nat→List Nat→Pk
 | [],_,[]=>.done
 | [],_,[j]=>.one j
 | [],_,l=>.many l
 | (p,q)::r,i,c=>match m.testBit i || !((p &&& m)==p) with
  | true=>cT m r (i+1) c
  | false=>match q with
   | true=>.one i
   | false=>cT m r (i+1) (i::c)
def cg (rows:List (Nat × Bool)) (m:Nat):Pk:=cT m rows 0 []
def recheck (P:Program) (ops:Array Oper) (bf:Array Nat) (i:Nat) (st:aa):List (Nat × List LV × LV)→Prop→Prop
 | [],R=>R
 | (j,t,v)::r,R=>match (bf.getD i 0).testBit j with
  | true=>recheck P ops bf i st r R
  | false=>(match ops[j]? with
   | some o=>gi P t st o.op=some v
   | none=>False)∧recheck P ops bf i st r R
def cU (P:Program) (ops:Array Oper) (bf:Array Nat) (i:Nat) (o:Oper) (pend:List (Nat × List LV × LV)) (t:List LV) (st:aa)
  (next:List (Nat × List LV × LV)→LV→aa→Prop):Prop:=match cls P o.op with
 | .A=>bd (dQ P t o.op) fun v=>next pend v st
 | .L=>bd (gi P t st o.op) fun v=>next ((i,t,v)::pend) v st
 | .W=>bd2 (eP P t st o.op) fun v st'=>recheck P ops bf i st' pend (next pend v st')
 | .C=>match o.op with
  | .call c=>bd2 (dD t c) fun f xs=>ak P f xs st fun v st'=>recheck P ops bf i st' pend (next pend v st')
  | _=>False
 | .N=>match o.op with
  | .next it false=>bd (ev t it) fun x=>fU st x fun v st'=>recheck P ops bf i st' pend (next pend v st')
  | _=>False
 | .no=>False
def eU (P:Program) (ops:Array Oper) (bf:Array Nat) (i:Nat) (pend:List (Nat × List LV × LV)) (t:List LV) (st:aa)
  (next:List (Nat × List LV × LV)→List LV→aa→Prop):Prop:=match ops[i]? with
 | none=>False
 | some o=>match o.guard with
  | none=>cU P ops bf i o pend t st fun pend v st'=>bo (bV ops i) v fun v=>force (aW t o.dst v) fun t=>next pend t st'
  | some (j,want)=>match (ops[j]?).bind (·.dst) with
   | none=>False
   | some d=>qJ (guarded ops j) (t.getD d af)
     (match want with
      | true=>cU P ops bf i o pend (t.set d (.bool true)) st fun pend v st'=>bo (bV ops i) v fun v=>force (aW (t.set d (.bool true)) o.dst v) fun t=>next pend t st'
      | false=>force (aW (t.set d (.bool true)) o.dst af) fun t=>next pend t st)
     (match want with
      | true=>force (aW (t.set d (.bool false)) o.dst af) fun t=>next pend t st
      | false=>cU P ops bf i o pend (t.set d (.bool false)) st fun pend v st'=>bo (bV ops i) v fun v=>force (aW (t.set d (.bool false)) o.dst v) fun t=>next pend t st')
     (force (aW t o.dst af) fun t=>next pend t st)
def rn (f:Nat→Prop):List Nat→Prop
 | []=>True
 | [i]=>f i
 | i::l=>f i∧rn f l
def bT (P:Program) (ops:Array Oper) (bf:Array Nat) (rows:List (Nat × Bool)) (K:List LV→aa→Prop):Nat→Nat→List (Nat × List LV × LV)→List LV→aa→Prop
 | 0,m,_,t,st=>match cg rows m with
  | .done=>K t st
  | _=>False
 | n+1,m,pend,t,st=>match cg rows m with
  | .done=>K t st
  | .one i=>eU P ops bf i pend t st fun pend t st=>bT P ops bf rows K n (m ||| 2 ^ i) pend t st
  | .many l=>rn (fun i=>eU P ops bf i pend t st fun pend t st=>bT P ops bf rows K n (m ||| 2 ^ i) pend t st) l
def iu (ops:Array Oper) (bf:Array Nat):Bool:=
 ((List.range ops.size).all fun i=>match ops[i]? with
  | none=>false
  | some o=>(o.after.toList.all fun e=>!Region.binds .any e||decide (e.on<i)) &&
   (List.range ops.size).all fun j=>i==j||match (ops[j]?).bind (·.dst) with
    | none=>true
    | some d=>o.dst != some d&&(!(o.looksAt ops).contains d||(bf.getD i 0).testBit j||(bf.getD j 0).testBit i))
def fW (o:Op):List Tmp:=o.operands.toList.filterMap fun | .tmp t=>some t|_=>none
section
variable {P:Program} {t t':List LV}
theorem az {x:Operand} (h:∀ k,x=.tmp k→t.getD k af=t'.getD k af):ev t x=ev t' x:=by
 cases x<;>simp only[ev]
 rw[h _ rfl]
theorem eC:∀ {xs:List Operand},(∀ k,Operand.tmp k ∈ xs→t.getD k af=t'.getD k af)→evs t xs=evs t' xs
 | [],_=>rfl
 | x::xs,h=>by
  simp only[evs]
  rw[az (x:=x) (fun k e=>h k (by simp[e])),eC (xs:=xs) (fun k e=>h k (by simp[e]))]
theorem lq:∀ {xs:List (Nat × Operand)},(∀ k,Operand.tmp k ∈ xs.map (·.2)→t.getD k af=t'.getD k af)→evp t xs=evp t' xs
 | [],_=>rfl
 | (i,x)::xs,h=>by
  simp only[evp]
  rw[az (x:=x) (fun k e=>h k (by simp[e])),lq (xs:=xs) (fun k e=>h k (by simp only[List.map_cons,List.mem_cons];exact .inr e))]
theorem fk {x:Option Operand} (h:∀ k,x=some (.tmp k)→t.getD k af=t'.getD k af):evo t x=evo t' x:=by
 cases x with
 | none=>rfl
 | some x=>simp only[evo];rw[az (x:=x) (fun k e=>h k (by rw[e]))]
theorem gN {o:Op} {k:Nat}:k ∈ fW o↔Operand.tmp k ∈ o.operands:=by
 unfold fW
 rw[List.mem_filterMap]
 constructor
 ·rintro ⟨x,hx,e⟩
  cases x<;>simp at e
  subst e;simpa using hx
 ·intro h
  exact ⟨.tmp k,by simpa using h,rfl⟩
theorem tn {o:Op} (h:∀ k ∈ fW o,t.getD k af=t'.getD k af):dQ P t o=dQ P t' o:=by
 have h':∀ k,Operand.tmp k ∈ o.operands→t.getD k af=t'.getD k af:=fun k hk=>h k (gN.2 hk)
 clear h
 cases o<;>simp only[dQ]<;>simp only[Op.operands] at h'
 case move x=>exact az fun k e=>h' k (by simp[e])
 case assign x=>exact az fun k e=>h' k (by simp[e])
 case pick c a b=>
  rw[az (x:=c) fun k e=>h' k (by simp[e]),az (x:=a) fun k e=>h' k (by simp[e]),az (x:=b) fun k e=>h' k (by simp[e])]
 case nilCheck x=>rw[az (x:=x) fun k e=>h' k (by simp[e])]
 case binOp op ty x y yt=>rw[az (x:=x) fun k e=>h' k (by simp[e]),az (x:=y) fun k e=>h' k (by simp[e])]
 case unOp op ty x=>rw[az (x:=x) fun k e=>h' k (by simp[e])]
 case convert s d x=>rw[az (x:=x) fun k e=>h' k (by simp[e])]
 case makeInterface ty x=>rw[az (x:=x) fun k e=>h' k (by simp[e])]
 case makeFunc fn xs ys=>rw[eC (xs:=xs.toList) fun k e=>h' k (by simp;left;simpa using e),eC (xs:=ys.toList) fun k e=>h' k (by simp;right;simpa using e)]
 case field ty x f=>rw[az (x:=x) fun k e=>h' k (by simp[e])]
 case fieldAddr ty x f=>rw[az (x:=x) fun k e=>h' k (by simp[e])]
 case indexAddr ty x i=>rw[az (x:=x) fun k e=>h' k (by simp[e]),az (x:=i) fun k e=>h' k (by simp[e])]
 case index ty x i=>rw[az (x:=x) fun k e=>h' k (by simp[e]),az (x:=i) fun k e=>h' k (by simp[e])]
 case slice ty x l hh m=>
  rw[az (x:=x) fun k e=>h' k (by simp[e]),fk (x:=l) fun k e=>h' k (by simp[e]),fk (x:=hh) fun k e=>h' k (by simp[e]),fk (x:=m) fun k e=>h' k (by simp[e])]
 case extract x i=>rw[az (x:=x) fun k e=>h' k (by simp[e])]
 case typeAssert x xt a ok=>rw[az (x:=x) fun k e=>h' k (by simp[e])]
 case build ty parts=>rw[lq (xs:=parts.toList) fun k e=>h' k (by simpa using e)]
 case call c=>rw[eC (xs:=c.args.toList) fun k e=>h' k (by simp only[Call.operands];exact Array.mem_append.2 (.inr (by simpa using e)))]
theorem tp {o:Op} {st:aa} (h:∀ k ∈ fW o,t.getD k af=t'.getD k af):gi P t st o=gi P t' st o:=by
 have h':∀ k,Operand.tmp k ∈ o.operands→t.getD k af=t'.getD k af:=fun k hk=>h k (gN.2 hk)
 clear h
 cases o<;>simp only[gi]<;>simp only[Op.operands] at h'
 case load ty x=>rw[az (x:=x) fun k e=>h' k (by simp[e])]
 case entry x=>rw[az (x:=x) fun k e=>h' k (by simp[e])]
 case lookup ty x k ok=>rw[az (x:=x) fun k e=>h' k (by simp[e]),az (x:=k) fun j e=>h' j (by simp[e])]
 case slice ty x l hh m=>
  rw[az (x:=x) fun k e=>h' k (by simp[e]),fk (x:=l) fun k e=>h' k (by simp[e]),fk (x:=hh) fun k e=>h' k (by simp[e]),fk (x:=m) fun k e=>h' k (by simp[e])]
 case convert s d x=>rw[az (x:=x) fun k e=>h' k (by simp[e])]
 case call c=>rw[eC (xs:=c.args.toList) fun k e=>h' k (by simp only[Call.operands];exact Array.mem_append.2 (.inr (by simpa using e)))]
theorem nA {o:Op} {st:aa} (h:∀ k ∈ fW o,t.getD k af=t'.getD k af):eP P t st o=eP P t' st o:=by
 have h':∀ k,Operand.tmp k ∈ o.operands→t.getD k af=t'.getD k af:=fun k hk=>h k (gN.2 hk)
 clear h
 cases o<;>simp only[eP]<;>simp only[Op.operands] at h'
 case box ty x=>rw[az (x:=x) fun k e=>h' k (by simp[e])]
 case buildSlice ty n parts=>rw[lq (xs:=parts.toList) fun k e=>h' k (by simpa using e)]
 case store ty p x=>rw[az (x:=p) fun k e=>h' k (by simp[e]),az (x:=x) fun k e=>h' k (by simp[e])]
 case makeMap ty r=>cases r<;>rfl
 case makeSlice ty l c=>rw[az (x:=l) fun k e=>h' k (by simp[e]),az (x:=c) fun k e=>h' k (by simp[e])]
 case mapUpdate ty m k x=>rw[az (x:=m) fun j e=>h' j (by simp[e]),az (x:=k) fun j e=>h' j (by simp[e]),az (x:=x) fun j e=>h' j (by simp[e])]
 case insert ty m k x=>rw[az (x:=m) fun j e=>h' j (by simp[e]),az (x:=k) fun j e=>h' j (by simp[e]),az (x:=x) fun j e=>h' j (by simp[e])]
 case mapEntry ty m k=>rw[az (x:=m) fun j e=>h' j (by simp[e]),az (x:=k) fun j e=>h' j (by simp[e])]
 case entryStore ty m k x=>rw[az (x:=m) fun j e=>h' j (by simp[e]),az (x:=k) fun j e=>h' j (by simp[e]),az (x:=x) fun j e=>h' j (by simp[e])]
 case range ty x=>rw[az (x:=x) fun j e=>h' j (by simp[e])]
 case next it s=>cases s<;>simp only[]<;>rw[az (x:=it) fun j e=>h' j (by simp[e])]
 case convert s d x=>rw[az (x:=x) fun k e=>h' k (by simp[e])]
 case call c=>rw[eC (xs:=c.args.toList) fun k e=>h' k (by simp only[Call.operands];exact Array.mem_append.2 (.inr (by simpa using e)))]
theorem jl {c:Call} (h:∀ k ∈ fW (.call c),t.getD k af=t'.getD k af):dD t c=dD t' c:=by
 have h':∀ k,Operand.tmp k ∈ c.operands→t.getD k af=t'.getD k af:=fun k hk=>h k (gN.2 hk)
 unfold dD
 cases hc:c.callee with
 | value f=>
  simp only
  rw[az (x:=f) fun k e=>h' k (by simp[Call.operands,hc,e]),eC (xs:=c.args.toList) fun k e=>h' k (by simp only[Call.operands];exact Array.mem_append.2 (.inr (by simpa using e)))]
 | invoke r m=>rfl
 | builtin b=>rfl
end
end Go.CP
