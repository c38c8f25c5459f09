/- Parts of the proof. -/
import Derived.Test.YtknegckgmklnhaaGreatDoorCp9
namespace Go.CP
section
variable {β:Lay} {P:Program} {w:World}
theorem oU {x v:LV} {u:Value} {ρ:Operand→Value} {o:Oper} {y:Operand} (ho:o.op=.nilCheck y) (hu:ρ y=u) (hx:Rp β x u) (h:af x=some v) :
  (execOp ρ o).run P w=.ok (.value u) w∧Rp β v u:=by
 unfold af at h
 unfold execOp
 rw[ho]
 split at h
 ·obtain ⟨b,hb,rfl⟩:=hx;simp at h;subst h
  simp only[hu];exact ⟨rfl,b,hb,rfl⟩
 ·obtain ⟨q,rfl,r⟩:=hx;simp at h;subst h
  simp only[hu];exact ⟨rfl,q,rfl,r⟩
 ·obtain ⟨q,s,rfl,r⟩:=hx;simp at h;subst h
  simp only[hu];exact ⟨rfl,q,s,rfl,r⟩
 ·simp only[Rp] at hx;subst hx;simp at h;subst h
  simp only[hu];exact ⟨rfl,rfl⟩
 ·obtain ⟨us,b,base,q,rfl,r⟩:=hx;simp at h;subst h
  simp only[hu];exact ⟨rfl,us,b,base,q,rfl,r⟩
 ·simp at h
theorem uS {s d:TypeId} {x v:LV} {u:Value} (hx:Rp β x u) (h:yA P s d x=some v):∃ u',(convert s d u).run P w=.ok u' w∧Rp β v u':=by
 unfold yA at h
 split at h
 ·rename_i k' k h1 h2
  unfold fj at h
  split at h
  ·simp only[Rp] at hx;subst hx;simp at h;subst h
   exact ⟨_,by unfold convert;simp only[Sem.run_bind,aw h1,aw h2,Result.andThen_ok];rfl,rfl⟩
  ·simp at h
 ·rename_i k' k h1 h2
  unfold CC at h
  split at h
  ·simp only[Rp] at hx;subst hx;simp at h;subst h
   exact ⟨_,by unfold convert;simp only[Sem.run_bind,aw h1,aw h2,Result.andThen_ok];rfl,rfl⟩
  ·simp at h
 ·rename_i k' k h1 h2
  unfold CD at h
  split at h
  ·simp only[Rp] at hx;subst hx
   split at h
   ·rename_i n hn
    split at h
    ·rename_i hr
     simp at h;subst h
     refine ⟨.int k n,?_,rfl⟩
     unfold convert
     simp only[Sem.run_bind,aw h1,aw h2,Result.andThen_ok]
     show (Conv.floatToInt _ _ k).run P w=_
     unfold Conv.floatToInt
     rw[hn]
     simp only[if_pos hr]
     rfl
    ·simp at h
   ·simp at h
  ·simp at h
 ·rename_i h1 h2
  unfold Bk at h
  split at h
  ·simp only[Rp] at hx;subst hx;simp at h;subst h
   exact ⟨_,by unfold convert;simp only[Sem.run_bind,aw h1,aw h2,Result.andThen_ok];rfl,rfl⟩
  ·simp at h
 ·simp at h
theorem sP {op:UnOp} {x v:LV} {u:Value} (hx:Rp β x u) (h:lun op x=some v):∃ u',(Op.unary op u).run P w=.ok u' w∧Rp β v u':=by
 unfold lun at h
 split at h
 ·simp only[Rp] at hx;subst hx;simp only[Option.some.injEq] at h;subst h;exact ⟨_,rfl,rfl⟩
 ·simp only[Rp] at hx;subst hx;simp at h;subst h;exact ⟨_,rfl,rfl⟩
 ·simp at h
theorem nW {t:TypeId} {x v:LV} {u:Value} (hx:Rp β x u) (h:kN P t x=some v):∃ u',(Instr.makeInterface t u).run P w=.ok u' w∧Rp β v u':=by
 unfold kN at h
 split at h
 ·rename_i hc
  simp at h;subst h
  simp only[Bool.and_eq_true,Bool.not_eq_true'] at hc
  obtain ⟨d,hd⟩:=Option.isSome_iff_exists.1 hc.1
  have hn:=hc.2
  refine ⟨.iface t u,?_,u,rfl,hx⟩
  unfold Instr.makeInterface
  simp only[Sem.run_bind,aw hd,Result.andThen_ok]
  cases d<;>first|rfl | (simp[sy,hd] at hn)
 ·simp at h
theorem iC {t:List LV} {a:Act} {xs:Array Operand} {x:LV} (ht:Rps β t a.tmps.toList) (h:evs t xs.toList=some [x]):∃ u,xs.map a.eval = #[u]∧Rp β x u:=by
 obtain ⟨u,us,e,r,s⟩:=dG ht h
 simp only[Rps] at s;subst s
 exact ⟨u,by apply Array.ext';simpa using e,r⟩
theorem lr {t:List LV} {a:Act} {xs:Array Operand} {x y:LV} (ht:Rps β t a.tmps.toList) (h:evs t xs.toList=some [x,y]):∃ u v,xs.map a.eval = #[u,v]∧Rp β x u∧Rp β y v:=by
 obtain ⟨u,us,e,r,v,vs,rfl,s,s'⟩:=dG ht h
 simp only[Rps] at s';subst s'
 exact ⟨u,v,by apply Array.ext';simpa using e,r,s⟩
theorem bI {ρ:Operand→Value} {o:Oper} {c:Call} {b:Builtin} (ho:o.op=.call c) (hb:c.callee=.builtin b) :
  ∃ cs,(execOp ρ o).run P w=(builtin b c.argTypes o.type cs (c.args.map ρ)).run P w:=by
 unfold execOp
 rw[ho]
 simp only[resolve,hb,Sem.run_bind,Sem.run_pure,Result.andThen_ok,invoke]
 exact ⟨_,rfl⟩
theorem cr {s:Sem Value} {u:Value} {w':World} (h:s.run P w=.ok u w'):(do pure (.value (← s)):Sem Next).run P w=.ok (.value u) w':=by
 simp[h]
theorem rI {x v:LV} {u:Value} {ats:Array TypeId} {rt:TypeId} (hx:Rp β x u) (h:rF x=some v):∃ u',(Builtin.unsafeSliceData_ ats rt #[u]).run P w=.ok u' w∧Rp β v u':=by
 unfold rF at h
 split at h
 ·cases h
  simp only[Rp] at hx;subst hx
  exact ⟨_,rfl,rfl⟩
 ·rename_i o k len c
  split at h
  ·cases h
  ·rename_i hc
   cases h
   obtain ⟨b,hb,hl,rfl⟩:=hx
   refine ⟨.pointer (some ⟨b.blk,b.base+k,none⟩),?_,b,hb,rfl⟩
   show Sem.run P (ite (c≠0) _ _) w=_
   rw[if_pos hc];rfl
 ·rename_i o k len sz
  split at h
  ·cases h
  ·rename_i hlen
   cases h
   obtain ⟨b,hb,hl,rfl⟩:=hx
   refine ⟨.pointer (some ⟨b.blk,b.base+k,none⟩),?_,b,hb,rfl⟩
   have hc:¬ (df.rest sz).cap b k=0:=by omega
   show Sem.run P (ite ((df.rest sz).cap b k≠0) _ _) w=_
   rw[if_pos hc];rfl
 ·cases h
theorem oV {t:List LV} {a:Act} {o:Oper} {v:LV} (ht:Rps β t a.tmps.toList) (h:eK P t o.op=some v) :
  ∃ u,(execOp a.eval o).run P w=.ok (.value u) w∧Rp β v u:=by
 cases ho:o.op with
 | move x=>
  rw[ho] at h;simp only[eK] at h
  exact ⟨_,by unfold execOp;rw[ho];rfl,aH ht h⟩
 | assign x=>
  rw[ho] at h;simp only[eK] at h
  exact ⟨_,by unfold execOp;rw[ho];rfl,aH ht h⟩
 | pick c x y=>
  rw[ho] at h;simp only[eK] at h
  split at h
  ·rename_i c' x' y' h1 h2 h3
   unfold yB at h
   split at h
   ·rename_i b
    simp at h;subst h
    have r1:=aH ht h1;have r2:=aH ht h2;have r3:=aH ht h3
    simp only[Rp] at r1
    refine ⟨if b then a.eval x else a.eval y,?_,?_⟩
    ·unfold execOp;rw[ho];simp only[r1,asBool,Sem.run_bind,Sem.run_pure,Result.andThen_ok]
    ·cases b
     ·exact r3
     ·exact r2
   ·simp at h
  ·simp at h
 | nilCheck x=>
  rw[ho] at h;simp only[eK] at h
  split at h
  ·rename_i x' h1
   exact ⟨_,oU ho rfl (aH ht h1) h⟩
  ·simp at h
 | binOp op ty x y yt=>
  rw[ho] at h;simp only[eK] at h
  split at h
  ·rename_i x' y' h1 h2
   obtain ⟨u,h3,h4⟩:=uQ (w:=w) (aH ht h1) (aH ht h2) h
   exact ⟨u,by unfold execOp;rw[ho];exact cr h3,h4⟩
  ·simp at h
 | unOp op ty x=>
  rw[ho] at h;simp only[eK] at h
  split at h
  ·rename_i x' h1
   obtain ⟨u,h3,h4⟩:=sP (P:=P) (w:=w) (aH ht h1) h
   exact ⟨u,by unfold execOp;rw[ho];exact cr h3,h4⟩
  ·simp at h
 | convert s d x=>
  rw[ho] at h;simp only[eK] at h
  split at h
  ·rename_i x' h1
   obtain ⟨u,h3,h4⟩:=uS (w:=w) (aH ht h1) h
   exact ⟨u,by unfold execOp;rw[ho];exact cr h3,h4⟩
  ·simp at h
 | makeInterface ty x=>
  rw[ho] at h;simp only[eK] at h
  split at h
  ·rename_i x' h1
   obtain ⟨u,h3,h4⟩:=nW (w:=w) (aH ht h1) h
   exact ⟨u,by unfold execOp;rw[ho];exact cr h3,h4⟩
  ·simp at h
 | makeFunc fn xs ys=>
  rw[ho] at h;simp only[eK] at h
  split at h
  ·rename_i x' y' h1 h2
   simp at h;subst h
   refine ⟨.func fn (xs.map a.eval) (ys.map a.eval),by unfold execOp;rw[ho];rfl,xs.toList.map a.eval,ys.toList.map a.eval,?_,dG ht h1,dG ht h2⟩
   congr 1<;>(apply Array.ext';simp)
  ·simp at h
 | field ty x f=>
  rw[ho] at h;simp only[eK] at h
  split at h
  ·rename_i x' h1
   obtain ⟨u,h3,h4⟩:=sG (w:=w) (aH ht h1) h
   exact ⟨u,by unfold execOp;rw[ho];exact cr h3,h4⟩
  ·simp at h
 | fieldAddr ty x f=>
  rw[ho] at h;simp only[eK] at h
  split at h
  ·rename_i x' h1
   obtain ⟨u,h3,h4⟩:=qj (w:=w) (aH ht h1) h
   exact ⟨u,by unfold execOp;rw[ho];exact cr h3,h4⟩
  ·simp at h
 | indexAddr ty x i=>
  rw[ho] at h;simp only[eK] at h
  split at h
  ·rename_i x' y' h1 h2
   obtain ⟨u,h3,h4⟩:=qk (w:=w) (aH ht h1) (aH ht h2) h
   exact ⟨u,by unfold execOp;rw[ho];exact cr h3,h4⟩
  ·simp at h
 | index ty x i=>
  rw[ho] at h;simp only[eK] at h
  split at h
  ·rename_i x' y' h1 h2
   obtain ⟨u,h3,h4⟩:=sH (w:=w) (aH ht h1) (aH ht h2) h
   exact ⟨u,by unfold execOp;rw[ho];exact cr h3,h4⟩
  ·simp at h
 | slice ty x l hh m=>
  rw[ho] at h;simp only[eK] at h
  split at h
  ·rename_i x' l' hh' m' h1 h2 h3 h4
   unfold ob3 at h
   split at h
   ·rename_i l2 hh2 m2 e1 e2 e3
    obtain ⟨u,h5,h6⟩:=gL (w:=w) (aH ht h1) (qz ht h2 e1) (qz ht h3 e2) (qz ht h4 e3) h
    exact ⟨u,by unfold execOp;rw[ho];exact cr h5,h6⟩
   ·simp at h
  ·simp at h
 | extract x i=>
  rw[ho] at h;simp only[eK] at h
  split at h
  ·rename_i x' h1
   have r:=aH ht h1
   unfold ar at h
   split at h
   ·obtain ⟨vs,e,rs⟩:=r
    obtain ⟨u,hu,ru⟩:=rs.get h
    refine ⟨u,?_,ru⟩
    unfold execOp;rw[ho]
    refine cr ?_
    rw[e]
    simp[Instr.extract,hu]
   ·simp at h
  ·simp at h
 | typeAssert x xt as ok=>
  rw[ho] at h;simp only[eK] at h
  split at h
  ·rename_i x' h1
   obtain ⟨u,h3,h4⟩:=rH (w:=w) (xt:=xt) (aH ht h1) h
   exact ⟨u,by unfold execOp;rw[ho];exact cr h3,h4⟩
  ·simp at h
 | build ty parts=>
  rw[ho] at h;simp only[eK] at h
  split at h
  ·rename_i ps h1
   obtain ⟨e1,e2⟩:=my ht h1
   obtain ⟨u,h3,h4⟩:=sM (w:=w) (qs:=parts.toList.map fun x=>(x.1,a.eval x.2)) (by rw[List.map_map];exact e1) (by rw[List.map_map];exact e2) h
   refine ⟨u,?_,h4⟩
   unfold execOp;rw[ho]
   refine cr ?_
   rw[← h3]
   congr 2
   apply Array.ext'
   simp
  ·simp at h
 | call c=>
  rw[ho] at h;simp only[eK] at h
  split at h
  ·rename_i x hc h1
   obtain ⟨u,e,r⟩:=iC ht h1
   obtain ⟨cs,hcs⟩:=bI (P:=P) (w:=w) (ρ:=a.eval) ho hc
   rw[hcs,e]
   by_cases h0:0<c.argTypes.size∧mw P (c.argTypes.getD 0 0)=false
   ·rw[if_pos h0] at h
    obtain ⟨u',h3,h4⟩:=oT (w0:=w) (rt:=o.type) (st:=[]) (w:=w) (.inr ⟨rfl,h0.2⟩) r h0.1 h
    exact ⟨u',by unfold builtin;exact cr h3,h4⟩
   ·rw[if_neg h0] at h;simp at h
  ·rename_i x hc h1
   obtain ⟨u,e,r⟩:=iC ht h1
   obtain ⟨cs,hcs⟩:=bI (P:=P) (w:=w) (ρ:=a.eval) ho hc
   rw[hcs,e]
   by_cases h0:0<c.argTypes.size
   ·rw[if_pos h0] at h
    obtain ⟨u',h3,h4⟩:=uR (rt:=o.type) (w:=w) r h0 h
    exact ⟨u',by unfold builtin;exact cr h3,h4⟩
   ·rw[if_neg h0] at h;simp at h
  ·rename_i xs hc h1
   obtain ⟨cs,hcs⟩:=bI (P:=P) (w:=w) (ρ:=a.eval) ho hc
   rw[hcs]
   have rs:=dG ht h1
   unfold oH at h
   split at h
   ·simp at h
   ·obtain ⟨u,us,e,r,s⟩:=rs
    obtain ⟨q,h3,h4⟩:=ji (P:=P) (w:=w) (fun x y v a b hx hy h=>sN hx hy h) s r h
    refine ⟨q,?_,h4⟩
    unfold builtin
    refine cr ?_
    unfold Builtin.max_
    rw[show (Array.map a.eval c.args).toList=u::us by rw[← e];simp]
    exact h3
  ·rename_i xs hc h1
   obtain ⟨cs,hcs⟩:=bI (P:=P) (w:=w) (ρ:=a.eval) ho hc
   rw[hcs]
   have rs:=dG ht h1
   unfold sB at h
   split at h
   ·simp at h
   ·obtain ⟨u,us,e,r,s⟩:=rs
    obtain ⟨q,h3,h4⟩:=ji (P:=P) (w:=w) (fun x y v a b hx hy h=>sO hx hy h) s r h
    refine ⟨q,?_,h4⟩
    unfold builtin
    refine cr ?_
    unfold Builtin.min_
    rw[show (Array.map a.eval c.args).toList=u::us by rw[← e];simp]
    exact h3
  ·rename_i x hc h1
   obtain ⟨u,e,r⟩:=iC ht h1
   obtain ⟨cs,hcs⟩:=bI (P:=P) (w:=w) (ρ:=a.eval) ho hc
   rw[hcs,e]
   obtain ⟨u',h3,h4⟩:=rI (P:=P) (w:=w) (ats:=c.argTypes) (rt:=o.type) r h
   exact ⟨u',by unfold builtin;exact cr h3,h4⟩
  ·rename_i x y hc h1
   obtain ⟨u1,u2,e,r1,r2⟩:=lr ht h1
   obtain ⟨cs,hcs⟩:=bI (P:=P) (w:=w) (ρ:=a.eval) ho hc
   rw[hcs,e]
   unfold Bn at h
   split at h
   ·simp only[Rp] at r1 r2;subst r1;subst r2
    split at h
    ·rename_i k a k' b hk
     subst hk
     simp only[Option.some.injEq] at h;subst h
     refine ⟨.complex k a b,by unfold builtin;refine cr ?_;show (if k=k then pure (.complex k a b) else stuck _:Sem Value).run P w=_;rw[if_pos rfl];rfl,rfl⟩
    ·simp at h
   ·simp at h
  ·rename_i x hc h1
   obtain ⟨u1,e,r1⟩:=iC ht h1
   obtain ⟨cs,hcs⟩:=bI (P:=P) (w:=w) (ρ:=a.eval) ho hc
   rw[hcs,e]
   unfold Bo at h
   split at h
   ·simp only[Rp] at r1;subst r1
    simp at h;subst h
    exact ⟨_,by unfold builtin;exact cr rfl,rfl⟩
   ·simp at h
  ·rename_i x hc h1
   obtain ⟨u1,e,r1⟩:=iC ht h1
   obtain ⟨cs,hcs⟩:=bI (P:=P) (w:=w) (ρ:=a.eval) ho hc
   rw[hcs,e]
   unfold Bp at h
   split at h
   ·simp only[Rp] at r1;subst r1
    simp at h;subst h
    exact ⟨_,by unfold builtin;exact cr rfl,rfl⟩
   ·simp at h
  ·simp at h
 | _=>rw[ho] at h;simp[eK] at h
end
end Go.CP
