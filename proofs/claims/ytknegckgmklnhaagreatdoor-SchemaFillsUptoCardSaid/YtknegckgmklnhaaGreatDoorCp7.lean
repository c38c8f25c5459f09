/- The clean machine, part 7: the operators on two values do in the model what they do here. -/
import Derived.Test.YtknegckgmklnhaaGreatDoorCp4
namespace Go.CP
section
variable {β:Lay} {P:Program} {w:World}
def EZ (op:BinOp) (t:TypeId) (x y:Operand) (a b:Value):Sem Value:=do eqGuard op t x y a b;Go.binOp op t a b
def bN:Value→Bool
 | .nilIface | .agg _=>false
 | _=>true
theorem aY {op:BinOp} {t:TypeId} {x y:Operand} {a b:Value} (h:bN a=true∨bN b=true):(eqGuard op t x y a b).run P w=.ok () w:=by
 unfold eqGuard
 cases op<;>simp
 all_goals
  cases a<;>cases b<;>simp[bN] at h ⊢
theorem bI {op:BinOp} {t:TypeId} {x y:Operand} {a b:Value} (h:(eqGuard op t x y a b).run P w=.ok () w) :
  (EZ op t x y a b).run P w=(Go.binOp op t a b).run P w:=by
 simp[EZ,h]
theorem bn {op:BinOp} {r:Bool} {v:LV} {t:TypeId} {a b:Value} (h:pP op r=some v) (he:(Op.equal t a b).run P w=.ok r w)
  (hb:(op=.eql→Go.binOp .eql t a b=(do pure (.bool (← Op.equal t a b))))∧(op=.neq→Go.binOp .neq t a b=(do pure (.bool (!(← Op.equal t a b)))))) :
  ∃ u,(Go.binOp op t a b).run P w=.ok u w∧Rp β v u:=by
 cases op<;>simp[pP] at h<;>subst h
 ·exact ⟨.bool r,by rw[hb.1 rfl];simp[he],rfl⟩
 ·exact ⟨.bool (!r),by rw[hb.2 rfl];simp[he],rfl⟩
section
variable {t:TypeId}
theorem iK {e:TypeId} {a b:Option Addr} (ht:P.underlying t=some (.pointer e)) (h:a=none∨b=none) :
  (Op.equal t (.pointer a) (.pointer b)).run P w=.ok (decide (a=b)) w:=by
 unfold Op.equal Op.maxDepth
 rw[Op.equalIn]
 simp only[Sem.run_bind,aG ht,Result.andThen_ok]
 rcases h with h|h<;>subst h
 ·cases b<;>simp
 ·cases a<;>simp
theorem qb {e:TypeId} {a:Addr} (ht:P.underlying t=some (.pointer e)) (hk:known P e=true) :
  (Op.equal t (.pointer (some a)) (.pointer (some a))).run P w=.ok true w:=by
 unfold Op.equal Op.maxDepth
 rw[Op.equalIn]
 simp only[Sem.run_bind,aG ht,Result.andThen_ok,run_sizeOf' hk]
 split
 ·simp only[sameAddr,beq_self_eq_true,if_true]
  simp
 ·simp
theorem kJ {e:TypeId} {a:Option Addr} {i j:Nat} (ht:P.underlying t=some (.slice e)):(Op.equal t (.slice none 0 0) (.slice a i j)).run P w=.ok a.isNone w:=by
 unfold Op.equal Op.maxDepth
 rw[Op.equalIn]
 simp only[Sem.run_bind,aG ht,Result.andThen_ok,Sem.run_pure]
theorem nQ {e:TypeId} {a:Addr} {i j:Nat} (ht:P.underlying t=some (.slice e)):(Op.equal t (.slice (some a) i j) (.slice none 0 0)).run P w=.ok false w:=by
 unfold Op.equal Op.maxDepth
 rw[Op.equalIn]
 simp only[Sem.run_bind,aG ht,Result.andThen_ok];rfl
theorem lR {k e:TypeId} {a:Option Nat} (ht:P.underlying t=some (.map k e)):(Op.equal t (.map none) (.map a)).run P w=.ok a.isNone w:=by
 unfold Op.equal Op.maxDepth
 rw[Op.equalIn]
 simp only[Sem.run_bind,aG ht,Result.andThen_ok,Sem.run_pure]
theorem qc {k e:TypeId} {a:Nat} (ht:P.underlying t=some (.map k e)):(Op.equal t (.map (some a)) (.map none)).run P w=.ok false w:=by
 unfold Op.equal Op.maxDepth
 rw[Op.equalIn]
 simp only[Sem.run_bind,aG ht,Result.andThen_ok];rfl
theorem zH {p q:Array TypeId} {z:Bool} (ht:P.underlying t=some (.func p q z)):(Op.equal t .nilFunc .nilFunc).run P w=.ok true w:=by
 unfold Op.equal Op.maxDepth
 rw[Op.equalIn]
 simp only[Sem.run_bind,aG ht,Result.andThen_ok];rfl
theorem zI {p q:Array TypeId} {z:Bool} {f:Fn} {a b:Array Value} (ht:P.underlying t=some (.func p q z)):(Op.equal t .nilFunc (.func f a b)).run P w=.ok false w:=by
 unfold Op.equal Op.maxDepth
 rw[Op.equalIn]
 simp only[Sem.run_bind,aG ht,Result.andThen_ok];rfl
theorem zJ {p q:Array TypeId} {z:Bool} {f:Fn} {a b:Array Value} (ht:P.underlying t=some (.func p q z)):(Op.equal t (.func f a b) .nilFunc).run P w=.ok false w:=by
 unfold Op.equal Op.maxDepth
 rw[Op.equalIn]
 simp only[Sem.run_bind,aG ht,Result.andThen_ok];rfl
end
theorem ux {t:TypeId} {ms:Array (String × TypeId)} {D:Nat} (ht:P.underlying t=some (.interface ms)):(Op.eqGuardIn (D+1) t .nilIface .nilIface).run P w=.ok (!ms.isEmpty) w:=by
 rw[Op.eqGuardIn]
 simp only[Sem.run_bind,aG ht,Result.andThen_ok,Sem.run_pure]
theorem rM {t:TypeId} {x y:LV} {u v:Value} {r:Bool} (h:leq P kI t x y=some r) (hx:Rp β x u) (hy:Rp β y v):(Op.equal t u v).run P w=.ok r w:=
 fi kI h hx hy Op.maxDepth (by decide)
theorem wP {op:BinOp} {t:TypeId} {x y:Operand} {a b v:LV} {p q:Value} (hp:Rp β a p) (hq:Rp β b q)
  (h:EU P op t (jI x||jI y) a b=some v):∃ u,(EZ op t x y p q).run P w=.ok u w∧Rp β v u:=by
 unfold EU at h
 split at h
 ·unfold sQ at h
  split at h
  ·rename_i k i k' j
   simp only[Rp] at hp hq;subst hp;subst hq
   rw[bI (aY (by simp[bN]))]
   simp only[wE] at h
   split at h
   ·simp at h
   ·rename_i hj
    simp only[Option.some.injEq] at h;subst h
    exact ⟨_,by simp only[Go.binOp,Op.shift,hj,if_false];rfl,rfl⟩
  ·simp at h
 ·unfold sQ at h
  split at h
  ·rename_i k i k' j
   simp only[Rp] at hp hq;subst hp;subst hq
   rw[bI (aY (by simp[bN]))]
   simp only[wE] at h
   split at h
   ·simp at h
   ·rename_i hj
    simp only[Option.some.injEq] at h;subst h
    exact ⟨_,by simp only[Go.binOp,Op.shift,hj,if_false];rfl,rfl⟩
  ·simp at h
 ·rename_i h1 h2
  split at h
  ·unfold al at h
   split at h
   ·rename_i k i k' j
    simp only[Rp] at hp hq;subst hp;subst hq
    rw[bI (aY (by simp[bN]))]
    split at h
    ·rename_i hk;subst hk
     exact wN ⟨fun e=>h1 e,fun e=>h2 e⟩ t h
    ·simp at h
   ·simp at h
  ·unfold bF at h
   split at h
   ·simp only[Rp] at hp hq;subst hp;subst hq
    rw[bI (aY (by simp[bN]))]
    exact wO t h
   ·simp at h
  ·rename_i ht
   unfold Eh at h
   split at h
   ·simp only[Rp] at hp hq;subst hp;subst hq
    rw[bI (aY (by simp[bN]))]
    exact bn h (run_equalIn_bool w _ t _ _ ht) ⟨fun _=>rfl,fun _=>rfl⟩
   ·simp at h
  ·rename_i e ht
   simp only[eqB,Option.bind_eq_some_iff] at h
   obtain ⟨r,hr,h⟩:=h
   unfold eN at hr
   split at hr
   ·simp only[Option.some.injEq] at hr;subst hr
    simp only[Rp] at hp hq;subst hp;subst hq
    rw[bI (aY (by simp[bN]))]
    exact bn h (by rw[iK ht (.inl rfl)];simp) ⟨fun _=>rfl,fun _=>rfl⟩
   ·simp only[Option.some.injEq] at hr;subst hr
    simp only[Rp] at hp;subst hp;obtain ⟨b,_,rfl⟩:=hq
    rw[bI (aY (by simp[bN]))]
    exact bn h (by rw[iK ht (.inl rfl)];simp) ⟨fun _=>rfl,fun _=>rfl⟩
   ·simp only[Option.some.injEq] at hr;subst hr
    simp only[Rp] at hq;subst hq;obtain ⟨b,_,rfl⟩:=hp
    rw[bI (aY (by simp[bN]))]
    exact bn h (by rw[iK ht (.inr rfl)];simp) ⟨fun _=>rfl,fun _=>rfl⟩
   ·split at hr
    ·rename_i hc
     obtain ⟨hk,rfl,rfl⟩:=hc
     simp only[Option.some.injEq] at hr;subst hr
     obtain ⟨b,hb,rfl⟩:=hp;obtain ⟨b',hb',rfl⟩:=hq
     rw[hb] at hb';cases hb'
     rw[bI (aY (by simp[bN]))]
     exact bn h (qb ht hk) ⟨fun _=>rfl,fun _=>rfl⟩
    ·simp at hr
   ·simp only[Option.some.injEq] at hr;subst hr
    simp only[Rp] at hp;subst hp;obtain ⟨_,b,_,_,rfl,_⟩:=hq
    rw[bI (aY (by simp[bN]))]
    exact bn h (by rw[iK ht (.inl rfl)];simp) ⟨fun _=>rfl,fun _=>rfl⟩
   ·simp only[Option.some.injEq] at hr;subst hr
    simp only[Rp] at hq;subst hq;obtain ⟨_,b,_,_,rfl,_⟩:=hp
    rw[bI (aY (by simp[bN]))]
    exact bn h (by rw[iK ht (.inr rfl)];simp) ⟨fun _=>rfl,fun _=>rfl⟩
   ·simp at hr
  ·rename_i e ht
   simp only[eqB,Option.bind_eq_some_iff] at h
   obtain ⟨r,hr,h⟩:=h
   unfold sR at hr
   split at hr<;>try simp only[Option.some.injEq,reduceCtorEq] at hr
   all_goals try subst hr
   ·simp only[Rp] at hp hq;subst hp;subst hq
    rw[bI (aY (by simp[bN]))]
    exact bn h (by rw[kJ ht];rfl) ⟨fun _=>rfl,fun _=>rfl⟩
   ·simp only[Rp] at hp;subst hp;obtain ⟨b,_,_,rfl⟩:=hq
    rw[bI (aY (by simp[bN]))]
    exact bn h (by rw[kJ ht];rfl) ⟨fun _=>rfl,fun _=>rfl⟩
   ·simp only[Rp] at hp;subst hp;obtain ⟨b,_,rfl⟩:=hq
    rw[bI (aY (by simp[bN]))]
    exact bn h (by rw[kJ ht];rfl) ⟨fun _=>rfl,fun _=>rfl⟩
   ·simp only[Rp] at hq;subst hq;obtain ⟨b,_,_,rfl⟩:=hp
    rw[bI (aY (by simp[bN]))]
    exact bn h (nQ ht) ⟨fun _=>rfl,fun _=>rfl⟩
   ·simp only[Rp] at hq;subst hq;obtain ⟨b,_,rfl⟩:=hp
    rw[bI (aY (by simp[bN]))]
    exact bn h (nQ ht) ⟨fun _=>rfl,fun _=>rfl⟩
   ·split at hr
    ·simp only[Option.some.injEq] at hr;subst hr
     simp only[Rp] at hp;subst hp;obtain ⟨_,_,_,_,rfl,_,_,hz|⟨_,_,rfl,_⟩⟩:=hq
     ·omega
     rw[bI (aY (by simp[bN]))]
     exact bn h (by rw[kJ ht];rfl) ⟨fun _=>rfl,fun _=>rfl⟩
    ·cases hr
   ·split at hr
    ·simp only[Option.some.injEq] at hr;subst hr
     simp only[Rp] at hq;subst hq;obtain ⟨_,_,_,_,rfl,_,_,hz|⟨_,_,rfl,_⟩⟩:=hp
     ·omega
     rw[bI (aY (by simp[bN]))]
     exact bn h (nQ ht) ⟨fun _=>rfl,fun _=>rfl⟩
    ·cases hr
  ·rename_i k e ht
   simp only[eqB,Option.bind_eq_some_iff] at h
   obtain ⟨r,hr,h⟩:=h
   unfold Ei at hr
   split at hr<;>simp only[Option.some.injEq,reduceCtorEq] at hr<;>subst hr
   ·simp only[Rp] at hp hq;subst hp;subst hq
    rw[bI (aY (by simp[bN]))]
    exact bn h (by rw[lR ht];rfl) ⟨fun _=>rfl,fun _=>rfl⟩
   ·simp only[Rp] at hp;subst hp;obtain ⟨b,_,rfl⟩:=hq
    rw[bI (aY (by simp[bN]))]
    exact bn h (by rw[lR ht];rfl) ⟨fun _=>rfl,fun _=>rfl⟩
   ·simp only[Rp] at hq;subst hq;obtain ⟨b,_,rfl⟩:=hp
    rw[bI (aY (by simp[bN]))]
    exact bn h (qc ht) ⟨fun _=>rfl,fun _=>rfl⟩
   ·simp only[Rp] at hp;subst hp;obtain ⟨b,_,_,rfl,_⟩:=hq
    rw[bI (aY (by simp[bN]))]
    exact bn h (by rw[lR ht];rfl) ⟨fun _=>rfl,fun _=>rfl⟩
   ·simp only[Rp] at hq;subst hq;obtain ⟨b,_,_,rfl,_⟩:=hp
    rw[bI (aY (by simp[bN]))]
    exact bn h (qc ht) ⟨fun _=>rfl,fun _=>rfl⟩
  ·rename_i ht
   simp only[eqB,Option.bind_eq_some_iff] at h
   obtain ⟨r,hr,h⟩:=h
   unfold Gm at hr
   split at hr<;>simp only[Option.some.injEq,reduceCtorEq] at hr<;>subst hr
   ·simp only[Rp] at hp hq;subst hp;subst hq
    rw[bI (aY (by simp[bN]))]
    exact bn h (zH ht) ⟨fun _=>rfl,fun _=>rfl⟩
   ·simp only[Rp] at hp;subst hp;obtain ⟨_,_,rfl,_⟩:=hq
    rw[bI (aY (by simp[bN]))]
    exact bn h (zI ht) ⟨fun _=>rfl,fun _=>rfl⟩
   ·simp only[Rp] at hq;subst hq;obtain ⟨_,_,rfl,_⟩:=hp
    rw[bI (aY (by simp[bN]))]
    exact bn h (zJ ht) ⟨fun _=>rfl,fun _=>rfl⟩
  ·rename_i ms ht
   simp only[eqB,Option.bind_eq_some_iff] at h
   obtain ⟨r,hr,h⟩:=h
   unfold pQ at hr
   split at hr
   ·simp only[Rp] at hp hq;subst hp;subst hq
    split at hr
    ·rename_i hg
     simp only[Option.some.injEq] at hr;subst hr
     have hgd:(eqGuard op t x y .nilIface .nilIface).run P w=.ok () w:=by
      unfold eqGuard
      cases op<;>simp
      all_goals
       have hgi:=ux (P:=P) (w:=w) (D:=9999) ht
       cases x<;>cases y<;>simp[jI] at hg ⊢<;>simp[show Op.maxDepth=9999+1 from rfl,hgi,hg]
     rw[bI hgd]
     exact bn h (mq ht) ⟨fun _=>rfl,fun _=>rfl⟩
    ·simp at hr
   ·simp only[Option.some.injEq] at hr;subst hr
    simp only[Rp] at hp;subst hp;obtain ⟨_,rfl,_⟩:=hq
    rw[bI (aY (by simp[bN]))]
    exact bn h (ll ht) ⟨fun _=>rfl,fun _=>rfl⟩
   ·simp only[Option.some.injEq] at hr;subst hr
    simp only[Rp] at hq;subst hq;obtain ⟨_,rfl,_⟩:=hp
    rw[bI (aY (by simp[bN]))]
    exact bn h (lp ht) ⟨fun _=>rfl,fun _=>rfl⟩
   ·obtain ⟨u,rfl,hu⟩:=hp;obtain ⟨u',rfl,hu'⟩:=hq
    rw[bI (aY (by simp[bN]))]
    split at hr
    ·rename_i hne
     simp only[Option.some.injEq] at hr;subst hr
     exact bn h (iI ht hne) ⟨fun _=>rfl,fun _=>rfl⟩
    ·rename_i hne
     simp only[ne_eq,Decidable.not_not] at hne;subst hne
     unfold gG at hr
     split at hr
     ·rename_i i hi
      split at hr
      ·rename_i hcc
       refine bn h ?_ ⟨fun _=>rfl,fun _=>rfl⟩
       show (Op.equalIn (9999+1) t _ _).run P w=_
       rw[iJ ht hi hcc]
       exact fi kI hr hu hu' 9999 (by decide)
      ·simp at hr
     ·simp at hr
   ·simp at hr
  ·rename_i fs ht
   split at h
   ·simp at h
   ·rename_i hg
    simp only[eqB,Option.bind_eq_some_iff] at h
    obtain ⟨r,hr,h⟩:=h
    unfold yv at hr
    split at hr
    ·obtain ⟨us,rfl,hu⟩:=hp;obtain ⟨us',rfl,hu'⟩:=hq
     rw[bI (run_eqGuard_agg w op t x y _ _ (by simpa using hg))]
     exact bn h (rM hr ⟨us,rfl,hu⟩ ⟨us',rfl,hu'⟩) ⟨fun _=>rfl,fun _=>rfl⟩
    ·simp at hr
  ·rename_i n e ht
   split at h
   ·simp at h
   ·rename_i hg
    simp only[eqB,Option.bind_eq_some_iff] at h
    obtain ⟨r,hr,h⟩:=h
    unfold yv at hr
    split at hr
    ·obtain ⟨us,rfl,hu⟩:=hp;obtain ⟨us',rfl,hu'⟩:=hq
     rw[bI (run_eqGuard_agg w op t x y _ _ (by simpa using hg))]
     exact bn h (rM hr ⟨us,rfl,hu⟩ ⟨us',rfl,hu'⟩) ⟨fun _=>rfl,fun _=>rfl⟩
    ·simp at hr
  ·simp at h
end
section
variable {β:Lay} {P:Program} {w:World}
theorem addr_add (b o n:Nat):(⟨b,o,none⟩:Addr).add n=⟨b,o+n,none⟩:=by
 unfold Addr.add
 split
 ·rename_i h;subst h;rfl
 ·rfl
def OB (n:Option Nat) (v:Option Value):Prop:=(n=none∧v=none)∨∃ k i,n=some i.toNat∧0≤i∧v=some (.int k i)
theorem rN {t:List LV} {a:Act} (ht:Rps β t a.tmps.toList) {x:Option Operand} {v:Option LV} {n:Option Nat} (h:evo t x=some v) (hn:eO v=some n) :
  OB n (x.map a.eval):=by
 rcases zF ht h with ⟨rfl,h2⟩ | ⟨y,u,rfl,h2,r⟩
 ·simp[eO] at hn;subst hn;exact .inl ⟨rfl,h2⟩
 ·unfold eO at hn
  split at hn
  ·rename_i he;simp at he
  ·rename_i k i he
   simp at he;subst he
   split at hn
   ·simp at hn;subst hn
    simp only[Rp] at r;subst r
    rename_i h0
    exact .inr ⟨k,i,rfl,h0,h2⟩
   ·simp at hn
  ·simp at hn
theorem eS {k:IntKind} {i:Int} {y:Nat} {c:BoundsCode} (h0:0≤i) (h:i.toNat≤y):(Instr.sliceBound (.int k i) y c).run P w=.ok i.toNat w:=by
 unfold Instr.sliceBound
 simp only[asIntOf,pure_bind]
 rw[if_pos ⟨h0,by omega⟩];rfl
theorem dV {s:Bool} {len cap:Nat} {l h m:Option Nat} {lv hv mv:Option Value} (hl:OB l lv) (hh:OB h hv) (hm:OB m mv)
  (h1:l.getD 0≤h.getD len) (h2:h.isSome=true→h.getD len≤m.getD cap) (h3:m.getD cap≤cap) (h4:m.isSome=true→h.isSome=true) :
  (Instr.sliceBounds s len cap lv hv mv).run P w=.ok (l.getD 0,h.getD len,m.getD cap) w:=by
 unfold Instr.sliceBounds
 rcases hm with ⟨rfl,rfl⟩ | ⟨km,im,rfl,im0,rfl⟩
 ·simp only[Option.getD_none] at h2 h3 ⊢
  rcases hh with ⟨rfl,rfl⟩ | ⟨kh,ih,rfl,ih0,rfl⟩
  ·simp only[Option.getD_none] at h1 ⊢
   rcases hl with ⟨rfl,rfl⟩ | ⟨kl,il,rfl,il0,rfl⟩
   ·simp
   ·simp only[Option.getD_some] at h1
    simp[eS il0 h1]
  ·simp only[Option.getD_some,Option.isSome_some,forall_const] at h1 h2 ⊢
   rcases hl with ⟨rfl,rfl⟩ | ⟨kl,il,rfl,il0,rfl⟩
   ·simp[eS ih0 h2]
   ·simp only[Option.getD_some] at h1
    simp[eS il0 h1,eS ih0 h2]
 ·simp only[Option.getD_some,Option.isSome_some,forall_const] at h2 h3 h4 ⊢
  rcases hh with ⟨rfl,rfl⟩ | ⟨kh,ih,rfl,ih0,rfl⟩
  ·simp at h4
  ·simp only[Option.getD_some,Option.isSome_some,forall_const] at h1 h2 ⊢
   rcases hl with ⟨rfl,rfl⟩ | ⟨kl,il,rfl,il0,rfl⟩
   ·simp[eS ih0 h2,eS im0 h3]
   ·simp only[Option.getD_some] at h1
    simp[eS il0 h1,eS ih0 h2,eS im0 h3]
theorem oM (s:List UInt8) (l h:Nat):(⟨⟨s⟩⟩:ByteArray).extract l h=⟨⟨(s.drop l).take (h-l)⟩⟩:=by
 apply ByteArray.ext
 rw[ByteArray.data_extract]
 apply Array.ext'
 simp[List.extract]
theorem ic {ty:TypeId} {x v:LV} {u:Value} {l h m:Option Nat} {lv hv mv:Option Value} (hx:Rp β x u) (hl:OB l lv) (hh:OB h hv) (hm:OB m mv)
  (hs:jJ P ty x l h m=some v):∃ u',(Instr.sliceAt ty u lv hv mv).run P w=.ok u' w∧Rp β v u':=by
 unfold jJ at hs
 split at hs
 ·rename_i ht
  unfold cv at hs
  split at hs
  ·rename_i s
   simp only[Rp] at hx;subst hx
   split at hs
   ·rename_i hc
    simp at hs;subst hs
    have hmv:mv=none:=by rcases hm with ⟨_,e⟩ | ⟨_,_,e,_⟩;exact e;simp at e
    subst hmv
    have hb:=dV (P:=P) (w:=w) (s:=false) (len:=s.length) (cap:=s.length) hl hh (.inl ⟨rfl,rfl⟩) hc.1 (fun _=>by simpa using hc.2) (by simp) (by simp)
    refine ⟨_,?_,rfl⟩
    unfold Instr.sliceAt
    simp only[Sem.run_bind,aG ht,Result.andThen_ok]
    unfold Instr.slice
    simp only[Sem.run_bind,aG ht,Result.andThen_ok,Option.isSome_none,Bool.false_eq_true,if_false]
    rw[show (⟨⟨s⟩⟩:ByteArray).size=s.length from rfl]
    simp only[Sem.run_pure,Result.andThen_ok,hb,oM]
   ·simp at hs
  ·simp at hs
 ·rename_i e ht
  split at hs
  ·rename_i hk
   have hunf:∀ (a:Option Addr) (n c:Nat) (l h m:Nat),(Instr.sliceBounds true n c lv hv mv).run P w=.ok (l,h,m) w→
     (Instr.sliceAt ty (.slice a n c) lv hv mv).run P w=.ok (.slice (if m=l then a else a.map (·.add (l*szT P e))) (h-l) (m-l)) w:=by
    intro a n c l h m hb
    unfold Instr.sliceAt
    simp only[Sem.run_bind,aG ht,Result.andThen_ok]
    unfold Instr.slice
    simp only[Sem.run_bind,aG ht,Result.andThen_ok,hb,run_sizeOf' hk,Sem.run_pure]
   unfold py at hs
   split at hs
   ·rename_i o k len ci
    obtain ⟨b,hb,hlen,rfl⟩:=hx
    simp only[lJ] at hs
    split at hs
    ·rename_i m'
     split at hs
     ·rename_i c
      split at hs
      ·rename_i hc
       simp at hs;subst hs
       refine ⟨_,hunf _ _ _ _ _ _ (dV hl hh hm hc.1 (fun _=>by simpa using hc.2.1) (by simpa[dD.cap] using hc.2.2.1) (fun _=>hc.2.2.2)),b,hb,?_,?_⟩
       ·simp[dD.cap];omega
       ·simp only[Option.getD_some,dD.cap]
        by_cases e:m'=l.getD 0
        ·simp only[e,if_true]
        ·simp only[if_neg e,Option.map_some,addr_add,Nat.add_assoc]
      ·simp at hs
     ·rename_i s
      split at hs
      ·rename_i hc
       simp at hs;subst hs
       refine ⟨_,hunf _ _ _ _ _ _ (dV hl hh hm hc.1 (fun _=>by simpa using hc.2.1) (by have:=hc.2.2.1;simp only[Option.getD_some];omega) (fun _=>hc.2.2.2)),b,hb,?_,?_⟩
       ·simp[dD.cap];omega
       ·simp only[Option.getD_some,dD.cap]
        by_cases e:m'=l.getD 0
        ·simp only[e,if_true]
        ·simp only[if_neg e,Option.map_some,addr_add,Nat.add_assoc]
      ·simp at hs
    ·have hmv:mv=none:=by rcases hm with ⟨_,e⟩ | ⟨_,_,e,_⟩;exact e;simp at e
     subst hmv
     split at hs
     ·rename_i c
      split at hs
      ·rename_i hc
       simp at hs;subst hs
       refine ⟨_,hunf _ _ _ _ _ _ (dV hl hh (.inl ⟨rfl,rfl⟩) hc.1 (fun _=>by simpa[dD.cap] using hc.2) (by simp) (by simp)),b,hb,?_,?_⟩
       ·simp[dD.cap];omega
       ·simp only[Option.getD_none,dD.cap]
        by_cases e:c=l.getD 0
        ·simp only[e,if_true]
        ·simp only[if_neg e,Option.map_some,addr_add,Nat.add_assoc]
      ·simp at hs
     ·rename_i s
      split at hs
      ·rename_i hc
       obtain ⟨rfl,hs0,hlo,hhi⟩:=hc
       simp only[dD.cap] at hlen
       have hb':=hunf (some ⟨b.blk,b.base+k,none⟩) len ((b.room-k) / szT P e) _ _ _ (dV (len:=len) (cap:=(b.room-k) / szT P e) hl hh (.inl ⟨rfl,rfl⟩) hlo (fun _=>by simp;omega) (by simp) (by simp))
       simp only[Option.getD_none] at hb'
       split at hs
       ·rename_i h0
        simp at hs;subst hs
        refine ⟨_,hb',b,hb,?_,?_⟩
        ·simp[dD.cap];omega
        ·simp only[h0,Nat.zero_mul,Nat.sub_zero,dD.cap]
         split
         ·rfl
         ·simp only[Option.map_some,addr_add,Nat.add_zero]
       ·rename_i h0
        split at hs
        ·rename_i hlt
         simp at hs;subst hs
         have hcap:(b.room-(k+l.getD 0*szT P e)) / szT P e=(b.room-k) / szT P e-l.getD 0:=by
          rw[Nat.sub_add_eq,Nat.mul_comm,Nat.sub_mul_div]
         refine ⟨_,hb',b,hb,?_,?_⟩
         ·simp only[dD.cap,hcap];omega
         ·rw[if_neg (by omega)]
          simp only[dD.cap,hcap,Option.map_some,addr_add,Nat.add_assoc]
        ·simp at hs;subst hs
         have he:h.getD len-l.getD 0=0:=by omega
         rw[he] at hb'
         refine ⟨_,hb',?_⟩
         split
         ·exact ⟨_,_,rfl⟩
         ·exact ⟨_,_,rfl⟩
      ·simp at hs
   ·simp only[Rp] at hx;subst hx
    split at hs
    ·rename_i hc
     simp at hs;subst hs
     obtain ⟨c1,c2,c3,c4⟩:=hc
     refine ⟨_,hunf none 0 0 _ _ _ (dV (len:=0) (cap:=0) hl hh hm (by omega) (fun _=>by omega) (by omega) c4),?_⟩
     simp[c1,c2,c3,Rp]
    ·simp at hs
   ·obtain ⟨a,c,rfl⟩:=hx
    split at hs
    ·rename_i hc
     simp at hs;subst hs
     obtain ⟨c1,c2,rfl⟩:=hc
     have hmv:mv=none:=by rcases hm with ⟨_,e⟩ | ⟨_,_,e,_⟩;exact e;simp at e
     subst hmv
     refine ⟨_,hunf (some a) 0 c _ _ _ (dV (len:=0) (cap:=c) hl hh (.inl ⟨rfl,rfl⟩) (by omega) (fun _=>by simp[c2]) (by simp) (by simp)),?_⟩
     simp only[c1,c2]
     split<;>exact ⟨_,_,rfl⟩
    ·simp at hs
   ·rename_i cs len cap
    obtain ⟨us,hus,a,c,rfl,hlc,hcap,hF⟩:=hx
    split at hs
    ·rename_i hc
     simp only[Option.some.injEq] at hs;subst hs
     obtain ⟨c0,c1,c2,c3,c4⟩:=hc
     have hm1:m.getD len≤m.getD c∧m.getD c≤c:=by
      cases m with
      | none=>simp only[Option.getD_none];omega
      | some m=>simp only[Option.getD_some] at c3 ⊢;omega
     refine ⟨_,hunf a len c _ _ _ (dV (len:=len) (cap:=c) hl hh hm c1 (fun _=>by omega) hm1.2 c4),(us.drop (l.getD 0*szT P e)).take ((h.getD len-l.getD 0)*szT P e),(hus.drop _).take _,(if m.getD c=l.getD 0 then a else a.map (·.add (l.getD 0*szT P e))),m.getD c-l.getD 0,rfl,by omega,?_,?_⟩
     ·intro k hk
      cases m with
      | none=>simp at hk
      | some m=>simpa using hk
     ·rcases Nat.eq_zero_or_pos (h.getD len-l.getD 0) with z|z
      ·refine .inl ⟨z,fun ha=>?_⟩
       have ha':a=none:=by
        cases a with
        | none=>rfl
        | some a=>split at ha<;>simp at ha
       rcases hF with ⟨h0,hc0⟩ | ⟨b,base,e1,_⟩
       ·have:=hc0 ha'
        omega
       ·rw[ha'] at e1;cases e1
      ·rcases hF with hF|⟨b,base,rfl,fc,fe,ffz,f1,f2,f3⟩
       ·omega
       ·refine .inr ⟨b,base+l.getD 0*szT P e,?_,fc,fe,ffz,f1,?_,?_⟩
        ·rw[if_neg (by omega),Option.map_some,addr_add]
        ·have hul:=hus.length
         have:l.getD 0*szT P e+(h.getD len-l.getD 0)*szT P e≤len*szT P e:=by rw[← Nat.add_mul];exact Nat.mul_le_mul_right _ (by omega)
         have:((us.drop (l.getD 0*szT P e)).take ((h.getD len-l.getD 0)*szT P e)).length≤(h.getD len-l.getD 0)*szT P e:=by simp;omega
         omega
        ·intro i u hu
         rw[List.getElem?_take] at hu
         split at hu
         ·rw[List.getElem?_drop] at hu
          rw[Nat.add_assoc];exact f3 _ _ hu
         ·cases hu
    ·simp at hs
   ·simp at hs
  ·simp at hs
 ·rename_i n e ht
  split at hs
  ·rename_i hk
   unfold yw at hs
   split at hs
   ·obtain ⟨b,hb,rfl⟩:=hx
    split at hs
    ·rename_i hc
     obtain ⟨c1,c2,c3,c4⟩:=hc
     simp at hs;subst hs
     refine ⟨_,?_,b,hb,?_,rfl⟩
     ·unfold Instr.sliceAt
      simp only[Sem.run_bind,aG ht,Result.andThen_ok,Instr.sureAddr,Sem.run_pure,dV (P:=P) (w:=w) (len:=n) (cap:=n) hl hh hm c1 (fun _=>c2) c3 c4,run_sizeOf' hk]
      by_cases e:m.getD n=l.getD 0
      ·simp only[e,if_true,dD.cap]
      ·simp only[if_neg e,addr_add,Nat.add_assoc,dD.cap]
     ·simp[dD.cap];omega
    ·simp at hs
   ·simp at hs
  ·simp at hs
 ·simp at hs
end
end Go.CP
