/- Parts of the proof. -/
import Derived.Test.YtknegckgmklnhaaGreatDoorCp4
namespace Go.CP
section
variable {β:Lay} {P:Program} {w:World}
def M0 (op:BinOp) (t:TypeId) (x y:Operand) (a b:Value):Sem Value:=do eqGuard op t x y a b;Go.binOp op t a b
def cw:Value→Bool
 | .nilIface | .agg _=>false
 | _=>true
theorem bI {op:BinOp} {t:TypeId} {x y:Operand} {a b:Value} (h:cw a=true∨cw b=true):(eqGuard op t x y a b).run P w=.ok () w:=by
 unfold eqGuard
 cases op<;>simp
 all_goals
  cases a<;>cases b<;>simp[cw] at h ⊢
theorem cn {op:BinOp} {t:TypeId} {x y:Operand} {a b:Value} (h:(eqGuard op t x y a b).run P w=.ok () w) :
  (M0 op t x y a b).run P w=(Go.binOp op t a b).run P w:=by
 simp[M0,h]
theorem bP {op:BinOp} {r:Bool} {v:LV} {t:TypeId} {a b:Value} (h:si op r=some v) (he:(Op.equal t a b).run P w=.ok r w)
  (hb:(op=.eql→Go.binOp .eql t a b=(do pure (.bool (← Op.equal t a b))))∧(op=.neq→Go.binOp .neq t a b=(do pure (.bool (!(← Op.equal t a b)))))) :
  ∃ u,(Go.binOp op t a b).run P w=.ok u w∧Rp β v u:=by
 cases op<;>simp[si] at h<;>subst h
 ·exact ⟨.bool r,by rw[hb.1 rfl];simp[he],rfl⟩
 ·exact ⟨.bool (!r),by rw[hb.2 rfl];simp[he],rfl⟩
section
variable {t:TypeId}
theorem jL {e:TypeId} {a b:Option Addr} (ht:P.underlying t=some (.pointer e)) (h:a=none∨b=none) :
  (Op.equal t (.pointer a) (.pointer b)).run P w=.ok (decide (a=b)) w:=by
 unfold Op.equal Op.maxDepth
 rw[Op.equalIn]
 simp only[az,aP ht,ax]
 rcases h with h|h<;>subst h
 ·cases b<;>simp
 ·cases a<;>simp
theorem sA {e:TypeId} {a:Addr} (ht:P.underlying t=some (.pointer e)) (hk:known P e=true) :
  (Op.equal t (.pointer (some a)) (.pointer (some a))).run P w=.ok true w:=by
 unfold Op.equal Op.maxDepth
 rw[Op.equalIn]
 simp only[az,aP ht,ax,run_sizeOf' hk]
 split
 ·simp only[sameAddr,beq_self_eq_true,if_true]
  simp
 ·simp
theorem mn {e:TypeId} {a:Option Addr} {i j:Nat} (ht:P.underlying t=some (.slice e)):(Op.equal t (.slice none 0 0) (.slice a i j)).run P w=.ok a.isNone w:=by
 unfold Op.equal Op.maxDepth
 rw[Op.equalIn]
 simp only[az,aP ht,ax,a7]
theorem qg {e:TypeId} {a:Addr} {i j:Nat} (ht:P.underlying t=some (.slice e)):(Op.equal t (.slice (some a) i j) (.slice none 0 0)).run P w=.ok false w:=by
 unfold Op.equal Op.maxDepth
 rw[Op.equalIn]
 simp only[az,aP ht,ax];rfl
theorem nG {k e:TypeId} {a:Option Nat} (ht:P.underlying t=some (.map k e)):(Op.equal t (.map none) (.map a)).run P w=.ok a.isNone w:=by
 unfold Op.equal Op.maxDepth
 rw[Op.equalIn]
 simp only[az,aP ht,ax,a7]
theorem sB {k e:TypeId} {a:Nat} (ht:P.underlying t=some (.map k e)):(Op.equal t (.map (some a)) (.map none)).run P w=.ok false w:=by
 unfold Op.equal Op.maxDepth
 rw[Op.equalIn]
 simp only[az,aP ht,ax];rfl
theorem Fh {p q:Array TypeId} {z:Bool} (ht:P.underlying t=some (.func p q z)):(Op.equal t .nilFunc .nilFunc).run P w=.ok true w:=by
 unfold Op.equal Op.maxDepth
 rw[Op.equalIn]
 simp only[az,aP ht,ax];rfl
theorem Fi {p q:Array TypeId} {z:Bool} {f:Fn} {a b:Array Value} (ht:P.underlying t=some (.func p q z)):(Op.equal t .nilFunc (.func f a b)).run P w=.ok false w:=by
 unfold Op.equal Op.maxDepth
 rw[Op.equalIn]
 simp only[az,aP ht,ax];rfl
theorem Fj {p q:Array TypeId} {z:Bool} {f:Fn} {a b:Array Value} (ht:P.underlying t=some (.func p q z)):(Op.equal t (.func f a b) .nilFunc).run P w=.ok false w:=by
 unfold Op.equal Op.maxDepth
 rw[Op.equalIn]
 simp only[az,aP ht,ax];rfl
end
theorem yG {t:TypeId} {ms:Array (String × TypeId)} {D:Nat} (ht:P.underlying t=some (.interface ms)):(Op.eqGuardIn (D+1) t .nilIface .nilIface).run P w=.ok (!ms.isEmpty) w:=by
 rw[Op.eqGuardIn]
 simp only[az,aP ht,ax,a7]
theorem uP {t:TypeId} {x y:LV} {u v:Value} {r:Bool} (h:leq P ml t x y=some r) (hx:Rp β x u) (hy:Rp β y v):(Op.equal t u v).run P w=.ok r w:=
 gk ml h hx hy Op.maxDepth (by decide)
theorem A0 {op:BinOp} {t:TypeId} {x y:Operand} {a b v:LV} {p q:Value} (hp:Rp β a p) (hq:Rp β b q)
  (h:MV P op t (lk x||lk y) a b=some v):∃ u,(M0 op t x y p q).run P w=.ok u w∧Rp β v u:=by
 unfold MV at h
 split at h
 ·unfold vX at h
  split at h
  ·rename_i k i k' j
   simp only[Rp] at hp hq;subst hp;subst hq
   rw[cn (bI (by simp[cw]))]
   simp only[AO] at h
   split at h
   ·simp at h
   ·rename_i hj
    simp only[aM] at h;subst h
    exact ⟨_,by simp only[Go.binOp,Op.shift,hj,if_false];rfl,rfl⟩
  ·simp at h
 ·unfold vX at h
  split at h
  ·rename_i k i k' j
   simp only[Rp] at hp hq;subst hp;subst hq
   rw[cn (bI (by simp[cw]))]
   simp only[AO] at h
   split at h
   ·simp at h
   ·rename_i hj
    simp only[aM] at h;subst h
    exact ⟨_,by simp only[Go.binOp,Op.shift,hj,if_false];rfl,rfl⟩
  ·simp at h
 ·rename_i h1 h2
  split at h
  ·unfold al at h
   split at h
   ·rename_i k i k' j
    simp only[Rp] at hp hq;subst hp;subst hq
    rw[cn (bI (by simp[cw]))]
    split at h
    ·rename_i hk;subst hk
     exact AY ⟨fun e=>h1 e,fun e=>h2 e⟩ t h
    ·simp at h
   ·simp at h
  ·unfold ck at h
   split at h
   ·simp only[Rp] at hp hq;subst hp;subst hq
    rw[cn (bI (by simp[cw]))]
    exact AZ t h
   ·simp at h
  ·rename_i ht
   unfold yx at h
   split at h
   ·simp only[Rp] at hp hq;subst hp;subst hq
    rw[cn (bI (by simp[cw]))]
    exact bP h (run_equalIn_bool w _ t _ _ ht) ⟨fun _=>rfl,fun _=>rfl⟩
   ·simp at h
  ·rename_i e ht
   simp only[eqB,Option.bind_eq_some_iff] at h
   obtain ⟨r,hr,h⟩:=h
   unfold eI at hr
   split at hr
   ·simp only[aM] at hr;subst hr
    simp only[Rp] at hp hq;subst hp;subst hq
    rw[cn (bI (by simp[cw]))]
    exact bP h (by rw[jL ht (.inl rfl)];simp) ⟨fun _=>rfl,fun _=>rfl⟩
   ·simp only[aM] at hr;subst hr
    simp only[Rp] at hp;subst hp;obtain ⟨b,_,rfl⟩:=hq
    rw[cn (bI (by simp[cw]))]
    exact bP h (by rw[jL ht (.inl rfl)];simp) ⟨fun _=>rfl,fun _=>rfl⟩
   ·simp only[aM] at hr;subst hr
    simp only[Rp] at hq;subst hq;obtain ⟨b,_,rfl⟩:=hp
    rw[cn (bI (by simp[cw]))]
    exact bP h (by rw[jL ht (.inr rfl)];simp) ⟨fun _=>rfl,fun _=>rfl⟩
   ·split at hr
    ·rename_i hc
     obtain ⟨hk,rfl,rfl⟩:=hc
     simp only[aM] at hr;subst hr
     obtain ⟨b,hb,rfl⟩:=hp;obtain ⟨b',hb',rfl⟩:=hq
     rw[hb] at hb';cases hb'
     rw[cn (bI (by simp[cw]))]
     exact bP h (sA ht hk) ⟨fun _=>rfl,fun _=>rfl⟩
    ·simp at hr
   ·simp only[aM] at hr;subst hr
    simp only[Rp] at hp;subst hp;obtain ⟨_,b,_,_,rfl,_⟩:=hq
    rw[cn (bI (by simp[cw]))]
    exact bP h (by rw[jL ht (.inl rfl)];simp) ⟨fun _=>rfl,fun _=>rfl⟩
   ·simp only[aM] at hr;subst hr
    simp only[Rp] at hq;subst hq;obtain ⟨_,b,_,_,rfl,_⟩:=hp
    rw[cn (bI (by simp[cw]))]
    exact bP h (by rw[jL ht (.inr rfl)];simp) ⟨fun _=>rfl,fun _=>rfl⟩
   ·simp at hr
  ·rename_i e ht
   simp only[eqB,Option.bind_eq_some_iff] at h
   obtain ⟨r,hr,h⟩:=h
   unfold sj at hr
   split at hr<;>try simp only[aM,reduceCtorEq] at hr
   all_goals try subst hr
   ·simp only[Rp] at hp hq;subst hp;subst hq
    rw[cn (bI (by simp[cw]))]
    exact bP h (by rw[mn ht];rfl) ⟨fun _=>rfl,fun _=>rfl⟩
   ·simp only[Rp] at hp;subst hp;obtain ⟨b,_,_,rfl⟩:=hq
    rw[cn (bI (by simp[cw]))]
    exact bP h (by rw[mn ht];rfl) ⟨fun _=>rfl,fun _=>rfl⟩
   ·simp only[Rp] at hp;subst hp;obtain ⟨b,_,rfl⟩:=hq
    rw[cn (bI (by simp[cw]))]
    exact bP h (by rw[mn ht];rfl) ⟨fun _=>rfl,fun _=>rfl⟩
   ·simp only[Rp] at hq;subst hq;obtain ⟨b,_,_,rfl⟩:=hp
    rw[cn (bI (by simp[cw]))]
    exact bP h (qg ht) ⟨fun _=>rfl,fun _=>rfl⟩
   ·simp only[Rp] at hq;subst hq;obtain ⟨b,_,rfl⟩:=hp
    rw[cn (bI (by simp[cw]))]
    exact bP h (qg ht) ⟨fun _=>rfl,fun _=>rfl⟩
   ·split at hr
    ·simp only[aM] at hr;subst hr
     simp only[Rp] at hp;subst hp;obtain ⟨_,_,_,_,rfl,_,_,hz|⟨_,_,rfl,_⟩⟩:=hq
     ·omega
     rw[cn (bI (by simp[cw]))]
     exact bP h (by rw[mn ht];rfl) ⟨fun _=>rfl,fun _=>rfl⟩
    ·cases hr
   ·split at hr
    ·simp only[aM] at hr;subst hr
     simp only[Rp] at hq;subst hq;obtain ⟨_,_,_,_,rfl,_,_,hz|⟨_,_,rfl,_⟩⟩:=hp
     ·omega
     rw[cn (bI (by simp[cw]))]
     exact bP h (qg ht) ⟨fun _=>rfl,fun _=>rfl⟩
    ·cases hr
  ·rename_i k e ht
   simp only[eqB,Option.bind_eq_some_iff] at h
   obtain ⟨r,hr,h⟩:=h
   unfold LK at hr
   split at hr<;>simp only[aM,reduceCtorEq] at hr<;>subst hr
   ·simp only[Rp] at hp hq;subst hp;subst hq
    rw[cn (bI (by simp[cw]))]
    exact bP h (by rw[nG ht];rfl) ⟨fun _=>rfl,fun _=>rfl⟩
   ·simp only[Rp] at hp;subst hp;obtain ⟨b,_,rfl⟩:=hq
    rw[cn (bI (by simp[cw]))]
    exact bP h (by rw[nG ht];rfl) ⟨fun _=>rfl,fun _=>rfl⟩
   ·simp only[Rp] at hq;subst hq;obtain ⟨b,_,rfl⟩:=hp
    rw[cn (bI (by simp[cw]))]
    exact bP h (sB ht) ⟨fun _=>rfl,fun _=>rfl⟩
   ·simp only[Rp] at hp;subst hp;obtain ⟨b,_,_,rfl,_⟩:=hq
    rw[cn (bI (by simp[cw]))]
    exact bP h (by rw[nG ht];rfl) ⟨fun _=>rfl,fun _=>rfl⟩
   ·simp only[Rp] at hq;subst hq;obtain ⟨b,_,_,rfl,_⟩:=hp
    rw[cn (bI (by simp[cw]))]
    exact bP h (sB ht) ⟨fun _=>rfl,fun _=>rfl⟩
  ·rename_i ht
   simp only[eqB,Option.bind_eq_some_iff] at h
   obtain ⟨r,hr,h⟩:=h
   unfold OP at hr
   split at hr<;>simp only[aM,reduceCtorEq] at hr<;>subst hr
   ·simp only[Rp] at hp hq;subst hp;subst hq
    rw[cn (bI (by simp[cw]))]
    exact bP h (Fh ht) ⟨fun _=>rfl,fun _=>rfl⟩
   ·simp only[Rp] at hp;subst hp;obtain ⟨_,_,rfl,_⟩:=hq
    rw[cn (bI (by simp[cw]))]
    exact bP h (Fi ht) ⟨fun _=>rfl,fun _=>rfl⟩
   ·simp only[Rp] at hq;subst hq;obtain ⟨_,_,rfl,_⟩:=hp
    rw[cn (bI (by simp[cw]))]
    exact bP h (Fj ht) ⟨fun _=>rfl,fun _=>rfl⟩
  ·rename_i ms ht
   simp only[eqB,Option.bind_eq_some_iff] at h
   obtain ⟨r,hr,h⟩:=h
   unfold sk at hr
   split at hr
   ·simp only[Rp] at hp hq;subst hp;subst hq
    split at hr
    ·rename_i hg
     simp only[aM] at hr;subst hr
     have hgd:(eqGuard op t x y .nilIface .nilIface).run P w=.ok () w:=by
      unfold eqGuard
      cases op<;>simp
      all_goals
       have hgi:=yG (P:=P) (w:=w) (D:=9999) ht
       cases x<;>cases y<;>simp[lk] at hg ⊢<;>simp[show Op.maxDepth=9999+1 from rfl,hgi,hg]
     rw[cn hgd]
     exact bP h (oi ht) ⟨fun _=>rfl,fun _=>rfl⟩
    ·simp at hr
   ·simp only[aM] at hr;subst hr
    simp only[Rp] at hp;subst hp;obtain ⟨_,rfl,_⟩:=hq
    rw[cn (bI (by simp[cw]))]
    exact bP h (mW ht) ⟨fun _=>rfl,fun _=>rfl⟩
   ·simp only[aM] at hr;subst hr
    simp only[Rp] at hq;subst hq;obtain ⟨_,rfl,_⟩:=hp
    rw[cn (bI (by simp[cw]))]
    exact bP h (mX ht) ⟨fun _=>rfl,fun _=>rfl⟩
   ·obtain ⟨u,rfl,hu⟩:=hp;obtain ⟨u',rfl,hu'⟩:=hq
    rw[cn (bI (by simp[cw]))]
    split at hr
    ·rename_i hne
     simp only[aM] at hr;subst hr
     exact bP h (jJ ht hne) ⟨fun _=>rfl,fun _=>rfl⟩
    ·rename_i hne
     simp only[ne_eq,Decidable.not_not] at hne;subst hne
     unfold iP at hr
     split at hr
     ·rename_i i hi
      split at hr
      ·rename_i hcc
       refine bP h ?_ ⟨fun _=>rfl,fun _=>rfl⟩
       show (Op.equalIn (9999+1) t _ _).run P w=_
       rw[jK ht hi hcc]
       exact gk ml hr hu hu' 9999 (by decide)
      ·simp at hr
     ·simp at hr
   ·simp at hr
  ·rename_i fs ht
   split at h
   ·simp at h
   ·rename_i hg
    simp only[eqB,Option.bind_eq_some_iff] at h
    obtain ⟨r,hr,h⟩:=h
    unfold og at hr
    split at hr
    ·obtain ⟨us,rfl,hu⟩:=hp;obtain ⟨us',rfl,hu'⟩:=hq
     rw[cn (run_eqGuard_agg w op t x y _ _ (by simpa using hg))]
     exact bP h (uP hr ⟨us,rfl,hu⟩ ⟨us',rfl,hu'⟩) ⟨fun _=>rfl,fun _=>rfl⟩
    ·simp at hr
  ·rename_i n e ht
   split at h
   ·simp at h
   ·rename_i hg
    simp only[eqB,Option.bind_eq_some_iff] at h
    obtain ⟨r,hr,h⟩:=h
    unfold og at hr
    split at hr
    ·obtain ⟨us,rfl,hu⟩:=hp;obtain ⟨us',rfl,hu'⟩:=hq
     rw[cn (run_eqGuard_agg w op t x y _ _ (by simpa using hg))]
     exact bP h (uP hr ⟨us,rfl,hu⟩ ⟨us',rfl,hu'⟩) ⟨fun _=>rfl,fun _=>rfl⟩
    ·simp at hr
  ·simp at h
end
section
variable {β:Lay} {P:Program} {w:World}
theorem addr_add (b o n:Nat):(⟨b,o,none⟩:Addr).add n=⟨b,o+n,none⟩:=by
 unfold Addr.add
 split
 ·rename_i h;subst h;rfl
 ·rfl
def OB (n:Option Nat) (v:Option Value):Prop:=(n=none∧v=none)∨∃ k i,n=some i.toNat∧0≤i∧v=some (.int k i)
theorem uQ {t:List LV} {a:Act} (ht:Rps β t a.tmps.toList) {x:Option Operand} {v:Option LV} {n:Option Nat} (h:evo t x=some v) (hn:fP v=some n) :
  OB n (x.map a.eval):=by
 rcases Ff ht h with ⟨rfl,h2⟩ | ⟨y,u,rfl,h2,r⟩
 ·simp[fP] at hn;subst hn;exact .inl ⟨rfl,h2⟩
 ·unfold fP at hn
  split at hn
  ·rename_i he;simp at he
  ·rename_i k i he
   simp at he;subst he
   split at hn
   ·simp at hn;subst hn
    simp only[Rp] at r;subst r
    rename_i h0
    exact .inr ⟨k,i,rfl,h0,h2⟩
   ·simp at hn
  ·simp at hn
theorem fS {k:IntKind} {i:Int} {y:Nat} {c:BoundsCode} (h0:0≤i) (h:i.toNat≤y):(Instr.sliceBound (.int k i) y c).run P w=.ok i.toNat w:=by
 unfold Instr.sliceBound
 simp only[asIntOf,pure_bind]
 rw[if_pos ⟨h0,by omega⟩];rfl
theorem eU {s:Bool} {len cap:Nat} {l h m:Option Nat} {lv hv mv:Option Value} (hl:OB l lv) (hh:OB h hv) (hm:OB m mv)
  (h1:l.getD 0≤h.getD len) (h2:h.isSome=true→h.getD len≤m.getD cap) (h3:m.getD cap≤cap) (h4:m.isSome=true→h.isSome=true) :
  (Instr.sliceBounds s len cap lv hv mv).run P w=.ok (l.getD 0,h.getD len,m.getD cap) w:=by
 unfold Instr.sliceBounds
 rcases hm with ⟨rfl,rfl⟩ | ⟨km,im,rfl,im0,rfl⟩
 ·simp only[Option.getD_none] at h2 h3 ⊢
  rcases hh with ⟨rfl,rfl⟩ | ⟨kh,ih,rfl,ih0,rfl⟩
  ·simp only[Option.getD_none] at h1 ⊢
   rcases hl with ⟨rfl,rfl⟩ | ⟨kl,il,rfl,il0,rfl⟩
   ·simp
   ·simp only[Option.getD_some] at h1
    simp[fS il0 h1]
  ·simp only[Option.getD_some,Option.isSome_some,forall_const] at h1 h2 ⊢
   rcases hl with ⟨rfl,rfl⟩ | ⟨kl,il,rfl,il0,rfl⟩
   ·simp[fS ih0 h2]
   ·simp only[Option.getD_some] at h1
    simp[fS il0 h1,fS ih0 h2]
 ·simp only[Option.getD_some,Option.isSome_some,forall_const] at h2 h3 h4 ⊢
  rcases hh with ⟨rfl,rfl⟩ | ⟨kh,ih,rfl,ih0,rfl⟩
  ·simp at h4
  ·simp only[Option.getD_some,Option.isSome_some,forall_const] at h1 h2 ⊢
   rcases hl with ⟨rfl,rfl⟩ | ⟨kl,il,rfl,il0,rfl⟩
   ·simp[fS ih0 h2,fS im0 h3]
   ·simp only[Option.getD_some] at h1
    simp[fS il0 h1,fS ih0 h2,fS im0 h3]
theorem qQ (s:List UInt8) (l h:Nat):(⟨⟨s⟩⟩:ByteArray).extract l h=⟨⟨(s.drop l).take (h-l)⟩⟩:=by
 apply ByteArray.ext
 rw[ByteArray.data_extract]
 apply Array.ext'
 simp[List.extract]
theorem jn {ty:TypeId} {x v:LV} {u:Value} {l h m:Option Nat} {lv hv mv:Option Value} (hx:Rp β x u) (hl:OB l lv) (hh:OB h hv) (hm:OB m mv)
  (hs:ll P ty x l h m=some v):∃ u',(Instr.sliceAt ty u lv hv mv).run P w=.ok u' w∧Rp β v u':=by
 unfold ll at hs
 split at hs
 ·rename_i ht
  unfold dm at hs
  split at hs
  ·rename_i s
   simp only[Rp] at hx;subst hx
   split at hs
   ·rename_i hc
    simp at hs;subst hs
    have hmv:mv=none:=by rcases hm with ⟨_,e⟩ | ⟨_,_,e,_⟩;exact e;simp at e
    subst hmv
    have hb:=eU (P:=P) (w:=w) (s:=false) (len:=s.length) (cap:=s.length) hl hh (.inl ⟨rfl,rfl⟩) hc.1 (fun _=>by simpa using hc.2) (by simp) (by simp)
    refine ⟨_,?_,rfl⟩
    unfold Instr.sliceAt
    simp only[az,aP ht,ax]
    unfold Instr.slice
    simp only[az,aP ht,ax,Option.isSome_none,Bool.false_eq_true,if_false]
    rw[show (⟨⟨s⟩⟩:ByteArray).size=s.length from rfl]
    simp only[a7,ax,hb,qQ]
   ·simp at hs
  ·simp at hs
 ·rename_i e ht
  split at hs
  ·rename_i hk
   have hunf:∀ (a:Option Addr) (n c:Nat) (l h m:Nat),(Instr.sliceBounds true n c lv hv mv).run P w=.ok (l,h,m) w→
     (Instr.sliceAt ty (.slice a n c) lv hv mv).run P w=.ok (.slice (if m=l then a else a.map (·.add (l*szT P e))) (h-l) (m-l)) w:=by
    intro a n c l h m hb
    unfold Instr.sliceAt
    simp only[az,aP ht,ax]
    unfold Instr.slice
    simp only[az,aP ht,ax,hb,run_sizeOf' hk,a7]
   unfold rB at hs
   split at hs
   ·rename_i o k len ci
    obtain ⟨b,hb,hlen,rfl⟩:=hx
    simp only[nx] at hs
    split at hs
    ·rename_i m'
     split at hs
     ·rename_i c
      split at hs
      ·rename_i hc
       simp at hs;subst hs
       refine ⟨_,hunf _ _ _ _ _ _ (eU hl hh hm hc.1 (fun _=>by simpa using hc.2.1) (by simpa[ez.cap] using hc.2.2.1) (fun _=>hc.2.2.2)),b,hb,?_,?_⟩
       ·simp[ez.cap];omega
       ·simp only[Option.getD_some,ez.cap]
        by_cases e:m'=l.getD 0
        ·simp only[e,if_true]
        ·simp only[if_neg e,Option.map_some,addr_add,Nat.add_assoc]
      ·simp at hs
     ·rename_i s
      split at hs
      ·rename_i hc
       simp at hs;subst hs
       refine ⟨_,hunf _ _ _ _ _ _ (eU hl hh hm hc.1 (fun _=>by simpa using hc.2.1) (by have:=hc.2.2.1;simp only[Option.getD_some];omega) (fun _=>hc.2.2.2)),b,hb,?_,?_⟩
       ·simp[ez.cap];omega
       ·simp only[Option.getD_some,ez.cap]
        by_cases e:m'=l.getD 0
        ·simp only[e,if_true]
        ·simp only[if_neg e,Option.map_some,addr_add,Nat.add_assoc]
      ·simp at hs
    ·have hmv:mv=none:=by rcases hm with ⟨_,e⟩ | ⟨_,_,e,_⟩;exact e;simp at e
     subst hmv
     split at hs
     ·rename_i c
      split at hs
      ·rename_i hc
       simp at hs;subst hs
       refine ⟨_,hunf _ _ _ _ _ _ (eU hl hh (.inl ⟨rfl,rfl⟩) hc.1 (fun _=>by simpa[ez.cap] using hc.2) (by simp) (by simp)),b,hb,?_,?_⟩
       ·simp[ez.cap];omega
       ·simp only[Option.getD_none,ez.cap]
        by_cases e:c=l.getD 0
        ·simp only[e,if_true]
        ·simp only[if_neg e,Option.map_some,addr_add,Nat.add_assoc]
      ·simp at hs
     ·rename_i s
      split at hs
      ·rename_i hc
       obtain ⟨rfl,hs0,hlo,hhi⟩:=hc
       simp only[ez.cap] at hlen
       have hb':=hunf (some ⟨b.blk,b.base+k,none⟩) len ((b.room-k) / szT P e) _ _ _ (eU (len:=len) (cap:=(b.room-k) / szT P e) hl hh (.inl ⟨rfl,rfl⟩) hlo (fun _=>by simp;omega) (by simp) (by simp))
       simp only[Option.getD_none] at hb'
       split at hs
       ·rename_i h0
        simp at hs;subst hs
        refine ⟨_,hb',b,hb,?_,?_⟩
        ·simp[ez.cap];omega
        ·simp only[h0,Nat.zero_mul,Nat.sub_zero,ez.cap]
         split
         ·rfl
         ·simp only[Option.map_some,addr_add,Nat.add_zero]
       ·rename_i h0
        split at hs
        ·rename_i hlt
         simp at hs;subst hs
         have hcap:(b.room-(k+l.getD 0*szT P e)) / szT P e=(b.room-k) / szT P e-l.getD 0:=by
          rw[Nat.sub_add_eq,Nat.mul_comm,Nat.sub_mul_div]
         refine ⟨_,hb',b,hb,?_,?_⟩
         ·simp only[ez.cap,hcap];omega
         ·rw[if_neg (by omega)]
          simp only[ez.cap,hcap,Option.map_some,addr_add,Nat.add_assoc]
        ·simp at hs;subst hs
         have he:h.getD len-l.getD 0=0:=by omega
         rw[he] at hb'
         refine ⟨_,hb',?_⟩
         split
         ·exact ⟨_,_,rfl⟩
         ·exact ⟨_,_,rfl⟩
      ·simp at hs
   ·simp only[Rp] at hx;subst hx
    split at hs
    ·rename_i hc
     simp at hs;subst hs
     obtain ⟨c1,c2,c3,c4⟩:=hc
     refine ⟨_,hunf none 0 0 _ _ _ (eU (len:=0) (cap:=0) hl hh hm (by omega) (fun _=>by omega) (by omega) c4),?_⟩
     simp[c1,c2,c3,Rp]
    ·simp at hs
   ·obtain ⟨a,c,rfl⟩:=hx
    split at hs
    ·rename_i hc
     simp at hs;subst hs
     obtain ⟨c1,c2,rfl⟩:=hc
     have hmv:mv=none:=by rcases hm with ⟨_,e⟩ | ⟨_,_,e,_⟩;exact e;simp at e
     subst hmv
     refine ⟨_,hunf (some a) 0 c _ _ _ (eU (len:=0) (cap:=c) hl hh (.inl ⟨rfl,rfl⟩) (by omega) (fun _=>by simp[c2]) (by simp) (by simp)),?_⟩
     simp only[c1,c2]
     split<;>exact ⟨_,_,rfl⟩
    ·simp at hs
   ·rename_i cs len cap
    obtain ⟨us,hus,a,c,rfl,hlc,hcap,hF⟩:=hx
    split at hs
    ·rename_i hc
     simp only[aM] at hs;subst hs
     obtain ⟨c0,c1,c2,c3,c4⟩:=hc
     have hm1:m.getD len≤m.getD c∧m.getD c≤c:=by
      cases m with
      | none=>simp only[Option.getD_none];omega
      | some m=>simp only[Option.getD_some] at c3 ⊢;omega
     refine ⟨_,hunf a len c _ _ _ (eU (len:=len) (cap:=c) hl hh hm c1 (fun _=>by omega) hm1.2 c4),(us.drop (l.getD 0*szT P e)).take ((h.getD len-l.getD 0)*szT P e),(hus.drop _).take _,(if m.getD c=l.getD 0 then a else a.map (·.add (l.getD 0*szT P e))),m.getD c-l.getD 0,rfl,by omega,?_,?_⟩
     ·intro k hk
      cases m with
      | none=>simp at hk
      | some m=>simpa using hk
     ·rcases Nat.eq_zero_or_pos (h.getD len-l.getD 0) with z|z
      ·refine .inl ⟨z,fun ha=>?_⟩
       have ha':a=none:=by
        cases a with
        | none=>rfl
        | some a=>split at ha<;>simp at ha
       rcases hF with ⟨h0,hc0⟩ | ⟨b,base,e1,_⟩
       ·have:=hc0 ha'
        omega
       ·rw[ha'] at e1;cases e1
      ·rcases hF with hF|⟨b,base,rfl,fc,fe,ffz,f1,f2,f3⟩
       ·omega
       ·refine .inr ⟨b,base+l.getD 0*szT P e,?_,fc,fe,ffz,f1,?_,?_⟩
        ·rw[if_neg (by omega),Option.map_some,addr_add]
        ·have hul:=hus.length
         have:l.getD 0*szT P e+(h.getD len-l.getD 0)*szT P e≤len*szT P e:=by rw[← Nat.add_mul];exact Nat.mul_le_mul_right _ (by omega)
         have:((us.drop (l.getD 0*szT P e)).take ((h.getD len-l.getD 0)*szT P e)).length≤(h.getD len-l.getD 0)*szT P e:=by simp;omega
         omega
        ·intro i u hu
         rw[List.getElem?_take] at hu
         split at hu
         ·rw[List.getElem?_drop] at hu
          rw[Nat.add_assoc];exact f3 _ _ hu
         ·cases hu
    ·simp at hs
   ·simp at hs
  ·simp at hs
 ·rename_i n e ht
  split at hs
  ·rename_i hk
   unfold C9 at hs
   split at hs
   ·obtain ⟨b,hb,rfl⟩:=hx
    split at hs
    ·rename_i hc
     obtain ⟨c1,c2,c3,c4⟩:=hc
     simp at hs;subst hs
     refine ⟨_,?_,b,hb,?_,rfl⟩
     ·unfold Instr.sliceAt
      simp only[az,aP ht,ax,Instr.sureAddr,a7,eU (P:=P) (w:=w) (len:=n) (cap:=n) hl hh hm c1 (fun _=>c2) c3 c4,run_sizeOf' hk]
      by_cases e:m.getD n=l.getD 0
      ·simp only[e,if_true,ez.cap]
      ·simp only[if_neg e,addr_add,Nat.add_assoc,ez.cap]
     ·simp[ez.cap];omega
    ·simp at hs
   ·simp at hs
  ·simp at hs
 ·simp at hs
end
section
variable {β:Lay} {P:Program} {w:World}
theorem uC {ty:TypeId} {x v:LV} {u:Value} {f:Nat} (hx:Rp β x u) (h:ny P ty x f=some v) :
  ∃ u',(Instr.fieldAt ty u f).run P w=.ok u' w∧Rp β v u':=by
 unfold ny at h
 split at h
 ·rename_i fs ht
  split at h
  ·rename_i fd hf
   split at h
   ·rename_i hc
    unfold ag at h
    split at h
    ·obtain ⟨b,hb,rfl⟩:=hx
     simp at h;subst h
     refine ⟨_,?_,b,hb,rfl⟩
     unfold Instr.fieldAt
     simp only[az,aP ht,ax,hf,Instr.sureAddr,a7,fieldPlace,run_sizeOf' hc.1]
     rw[if_neg hc.2]
     simp[addr_add,Nat.add_assoc]
    ·simp only[Rp] at hx;subst hx
     simp at h;subst h
     refine ⟨_,?_,rfl⟩
     unfold Instr.fieldAt
     simp only[az,aP ht,ax,hf,Instr.sureAddr,a7,fieldPlace,run_sizeOf' hc.1]
     rw[if_neg hc.2]
     simp[addr_add]
    ·obtain ⟨us,b,base,hus,rfl,hF⟩:=hx
     simp at h;subst h
     refine ⟨_,?_,us,b,base,hus,rfl,hF⟩
     unfold Instr.fieldAt
     simp only[az,aP ht,ax,hf,Instr.sureAddr,a7,fieldPlace,run_sizeOf' hc.1]
     rw[if_neg hc.2]
     simp[addr_add,Nat.add_assoc]
    ·simp at h
   ·simp at h
  ·simp at h
 ·simp at h
theorem qR {ty:TypeId} {x v:LV} {off:Nat} (h:qb P ty x off=some v):∃ cs,x=.agg cs∧oe P ty cs off=some v:=by
 unfold qb at h
 split at h
 ·rename_i hk
  split at h
  ·rename_i ha
   unfold MZ at h
   split at h
   ·exact ⟨_,rfl,by simp only[oe,hk,ha,if_true];exact h⟩
   ·simp at h
  ·rename_i ha
   unfold wh at h
   split at h
   ·exact ⟨_,rfl,by simp only[oe,hk,if_true];rw[if_neg ha];exact h⟩
   ·simp at h
 ·simp at h
theorem yH {ty:TypeId} {x v:LV} {u:Value} {f:Nat} (hx:Rp β x u) (h:AU P ty x f=some v) :
  ∃ u',(Instr.field ty u f).run P w=.ok u' w∧Rp β v u':=by
 unfold AU at h
 split at h
 ·rename_i fs ht
  split at h
  ·rename_i fd hf
   obtain ⟨cs,rfl,hp⟩:=qR h
   obtain ⟨vs,rfl,hvs⟩:=hx
   obtain ⟨u',h1,h2⟩:=gj (w:=w) hvs hp
   refine ⟨u',?_,h2⟩
   unfold Instr.field
   simp only[az,aP ht,ax,hf,asAgg,a7,h1]
  ·simp at h
 ·simp at h
theorem uD {ty:TypeId} {x i v:LV} {u j:Value} (hx:Rp β x u) (hi:Rp β i j) (h:nz P ty x i=some v) :
  ∃ u',(Instr.indexAt ty u j).run P w=.ok u' w∧Rp β v u':=by
 unfold nz at h
 split at h
 ·rename_i n e ht
  split at h
  ·rename_i hk
   unfold LP at h
   split at h
   ·obtain ⟨b,hb,rfl⟩:=hx
    simp only[Rp] at hi;subst hi
    split at h
    ·rename_i hc
     simp at h;subst h
     refine ⟨_,?_,b,hb,rfl⟩
     unfold Instr.indexAt
     simp only[asIntOf,az,a7,aP ht,ax,Instr.sureAddr]
     rw[if_pos hc]
     simp only[az,run_sizeOf' hk,ax,a7,addr_add,Nat.add_assoc]
    ·simp at h
   ·simp only[Rp] at hx;subst hx
    simp only[Rp] at hi;subst hi
    split at h
    ·rename_i hc
     simp at h;subst h
     refine ⟨_,?_,rfl⟩
     unfold Instr.indexAt
     simp only[asIntOf,az,a7,aP ht,ax,Instr.sureAddr]
     rw[if_pos hc]
     simp only[az,run_sizeOf' hk,ax,a7,addr_add]
    ·simp at h
   ·simp at h
  ·simp at h
 ·rename_i e ht
  split at h
  ·rename_i hk
   unfold bn at h
   split at h
   ·obtain ⟨b,hb,hlen,rfl⟩:=hx
    simp only[Rp] at hi;subst hi
    split at h
    ·rename_i hc
     simp at h;subst h
     refine ⟨_,?_,b,hb,rfl⟩
     unfold Instr.indexAt
     simp only[asIntOf,az,a7,aP ht,ax]
     rw[if_pos hc]
     simp only[az,run_sizeOf' hk,ax,a7,addr_add,Nat.add_assoc]
    ·simp at h
   ·rename_i cs len cap _ i'
    obtain ⟨us,hus,a,c,rfl,hlc,hcap,hF⟩:=hx
    simp only[Rp] at hi;subst hi
    split at h
    ·rename_i hc
     simp at h;subst h
     rcases hF with hF|⟨b,base,rfl,hF⟩
     ·omega
     refine ⟨_,?_,us,b,base,hus,rfl,hF⟩
     unfold Instr.indexAt
     simp only[asIntOf,az,a7,aP ht,ax]
     rw[if_pos hc]
     simp only[az,run_sizeOf' hk,ax,a7,addr_add]
    ·simp at h
   ·simp at h
  ·simp at h
 ·simp at h
theorem yI {ty:TypeId} {x i v:LV} {u j:Value} (hx:Rp β x u) (hi:Rp β i j) (h:AV P ty x i=some v) :
  ∃ u',(Instr.index ty u j).run P w=.ok u' w∧Rp β v u':=by
 unfold AV at h
 split at h
 ·rename_i n e ht
  split at h
  ·rename_i hk
   have hg:∃ k z,i=.int k z∧0≤z∧z<n∧qb P e x (z.toNat*szT P e)=some v:=by
    split at h
    ·rename_i ha
     unfold sr at h
     split at h
     ·split at h
      ·rename_i hc
       exact ⟨_,_,rfl,hc.1,hc.2,by simp only[qb,hk,ha,if_true];exact h⟩
      ·simp at h
     ·simp at h
    ·rename_i ha
     unfold sr at h
     split at h
     ·split at h
      ·rename_i hc
       exact ⟨_,_,rfl,hc.1,hc.2,by simp only[qb,hk,if_true];rw[if_neg ha];exact h⟩
      ·simp at h
     ·simp at h
   obtain ⟨k,z,rfl,h0,h1,hp⟩:=hg
   obtain ⟨cs,rfl,hp⟩:=qR hp
   obtain ⟨vs,rfl,hvs⟩:=hx
   obtain ⟨u',h3,h4⟩:=gj (w:=w) hvs hp
   refine ⟨u',?_,h4⟩
   simp only[Rp] at hi;subst hi
   unfold Instr.index
   simp only[asIntOf,az,a7,aP ht,ax]
   rw[if_pos ⟨h0,h1⟩]
   simp only[az,run_sizeOf' hk,ax,h3]
  ·simp at h
 ·rename_i ht
  unfold dJ at h
  split at h
  ·simp only[Rp] at hx hi;subst hx;subst hi
   split at h
   ·rename_i s k z h0
    split at h
    ·rename_i b hb
     simp at h;subst h
     refine ⟨_,?_,rfl⟩
     unfold Instr.index
     simp only[asIntOf,az,a7,aP ht,ax]
     rw[if_pos h0]
     have:(⟨⟨s⟩⟩:ByteArray)[z.toNat]?=some b:=by
      have hlt:z.toNat<s.length:=by
       rcases Nat.lt_or_ge z.toNat s.length with k|k
       ·exact k
       ·simp[List.getElem?_eq_none k] at hb
      have hlt':z.toNat<(⟨⟨s⟩⟩:ByteArray).size:=hlt
      rw[getElem?_pos (⟨⟨s⟩⟩:ByteArray) z.toNat hlt']
      rw[bg hlt] at hb
      exact hb
     rw[this];rfl
    ·simp at h
   ·simp at h
  ·simp at h
 ·simp at h
theorem wj {a xt:TypeId} {x v:LV} {u:Value} {ok:Bool} (hx:Rp β x u) (h:we P x a ok=some v) :
  ∃ u',(Instr.typeAssert u xt a ok).run P w=.ok u' w∧Rp β v u':=by
 have zz:∀ {z:LV},gQ P a=some z→∃ u',(zeroValue a).run P w=.ok u' w∧Rp β z u':=fun hz=>
  let ⟨u',h1,h2,_⟩:=fR (w:=w) hz;⟨u',h1,eC h2⟩
 unfold we at h
 split at h
 ·rename_i want ht
  unfold asI at h
  split at h
  ·rename_i t y
   obtain ⟨q,rfl,hq⟩:=hx
   split at h
   ·rename_i hf
    unfold hasAll at hf
    split at hf
    ·rename_i i hi
     simp at hf
     simp at h;subst h
     refine ⟨if ok then .tuple #[.iface t q,.bool true] else .iface t q,?_,?_⟩
     ·unfold Instr.typeAssert
      simp only[az,aP ht,ax,typeInfo,run_program,hi,a7]
      rw[hf];rfl
     ·cases ok
      ·exact ⟨q,rfl,hq⟩
      ·exact ⟨[.iface t q,.bool true],rfl,_,_,rfl,⟨q,rfl,hq⟩,_,_,rfl,rfl,rfl⟩
    ·simp at hf
   ·rename_i hf
    unfold hasAll at hf
    split at hf
    ·rename_i i hi
     simp at hf
     split at h
     ·rename_i hok
      simp at h;obtain ⟨z,hz,rfl⟩:=h
      obtain ⟨u',h1,h2⟩:=zz hz
      refine ⟨.tuple #[u',.bool false],?_,[u',.bool false],rfl,_,_,rfl,h2,_,_,rfl,rfl,rfl⟩
      unfold Instr.typeAssert
      simp only[az,aP ht,ax,typeInfo,run_program,hi,a7]
      cases hm:Instr.missingMethod want i.methods with
      | none=>rw[hm] at hf;simp at hf
      | some m=>simp[hok,h1]
     ·simp at h
    ·simp at hf
   ·simp at h
  ·simp only[Rp] at hx;subst hx
   split at h
   ·rename_i hok
    simp at h;obtain ⟨z,hz,rfl⟩:=h
    obtain ⟨u',h1,h2⟩:=zz hz
    refine ⟨.tuple #[u',.bool false],?_,[u',.bool false],rfl,_,_,rfl,h2,_,_,rfl,rfl,rfl⟩
    unfold Instr.typeAssert
    simp[aP ht,hok,h1]
   ·simp at h
  ·simp at h
 ·rename_i d hni ht
  unfold asC at h
  split at h
  ·rename_i t y
   obtain ⟨q,rfl,hq⟩:=hx
   split at h
   ·rename_i he
    subst he
    simp at h;subst h
    refine ⟨if ok then .tuple #[q,.bool true] else q,?_,?_⟩
    ·unfold Instr.typeAssert
     simp only[az,aP ht,ax]
     cases d<;>first | (exact (hni _ rfl).elim) | simp
    ·cases ok
     ·exact hq
     ·exact ⟨[q,.bool true],rfl,_,_,rfl,hq,_,_,rfl,rfl,rfl⟩
   ·rename_i he
    split at h
    ·rename_i hok
     simp at h;obtain ⟨z,hz,rfl⟩:=h
     obtain ⟨u',h1,h2⟩:=zz hz
     refine ⟨.tuple #[u',.bool false],?_,[u',.bool false],rfl,_,_,rfl,h2,_,_,rfl,rfl,rfl⟩
     unfold Instr.typeAssert
     simp only[az,aP ht,ax]
     cases d<;>first | (exact (hni _ rfl).elim) | (simp[he,hok,h1])
    ·simp at h
  ·simp only[Rp] at hx;subst hx
   split at h
   ·rename_i hok
    simp at h;obtain ⟨z,hz,rfl⟩:=h
    obtain ⟨u',h1,h2⟩:=zz hz
    refine ⟨.tuple #[u',.bool false],?_,[u',.bool false],rfl,_,_,rfl,h2,_,_,rfl,rfl,rfl⟩
    unfold Instr.typeAssert
    simp only[az,aP ht,ax]
    cases d<;>simp[hok,h1]
   ·simp at h
  ·simp at h
 ·simp at h
end
end Go.CP
