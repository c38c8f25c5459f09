/- Parts of the proof. -/
import Derived.Test.YtknegckgmklnhaaGreatDoorCp4
namespace Go.CP
section
variable {β:Lay} {P:Program} {w:World}
def Al (op:BinOp) (t:TypeId) (x y:Operand) (a b:Value):Sem Value:=do eqGuard op t x y a b;Go.binOp op t a b
def bk:Value→Bool
 | .nilIface | .agg _=>false
 | _=>true
theorem ax {op:BinOp} {t:TypeId} {x y:Operand} {a b:Value} (h:bk a=true∨bk b=true):(eqGuard op t x y a b).run P w=.ok () w:=by
 unfold eqGuard
 cases op<;>simp
 all_goals
  cases a<;>cases b<;>simp[bk] at h ⊢
theorem aZ {op:BinOp} {t:TypeId} {x y:Operand} {a b:Value} (h:(eqGuard op t x y a b).run P w=.ok () w) :
  (Al op t x y a b).run P w=(Go.binOp op t a b).run P w:=by
 simp[Al,h]
theorem aI {op:BinOp} {r:Bool} {v:LV} {t:TypeId} {a b:Value} (h:mT op r=some v) (he:(Op.equal t a b).run P w=.ok r w)
  (hb:(op=.eql→Go.binOp .eql t a b=(do pure (.bool (← Op.equal t a b))))∧(op=.neq→Go.binOp .neq t a b=(do pure (.bool (!(← Op.equal t a b)))))) :
  ∃ u,(Go.binOp op t a b).run P w=.ok u w∧Rp β v u:=by
 cases op<;>simp[mT] at h<;>subst h
 ·exact ⟨.bool r,by rw[hb.1 rfl];simp[he],rfl⟩
 ·exact ⟨.bool (!r),by rw[hb.2 rfl];simp[he],rfl⟩
section
variable {t:TypeId}
theorem gp {e:TypeId} {a b:Option Addr} (ht:P.underlying t=some (.pointer e)) (h:a=none∨b=none) :
  (Op.equal t (.pointer a) (.pointer b)).run P w=.ok (decide (a=b)) w:=by
 unfold Op.equal Op.maxDepth
 rw[Op.equalIn]
 simp only[ae,ai ht,ab]
 rcases h with h|h<;>subst h
 ·cases b<;>simp
 ·cases a<;>simp
theorem nd {e:TypeId} {a:Addr} (ht:P.underlying t=some (.pointer e)) (hk:known P e=true) :
  (Op.equal t (.pointer (some a)) (.pointer (some a))).run P w=.ok true w:=by
 unfold Op.equal Op.maxDepth
 rw[Op.equalIn]
 simp only[ae,ai ht,ab,run_sizeOf' hk]
 split
 ·simp only[sameAddr,beq_self_eq_true,if_true]
  simp
 ·simp
theorem iP {e:TypeId} {a:Option Addr} {i j:Nat} (ht:P.underlying t=some (.slice e)):(Op.equal t (.slice none 0 0) (.slice a i j)).run P w=.ok a.isNone w:=by
 unfold Op.equal Op.maxDepth
 rw[Op.equalIn]
 simp only[ae,ai ht,ab,an]
theorem lf {e:TypeId} {a:Addr} {i j:Nat} (ht:P.underlying t=some (.slice e)):(Op.equal t (.slice (some a) i j) (.slice none 0 0)).run P w=.ok false w:=by
 unfold Op.equal Op.maxDepth
 rw[Op.equalIn]
 simp only[ae,ai ht,ab];rfl
theorem jB {k e:TypeId} {a:Option Nat} (ht:P.underlying t=some (.map k e)):(Op.equal t (.map none) (.map a)).run P w=.ok a.isNone w:=by
 unfold Op.equal Op.maxDepth
 rw[Op.equalIn]
 simp only[ae,ai ht,ab,an]
theorem ng {k e:TypeId} {a:Nat} (ht:P.underlying t=some (.map k e)):(Op.equal t (.map (some a)) (.map none)).run P w=.ok false w:=by
 unfold Op.equal Op.maxDepth
 rw[Op.equalIn]
 simp only[ae,ai ht,ab];rfl
theorem vr {p q:Array TypeId} {z:Bool} (ht:P.underlying t=some (.func p q z)):(Op.equal t .nilFunc .nilFunc).run P w=.ok true w:=by
 unfold Op.equal Op.maxDepth
 rw[Op.equalIn]
 simp only[ae,ai ht,ab];rfl
theorem vt {p q:Array TypeId} {z:Bool} {f:Fn} {a b:Array Value} (ht:P.underlying t=some (.func p q z)):(Op.equal t .nilFunc (.func f a b)).run P w=.ok false w:=by
 unfold Op.equal Op.maxDepth
 rw[Op.equalIn]
 simp only[ae,ai ht,ab];rfl
theorem vu {p q:Array TypeId} {z:Bool} {f:Fn} {a b:Array Value} (ht:P.underlying t=some (.func p q z)):(Op.equal t (.func f a b) .nilFunc).run P w=.ok false w:=by
 unfold Op.equal Op.maxDepth
 rw[Op.equalIn]
 simp only[ae,ai ht,ab];rfl
end
theorem qR {t:TypeId} {ms:Array (String × TypeId)} {D:Nat} (ht:P.underlying t=some (.interface ms)):(Op.eqGuardIn (D+1) t .nilIface .nilIface).run P w=.ok (!ms.isEmpty) w:=by
 rw[Op.eqGuardIn]
 simp only[ae,ai ht,ab,an]
theorem oO {t:TypeId} {x y:LV} {u v:Value} {r:Bool} (h:leq P iL t x y=some r) (hx:Rp β x u) (hy:Rp β y v):(Op.equal t u v).run P w=.ok r w:=
 eB iL h hx hy Op.maxDepth (by decide)
theorem sV {op:BinOp} {t:TypeId} {x y:Operand} {a b v:LV} {p q:Value} (hp:Rp β a p) (hq:Rp β b q)
  (h:Ae P op t (hP x||hP y) a b=some v):∃ u,(Al op t x y p q).run P w=.ok u w∧Rp β v u:=by
 unfold Ae at h
 split at h
 ·unfold pB at h
  split at h
  ·rename_i k i k' j
   simp only[Rp] at hp hq;subst hp;subst hq
   rw[aZ (ax (by simp[bk]))]
   simp only[sK] at h
   split at h
   ·simp at h
   ·rename_i hj
    simp only[ao] at h;subst h
    exact ⟨_,by simp only[Go.binOp,Op.shift,hj,if_false];rfl,rfl⟩
  ·simp at h
 ·unfold pB at h
  split at h
  ·rename_i k i k' j
   simp only[Rp] at hp hq;subst hp;subst hq
   rw[aZ (ax (by simp[bk]))]
   simp only[sK] at h
   split at h
   ·simp at h
   ·rename_i hj
    simp only[ao] at h;subst h
    exact ⟨_,by simp only[Go.binOp,Op.shift,hj,if_false];rfl,rfl⟩
  ·simp at h
 ·rename_i h1 h2
  split at h
  ·unfold aU at h
   split at h
   ·rename_i k i k' j
    simp only[Rp] at hp hq;subst hp;subst hq
    rw[aZ (ax (by simp[bk]))]
    split at h
    ·rename_i hk;subst hk
     exact sT ⟨fun e=>h1 e,fun e=>h2 e⟩ t h
    ·simp at h
   ·simp at h
  ·unfold pC at h
   split at h
   ·simp only[Rp] at hp hq;subst hp;subst hq
    rw[aZ (ax (by simp[bk]))]
    exact sU t h
   ·simp at h
  ·rename_i ht
   unfold zA at h
   split at h
   ·simp only[Rp] at hp hq;subst hp;subst hq
    rw[aZ (ax (by simp[bk]))]
    exact aI h (run_equalIn_bool w _ t _ _ ht) ⟨fun _=>rfl,fun _=>rfl⟩
   ·simp at h
  ·rename_i e ht
   simp only[eqB,Option.bind_eq_some_iff] at h
   obtain ⟨r,hr,h⟩:=h
   unfold jM at hr
   split at hr
   ·simp only[ao] at hr;subst hr
    simp only[Rp] at hp hq;subst hp;subst hq
    rw[aZ (ax (by simp[bk]))]
    exact aI h (by rw[gp ht (.inl rfl)];simp) ⟨fun _=>rfl,fun _=>rfl⟩
   ·simp only[ao] at hr;subst hr
    simp only[Rp] at hp;subst hp;obtain ⟨b,_,rfl⟩:=hq
    rw[aZ (ax (by simp[bk]))]
    exact aI h (by rw[gp ht (.inl rfl)];simp) ⟨fun _=>rfl,fun _=>rfl⟩
   ·simp only[ao] at hr;subst hr
    simp only[Rp] at hq;subst hq;obtain ⟨b,_,rfl⟩:=hp
    rw[aZ (ax (by simp[bk]))]
    exact aI h (by rw[gp ht (.inr rfl)];simp) ⟨fun _=>rfl,fun _=>rfl⟩
   ·split at hr
    ·rename_i hc
     obtain ⟨hk,rfl,rfl⟩:=hc
     simp only[ao] at hr;subst hr
     obtain ⟨b,hb,rfl⟩:=hp;obtain ⟨b',hb',rfl⟩:=hq
     rw[hb] at hb';cases hb'
     rw[aZ (ax (by simp[bk]))]
     exact aI h (nd ht hk) ⟨fun _=>rfl,fun _=>rfl⟩
    ·simp at hr
   ·simp only[ao] at hr;subst hr
    simp only[Rp] at hp;subst hp;obtain ⟨_,b,_,_,rfl,_⟩:=hq
    rw[aZ (ax (by simp[bk]))]
    exact aI h (by rw[gp ht (.inl rfl)];simp) ⟨fun _=>rfl,fun _=>rfl⟩
   ·simp only[ao] at hr;subst hr
    simp only[Rp] at hq;subst hq;obtain ⟨_,b,_,_,rfl,_⟩:=hp
    rw[aZ (ax (by simp[bk]))]
    exact aI h (by rw[gp ht (.inr rfl)];simp) ⟨fun _=>rfl,fun _=>rfl⟩
   ·simp at hr
  ·rename_i e ht
   simp only[eqB,Option.bind_eq_some_iff] at h
   obtain ⟨r,hr,h⟩:=h
   unfold qK at hr
   split at hr<;>try simp only[ao,reduceCtorEq] at hr
   all_goals try subst hr
   ·simp only[Rp] at hp hq;subst hp;subst hq
    rw[aZ (ax (by simp[bk]))]
    exact aI h (by rw[iP ht];rfl) ⟨fun _=>rfl,fun _=>rfl⟩
   ·simp only[Rp] at hp;subst hp;obtain ⟨b,_,_,rfl⟩:=hq
    rw[aZ (ax (by simp[bk]))]
    exact aI h (by rw[iP ht];rfl) ⟨fun _=>rfl,fun _=>rfl⟩
   ·simp only[Rp] at hp;subst hp;obtain ⟨b,_,rfl⟩:=hq
    rw[aZ (ax (by simp[bk]))]
    exact aI h (by rw[iP ht];rfl) ⟨fun _=>rfl,fun _=>rfl⟩
   ·simp only[Rp] at hq;subst hq;obtain ⟨b,_,_,rfl⟩:=hp
    rw[aZ (ax (by simp[bk]))]
    exact aI h (lf ht) ⟨fun _=>rfl,fun _=>rfl⟩
   ·simp only[Rp] at hq;subst hq;obtain ⟨b,_,rfl⟩:=hp
    rw[aZ (ax (by simp[bk]))]
    exact aI h (lf ht) ⟨fun _=>rfl,fun _=>rfl⟩
   ·split at hr
    ·simp only[ao] at hr;subst hr
     simp only[Rp] at hp;subst hp;obtain ⟨_,_,_,_,rfl,_,_,hz|⟨_,_,rfl,_⟩⟩:=hq
     ·omega
     rw[aZ (ax (by simp[bk]))]
     exact aI h (by rw[iP ht];rfl) ⟨fun _=>rfl,fun _=>rfl⟩
    ·cases hr
   ·split at hr
    ·simp only[ao] at hr;subst hr
     simp only[Rp] at hq;subst hq;obtain ⟨_,_,_,_,rfl,_,_,hz|⟨_,_,rfl,_⟩⟩:=hp
     ·omega
     rw[aZ (ax (by simp[bk]))]
     exact aI h (lf ht) ⟨fun _=>rfl,fun _=>rfl⟩
    ·cases hr
  ·rename_i k e ht
   simp only[eqB,Option.bind_eq_some_iff] at h
   obtain ⟨r,hr,h⟩:=h
   unfold uc at hr
   split at hr<;>simp only[ao,reduceCtorEq] at hr<;>subst hr
   ·simp only[Rp] at hp hq;subst hp;subst hq
    rw[aZ (ax (by simp[bk]))]
    exact aI h (by rw[jB ht];rfl) ⟨fun _=>rfl,fun _=>rfl⟩
   ·simp only[Rp] at hp;subst hp;obtain ⟨b,_,rfl⟩:=hq
    rw[aZ (ax (by simp[bk]))]
    exact aI h (by rw[jB ht];rfl) ⟨fun _=>rfl,fun _=>rfl⟩
   ·simp only[Rp] at hq;subst hq;obtain ⟨b,_,rfl⟩:=hp
    rw[aZ (ax (by simp[bk]))]
    exact aI h (ng ht) ⟨fun _=>rfl,fun _=>rfl⟩
   ·simp only[Rp] at hp;subst hp;obtain ⟨b,_,_,rfl,_⟩:=hq
    rw[aZ (ax (by simp[bk]))]
    exact aI h (by rw[jB ht];rfl) ⟨fun _=>rfl,fun _=>rfl⟩
   ·simp only[Rp] at hq;subst hq;obtain ⟨b,_,_,rfl,_⟩:=hp
    rw[aZ (ax (by simp[bk]))]
    exact aI h (ng ht) ⟨fun _=>rfl,fun _=>rfl⟩
  ·rename_i ht
   simp only[eqB,Option.bind_eq_some_iff] at h
   obtain ⟨r,hr,h⟩:=h
   unfold BF at hr
   split at hr<;>simp only[ao,reduceCtorEq] at hr<;>subst hr
   ·simp only[Rp] at hp hq;subst hp;subst hq
    rw[aZ (ax (by simp[bk]))]
    exact aI h (vr ht) ⟨fun _=>rfl,fun _=>rfl⟩
   ·simp only[Rp] at hp;subst hp;obtain ⟨_,_,rfl,_⟩:=hq
    rw[aZ (ax (by simp[bk]))]
    exact aI h (vt ht) ⟨fun _=>rfl,fun _=>rfl⟩
   ·simp only[Rp] at hq;subst hq;obtain ⟨_,_,rfl,_⟩:=hp
    rw[aZ (ax (by simp[bk]))]
    exact aI h (vu ht) ⟨fun _=>rfl,fun _=>rfl⟩
  ·rename_i ms ht
   simp only[eqB,Option.bind_eq_some_iff] at h
   obtain ⟨r,hr,h⟩:=h
   unfold mi at hr
   split at hr
   ·simp only[Rp] at hp hq;subst hp;subst hq
    split at hr
    ·rename_i hg
     simp only[ao] at hr;subst hr
     have hgd:(eqGuard op t x y .nilIface .nilIface).run P w=.ok () w:=by
      unfold eqGuard
      cases op<;>simp
      all_goals
       have hgi:=qR (P:=P) (w:=w) (D:=9999) ht
       cases x<;>cases y<;>simp[hP] at hg ⊢<;>simp[show Op.maxDepth=9999+1 from rfl,hgi,hg]
     rw[aZ hgd]
     exact aI h (jP ht) ⟨fun _=>rfl,fun _=>rfl⟩
    ·simp at hr
   ·simp only[ao] at hr;subst hr
    simp only[Rp] at hp;subst hp;obtain ⟨_,rfl,_⟩:=hq
    rw[aZ (ax (by simp[bk]))]
    exact aI h (je ht) ⟨fun _=>rfl,fun _=>rfl⟩
   ·simp only[ao] at hr;subst hr
    simp only[Rp] at hq;subst hq;obtain ⟨_,rfl,_⟩:=hp
    rw[aZ (ax (by simp[bk]))]
    exact aI h (jf ht) ⟨fun _=>rfl,fun _=>rfl⟩
   ·obtain ⟨u,rfl,hu⟩:=hp;obtain ⟨u',rfl,hu'⟩:=hq
    rw[aZ (ax (by simp[bk]))]
    split at hr
    ·rename_i hne
     simp only[ao] at hr;subst hr
     exact aI h (gj ht hne) ⟨fun _=>rfl,fun _=>rfl⟩
    ·rename_i hne
     simp only[ne_eq,Decidable.not_not] at hne;subst hne
     unfold e9 at hr
     split at hr
     ·rename_i i hi
      split at hr
      ·rename_i hcc
       refine aI h ?_ ⟨fun _=>rfl,fun _=>rfl⟩
       show (Op.equalIn (9999+1) t _ _).run P w=_
       rw[gm ht hi hcc]
       exact eB iL hr hu hu' 9999 (by decide)
      ·simp at hr
     ·simp at hr
   ·simp at hr
  ·rename_i fs ht
   split at h
   ·simp at h
   ·rename_i hg
    simp only[eqB,Option.bind_eq_some_iff] at h
    obtain ⟨r,hr,h⟩:=h
    unfold ud at hr
    split at hr
    ·obtain ⟨us,rfl,hu⟩:=hp;obtain ⟨us',rfl,hu'⟩:=hq
     rw[aZ (run_eqGuard_agg w op t x y _ _ (by simpa using hg))]
     exact aI h (oO hr ⟨us,rfl,hu⟩ ⟨us',rfl,hu'⟩) ⟨fun _=>rfl,fun _=>rfl⟩
    ·simp at hr
  ·rename_i n e ht
   split at h
   ·simp at h
   ·rename_i hg
    simp only[eqB,Option.bind_eq_some_iff] at h
    obtain ⟨r,hr,h⟩:=h
    unfold ud at hr
    split at hr
    ·obtain ⟨us,rfl,hu⟩:=hp;obtain ⟨us',rfl,hu'⟩:=hq
     rw[aZ (run_eqGuard_agg w op t x y _ _ (by simpa using hg))]
     exact aI h (oO hr ⟨us,rfl,hu⟩ ⟨us',rfl,hu'⟩) ⟨fun _=>rfl,fun _=>rfl⟩
    ·simp at hr
  ·simp at h
end
section
variable {β:Lay} {P:Program} {w:World}
theorem addr_add (b o n:Nat):(⟨b,o,none⟩:Addr).add n=⟨b,o+n,none⟩:=by
 unfold Addr.add
 split
 ·rename_i h;subst h;rfl
 ·rfl
def OB (n:Option Nat) (v:Option Value):Prop:=(n=none∧v=none)∨∃ k i,n=some i.toNat∧0≤i∧v=some (.int k i)
theorem oP {t:List LV} {a:Act} (ht:Rps β t a.tmps.toList) {x:Option Operand} {v:Option LV} {n:Option Nat} (h:evo t x=some v) (hn:hU v=some n) :
  OB n (x.map a.eval):=by
 rcases vp ht h with ⟨rfl,h2⟩ | ⟨y,u,rfl,h2,r⟩
 ·simp[hU] at hn;subst hn;exact .inl ⟨rfl,h2⟩
 ·unfold hU at hn
  split at hn
  ·rename_i he;simp at he
  ·rename_i k i he
   simp at he;subst he
   split at hn
   ·simp at hn;subst hn
    simp only[Rp] at r;subst r
    rename_i h0
    exact .inr ⟨k,i,rfl,h0,h2⟩
   ·simp at hn
  ·simp at hn
theorem dX {k:IntKind} {i:Int} {y:Nat} {c:BoundsCode} (h0:0≤i) (h:i.toNat≤y):(Instr.sliceBound (.int k i) y c).run P w=.ok i.toNat w:=by
 unfold Instr.sliceBound
 simp only[asIntOf,pure_bind]
 rw[if_pos ⟨h0,by omega⟩];rfl
theorem dh {s:Bool} {len cap:Nat} {l h m:Option Nat} {lv hv mv:Option Value} (hl:OB l lv) (hh:OB h hv) (hm:OB m mv)
  (h1:l.getD 0≤h.getD len) (h2:h.isSome=true→h.getD len≤m.getD cap) (h3:m.getD cap≤cap) (h4:m.isSome=true→h.isSome=true) :
  (Instr.sliceBounds s len cap lv hv mv).run P w=.ok (l.getD 0,h.getD len,m.getD cap) w:=by
 unfold Instr.sliceBounds
 rcases hm with ⟨rfl,rfl⟩ | ⟨km,im,rfl,im0,rfl⟩
 ·simp only[Option.getD_none] at h2 h3 ⊢
  rcases hh with ⟨rfl,rfl⟩ | ⟨kh,ih,rfl,ih0,rfl⟩
  ·simp only[Option.getD_none] at h1 ⊢
   rcases hl with ⟨rfl,rfl⟩ | ⟨kl,il,rfl,il0,rfl⟩
   ·simp
   ·simp only[Option.getD_some] at h1
    simp[dX il0 h1]
  ·simp only[Option.getD_some,Option.isSome_some,forall_const] at h1 h2 ⊢
   rcases hl with ⟨rfl,rfl⟩ | ⟨kl,il,rfl,il0,rfl⟩
   ·simp[dX ih0 h2]
   ·simp only[Option.getD_some] at h1
    simp[dX il0 h1,dX ih0 h2]
 ·simp only[Option.getD_some,Option.isSome_some,forall_const] at h2 h3 h4 ⊢
  rcases hh with ⟨rfl,rfl⟩ | ⟨kh,ih,rfl,ih0,rfl⟩
  ·simp at h4
  ·simp only[Option.getD_some,Option.isSome_some,forall_const] at h1 h2 ⊢
   rcases hl with ⟨rfl,rfl⟩ | ⟨kl,il,rfl,il0,rfl⟩
   ·simp[dX ih0 h2,dX im0 h3]
   ·simp only[Option.getD_some] at h1
    simp[dX il0 h1,dX ih0 h2,dX im0 h3]
theorem lL (s:List UInt8) (l h:Nat):(⟨⟨s⟩⟩:ByteArray).extract l h=⟨⟨(s.drop l).take (h-l)⟩⟩:=by
 apply ByteArray.ext
 rw[ByteArray.data_extract]
 apply Array.ext'
 simp[List.extract]
theorem fM {ty:TypeId} {x v:LV} {u:Value} {l h m:Option Nat} {lv hv mv:Option Value} (hx:Rp β x u) (hl:OB l lv) (hh:OB h hv) (hm:OB m mv)
  (hs:hZ P ty x l h m=some v):∃ u',(Instr.sliceAt ty u lv hv mv).run P w=.ok u' w∧Rp β v u':=by
 unfold hZ at hs
 split at hs
 ·rename_i ht
  unfold zB at hs
  split at hs
  ·rename_i s
   simp only[Rp] at hx;subst hx
   split at hs
   ·rename_i hc
    simp at hs;subst hs
    have hmv:mv=none:=by rcases hm with ⟨_,e⟩ | ⟨_,_,e,_⟩;exact e;simp at e
    subst hmv
    have hb:=dh (P:=P) (w:=w) (s:=false) (len:=s.length) (cap:=s.length) hl hh (.inl ⟨rfl,rfl⟩) hc.1 (fun _=>by simpa using hc.2) (by simp) (by simp)
    refine ⟨_,?_,rfl⟩
    unfold Instr.sliceAt
    simp only[ae,ai ht,ab]
    unfold Instr.slice
    simp only[ae,ai ht,ab,Option.isSome_none,Bool.false_eq_true,if_false]
    rw[show (⟨⟨s⟩⟩:ByteArray).size=s.length from rfl]
    simp only[an,ab,hb,lL]
   ·simp at hs
  ·simp at hs
 ·rename_i e ht
  split at hs
  ·rename_i hk
   have hunf:∀ (a:Option Addr) (n c:Nat) (l h m:Nat),(Instr.sliceBounds true n c lv hv mv).run P w=.ok (l,h,m) w→
     (Instr.sliceAt ty (.slice a n c) lv hv mv).run P w=.ok (.slice (if m=l then a else a.map (·.add (l*szT P e))) (h-l) (m-l)) w:=by
    intro a n c l h m hb
    unfold Instr.sliceAt
    simp only[ae,ai ht,ab]
    unfold Instr.slice
    simp only[ae,ai ht,ab,hb,run_sizeOf' hk,an]
   unfold mU at hs
   split at hs
   ·rename_i o k len ci
    obtain ⟨b,hb,hlen,rfl⟩:=hx
    simp only[kQ] at hs
    split at hs
    ·rename_i m'
     split at hs
     ·rename_i c
      split at hs
      ·rename_i hc
       simp at hs;subst hs
       refine ⟨_,hunf _ _ _ _ _ _ (dh hl hh hm hc.1 (fun _=>by simpa using hc.2.1) (by simpa[cK.cap] using hc.2.2.1) (fun _=>hc.2.2.2)),b,hb,?_,?_⟩
       ·simp[cK.cap];omega
       ·simp only[Option.getD_some,cK.cap]
        by_cases e:m'=l.getD 0
        ·simp only[e,if_true]
        ·simp only[if_neg e,Option.map_some,addr_add,Nat.add_assoc]
      ·simp at hs
     ·rename_i s
      split at hs
      ·rename_i hc
       simp at hs;subst hs
       refine ⟨_,hunf _ _ _ _ _ _ (dh hl hh hm hc.1 (fun _=>by simpa using hc.2.1) (by have:=hc.2.2.1;simp only[Option.getD_some];omega) (fun _=>hc.2.2.2)),b,hb,?_,?_⟩
       ·simp[cK.cap];omega
       ·simp only[Option.getD_some,cK.cap]
        by_cases e:m'=l.getD 0
        ·simp only[e,if_true]
        ·simp only[if_neg e,Option.map_some,addr_add,Nat.add_assoc]
      ·simp at hs
    ·have hmv:mv=none:=by rcases hm with ⟨_,e⟩ | ⟨_,_,e,_⟩;exact e;simp at e
     subst hmv
     split at hs
     ·rename_i c
      split at hs
      ·rename_i hc
       simp at hs;subst hs
       refine ⟨_,hunf _ _ _ _ _ _ (dh hl hh (.inl ⟨rfl,rfl⟩) hc.1 (fun _=>by simpa[cK.cap] using hc.2) (by simp) (by simp)),b,hb,?_,?_⟩
       ·simp[cK.cap];omega
       ·simp only[Option.getD_none,cK.cap]
        by_cases e:c=l.getD 0
        ·simp only[e,if_true]
        ·simp only[if_neg e,Option.map_some,addr_add,Nat.add_assoc]
      ·simp at hs
     ·rename_i s
      split at hs
      ·rename_i hc
       obtain ⟨rfl,hs0,hlo,hhi⟩:=hc
       simp only[cK.cap] at hlen
       have hb':=hunf (some ⟨b.blk,b.base+k,none⟩) len ((b.room-k) / szT P e) _ _ _ (dh (len:=len) (cap:=(b.room-k) / szT P e) hl hh (.inl ⟨rfl,rfl⟩) hlo (fun _=>by simp;omega) (by simp) (by simp))
       simp only[Option.getD_none] at hb'
       split at hs
       ·rename_i h0
        simp at hs;subst hs
        refine ⟨_,hb',b,hb,?_,?_⟩
        ·simp[cK.cap];omega
        ·simp only[h0,Nat.zero_mul,Nat.sub_zero,cK.cap]
         split
         ·rfl
         ·simp only[Option.map_some,addr_add,Nat.add_zero]
       ·rename_i h0
        split at hs
        ·rename_i hlt
         simp at hs;subst hs
         have hcap:(b.room-(k+l.getD 0*szT P e)) / szT P e=(b.room-k) / szT P e-l.getD 0:=by
          rw[Nat.sub_add_eq,Nat.mul_comm,Nat.sub_mul_div]
         refine ⟨_,hb',b,hb,?_,?_⟩
         ·simp only[cK.cap,hcap];omega
         ·rw[if_neg (by omega)]
          simp only[cK.cap,hcap,Option.map_some,addr_add,Nat.add_assoc]
        ·simp at hs;subst hs
         have he:h.getD len-l.getD 0=0:=by omega
         rw[he] at hb'
         refine ⟨_,hb',?_⟩
         split
         ·exact ⟨_,_,rfl⟩
         ·exact ⟨_,_,rfl⟩
      ·simp at hs
   ·simp only[Rp] at hx;subst hx
    split at hs
    ·rename_i hc
     simp at hs;subst hs
     obtain ⟨c1,c2,c3,c4⟩:=hc
     refine ⟨_,hunf none 0 0 _ _ _ (dh (len:=0) (cap:=0) hl hh hm (by omega) (fun _=>by omega) (by omega) c4),?_⟩
     simp[c1,c2,c3,Rp]
    ·simp at hs
   ·obtain ⟨a,c,rfl⟩:=hx
    split at hs
    ·rename_i hc
     simp at hs;subst hs
     obtain ⟨c1,c2,rfl⟩:=hc
     have hmv:mv=none:=by rcases hm with ⟨_,e⟩ | ⟨_,_,e,_⟩;exact e;simp at e
     subst hmv
     refine ⟨_,hunf (some a) 0 c _ _ _ (dh (len:=0) (cap:=c) hl hh (.inl ⟨rfl,rfl⟩) (by omega) (fun _=>by simp[c2]) (by simp) (by simp)),?_⟩
     simp only[c1,c2]
     split<;>exact ⟨_,_,rfl⟩
    ·simp at hs
   ·rename_i cs len cap
    obtain ⟨us,hus,a,c,rfl,hlc,hcap,hF⟩:=hx
    split at hs
    ·rename_i hc
     simp only[ao] at hs;subst hs
     obtain ⟨c0,c1,c2,c3,c4⟩:=hc
     have hm1:m.getD len≤m.getD c∧m.getD c≤c:=by
      cases m with
      | none=>simp only[Option.getD_none];omega
      | some m=>simp only[Option.getD_some] at c3 ⊢;omega
     refine ⟨_,hunf a len c _ _ _ (dh (len:=len) (cap:=c) hl hh hm c1 (fun _=>by omega) hm1.2 c4),(us.drop (l.getD 0*szT P e)).take ((h.getD len-l.getD 0)*szT P e),(hus.drop _).take _,(if m.getD c=l.getD 0 then a else a.map (·.add (l.getD 0*szT P e))),m.getD c-l.getD 0,rfl,by omega,?_,?_⟩
     ·intro k hk
      cases m with
      | none=>simp at hk
      | some m=>simpa using hk
     ·rcases Nat.eq_zero_or_pos (h.getD len-l.getD 0) with z|z
      ·refine .inl ⟨z,fun ha=>?_⟩
       have ha':a=none:=by
        cases a with
        | none=>rfl
        | some a=>split at ha<;>simp at ha
       rcases hF with ⟨h0,hc0⟩ | ⟨b,base,e1,_⟩
       ·have:=hc0 ha'
        omega
       ·rw[ha'] at e1;cases e1
      ·rcases hF with hF|⟨b,base,rfl,fc,fe,ffz,f1,f2,f3⟩
       ·omega
       ·refine .inr ⟨b,base+l.getD 0*szT P e,?_,fc,fe,ffz,f1,?_,?_⟩
        ·rw[if_neg (by omega),Option.map_some,addr_add]
        ·have hul:=hus.length
         have:l.getD 0*szT P e+(h.getD len-l.getD 0)*szT P e≤len*szT P e:=by rw[← Nat.add_mul];exact Nat.mul_le_mul_right _ (by omega)
         have:((us.drop (l.getD 0*szT P e)).take ((h.getD len-l.getD 0)*szT P e)).length≤(h.getD len-l.getD 0)*szT P e:=by simp;omega
         omega
        ·intro i u hu
         rw[List.getElem?_take] at hu
         split at hu
         ·rw[List.getElem?_drop] at hu
          rw[Nat.add_assoc];exact f3 _ _ hu
         ·cases hu
    ·simp at hs
   ·simp at hs
  ·simp at hs
 ·rename_i n e ht
  split at hs
  ·rename_i hk
   unfold zC at hs
   split at hs
   ·obtain ⟨b,hb,rfl⟩:=hx
    split at hs
    ·rename_i hc
     obtain ⟨c1,c2,c3,c4⟩:=hc
     simp at hs;subst hs
     refine ⟨_,?_,b,hb,?_,rfl⟩
     ·unfold Instr.sliceAt
      simp only[ae,ai ht,ab,Instr.sureAddr,an,dh (P:=P) (w:=w) (len:=n) (cap:=n) hl hh hm c1 (fun _=>c2) c3 c4,run_sizeOf' hk]
      by_cases e:m.getD n=l.getD 0
      ·simp only[e,if_true,cK.cap]
      ·simp only[if_neg e,addr_add,Nat.add_assoc,cK.cap]
     ·simp[cK.cap];omega
    ·simp at hs
   ·simp at hs
  ·simp at hs
 ·simp at hs
end
section
variable {β:Lay} {P:Program} {w:World}
theorem oy {ty:TypeId} {x v:LV} {u:Value} {f:Nat} (hx:Rp β x u) (h:jt P ty x f=some v) :
  ∃ u',(Instr.fieldAt ty u f).run P w=.ok u' w∧Rp β v u':=by
 unfold jt at h
 split at h
 ·rename_i fs ht
  split at h
  ·rename_i fd hf
   split at h
   ·rename_i hc
    unfold aK at h
    split at h
    ·obtain ⟨b,hb,rfl⟩:=hx
     simp at h;subst h
     refine ⟨_,?_,b,hb,rfl⟩
     unfold Instr.fieldAt
     simp only[ae,ai ht,ab,hf,Instr.sureAddr,an,fieldPlace,run_sizeOf' hc.1]
     rw[if_neg hc.2]
     simp[addr_add,Nat.add_assoc]
    ·simp only[Rp] at hx;subst hx
     simp at h;subst h
     refine ⟨_,?_,rfl⟩
     unfold Instr.fieldAt
     simp only[ae,ai ht,ab,hf,Instr.sureAddr,an,fieldPlace,run_sizeOf' hc.1]
     rw[if_neg hc.2]
     simp[addr_add]
    ·obtain ⟨us,b,base,hus,rfl,hF⟩:=hx
     simp at h;subst h
     refine ⟨_,?_,us,b,base,hus,rfl,hF⟩
     unfold Instr.fieldAt
     simp only[ae,ai ht,ab,hf,Instr.sureAddr,an,fieldPlace,run_sizeOf' hc.1]
     rw[if_neg hc.2]
     simp[addr_add,Nat.add_assoc]
    ·simp at h
   ·simp at h
  ·simp at h
 ·simp at h
theorem lM {ty:TypeId} {x v:LV} {off:Nat} (h:kX P ty x off=some v):∃ cs,x=.agg cs∧jL P ty cs off=some v:=by
 unfold kX at h
 split at h
 ·rename_i hk
  split at h
  ·rename_i ha
   unfold Ai at h
   split at h
   ·exact ⟨_,rfl,by simp only[jL,hk,ha,if_true];exact h⟩
   ·simp at h
  ·rename_i ha
   unfold Aj at h
   split at h
   ·exact ⟨_,rfl,by simp only[jL,hk,if_true];rw[if_neg ha];exact h⟩
   ·simp at h
 ·simp at h
theorem qS {ty:TypeId} {x v:LV} {u:Value} {f:Nat} (hx:Rp β x u) (h:sQ P ty x f=some v) :
  ∃ u',(Instr.field ty u f).run P w=.ok u' w∧Rp β v u':=by
 unfold sQ at h
 split at h
 ·rename_i fs ht
  split at h
  ·rename_i fd hf
   obtain ⟨cs,rfl,hp⟩:=lM h
   obtain ⟨vs,rfl,hvs⟩:=hx
   obtain ⟨u',h1,h2⟩:=eA (w:=w) hvs hp
   refine ⟨u',?_,h2⟩
   unfold Instr.field
   simp only[ae,ai ht,ab,hf,asAgg,an,h1]
  ·simp at h
 ·simp at h
theorem oz {ty:TypeId} {x i v:LV} {u j:Value} (hx:Rp β x u) (hi:Rp β i j) (h:ju P ty x i=some v) :
  ∃ u',(Instr.indexAt ty u j).run P w=.ok u' w∧Rp β v u':=by
 unfold ju at h
 split at h
 ·rename_i n e ht
  split at h
  ·rename_i hk
   unfold zH at h
   split at h
   ·obtain ⟨b,hb,rfl⟩:=hx
    simp only[Rp] at hi;subst hi
    split at h
    ·rename_i hc
     simp at h;subst h
     refine ⟨_,?_,b,hb,rfl⟩
     unfold Instr.indexAt
     simp only[asIntOf,ae,an,ai ht,ab,Instr.sureAddr]
     rw[if_pos hc]
     simp only[ae,run_sizeOf' hk,ab,an,addr_add,Nat.add_assoc]
    ·simp at h
   ·simp only[Rp] at hx;subst hx
    simp only[Rp] at hi;subst hi
    split at h
    ·rename_i hc
     simp at h;subst h
     refine ⟨_,?_,rfl⟩
     unfold Instr.indexAt
     simp only[asIntOf,ae,an,ai ht,ab,Instr.sureAddr]
     rw[if_pos hc]
     simp only[ae,run_sizeOf' hk,ab,an,addr_add]
    ·simp at h
   ·simp at h
  ·simp at h
 ·rename_i e ht
  split at h
  ·rename_i hk
   unfold bF at h
   split at h
   ·obtain ⟨b,hb,hlen,rfl⟩:=hx
    simp only[Rp] at hi;subst hi
    split at h
    ·rename_i hc
     simp at h;subst h
     refine ⟨_,?_,b,hb,rfl⟩
     unfold Instr.indexAt
     simp only[asIntOf,ae,an,ai ht,ab]
     rw[if_pos hc]
     simp only[ae,run_sizeOf' hk,ab,an,addr_add,Nat.add_assoc]
    ·simp at h
   ·rename_i cs len cap _ i'
    obtain ⟨us,hus,a,c,rfl,hlc,hcap,hF⟩:=hx
    simp only[Rp] at hi;subst hi
    split at h
    ·rename_i hc
     simp at h;subst h
     rcases hF with hF|⟨b,base,rfl,hF⟩
     ·omega
     refine ⟨_,?_,us,b,base,hus,rfl,hF⟩
     unfold Instr.indexAt
     simp only[asIntOf,ae,an,ai ht,ab]
     rw[if_pos hc]
     simp only[ae,run_sizeOf' hk,ab,an,addr_add]
    ·simp at h
   ·simp at h
  ·simp at h
 ·simp at h
theorem qT {ty:TypeId} {x i v:LV} {u j:Value} (hx:Rp β x u) (hi:Rp β i j) (h:sR P ty x i=some v) :
  ∃ u',(Instr.index ty u j).run P w=.ok u' w∧Rp β v u':=by
 unfold sR at h
 split at h
 ·rename_i n e ht
  split at h
  ·rename_i hk
   have hg:∃ k z,i=.int k z∧0≤z∧z<n∧kX P e x (z.toNat*szT P e)=some v:=by
    split at h
    ·rename_i ha
     unfold ui at h
     split at h
     ·split at h
      ·rename_i hc
       exact ⟨_,_,rfl,hc.1,hc.2,by simp only[kX,hk,ha,if_true];exact h⟩
      ·simp at h
     ·simp at h
    ·rename_i ha
     unfold ui at h
     split at h
     ·split at h
      ·rename_i hc
       exact ⟨_,_,rfl,hc.1,hc.2,by simp only[kX,hk,if_true];rw[if_neg ha];exact h⟩
      ·simp at h
     ·simp at h
   obtain ⟨k,z,rfl,h0,h1,hp⟩:=hg
   obtain ⟨cs,rfl,hp⟩:=lM hp
   obtain ⟨vs,rfl,hvs⟩:=hx
   obtain ⟨u',h3,h4⟩:=eA (w:=w) hvs hp
   refine ⟨u',?_,h4⟩
   simp only[Rp] at hi;subst hi
   unfold Instr.index
   simp only[asIntOf,ae,an,ai ht,ab]
   rw[if_pos ⟨h0,h1⟩]
   simp only[ae,run_sizeOf' hk,ab,h3]
  ·simp at h
 ·rename_i ht
  unfold zI at h
  split at h
  ·simp only[Rp] at hx hi;subst hx;subst hi
   split at h
   ·rename_i s k z h0
    split at h
    ·rename_i b hb
     simp at h;subst h
     refine ⟨_,?_,rfl⟩
     unfold Instr.index
     simp only[asIntOf,ae,an,ai ht,ab]
     rw[if_pos h0]
     have:(⟨⟨s⟩⟩:ByteArray)[z.toNat]?=some b:=by
      have hlt:z.toNat<s.length:=by
       rcases Nat.lt_or_ge z.toNat s.length with k|k
       ·exact k
       ·simp[List.getElem?_eq_none k] at hb
      have hlt':z.toNat<(⟨⟨s⟩⟩:ByteArray).size:=hlt
      rw[getElem?_pos (⟨⟨s⟩⟩:ByteArray) z.toNat hlt']
      rw[ba hlt] at hb
      exact hb
     rw[this];rfl
    ·simp at h
   ·simp at h
  ·simp at h
 ·simp at h
theorem gG {a xt:TypeId} {x v:LV} {u:Value} {ok:Bool} (hx:Rp β x u) (h:iM P x a ok=some v) :
  ∃ u',(Instr.typeAssert u xt a ok).run P w=.ok u' w∧Rp β v u':=by
 have zz:∀ {z:LV},eu P a=some z→∃ u',(zeroValue a).run P w=.ok u' w∧Rp β z u':=fun hz=>
  let ⟨u',h1,h2,_⟩:=dW (w:=w) hz;⟨u',h1,cR h2⟩
 unfold iM at h
 split at h
 ·rename_i want ht
  unfold asI at h
  split at h
  ·rename_i t y
   obtain ⟨q,rfl,hq⟩:=hx
   split at h
   ·rename_i hf
    unfold hasAll at hf
    split at hf
    ·rename_i i hi
     simp at hf
     simp at h;subst h
     refine ⟨if ok then .tuple #[.iface t q,.bool true] else .iface t q,?_,?_⟩
     ·unfold Instr.typeAssert
      simp only[ae,ai ht,ab,typeInfo,run_program,hi,an]
      rw[hf];rfl
     ·cases ok
      ·exact ⟨q,rfl,hq⟩
      ·exact ⟨[.iface t q,.bool true],rfl,_,_,rfl,⟨q,rfl,hq⟩,_,_,rfl,rfl,rfl⟩
    ·simp at hf
   ·rename_i hf
    unfold hasAll at hf
    split at hf
    ·rename_i i hi
     simp at hf
     split at h
     ·rename_i hok
      simp at h;obtain ⟨z,hz,rfl⟩:=h
      obtain ⟨u',h1,h2⟩:=zz hz
      refine ⟨.tuple #[u',.bool false],?_,[u',.bool false],rfl,_,_,rfl,h2,_,_,rfl,rfl,rfl⟩
      unfold Instr.typeAssert
      simp only[ae,ai ht,ab,typeInfo,run_program,hi,an]
      cases hm:Instr.missingMethod want i.methods with
      | none=>rw[hm] at hf;simp at hf
      | some m=>simp[hok,h1]
     ·simp at h
    ·simp at hf
   ·simp at h
  ·simp only[Rp] at hx;subst hx
   split at h
   ·rename_i hok
    simp at h;obtain ⟨z,hz,rfl⟩:=h
    obtain ⟨u',h1,h2⟩:=zz hz
    refine ⟨.tuple #[u',.bool false],?_,[u',.bool false],rfl,_,_,rfl,h2,_,_,rfl,rfl,rfl⟩
    unfold Instr.typeAssert
    simp[ai ht,hok,h1]
   ·simp at h
  ·simp at h
 ·rename_i d hni ht
  unfold asC at h
  split at h
  ·rename_i t y
   obtain ⟨q,rfl,hq⟩:=hx
   split at h
   ·rename_i he
    subst he
    simp at h;subst h
    refine ⟨if ok then .tuple #[q,.bool true] else q,?_,?_⟩
    ·unfold Instr.typeAssert
     simp only[ae,ai ht,ab]
     cases d<;>first | (exact (hni _ rfl).elim) | simp
    ·cases ok
     ·exact hq
     ·exact ⟨[q,.bool true],rfl,_,_,rfl,hq,_,_,rfl,rfl,rfl⟩
   ·rename_i he
    split at h
    ·rename_i hok
     simp at h;obtain ⟨z,hz,rfl⟩:=h
     obtain ⟨u',h1,h2⟩:=zz hz
     refine ⟨.tuple #[u',.bool false],?_,[u',.bool false],rfl,_,_,rfl,h2,_,_,rfl,rfl,rfl⟩
     unfold Instr.typeAssert
     simp only[ae,ai ht,ab]
     cases d<;>first | (exact (hni _ rfl).elim) | (simp[he,hok,h1])
    ·simp at h
  ·simp only[Rp] at hx;subst hx
   split at h
   ·rename_i hok
    simp at h;obtain ⟨z,hz,rfl⟩:=h
    obtain ⟨u',h1,h2⟩:=zz hz
    refine ⟨.tuple #[u',.bool false],?_,[u',.bool false],rfl,_,_,rfl,h2,_,_,rfl,rfl,rfl⟩
    unfold Instr.typeAssert
    simp only[ae,ai ht,ab]
    cases d<;>simp[hok,h1]
   ·simp at h
  ·simp at h
 ·simp at h
end
end Go.CP
