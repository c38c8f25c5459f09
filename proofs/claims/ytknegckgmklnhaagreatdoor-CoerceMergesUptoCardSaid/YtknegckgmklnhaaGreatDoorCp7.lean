/- Parts of the proof. -/
import Derived.Test.YtknegckgmklnhaaGreatDoorCp4
namespace Go.CP
section
variable {β:Lay} {P:Program} {w:World}
def zY (op:BinOp) (t:TypeId) (x y:Operand) (a b:Value):Sem Value:=do eqGuard op t x y a b;Go.binOp op t a b
def bp:Value→Bool
 | .nilIface | .agg _=>false
 | _=>true
theorem ay {op:BinOp} {t:TypeId} {x y:Operand} {a b:Value} (h:bp a=true∨bp b=true):(eqGuard op t x y a b).run P w=.ok () w:=by
 unfold eqGuard
 cases op<;>simp
 all_goals
  cases a<;>cases b<;>simp[bp] at h ⊢
theorem aW {op:BinOp} {t:TypeId} {x y:Operand} {a b:Value} (h:(eqGuard op t x y a b).run P w=.ok () w) :
  (zY op t x y a b).run P w=(Go.binOp op t a b).run P w:=by
 simp[zY,h]
theorem aL {op:BinOp} {r:Bool} {v:LV} {t:TypeId} {a b:Value} (h:mJ op r=some v) (he:(Op.equal t a b).run P w=.ok r w)
  (hb:(op=.eql→Go.binOp .eql t a b=(do pure (.bool (← Op.equal t a b))))∧(op=.neq→Go.binOp .neq t a b=(do pure (.bool (!(← Op.equal t a b)))))) :
  ∃ u,(Go.binOp op t a b).run P w=.ok u w∧Rp β v u:=by
 cases op<;>simp[mJ] at h<;>subst h
 ·exact ⟨.bool r,by rw[hb.1 rfl];simp[he],rfl⟩
 ·exact ⟨.bool (!r),by rw[hb.2 rfl];simp[he],rfl⟩
section
variable {t:TypeId}
theorem fJ {e:TypeId} {a b:Option Addr} (ht:P.underlying t=some (.pointer e)) (h:a=none∨b=none) :
  (Op.equal t (.pointer a) (.pointer b)).run P w=.ok (decide (a=b)) w:=by
 unfold Op.equal Op.maxDepth
 rw[Op.equalIn]
 simp only[ad,ai ht,ab]
 rcases h with h|h<;>subst h
 ·cases b<;>simp
 ·cases a<;>simp
theorem mR {e:TypeId} {a:Addr} (ht:P.underlying t=some (.pointer e)) (hk:known P e=true) :
  (Op.equal t (.pointer (some a)) (.pointer (some a))).run P w=.ok true w:=by
 unfold Op.equal Op.maxDepth
 rw[Op.equalIn]
 simp only[ad,ai ht,ab,run_sizeOf' hk]
 split
 ·simp only[sameAddr,beq_self_eq_true,if_true]
  simp
 ·simp
theorem iC {e:TypeId} {a:Option Addr} {i j:Nat} (ht:P.underlying t=some (.slice e)):(Op.equal t (.slice none 0 0) (.slice a i j)).run P w=.ok a.isNone w:=by
 unfold Op.equal Op.maxDepth
 rw[Op.equalIn]
 simp only[ad,ai ht,ab,ao]
theorem kR {e:TypeId} {a:Addr} {i j:Nat} (ht:P.underlying t=some (.slice e)):(Op.equal t (.slice (some a) i j) (.slice none 0 0)).run P w=.ok false w:=by
 unfold Op.equal Op.maxDepth
 rw[Op.equalIn]
 simp only[ad,ai ht,ab];rfl
theorem jr {k e:TypeId} {a:Option Nat} (ht:P.underlying t=some (.map k e)):(Op.equal t (.map none) (.map a)).run P w=.ok a.isNone w:=by
 unfold Op.equal Op.maxDepth
 rw[Op.equalIn]
 simp only[ad,ai ht,ab,ao]
theorem mS {k e:TypeId} {a:Nat} (ht:P.underlying t=some (.map k e)):(Op.equal t (.map (some a)) (.map none)).run P w=.ok false w:=by
 unfold Op.equal Op.maxDepth
 rw[Op.equalIn]
 simp only[ad,ai ht,ab];rfl
theorem vh {p q:Array TypeId} {z:Bool} (ht:P.underlying t=some (.func p q z)):(Op.equal t .nilFunc .nilFunc).run P w=.ok true w:=by
 unfold Op.equal Op.maxDepth
 rw[Op.equalIn]
 simp only[ad,ai ht,ab];rfl
theorem vi {p q:Array TypeId} {z:Bool} {f:Fn} {a b:Array Value} (ht:P.underlying t=some (.func p q z)):(Op.equal t .nilFunc (.func f a b)).run P w=.ok false w:=by
 unfold Op.equal Op.maxDepth
 rw[Op.equalIn]
 simp only[ad,ai ht,ab];rfl
theorem vk {p q:Array TypeId} {z:Bool} {f:Fn} {a b:Array Value} (ht:P.underlying t=some (.func p q z)):(Op.equal t (.func f a b) .nilFunc).run P w=.ok false w:=by
 unfold Op.equal Op.maxDepth
 rw[Op.equalIn]
 simp only[ad,ai ht,ab];rfl
end
theorem qv {t:TypeId} {ms:Array (String × TypeId)} {D:Nat} (ht:P.underlying t=some (.interface ms)):(Op.eqGuardIn (D+1) t .nilIface .nilIface).run P w=.ok (!ms.isEmpty) w:=by
 rw[Op.eqGuardIn]
 simp only[ad,ai ht,ab,ao]
theorem ou {t:TypeId} {x y:LV} {u v:Value} {r:Bool} (h:leq P iA t x y=some r) (hx:Rp β x u) (hy:Rp β y v):(Op.equal t u v).run P w=.ok r w:=
 dV iA h hx hy Op.maxDepth (by decide)
theorem sD {op:BinOp} {t:TypeId} {x y:Operand} {a b v:LV} {p q:Value} (hp:Rp β a p) (hq:Rp β b q)
  (h:zR P op t (gJ x||gJ y) a b=some v):∃ u,(zY op t x y p q).run P w=.ok u w∧Rp β v u:=by
 unfold zR at h
 split at h
 ·unfold pc at h
  split at h
  ·rename_i k i k' j
   simp only[Rp] at hp hq;subst hp;subst hq
   rw[aW (ay (by simp[bp]))]
   simp only[sn] at h
   split at h
   ·simp at h
   ·rename_i hj
    simp only[ar] at h;subst h
    exact ⟨_,by simp only[Go.binOp,Op.shift,hj,if_false];rfl,rfl⟩
  ·simp at h
 ·unfold pc at h
  split at h
  ·rename_i k i k' j
   simp only[Rp] at hp hq;subst hp;subst hq
   rw[aW (ay (by simp[bp]))]
   simp only[sn] at h
   split at h
   ·simp at h
   ·rename_i hj
    simp only[ar] at h;subst h
    exact ⟨_,by simp only[Go.binOp,Op.shift,hj,if_false];rfl,rfl⟩
  ·simp at h
 ·rename_i h1 h2
  split at h
  ·unfold aI at h
   split at h
   ·rename_i k i k' j
    simp only[Rp] at hp hq;subst hp;subst hq
    rw[aW (ay (by simp[bp]))]
    split at h
    ·rename_i hk;subst hk
     exact sB ⟨fun e=>h1 e,fun e=>h2 e⟩ t h
    ·simp at h
   ·simp at h
  ·unfold mj at h
   split at h
   ·simp only[Rp] at hp hq;subst hp;subst hq
    rw[aW (ay (by simp[bp]))]
    exact sC t h
   ·simp at h
  ·rename_i ht
   unfold jG at h
   split at h
   ·simp only[Rp] at hp hq;subst hp;subst hq
    rw[aW (ay (by simp[bp]))]
    exact aL h (run_equalIn_bool w _ t _ _ ht) ⟨fun _=>rfl,fun _=>rfl⟩
   ·simp at h
  ·rename_i e ht
   simp only[eqB,Option.bind_eq_some_iff] at h
   obtain ⟨r,hr,h⟩:=h
   unfold jH at hr
   split at hr
   ·simp only[ar] at hr;subst hr
    simp only[Rp] at hp hq;subst hp;subst hq
    rw[aW (ay (by simp[bp]))]
    exact aL h (by rw[fJ ht (.inl rfl)];simp) ⟨fun _=>rfl,fun _=>rfl⟩
   ·simp only[ar] at hr;subst hr
    simp only[Rp] at hp;subst hp;obtain ⟨b,_,rfl⟩:=hq
    rw[aW (ay (by simp[bp]))]
    exact aL h (by rw[fJ ht (.inl rfl)];simp) ⟨fun _=>rfl,fun _=>rfl⟩
   ·simp only[ar] at hr;subst hr
    simp only[Rp] at hq;subst hq;obtain ⟨b,_,rfl⟩:=hp
    rw[aW (ay (by simp[bp]))]
    exact aL h (by rw[fJ ht (.inr rfl)];simp) ⟨fun _=>rfl,fun _=>rfl⟩
   ·split at hr
    ·rename_i hc
     obtain ⟨hk,rfl,rfl⟩:=hc
     simp only[ar] at hr;subst hr
     obtain ⟨b,hb,rfl⟩:=hp;obtain ⟨b',hb',rfl⟩:=hq
     rw[hb] at hb';cases hb'
     rw[aW (ay (by simp[bp]))]
     exact aL h (mR ht hk) ⟨fun _=>rfl,fun _=>rfl⟩
    ·simp at hr
   ·simp only[ar] at hr;subst hr
    simp only[Rp] at hp;subst hp;obtain ⟨_,b,_,_,rfl,_⟩:=hq
    rw[aW (ay (by simp[bp]))]
    exact aL h (by rw[fJ ht (.inl rfl)];simp) ⟨fun _=>rfl,fun _=>rfl⟩
   ·simp only[ar] at hr;subst hr
    simp only[Rp] at hq;subst hq;obtain ⟨_,b,_,_,rfl,_⟩:=hp
    rw[aW (ay (by simp[bp]))]
    exact aL h (by rw[fJ ht (.inr rfl)];simp) ⟨fun _=>rfl,fun _=>rfl⟩
   ·simp at hr
  ·rename_i e ht
   simp only[eqB,Option.bind_eq_some_iff] at h
   obtain ⟨r,hr,h⟩:=h
   unfold sr at hr
   split at hr<;>try simp only[ar,reduceCtorEq] at hr
   all_goals try subst hr
   ·simp only[Rp] at hp hq;subst hp;subst hq
    rw[aW (ay (by simp[bp]))]
    exact aL h (by rw[iC ht];rfl) ⟨fun _=>rfl,fun _=>rfl⟩
   ·simp only[Rp] at hp;subst hp;obtain ⟨b,_,_,rfl⟩:=hq
    rw[aW (ay (by simp[bp]))]
    exact aL h (by rw[iC ht];rfl) ⟨fun _=>rfl,fun _=>rfl⟩
   ·simp only[Rp] at hp;subst hp;obtain ⟨b,_,rfl⟩:=hq
    rw[aW (ay (by simp[bp]))]
    exact aL h (by rw[iC ht];rfl) ⟨fun _=>rfl,fun _=>rfl⟩
   ·simp only[Rp] at hq;subst hq;obtain ⟨b,_,_,rfl⟩:=hp
    rw[aW (ay (by simp[bp]))]
    exact aL h (kR ht) ⟨fun _=>rfl,fun _=>rfl⟩
   ·simp only[Rp] at hq;subst hq;obtain ⟨b,_,rfl⟩:=hp
    rw[aW (ay (by simp[bp]))]
    exact aL h (kR ht) ⟨fun _=>rfl,fun _=>rfl⟩
   ·split at hr
    ·simp only[ar] at hr;subst hr
     simp only[Rp] at hp;subst hp;obtain ⟨_,_,_,_,rfl,_,_,hz|⟨_,_,rfl,_⟩⟩:=hq
     ·omega
     rw[aW (ay (by simp[bp]))]
     exact aL h (by rw[iC ht];rfl) ⟨fun _=>rfl,fun _=>rfl⟩
    ·cases hr
   ·split at hr
    ·simp only[ar] at hr;subst hr
     simp only[Rp] at hq;subst hq;obtain ⟨_,_,_,_,rfl,_,_,hz|⟨_,_,rfl,_⟩⟩:=hp
     ·omega
     rw[aW (ay (by simp[bp]))]
     exact aL h (kR ht) ⟨fun _=>rfl,fun _=>rfl⟩
    ·cases hr
  ·rename_i k e ht
   simp only[eqB,Option.bind_eq_some_iff] at h
   obtain ⟨r,hr,h⟩:=h
   unfold tV at hr
   split at hr<;>simp only[ar,reduceCtorEq] at hr<;>subst hr
   ·simp only[Rp] at hp hq;subst hp;subst hq
    rw[aW (ay (by simp[bp]))]
    exact aL h (by rw[jr ht];rfl) ⟨fun _=>rfl,fun _=>rfl⟩
   ·simp only[Rp] at hp;subst hp;obtain ⟨b,_,rfl⟩:=hq
    rw[aW (ay (by simp[bp]))]
    exact aL h (by rw[jr ht];rfl) ⟨fun _=>rfl,fun _=>rfl⟩
   ·simp only[Rp] at hq;subst hq;obtain ⟨b,_,rfl⟩:=hp
    rw[aW (ay (by simp[bp]))]
    exact aL h (mS ht) ⟨fun _=>rfl,fun _=>rfl⟩
   ·simp only[Rp] at hp;subst hp;obtain ⟨b,_,_,rfl,_⟩:=hq
    rw[aW (ay (by simp[bp]))]
    exact aL h (by rw[jr ht];rfl) ⟨fun _=>rfl,fun _=>rfl⟩
   ·simp only[Rp] at hq;subst hq;obtain ⟨b,_,_,rfl,_⟩:=hp
    rw[aW (ay (by simp[bp]))]
    exact aL h (mS ht) ⟨fun _=>rfl,fun _=>rfl⟩
  ·rename_i ht
   simp only[eqB,Option.bind_eq_some_iff] at h
   obtain ⟨r,hr,h⟩:=h
   unfold BB at hr
   split at hr<;>simp only[ar,reduceCtorEq] at hr<;>subst hr
   ·simp only[Rp] at hp hq;subst hp;subst hq
    rw[aW (ay (by simp[bp]))]
    exact aL h (vh ht) ⟨fun _=>rfl,fun _=>rfl⟩
   ·simp only[Rp] at hp;subst hp;obtain ⟨_,_,rfl,_⟩:=hq
    rw[aW (ay (by simp[bp]))]
    exact aL h (vi ht) ⟨fun _=>rfl,fun _=>rfl⟩
   ·simp only[Rp] at hq;subst hq;obtain ⟨_,_,rfl,_⟩:=hp
    rw[aW (ay (by simp[bp]))]
    exact aL h (vk ht) ⟨fun _=>rfl,fun _=>rfl⟩
  ·rename_i ms ht
   simp only[eqB,Option.bind_eq_some_iff] at h
   obtain ⟨r,hr,h⟩:=h
   unfold nV at hr
   split at hr
   ·simp only[Rp] at hp hq;subst hp;subst hq
    split at hr
    ·rename_i hg
     simp only[ar] at hr;subst hr
     have hgd:(eqGuard op t x y .nilIface .nilIface).run P w=.ok () w:=by
      unfold eqGuard
      cases op<;>simp
      all_goals
       have hgi:=qv (P:=P) (w:=w) (D:=9999) ht
       cases x<;>cases y<;>simp[gJ] at hg ⊢<;>simp[show Op.maxDepth=9999+1 from rfl,hgi,hg]
     rw[aW hgd]
     exact aL h (jJ ht) ⟨fun _=>rfl,fun _=>rfl⟩
    ·simp at hr
   ·simp only[ar] at hr;subst hr
    simp only[Rp] at hp;subst hp;obtain ⟨_,rfl,_⟩:=hq
    rw[aW (ay (by simp[bp]))]
    exact aL h (iV ht) ⟨fun _=>rfl,fun _=>rfl⟩
   ·simp only[ar] at hr;subst hr
    simp only[Rp] at hq;subst hq;obtain ⟨_,rfl,_⟩:=hp
    rw[aW (ay (by simp[bp]))]
    exact aL h (iW ht) ⟨fun _=>rfl,fun _=>rfl⟩
   ·obtain ⟨u,rfl,hu⟩:=hp;obtain ⟨u',rfl,hu'⟩:=hq
    rw[aW (ay (by simp[bp]))]
    split at hr
    ·rename_i hne
     simp only[ar] at hr;subst hr
     exact aL h (fH ht hne) ⟨fun _=>rfl,fun _=>rfl⟩
    ·rename_i hne
     simp only[ne_eq,Decidable.not_not] at hne;subst hne
     unfold fm at hr
     split at hr
     ·rename_i i hi
      split at hr
      ·rename_i hcc
       refine aL h ?_ ⟨fun _=>rfl,fun _=>rfl⟩
       show (Op.equalIn (9999+1) t _ _).run P w=_
       rw[fI ht hi hcc]
       exact dV iA hr hu hu' 9999 (by decide)
      ·simp at hr
     ·simp at hr
   ·simp at hr
  ·rename_i fs ht
   split at h
   ·simp at h
   ·rename_i hg
    simp only[eqB,Option.bind_eq_some_iff] at h
    obtain ⟨r,hr,h⟩:=h
    unfold tW at hr
    split at hr
    ·obtain ⟨us,rfl,hu⟩:=hp;obtain ⟨us',rfl,hu'⟩:=hq
     rw[aW (run_eqGuard_agg w op t x y _ _ (by simpa using hg))]
     exact aL h (ou hr ⟨us,rfl,hu⟩ ⟨us',rfl,hu'⟩) ⟨fun _=>rfl,fun _=>rfl⟩
    ·simp at hr
  ·rename_i n e ht
   split at h
   ·simp at h
   ·rename_i hg
    simp only[eqB,Option.bind_eq_some_iff] at h
    obtain ⟨r,hr,h⟩:=h
    unfold tW at hr
    split at hr
    ·obtain ⟨us,rfl,hu⟩:=hp;obtain ⟨us',rfl,hu'⟩:=hq
     rw[aW (run_eqGuard_agg w op t x y _ _ (by simpa using hg))]
     exact aL h (ou hr ⟨us,rfl,hu⟩ ⟨us',rfl,hu'⟩) ⟨fun _=>rfl,fun _=>rfl⟩
    ·simp at hr
  ·simp at h
end
section
variable {β:Lay} {P:Program} {w:World}
theorem addr_add (b o n:Nat):(⟨b,o,none⟩:Addr).add n=⟨b,o+n,none⟩:=by
 unfold Addr.add
 split
 ·rename_i h;subst h;rfl
 ·rfl
def OB (n:Option Nat) (v:Option Value):Prop:=(n=none∧v=none)∨∃ k i,n=some i.toNat∧0≤i∧v=some (.int k i)
theorem ov {t:List LV} {a:Act} (ht:Rps β t a.tmps.toList) {x:Option Operand} {v:Option LV} {n:Option Nat} (h:evo t x=some v) (hn:gK v=some n) :
  OB n (x.map a.eval):=by
 rcases vf ht h with ⟨rfl,h2⟩ | ⟨y,u,rfl,h2,r⟩
 ·simp[gK] at hn;subst hn;exact .inl ⟨rfl,h2⟩
 ·unfold gK at hn
  split at hn
  ·rename_i he;simp at he
  ·rename_i k i he
   simp at he;subst he
   split at hn
   ·simp at hn;subst hn
    simp only[Rp] at r;subst r
    rename_i h0
    exact .inr ⟨k,i,rfl,h0,h2⟩
   ·simp at hn
  ·simp at hn
theorem dE {k:IntKind} {i:Int} {y:Nat} {c:BoundsCode} (h0:0≤i) (h:i.toNat≤y):(Instr.sliceBound (.int k i) y c).run P w=.ok i.toNat w:=by
 unfold Instr.sliceBound
 simp only[asIntOf,pure_bind]
 rw[if_pos ⟨h0,by omega⟩];rfl
theorem cY {s:Bool} {len cap:Nat} {l h m:Option Nat} {lv hv mv:Option Value} (hl:OB l lv) (hh:OB h hv) (hm:OB m mv)
  (h1:l.getD 0≤h.getD len) (h2:h.isSome=true→h.getD len≤m.getD cap) (h3:m.getD cap≤cap) (h4:m.isSome=true→h.isSome=true) :
  (Instr.sliceBounds s len cap lv hv mv).run P w=.ok (l.getD 0,h.getD len,m.getD cap) w:=by
 unfold Instr.sliceBounds
 rcases hm with ⟨rfl,rfl⟩ | ⟨km,im,rfl,im0,rfl⟩
 ·simp only[Option.getD_none] at h2 h3 ⊢
  rcases hh with ⟨rfl,rfl⟩ | ⟨kh,ih,rfl,ih0,rfl⟩
  ·simp only[Option.getD_none] at h1 ⊢
   rcases hl with ⟨rfl,rfl⟩ | ⟨kl,il,rfl,il0,rfl⟩
   ·simp
   ·simp only[Option.getD_some] at h1
    simp[dE il0 h1]
  ·simp only[Option.getD_some,Option.isSome_some,forall_const] at h1 h2 ⊢
   rcases hl with ⟨rfl,rfl⟩ | ⟨kl,il,rfl,il0,rfl⟩
   ·simp[dE ih0 h2]
   ·simp only[Option.getD_some] at h1
    simp[dE il0 h1,dE ih0 h2]
 ·simp only[Option.getD_some,Option.isSome_some,forall_const] at h2 h3 h4 ⊢
  rcases hh with ⟨rfl,rfl⟩ | ⟨kh,ih,rfl,ih0,rfl⟩
  ·simp at h4
  ·simp only[Option.getD_some,Option.isSome_some,forall_const] at h1 h2 ⊢
   rcases hl with ⟨rfl,rfl⟩ | ⟨kl,il,rfl,il0,rfl⟩
   ·simp[dE ih0 h2,dE im0 h3]
   ·simp only[Option.getD_some] at h1
    simp[dE il0 h1,dE ih0 h2,dE im0 h3]
theorem lM (s:List UInt8) (l h:Nat):(⟨⟨s⟩⟩:ByteArray).extract l h=⟨⟨(s.drop l).take (h-l)⟩⟩:=by
 apply ByteArray.ext
 rw[ByteArray.data_extract]
 apply Array.ext'
 simp[List.extract]
theorem fp {ty:TypeId} {x v:LV} {u:Value} {l h m:Option Nat} {lv hv mv:Option Value} (hx:Rp β x u) (hl:OB l lv) (hh:OB h hv) (hm:OB m mv)
  (hs:gL P ty x l h m=some v):∃ u',(Instr.sliceAt ty u lv hv mv).run P w=.ok u' w∧Rp β v u':=by
 unfold gL at hs
 split at hs
 ·rename_i ht
  unfold zh at hs
  split at hs
  ·rename_i s
   simp only[Rp] at hx;subst hx
   split at hs
   ·rename_i hc
    simp at hs;subst hs
    have hmv:mv=none:=by rcases hm with ⟨_,e⟩ | ⟨_,_,e,_⟩;exact e;simp at e
    subst hmv
    have hb:=cY (P:=P) (w:=w) (s:=false) (len:=s.length) (cap:=s.length) hl hh (.inl ⟨rfl,rfl⟩) hc.1 (fun _=>by simpa using hc.2) (by simp) (by simp)
    refine ⟨_,?_,rfl⟩
    unfold Instr.sliceAt
    simp only[ad,ai ht,ab]
    unfold Instr.slice
    simp only[ad,ai ht,ab,Option.isSome_none,Bool.false_eq_true,if_false]
    rw[show (⟨⟨s⟩⟩:ByteArray).size=s.length from rfl]
    simp only[ao,ab,hb,lM]
   ·simp at hs
  ·simp at hs
 ·rename_i e ht
  split at hs
  ·rename_i hk
   have hunf:∀ (a:Option Addr) (n c:Nat) (l h m:Nat),(Instr.sliceBounds true n c lv hv mv).run P w=.ok (l,h,m) w→
     (Instr.sliceAt ty (.slice a n c) lv hv mv).run P w=.ok (.slice (if m=l then a else a.map (·.add (l*szT P e))) (h-l) (m-l)) w:=by
    intro a n c l h m hb
    unfold Instr.sliceAt
    simp only[ad,ai ht,ab]
    unfold Instr.slice
    simp only[ad,ai ht,ab,hb,run_sizeOf' hk,ao]
   unfold nW at hs
   split at hs
   ·rename_i o k len ci
    obtain ⟨b,hb,hlen,rfl⟩:=hx
    simp only[kG] at hs
    split at hs
    ·rename_i m'
     split at hs
     ·rename_i c
      split at hs
      ·rename_i hc
       simp at hs;subst hs
       refine ⟨_,hunf _ _ _ _ _ _ (cY hl hh hm hc.1 (fun _=>by simpa using hc.2.1) (by simpa[cJ.cap] using hc.2.2.1) (fun _=>hc.2.2.2)),b,hb,?_,?_⟩
       ·simp[cJ.cap];omega
       ·simp only[Option.getD_some,cJ.cap]
        by_cases e:m'=l.getD 0
        ·simp only[e,if_true]
        ·simp only[if_neg e,Option.map_some,addr_add,Nat.add_assoc]
      ·simp at hs
     ·rename_i s
      split at hs
      ·rename_i hc
       simp at hs;subst hs
       refine ⟨_,hunf _ _ _ _ _ _ (cY hl hh hm hc.1 (fun _=>by simpa using hc.2.1) (by have:=hc.2.2.1;simp only[Option.getD_some];omega) (fun _=>hc.2.2.2)),b,hb,?_,?_⟩
       ·simp[cJ.cap];omega
       ·simp only[Option.getD_some,cJ.cap]
        by_cases e:m'=l.getD 0
        ·simp only[e,if_true]
        ·simp only[if_neg e,Option.map_some,addr_add,Nat.add_assoc]
      ·simp at hs
    ·have hmv:mv=none:=by rcases hm with ⟨_,e⟩ | ⟨_,_,e,_⟩;exact e;simp at e
     subst hmv
     split at hs
     ·rename_i c
      split at hs
      ·rename_i hc
       simp at hs;subst hs
       refine ⟨_,hunf _ _ _ _ _ _ (cY hl hh (.inl ⟨rfl,rfl⟩) hc.1 (fun _=>by simpa[cJ.cap] using hc.2) (by simp) (by simp)),b,hb,?_,?_⟩
       ·simp[cJ.cap];omega
       ·simp only[Option.getD_none,cJ.cap]
        by_cases e:c=l.getD 0
        ·simp only[e,if_true]
        ·simp only[if_neg e,Option.map_some,addr_add,Nat.add_assoc]
      ·simp at hs
     ·rename_i s
      split at hs
      ·rename_i hc
       obtain ⟨rfl,hs0,hlo,hhi⟩:=hc
       simp only[cJ.cap] at hlen
       have hb':=hunf (some ⟨b.blk,b.base+k,none⟩) len ((b.room-k) / szT P e) _ _ _ (cY (len:=len) (cap:=(b.room-k) / szT P e) hl hh (.inl ⟨rfl,rfl⟩) hlo (fun _=>by simp;omega) (by simp) (by simp))
       simp only[Option.getD_none] at hb'
       split at hs
       ·rename_i h0
        simp at hs;subst hs
        refine ⟨_,hb',b,hb,?_,?_⟩
        ·simp[cJ.cap];omega
        ·simp only[h0,Nat.zero_mul,Nat.sub_zero,cJ.cap]
         split
         ·rfl
         ·simp only[Option.map_some,addr_add,Nat.add_zero]
       ·rename_i h0
        split at hs
        ·rename_i hlt
         simp at hs;subst hs
         have hcap:(b.room-(k+l.getD 0*szT P e)) / szT P e=(b.room-k) / szT P e-l.getD 0:=by
          rw[Nat.sub_add_eq,Nat.mul_comm,Nat.sub_mul_div]
         refine ⟨_,hb',b,hb,?_,?_⟩
         ·simp only[cJ.cap,hcap];omega
         ·rw[if_neg (by omega)]
          simp only[cJ.cap,hcap,Option.map_some,addr_add,Nat.add_assoc]
        ·simp at hs;subst hs
         have he:h.getD len-l.getD 0=0:=by omega
         rw[he] at hb'
         refine ⟨_,hb',?_⟩
         split
         ·exact ⟨_,_,rfl⟩
         ·exact ⟨_,_,rfl⟩
      ·simp at hs
   ·simp only[Rp] at hx;subst hx
    split at hs
    ·rename_i hc
     simp at hs;subst hs
     obtain ⟨c1,c2,c3,c4⟩:=hc
     refine ⟨_,hunf none 0 0 _ _ _ (cY (len:=0) (cap:=0) hl hh hm (by omega) (fun _=>by omega) (by omega) c4),?_⟩
     simp[c1,c2,c3,Rp]
    ·simp at hs
   ·obtain ⟨a,c,rfl⟩:=hx
    split at hs
    ·rename_i hc
     simp at hs;subst hs
     obtain ⟨c1,c2,rfl⟩:=hc
     have hmv:mv=none:=by rcases hm with ⟨_,e⟩ | ⟨_,_,e,_⟩;exact e;simp at e
     subst hmv
     refine ⟨_,hunf (some a) 0 c _ _ _ (cY (len:=0) (cap:=c) hl hh (.inl ⟨rfl,rfl⟩) (by omega) (fun _=>by simp[c2]) (by simp) (by simp)),?_⟩
     simp only[c1,c2]
     split<;>exact ⟨_,_,rfl⟩
    ·simp at hs
   ·rename_i cs len cap
    obtain ⟨us,hus,a,c,rfl,hlc,hcap,hF⟩:=hx
    split at hs
    ·rename_i hc
     simp only[ar] at hs;subst hs
     obtain ⟨c0,c1,c2,c3,c4⟩:=hc
     have hm1:m.getD len≤m.getD c∧m.getD c≤c:=by
      cases m with
      | none=>simp only[Option.getD_none];omega
      | some m=>simp only[Option.getD_some] at c3 ⊢;omega
     refine ⟨_,hunf a len c _ _ _ (cY (len:=len) (cap:=c) hl hh hm c1 (fun _=>by omega) hm1.2 c4),(us.drop (l.getD 0*szT P e)).take ((h.getD len-l.getD 0)*szT P e),(hus.drop _).take _,(if m.getD c=l.getD 0 then a else a.map (·.add (l.getD 0*szT P e))),m.getD c-l.getD 0,rfl,by omega,?_,?_⟩
     ·intro k hk
      cases m with
      | none=>simp at hk
      | some m=>simpa using hk
     ·rcases Nat.eq_zero_or_pos (h.getD len-l.getD 0) with z|z
      ·refine .inl ⟨z,fun ha=>?_⟩
       have ha':a=none:=by
        cases a with
        | none=>rfl
        | some a=>split at ha<;>simp at ha
       rcases hF with ⟨h0,hc0⟩ | ⟨b,base,e1,_⟩
       ·have:=hc0 ha'
        omega
       ·rw[ha'] at e1;cases e1
      ·rcases hF with hF|⟨b,base,rfl,fc,fe,ffz,f1,f2,f3⟩
       ·omega
       ·refine .inr ⟨b,base+l.getD 0*szT P e,?_,fc,fe,ffz,f1,?_,?_⟩
        ·rw[if_neg (by omega),Option.map_some,addr_add]
        ·have hul:=hus.length
         have:l.getD 0*szT P e+(h.getD len-l.getD 0)*szT P e≤len*szT P e:=by rw[← Nat.add_mul];exact Nat.mul_le_mul_right _ (by omega)
         have:((us.drop (l.getD 0*szT P e)).take ((h.getD len-l.getD 0)*szT P e)).length≤(h.getD len-l.getD 0)*szT P e:=by simp;omega
         omega
        ·intro i u hu
         rw[List.getElem?_take] at hu
         split at hu
         ·rw[List.getElem?_drop] at hu
          rw[Nat.add_assoc];exact f3 _ _ hu
         ·cases hu
    ·simp at hs
   ·simp at hs
  ·simp at hs
 ·rename_i n e ht
  split at hs
  ·rename_i hk
   unfold zi at hs
   split at hs
   ·obtain ⟨b,hb,rfl⟩:=hx
    split at hs
    ·rename_i hc
     obtain ⟨c1,c2,c3,c4⟩:=hc
     simp at hs;subst hs
     refine ⟨_,?_,b,hb,?_,rfl⟩
     ·unfold Instr.sliceAt
      simp only[ad,ai ht,ab,Instr.sureAddr,ao,cY (P:=P) (w:=w) (len:=n) (cap:=n) hl hh hm c1 (fun _=>c2) c3 c4,run_sizeOf' hk]
      by_cases e:m.getD n=l.getD 0
      ·simp only[e,if_true,cJ.cap]
      ·simp only[if_neg e,addr_add,Nat.add_assoc,cJ.cap]
     ·simp[cJ.cap];omega
    ·simp at hs
   ·simp at hs
  ·simp at hs
 ·simp at hs
end
section
variable {β:Lay} {P:Program} {w:World}
theorem nZ {ty:TypeId} {x v:LV} {u:Value} {f:Nat} (hx:Rp β x u) (h:ji P ty x f=some v) :
  ∃ u',(Instr.fieldAt ty u f).run P w=.ok u' w∧Rp β v u':=by
 unfold ji at h
 split at h
 ·rename_i fs ht
  split at h
  ·rename_i fd hf
   split at h
   ·rename_i hc
    unfold al at h
    split at h
    ·obtain ⟨b,hb,rfl⟩:=hx
     simp at h;subst h
     refine ⟨_,?_,b,hb,rfl⟩
     unfold Instr.fieldAt
     simp only[ad,ai ht,ab,hf,Instr.sureAddr,ao,fieldPlace,run_sizeOf' hc.1]
     rw[if_neg hc.2]
     simp[addr_add,Nat.add_assoc]
    ·simp only[Rp] at hx;subst hx
     simp at h;subst h
     refine ⟨_,?_,rfl⟩
     unfold Instr.fieldAt
     simp only[ad,ai ht,ab,hf,Instr.sureAddr,ao,fieldPlace,run_sizeOf' hc.1]
     rw[if_neg hc.2]
     simp[addr_add]
    ·obtain ⟨us,b,base,hus,rfl,hF⟩:=hx
     simp at h;subst h
     refine ⟨_,?_,us,b,base,hus,rfl,hF⟩
     unfold Instr.fieldAt
     simp only[ad,ai ht,ab,hf,Instr.sureAddr,ao,fieldPlace,run_sizeOf' hc.1]
     rw[if_neg hc.2]
     simp[addr_add,Nat.add_assoc]
    ·simp at h
   ·simp at h
  ·simp at h
 ·simp at h
theorem lN {ty:TypeId} {x v:LV} {off:Nat} (h:kN P ty x off=some v):∃ cs,x=.agg cs∧jF P ty cs off=some v:=by
 unfold kN at h
 split at h
 ·rename_i hk
  split at h
  ·rename_i ha
   unfold zV at h
   split at h
   ·exact ⟨_,rfl,by simp only[jF,hk,ha,if_true];exact h⟩
   ·simp at h
  ·rename_i ha
   unfold zW at h
   split at h
   ·exact ⟨_,rfl,by simp only[jF,hk,if_true];rw[if_neg ha];exact h⟩
   ·simp at h
 ·simp at h
theorem qw {ty:TypeId} {x v:LV} {u:Value} {f:Nat} (hx:Rp β x u) (h:sw P ty x f=some v) :
  ∃ u',(Instr.field ty u f).run P w=.ok u' w∧Rp β v u':=by
 unfold sw at h
 split at h
 ·rename_i fs ht
  split at h
  ·rename_i fd hf
   obtain ⟨cs,rfl,hp⟩:=lN h
   obtain ⟨vs,rfl,hvs⟩:=hx
   obtain ⟨u',h1,h2⟩:=dU (w:=w) hvs hp
   refine ⟨u',?_,h2⟩
   unfold Instr.field
   simp only[ad,ai ht,ab,hf,asAgg,ao,h1]
  ·simp at h
 ·simp at h
theorem oc {ty:TypeId} {x i v:LV} {u j:Value} (hx:Rp β x u) (hi:Rp β i j) (h:jj P ty x i=some v) :
  ∃ u',(Instr.indexAt ty u j).run P w=.ok u' w∧Rp β v u':=by
 unfold jj at h
 split at h
 ·rename_i n e ht
  split at h
  ·rename_i hk
   unfold zl at h
   split at h
   ·obtain ⟨b,hb,rfl⟩:=hx
    simp only[Rp] at hi;subst hi
    split at h
    ·rename_i hc
     simp at h;subst h
     refine ⟨_,?_,b,hb,rfl⟩
     unfold Instr.indexAt
     simp only[asIntOf,ad,ao,ai ht,ab,Instr.sureAddr]
     rw[if_pos hc]
     simp only[ad,run_sizeOf' hk,ab,ao,addr_add,Nat.add_assoc]
    ·simp at h
   ·simp only[Rp] at hx;subst hx
    simp only[Rp] at hi;subst hi
    split at h
    ·rename_i hc
     simp at h;subst h
     refine ⟨_,?_,rfl⟩
     unfold Instr.indexAt
     simp only[asIntOf,ad,ao,ai ht,ab,Instr.sureAddr]
     rw[if_pos hc]
     simp only[ad,run_sizeOf' hk,ab,ao,addr_add]
    ·simp at h
   ·simp at h
  ·simp at h
 ·rename_i e ht
  split at h
  ·rename_i hk
   unfold bo at h
   split at h
   ·obtain ⟨b,hb,hlen,rfl⟩:=hx
    simp only[Rp] at hi;subst hi
    split at h
    ·rename_i hc
     simp at h;subst h
     refine ⟨_,?_,b,hb,rfl⟩
     unfold Instr.indexAt
     simp only[asIntOf,ad,ao,ai ht,ab]
     rw[if_pos hc]
     simp only[ad,run_sizeOf' hk,ab,ao,addr_add,Nat.add_assoc]
    ·simp at h
   ·rename_i cs len cap _ i'
    obtain ⟨us,hus,a,c,rfl,hlc,hcap,hF⟩:=hx
    simp only[Rp] at hi;subst hi
    split at h
    ·rename_i hc
     simp at h;subst h
     rcases hF with hF|⟨b,base,rfl,hF⟩
     ·omega
     refine ⟨_,?_,us,b,base,hus,rfl,hF⟩
     unfold Instr.indexAt
     simp only[asIntOf,ad,ao,ai ht,ab]
     rw[if_pos hc]
     simp only[ad,run_sizeOf' hk,ab,ao,addr_add]
    ·simp at h
   ·simp at h
  ·simp at h
 ·simp at h
theorem qx {ty:TypeId} {x i v:LV} {u j:Value} (hx:Rp β x u) (hi:Rp β i j) (h:sx P ty x i=some v) :
  ∃ u',(Instr.index ty u j).run P w=.ok u' w∧Rp β v u':=by
 unfold sx at h
 split at h
 ·rename_i n e ht
  split at h
  ·rename_i hk
   have hg:∃ k z,i=.int k z∧0≤z∧z<n∧kN P e x (z.toNat*szT P e)=some v:=by
    split at h
    ·rename_i ha
     unfold ub at h
     split at h
     ·split at h
      ·rename_i hc
       exact ⟨_,_,rfl,hc.1,hc.2,by simp only[kN,hk,ha,if_true];exact h⟩
      ·simp at h
     ·simp at h
    ·rename_i ha
     unfold ub at h
     split at h
     ·split at h
      ·rename_i hc
       exact ⟨_,_,rfl,hc.1,hc.2,by simp only[kN,hk,if_true];rw[if_neg ha];exact h⟩
      ·simp at h
     ·simp at h
   obtain ⟨k,z,rfl,h0,h1,hp⟩:=hg
   obtain ⟨cs,rfl,hp⟩:=lN hp
   obtain ⟨vs,rfl,hvs⟩:=hx
   obtain ⟨u',h3,h4⟩:=dU (w:=w) hvs hp
   refine ⟨u',?_,h4⟩
   simp only[Rp] at hi;subst hi
   unfold Instr.index
   simp only[asIntOf,ad,ao,ai ht,ab]
   rw[if_pos ⟨h0,h1⟩]
   simp only[ad,run_sizeOf' hk,ab,h3]
  ·simp at h
 ·rename_i ht
  unfold zm at h
  split at h
  ·simp only[Rp] at hx hi;subst hx;subst hi
   split at h
   ·rename_i s k z h0
    split at h
    ·rename_i b hb
     simp at h;subst h
     refine ⟨_,?_,rfl⟩
     unfold Instr.index
     simp only[asIntOf,ad,ao,ai ht,ab]
     rw[if_pos h0]
     have:(⟨⟨s⟩⟩:ByteArray)[z.toNat]?=some b:=by
      have hlt:z.toNat<s.length:=by
       rcases Nat.lt_or_ge z.toNat s.length with k|k
       ·exact k
       ·simp[List.getElem?_eq_none k] at hb
      have hlt':z.toNat<(⟨⟨s⟩⟩:ByteArray).size:=hlt
      rw[getElem?_pos (⟨⟨s⟩⟩:ByteArray) z.toNat hlt']
      rw[bh hlt] at hb
      exact hb
     rw[this];rfl
    ·simp at h
   ·simp at h
  ·simp at h
 ·simp at h
theorem pq {a xt:TypeId} {x v:LV} {u:Value} {ok:Bool} (hx:Rp β x u) (h:pj P x a ok=some v) :
  ∃ u',(Instr.typeAssert u xt a ok).run P w=.ok u' w∧Rp β v u':=by
 have zz:∀ {z:LV},ep P a=some z→∃ u',(zeroValue a).run P w=.ok u' w∧Rp β z u':=fun hz=>
  let ⟨u',h1,h2,_⟩:=dD (w:=w) hz;⟨u',h1,cN h2⟩
 unfold pj at h
 split at h
 ·rename_i want ht
  unfold asI at h
  split at h
  ·rename_i t y
   obtain ⟨q,rfl,hq⟩:=hx
   split at h
   ·rename_i hf
    unfold hasAll at hf
    split at hf
    ·rename_i i hi
     simp at hf
     simp at h;subst h
     refine ⟨if ok then .tuple #[.iface t q,.bool true] else .iface t q,?_,?_⟩
     ·unfold Instr.typeAssert
      simp only[ad,ai ht,ab,typeInfo,run_program,hi,ao]
      rw[hf];rfl
     ·cases ok
      ·exact ⟨q,rfl,hq⟩
      ·exact ⟨[.iface t q,.bool true],rfl,_,_,rfl,⟨q,rfl,hq⟩,_,_,rfl,rfl,rfl⟩
    ·simp at hf
   ·rename_i hf
    unfold hasAll at hf
    split at hf
    ·rename_i i hi
     simp at hf
     split at h
     ·rename_i hok
      simp at h;obtain ⟨z,hz,rfl⟩:=h
      obtain ⟨u',h1,h2⟩:=zz hz
      refine ⟨.tuple #[u',.bool false],?_,[u',.bool false],rfl,_,_,rfl,h2,_,_,rfl,rfl,rfl⟩
      unfold Instr.typeAssert
      simp only[ad,ai ht,ab,typeInfo,run_program,hi,ao]
      cases hm:Instr.missingMethod want i.methods with
      | none=>rw[hm] at hf;simp at hf
      | some m=>simp[hok,h1]
     ·simp at h
    ·simp at hf
   ·simp at h
  ·simp only[Rp] at hx;subst hx
   split at h
   ·rename_i hok
    simp at h;obtain ⟨z,hz,rfl⟩:=h
    obtain ⟨u',h1,h2⟩:=zz hz
    refine ⟨.tuple #[u',.bool false],?_,[u',.bool false],rfl,_,_,rfl,h2,_,_,rfl,rfl,rfl⟩
    unfold Instr.typeAssert
    simp[ai ht,hok,h1]
   ·simp at h
  ·simp at h
 ·rename_i d hni ht
  unfold asC at h
  split at h
  ·rename_i t y
   obtain ⟨q,rfl,hq⟩:=hx
   split at h
   ·rename_i he
    subst he
    simp at h;subst h
    refine ⟨if ok then .tuple #[q,.bool true] else q,?_,?_⟩
    ·unfold Instr.typeAssert
     simp only[ad,ai ht,ab]
     cases d<;>first | (exact (hni _ rfl).elim) | simp
    ·cases ok
     ·exact hq
     ·exact ⟨[q,.bool true],rfl,_,_,rfl,hq,_,_,rfl,rfl,rfl⟩
   ·rename_i he
    split at h
    ·rename_i hok
     simp at h;obtain ⟨z,hz,rfl⟩:=h
     obtain ⟨u',h1,h2⟩:=zz hz
     refine ⟨.tuple #[u',.bool false],?_,[u',.bool false],rfl,_,_,rfl,h2,_,_,rfl,rfl,rfl⟩
     unfold Instr.typeAssert
     simp only[ad,ai ht,ab]
     cases d<;>first | (exact (hni _ rfl).elim) | (simp[he,hok,h1])
    ·simp at h
  ·simp only[Rp] at hx;subst hx
   split at h
   ·rename_i hok
    simp at h;obtain ⟨z,hz,rfl⟩:=h
    obtain ⟨u',h1,h2⟩:=zz hz
    refine ⟨.tuple #[u',.bool false],?_,[u',.bool false],rfl,_,_,rfl,h2,_,_,rfl,rfl,rfl⟩
    unfold Instr.typeAssert
    simp only[ad,ai ht,ab]
    cases d<;>simp[hok,h1]
   ·simp at h
  ·simp at h
 ·simp at h
end
end Go.CP
