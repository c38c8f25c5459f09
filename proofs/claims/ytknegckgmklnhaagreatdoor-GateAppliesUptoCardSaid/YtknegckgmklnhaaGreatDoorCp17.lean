/- Parts of the proof. -/
import Derived.Test.YtknegckgmklnhaaGreatDoorCp16
namespace Go.CP
section
variable {β:Lay} {P:Program} {w w0:World} {st:aa}
theorem OU {s:Sem Unit} {w':World} (h:s.run P w=.ok () w'):(do s;pure .skip:Sem Next).run P w=.ok .skip w':=by
 simp[h]
theorem na {f:Value→ByteArray→Sem (ForInStep ByteArray)} (hf:∀ n s,f (.int .u8 n) s=pure (.yield (s.push (UInt8.ofNat n.toNat)))) :
  ∀ {cs:List LV} {us:List Value} {s:List UInt8},Rps β cs us→bytesOf cs=some s→∀ acc:ByteArray,(forIn us acc f).run P w=.ok (acc++⟨⟨s⟩⟩) w
 | [],us,s,h,hb,acc=>by
  simp only[Rps] at h;subst h
  simp[bytesOf] at hb;subst hb
  have:acc++(⟨⟨[]⟩⟩:ByteArray)=acc:=by apply ByteArray.ext;rw[ByteArray.data_append];simp
  simp[this]
 | c::cs,us,s,h,hb,acc=>by
  obtain ⟨v,us,rfl,r,rs⟩:=h
  unfold bytesOf at hb
  split at hb
  ·rename_i e;simp at e
  ·rename_i n rest e
   simp only[List.cons.injEq] at e
   obtain ⟨rfl,rfl⟩:=e
   simp only[Rp] at r;subst r
   split at hb
   ·rename_i s' hs'
    simp at hb;subst hb
    simp only[List.forIn_cons,az,hf,a7,ax]
    rw[na hf rs hs']
    congr 1
    apply ByteArray.ext
    simp[ByteArray.data_append]
   ·simp at hb
  ·simp at hb
theorem sP {x v:LV} {u:Value} (h:Rel w0 β st w) (hx:Rp β x u) (hl:fD st x=some v):∃ u',(Conv.bytesToString u).run P w=.ok u' w∧Rp β v u':=by
 unfold fD at hl
 split at hl
 ·simp only[Rp] at hx;subst hx;simp at hl;subst hl
  exact ⟨_,rfl,rfl⟩
 ·rename_i o k len ci
  split at hl
  ·rename_i n cs hs
   split at hl
   ·rename_i s hb
    simp at hl;subst hl
    unfold eA at hs
    simp only at hs
    split at hs
    ·rename_i m l ho
     split at hs
     ·rename_i hn
      simp only[Nat.mul_one] at hn hs
      simp at hs;obtain ⟨rfl,rfl⟩:=hs
      obtain ⟨b,hb',_,rfl⟩:=hx
      obtain ⟨us,h1,h2,h3⟩:=jM (P:=P) h ho hb' hn
      refine ⟨.string ⟨⟨s⟩⟩,?_,rfl⟩
      unfold Conv.bytesToString
      simp only[az,h2,ax,← Array.forIn_toList]
      rw[na (P:=P) (w:=w) (fun _ _=>rfl) h3 hb]
      simp only[ax,a7]
      congr 2
     ·simp at hs
    ·simp at hs
   ·simp at hl
  ·simp at hl
 ·simp at hl
theorem qT {t:TypeId} (h:qd P t=true):P.underlying t=some .string:=by
 unfold qd at h;split at h
 ·assumption
 ·simp at h
theorem lB {t:TypeId} (h:su P t=true):∃ e,P.underlying t=some (.slice e)∧P.underlying e=some (.int .u8):=by
 unfold su at h
 split at h
 ·rename_i e ht
  split at h
  ·rename_i he;exact ⟨e,ht,he⟩
  ·simp at h
 ·simp at h
theorem yY {ty e:TypeId} (ht:P.underlying ty=some (.slice e)) {a:Option Addr} {n n' c:Nat} {lv mv:Option Value} {hv:Value} :
  (Instr.sliceAt ty (.slice a n c) lv (some hv) mv).run P w=(Instr.sliceAt ty (.slice a n' c) lv (some hv) mv).run P w:=by
 unfold Instr.sliceAt
 simp only[az,aP ht,ax]
 unfold Instr.slice
 simp only[az,aP ht,ax]
 have:Instr.sliceBounds true n c lv (some hv) mv=Instr.sliceBounds true n' c lv (some hv) mv:=by
  unfold Instr.sliceBounds
  cases mv<;>rfl
 rw[this]
theorem wv {ty:TypeId} {x v:LV} {u:Value} {l h m:Option Nat} {lv hv mv:Option Value} (hr:Rel w0 β st w) (hx:Rp β x u) (hl:OB l lv) (hh:OB h hv) (hm:OB m mv)
  (hs:vY P st ty x l h m=some v):∃ u',(Instr.sliceAt ty u lv hv mv).run P w=.ok u' w∧Rp β v u':=by
 unfold vY at hs
 split at hs
 ·rename_i e ht
  split at hs
  ·rename_i hk
   have up:∀ {x h},rB (szT P e) x l h m=some v→ll P ty x l h m=some v:=fun hs=>by
    unfold ll;rw[ht];simp only[hk,if_true];exact hs
   unfold dn at hs
   split at hs
   ·rename_i o k len s hi
    split at hs
    ·exact jn hx hl hh hm (up hs)
    ·split at hs
     ·rename_i md c hc
      split at hs
      ·rename_i hcond
       obtain ⟨rfl,hsz,hfit⟩:=hcond
       obtain ⟨b,hb,hlen,rfl⟩:=hx
       obtain ⟨b',hb',cs,ce,fz,h1,h2,h3,h4,h5⟩:=hr.obj _ _ hc
       rw[hb] at hb';cases hb'
       have hcap:hi≤(b.room-k) / szT P e:=(Nat.le_div_iff_mul_le hsz).2 (by omega)
       rcases hh with ⟨h0,_⟩ | ⟨kh,ih,h0,ih0,rfl⟩
       ·simp at h0
       ·have hh':OB (some hi) (some (.int kh ih)):=.inr ⟨kh,ih,h0,ih0,rfl⟩
        have hx':Rp β (.sl o k hi (.rest (szT P e))) (.slice (some ⟨b.blk,b.base+k,none⟩) hi ((b.room-k) / szT P e)):=⟨b,hb,hcap,rfl⟩
        obtain ⟨u',h6,h7⟩:=jn (w:=w) hx' hl hh' hm (up hs)
        exact ⟨u',(yY ht).trans h6,h7⟩
      ·simp at hs
     ·simp at hs
   ·exact jn hx hl hh hm (up hs)
  ·simp at hs
 ·simp at hs
theorem uU {t:TypeId} (h:Fc P t=true):P.underlying t=some .unsafePointer:=by
 unfold Fc at h
 split at h
 ·assumption
 ·simp at h
theorem qk {t e:TypeId} (h:Fe P t=some e):P.underlying t=some (.pointer e):=by
 unfold Fe at h
 split at h
 ·simp at h;subst h;assumption
 ·simp at h
theorem Rel.blk {o:Nat} {m:Md} {l:List LV} {b:Bl} (h:Rel w0 β st w) (ho:st[o]?=some (.cells m l)) (hb:β o=some b) :
  ∃ c e fz,w.heap[b.blk]?=some (.cells c e fz)∧c.size=b.base+b.room∧l.length≤b.room∧MU w0.heap.size m b c e fz:=by
 obtain ⟨b',hb',c,e,fz,hh,h1,h2,h3,h4⟩:=h.obj o _ ho
 rw[hb] at hb';cases hb'
 exact ⟨c,e,fz,hh,h1,h2,h4⟩
theorem oy {a:Addr} {c:Array Value} {e:TypeId} {fz:Nat × Nat} (hh:w.heap[a.block]?=some (.cells c e fz)):(Conv.seenAt a).run P w=.ok a w:=by
 unfold Conv.seenAt viewAt
 simp[World.shape?,hh]
theorem Bh {s d e:TypeId} {x v:LV} {u:Value} (hs:P.underlying s=some (.pointer e)) (hd:P.underlying d=some .unsafePointer) (hk:known P e=true) (hz:szT P e≠0)
  (h:Rel w0 β st w) (hx:Rp β x u) (hl:MW st x=some v):∃ u',(convert s d u).run P w=.ok u' w∧Rp β v u':=by
 unfold MW at hl
 split at hl
 ·cases hl
  simp only[Rp] at hx;subst hx
  refine ⟨.pointer none,?_,rfl⟩
  unfold convert Conv.unsafePointer
  simp only[az,aP hs,aP hd,ax,a7]
 ·rename_i o k
  split at hl
  ·rename_i e' l ho
   split at hl
   ·rename_i hkl
    cases hl
    obtain ⟨b,hb,rfl⟩:=hx
    obtain ⟨c,e',fz,hh,h1,h2,h3⟩:=h.blk ho hb
    refine ⟨_,?_,b,hb,rfl⟩
    unfold convert Conv.unsafePointer
    simp only[az,aP hs,aP hd,ax,oy (P:=P) (w:=w) (a:=⟨b.blk,b.base+k,none⟩) hh,cellsIn,run_shape,World.shape?,hh,a7,run_sizeOf' hk]
    have:¬ c.size≤b.base+k:=by omega
    simp[hz,this]
   ·cases hl
  ·cases hl
 ·cases hl
theorem Bi {fits:TypeId→Bool} {d e:Nat} {n m:Nat} (hs:P.cellsOf e≠0) (hf:fits e=true) (hn:m≤n):rowAt P fits (d+1) e n 0 m=true:=by
 unfold rowAt
 simp[hs,hf,hn]
theorem sQ:∃ d,P.depth=d+1:=⟨_,rfl⟩
theorem k9 {d:Nat} {t:TypeId}:sameLayout P (d+1) t t=true:=by
 unfold sameLayout
 simp
theorem lC {e:TypeId}:P.cellsOf e=szT P e:=by
 unfold Program.cellsOf szT
 cases P.info? e<;>rfl
theorem ql {a:Addr} {c:Array Value} {e:TypeId} {fz:Nat × Nat} (hh:w.heap[a.block]?=some (.cells c e fz)) (ho:a.off=0) (hz:szT P e≠0) (hc:szT P e≤c.size) :
  (variablesAt a e 1).run P w=.ok true w:=by
 unfold variablesAt
 simp only[az,run_program,ax,run_shape,World.shape?,hh,a7,ho]
 congr 1
 obtain ⟨d,hd⟩:=sQ (P:=P)
 rw[hd]
 unfold liesAt
 rw[hd]
 have hr:rowAt P (fun x=>sameLayout P (d+1) x e) (d+1) e (c.size / P.cellsOf e) 0 1=true:=
  Bi (by rw[lC];exact hz) k9 (by
   rw[lC]
   exact (Nat.le_div_iff_mul_le (by omega)).2 (by omega))
 rw[hr];rfl
theorem Bj {s d e:TypeId} {x v:LV} {u:Value} (hs:P.underlying s=some .unsafePointer) (hd:P.underlying d=some (.pointer e)) (hk:known P e=true) (hz:szT P e≠0)
  (h:Rel w0 β st w) (hx:Rp β x u) (hl:MX st e (szT P e) x=some v):∃ u',(convert s d u).run P w=.ok u' w∧Rp β v u':=by
 unfold MX at hl
 split at hl
 ·cases hl
  simp only[Rp] at hx;subst hx
  refine ⟨.pointer none,?_,rfl⟩
  unfold convert Conv.unsafePointer
  simp only[az,aP hs,aP hd,ax,a7]
 ·rename_i o
  split at hl
  ·rename_i e' l ho
   split at hl
   ·rename_i hkl
    obtain ⟨rfl,hlen⟩:=hkl
    cases hl
    obtain ⟨b,hb,rfl⟩:=hx
    obtain ⟨c,e2,fz,hh,h1,h2,h3⟩:=h.blk ho hb
    obtain ⟨rfl,hbase⟩:=h3.2.1 _ rfl
    refine ⟨_,?_,b,hb,rfl⟩
    unfold convert Conv.unsafePointer
    simp only[az,aP hs,aP hd,ax,oy (P:=P) (w:=w) (a:=⟨b.blk,b.base+0,none⟩) hh,run_sizeOf' hk,
     ql (P:=P) (w:=w) (a:=⟨b.blk,b.base+0,none⟩) hh (by simpa using hbase) hz (by omega)]
    simp
   ·cases hl
  ·cases hl
 ·cases hl
theorem sR {t:List LV} {a:Act} {o:Oper} {v:LV} (h:Rel w0 β st w) (ht:Rps β t a.tmps.toList) (hl:lh P t st o.op=some v) :
  ∃ u,(execOp a.eval o).run P w=.ok (.value u) w∧Rp β v u:=by
 cases ho:o.op with
 | load ty x=>
  rw[ho] at hl;simp only[lh] at hl
  split at hl
  ·rename_i x' h1
   obtain ⟨u,h3,h4⟩:=sH (P:=P) h (bz ht h1) hl
   exact ⟨u,by unfold execOp;rw[ho];exact dr h3,h4⟩
  ·simp at hl
 | lookup ty x k ok=>
  rw[ho] at hl;simp only[lh] at hl
  split at hl
  ·rename_i x' k' h1 h2
   obtain ⟨u,h3,h4⟩:=wm (P:=P) h (bz ht h1) (bz ht h2) hl
   exact ⟨u,by unfold execOp;rw[ho];exact dr h3,h4⟩
  ·simp at hl
 | entry x=>
  rw[ho] at hl;simp only[lh] at hl
  split at hl
  ·rename_i x' h1
   obtain ⟨u,h3,h4⟩:=yX (P:=P) h (bz ht h1) hl
   exact ⟨u,by unfold execOp;rw[ho];exact dr h3,h4⟩
  ·simp at hl
 | convert s d x=>
  rw[ho] at hl;simp only[lh] at hl
  split at hl
  ·rename_i x' h1
   split at hl
   ·rename_i hc
    simp only[bp] at hc
    obtain ⟨e,hs1,hs2⟩:=lB hc.1
    have hd:=qT hc.2
    obtain ⟨u,h3,h4⟩:=sP (P:=P) h (bz ht h1) hl
    refine ⟨u,?_,h4⟩
    unfold execOp;rw[ho]
    refine dr ?_
    unfold convert
    simp only[az,aP hs1,aP hd,ax]
    rw[← h3]
    have hx:=bz ht h1
    unfold fD at hl
    split at hl
    ·simp only[Rp] at hx;rw[hx];simp only[az,aP hs2,ax]
    ·obtain ⟨b,_,_,hx⟩:=hx;rw[hx];simp only[az,aP hs2,ax]
    ·simp at hl
   ·split at hl
    ·rename_i hu
     split at hl
     ·rename_i e he
      split at hl
      ·rename_i hz
       obtain ⟨u,h3,h4⟩:=Bh (P:=P) (qk he) (uU hu) hz.1 hz.2 h (bz ht h1) hl
       exact ⟨u,by unfold execOp;rw[ho];exact dr h3,h4⟩
      ·simp at hl
     ·simp at hl
    ·split at hl
     ·rename_i hu
      split at hl
      ·rename_i e he
       split at hl
       ·rename_i hz
        obtain ⟨u,h3,h4⟩:=Bj (P:=P) (uU hu) (qk he) hz.1 hz.2 h (bz ht h1) hl
        exact ⟨u,by unfold execOp;rw[ho];exact dr h3,h4⟩
       ·simp at hl
      ·simp at hl
     ·simp at hl
  ·simp at hl
 | slice ty x l hh m=>
  rw[ho] at hl;simp only[lh] at hl
  split at hl
  ·rename_i x' l' hh' m' h1 h2 h3 h4
   unfold ob3 at hl
   split at hl
   ·rename_i l2 hh2 m2 e1 e2 e3
    obtain ⟨u,h5,h6⟩:=wv h (bz ht h1) (uQ ht h2 e1) (uQ ht h3 e2) (uQ ht h4 e3) hl
    exact ⟨u,by unfold execOp;rw[ho];exact dr h5,h6⟩
   ·simp at hl
  ·simp at hl
 | call c=>
  rw[ho] at hl;simp only[lh] at hl
  split at hl
  ·rename_i x hc h1
   obtain ⟨u,e,r⟩:=ku ht h1
   obtain ⟨cs,hcs⟩:=cF (P:=P) (w:=w) (ρ:=a.eval) ho hc
   rw[hcs,e]
   by_cases h0:0<c.argTypes.size
   ·rw[if_pos h0] at hl
    obtain ⟨u',h3,h4⟩:=sE (w0:=w0) (rt:=o.type) (st:=st) (w:=w) (.inl h) r h0 hl
    exact ⟨u',by unfold builtin;exact dr h3,h4⟩
   ·rw[if_neg h0] at hl;simp at hl
  ·simp at hl
 | _=>rw[ho] at hl;simp[lh] at hl
def Did (w0:World) (β:Lay) (v:LV) (st':aa) (n:Next) (w':World):Prop:=
 ∃ β' u,(n=.value u∨(n=.skip∧u=undef))∧Rp β' v u∧Rel w0 β' st' w'∧β.le β'
theorem mq {v:LV} {st':aa} {u:Value} {w':World} (h:gZ w0 β v st' u w'):Did w0 β v st' (.value u) w':=
 let ⟨β',h1,h2,h3⟩:=h;⟨β',u,.inl rfl,h1,h2,h3⟩
theorem GJ {st':aa} {w':World} (h:Rel w0 β st' w'):Did w0 β aQ st' .skip w':=
 ⟨β,undef,.inr ⟨rfl,rfl⟩,Rp.undef,h,Lay.le.refl _⟩
theorem jO {o:Option aa} {v:LV} {st':aa} (h:lmk o=some (v,st')):o=some st'∧v=aQ:=by
 unfold lmk at h
 split at h
 ·simp at h;obtain ⟨rfl,rfl⟩:=h;exact ⟨rfl,rfl⟩
 ·simp at h
theorem Bk {e:TypeId} {s:List UInt8} (h:Rel w0 β st w) :
  ∃ u w',(Conv.stringToBytes e ⟨⟨s⟩⟩).run P w=.ok u w'∧gZ w0 β (.sl st.length 0 s.length (.rest 1)) (st++[.cells .rw (s.map fun b=>.int .u8 b.toNat)]) u w':=by
 unfold Conv.stringToBytes
 have hforced:(Question.appendCap s.length 0 e).forced=false:=rfl
 have hge:s.length≤(Question.appendCap s.length 0 e).cut (w.tape w.drawn (Question.appendCap s.length 0 e)):=by simp only[Question.cut];omega
 simp only[az,show (⟨⟨s⟩⟩:ByteArray).size=s.length from rfl,run_choose,hforced,Bool.false_eq_true,if_false,ax,newRow,run_newObj,a7]
 generalize (Question.appendCap s.length 0 e).cut (w.tape w.drawn (Question.appendCap s.length 0 e))=c at hge
 have hrp:Rps β (s.map fun b=>LV.int .u8 b.toNat) (s.map fun b=>Value.int .u8 b.toNat):=by
  clear hge
  induction s with
  | nil=>simp[Rps]
  | cons b q ih=>exact ⟨_,_,rfl,rfl,ih rfl⟩
 let row:Array Value:=((⟨s⟩:Array UInt8).map fun b=>Value.int .u8 b.toNat)++Array.replicate (c-s.length) (.int .u8 0)
 have hrow:row.size=c:=by simp[row];omega
 have hshape:∀ (w1:World) (b:Nat) (x:Array Value) (t:TypeId) (fz:Nat × Nat),w1.heap[b]?=some (.cells x t fz)→fz=(0,0)→
   (markStringish ⟨b,0,none⟩).run P w1=.ok () (cS w1 b (.cells x t (x.size,x.size+1))):=by
  intro w1 b x t fz hb hfz
  subst hfz
  unfold markStringish
  simp only[az,run_shape,ax,World.shape?,hb]
  simp only[run_freeze]
  congr 1
  obtain ⟨hlt,hx⟩:=Array.getElem?_eq_some_iff.1 hb
  unfold World.freeze cS
  rw[if_neg (by omega)]
  congr 1
  apply Array.ext
  ·simp
  ·intro i h1 h2
   rw[Array.getElem_modify,Array.getElem_setIfInBounds]
   by_cases e:b=i
   ·subst e;rw[if_pos rfl,if_pos rfl,hx];simp
   ·rw[if_neg e,if_neg e]
 refine ⟨.slice (some ⟨w.heap.size,0,none⟩) s.length c,cS (w.drew.alloc (.cells row e)) w.heap.size (.cells row e (row.size,row.size+1)),?_,β.put st.length ⟨w.heap.size,0,c⟩,⟨_,Lay.cg,?_,?_⟩,?_,Lay.dI (h.dom _ (Nat.le_refl _))⟩
 ·rw[hshape _ w.heap.size row e (0,0) (by simp[row]) rfl]
  rfl
 ·simp[ez.cap];exact hge
 ·simp[ez.cap]
 ·have hg:=h.draw
  have h2:=hg.alloc (m:=.rw) (l:=s.map fun b=>LV.int .u8 b.toNat) (c:=row) (e:=e) (fz:=(row.size,row.size+1)) (by simp[hrow];exact hge) (fun i x hx=>by
   obtain ⟨u,hu,ru⟩:=hrp.get hx
   refine ⟨u,?_,ru⟩
   have hi:i<s.length:=by
    rcases Nat.lt_or_ge i s.length with k|k
    ·exact k
    ·rw[List.getElem?_eq_none (by simpa using k)] at hu;simp at hu
   simp only[row]
   rw[Array.getElem?_append_left (by simpa using hi)]
   simpa using hu) (by intro j hj;simp;omega)
  rw[hrow] at h2
  have e1:cS (w.drew.alloc (.cells row e)) w.heap.size (.cells row e (row.size,row.size+1))=w.drew.alloc (.cells row e (row.size,row.size+1)):=by
   simp only[cS,World.alloc,World.drew]
   congr 1
   apply Array.ext
   ·simp
   ·intro i h1 h2
    simp only[Array.size_setIfInBounds,Array.size_push] at h1
    rw[Array.getElem_setIfInBounds]
    by_cases e:w.heap.size=i
    ·subst e;rw[if_pos rfl];simp
    ·rw[if_neg e]
     rw[Array.getElem_push_lt (by omega),Array.getElem_push_lt (by omega)]
    ·simp only[Array.size_push];omega
  rw[e1,hrow]
  exact h2
end
end Go.CP
