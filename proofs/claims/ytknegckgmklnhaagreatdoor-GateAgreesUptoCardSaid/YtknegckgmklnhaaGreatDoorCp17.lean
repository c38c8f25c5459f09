/- Parts of the proof. -/
import Derived.Test.YtknegckgmklnhaaGreatDoorCp16
namespace Go.CP
section
variable {β:Lay} {P:Program} {w w0:World} {st:aa}
theorem BJ {s:Sem Unit} {w':World} (h:s.run P w=.ok () w'):(do s;pure .skip:Sem Next).run P w=.ok .skip w':=by
 simp[h]
theorem ji {f:Value→ByteArray→Sem (ForInStep ByteArray)} (hf:∀ n s,f (.int .u8 n) s=pure (.yield (s.push (UInt8.ofNat n.toNat)))) :
  ∀ {cs:List LV} {us:List Value} {s:List UInt8},Rps β cs us→bytesOf cs=some s→∀ acc:ByteArray,(forIn us acc f).run P w=.ok (acc++⟨⟨s⟩⟩) w
 | [],us,s,h,hb,acc=>by
  simp only[Rps] at h;subst h
  simp[bytesOf] at hb;subst hb
  have:acc++(⟨⟨[]⟩⟩:ByteArray)=acc:=by apply ByteArray.ext;rw[ByteArray.data_append];simp
  simp[this]
 | c::cs,us,s,h,hb,acc=>by
  obtain ⟨v,us,rfl,r,rs⟩:=h
  unfold bytesOf at hb
  split at hb
  ·rename_i e;simp at e
  ·rename_i n rest e
   simp only[List.cons.injEq] at e
   obtain ⟨rfl,rfl⟩:=e
   simp only[Rp] at r;subst r
   split at hb
   ·rename_i s' hs'
    simp at hb;subst hb
    simp only[List.forIn_cons,ae,hf,an,ab]
    rw[ji hf rs hs']
    congr 1
    apply ByteArray.ext
    simp[ByteArray.data_append]
   ·simp at hb
  ·simp at hb
theorem nv {x v:LV} {u:Value} (h:Rel w0 β st w) (hx:Rp β x u) (hl:iO st x=some v):∃ u',(Conv.bytesToString u).run P w=.ok u' w∧Rp β v u':=by
 unfold iO at hl
 split at hl
 ·simp only[Rp] at hx;subst hx;simp at hl;subst hl
  exact ⟨_,rfl,rfl⟩
 ·rename_i o k len ci
  split at hl
  ·rename_i n cs hs
   split at hl
   ·rename_i s hb
    simp at hl;subst hl
    unfold fT at hs
    simp only at hs
    split at hs
    ·rename_i m l ho
     split at hs
     ·rename_i hn
      simp only[Nat.mul_one] at hn hs
      simp at hs;obtain ⟨rfl,rfl⟩:=hs
      obtain ⟨b,hb',_,rfl⟩:=hx
      obtain ⟨us,h1,h2,h3⟩:=gq (P:=P) h ho hb' hn
      refine ⟨.string ⟨⟨s⟩⟩,?_,rfl⟩
      unfold Conv.bytesToString
      simp only[ae,h2,ab,← Array.forIn_toList]
      rw[ji (P:=P) (w:=w) (fun _ _=>rfl) h3 hb]
      simp only[ab,an]
      congr 2
     ·simp at hs
    ·simp at hs
   ·simp at hl
  ·simp at hl
 ·simp at hl
theorem lO {t:TypeId} (h:kZ P t=true):P.underlying t=some .string:=by
 unfold kZ at h;split at h
 ·assumption
 ·simp at h
theorem ij {t:TypeId} (h:mX P t=true):∃ e,P.underlying t=some (.slice e)∧P.underlying e=some (.int .u8):=by
 unfold mX at h
 split at h
 ·rename_i e ht
  split at h
  ·rename_i he;exact ⟨e,ht,he⟩
  ·simp at h
 ·simp at h
theorem ri {ty e:TypeId} (ht:P.underlying ty=some (.slice e)) {a:Option Addr} {n n' c:Nat} {lv mv:Option Value} {hv:Value} :
  (Instr.sliceAt ty (.slice a n c) lv (some hv) mv).run P w=(Instr.sliceAt ty (.slice a n' c) lv (some hv) mv).run P w:=by
 unfold Instr.sliceAt
 simp only[ae,ai ht,ab]
 unfold Instr.slice
 simp only[ae,ai ht,ab]
 have:Instr.sliceBounds true n c lv (some hv) mv=Instr.sliceBounds true n' c lv (some hv) mv:=by
  unfold Instr.sliceBounds
  cases mv<;>rfl
 rw[this]
theorem pQ {ty:TypeId} {x v:LV} {u:Value} {l h m:Option Nat} {lv hv mv:Option Value} (hr:Rel w0 β st w) (hx:Rp β x u) (hl:OB l lv) (hh:OB h hv) (hm:OB m mv)
  (hs:pD P st ty x l h m=some v):∃ u',(Instr.sliceAt ty u lv hv mv).run P w=.ok u' w∧Rp β v u':=by
 unfold pD at hs
 split at hs
 ·rename_i e ht
  split at hs
  ·rename_i hk
   have up:∀ {x h},mU (szT P e) x l h m=some v→hZ P ty x l h m=some v:=fun hs=>by
    unfold hZ;rw[ht];simp only[hk,if_true];exact hs
   unfold cq at hs
   split at hs
   ·rename_i o k len s hi
    split at hs
    ·exact fM hx hl hh hm (up hs)
    ·split at hs
     ·rename_i md c hc
      split at hs
      ·rename_i hcond
       obtain ⟨rfl,hsz,hfit⟩:=hcond
       obtain ⟨b,hb,hlen,rfl⟩:=hx
       obtain ⟨b',hb',cs,ce,fz,h1,h2,h3,h4,h5⟩:=hr.obj _ _ hc
       rw[hb] at hb';cases hb'
       have hcap:hi≤(b.room-k) / szT P e:=(Nat.le_div_iff_mul_le hsz).2 (by omega)
       rcases hh with ⟨h0,_⟩ | ⟨kh,ih,h0,ih0,rfl⟩
       ·simp at h0
       ·have hh':OB (some hi) (some (.int kh ih)):=.inr ⟨kh,ih,h0,ih0,rfl⟩
        have hx':Rp β (.sl o k hi (.rest (szT P e))) (.slice (some ⟨b.blk,b.base+k,none⟩) hi ((b.room-k) / szT P e)):=⟨b,hb,hcap,rfl⟩
        obtain ⟨u',h6,h7⟩:=fM (w:=w) hx' hl hh' hm (up hs)
        exact ⟨u',(ri ht).trans h6,h7⟩
      ·simp at hs
     ·simp at hs
   ·exact fM hx hl hh hm (up hs)
  ·simp at hs
 ·simp at hs
theorem oU {t:TypeId} (h:vn P t=true):P.underlying t=some .unsafePointer:=by
 unfold vn at h
 split at h
 ·assumption
 ·simp at h
theorem ll {t e:TypeId} (h:vo P t=some e):P.underlying t=some (.pointer e):=by
 unfold vo at h
 split at h
 ·simp at h;subst h;assumption
 ·simp at h
theorem Rel.blk {o:Nat} {m:Md} {l:List LV} {b:Bl} (h:Rel w0 β st w) (ho:st[o]?=some (.cells m l)) (hb:β o=some b) :
  ∃ c e fz,w.heap[b.blk]?=some (.cells c e fz)∧c.size=b.base+b.room∧l.length≤b.room∧Ad w0.heap.size m b c e fz:=by
 obtain ⟨b',hb',c,e,fz,hh,h1,h2,h3,h4⟩:=h.obj o _ ho
 rw[hb] at hb';cases hb'
 exact ⟨c,e,fz,hh,h1,h2,h4⟩
theorem jX {a:Addr} {c:Array Value} {e:TypeId} {fz:Nat × Nat} (hh:w.heap[a.block]?=some (.cells c e fz)):(Conv.seenAt a).run P w=.ok a w:=by
 unfold Conv.seenAt viewAt
 simp[World.shape?,hh]
theorem th {s d e:TypeId} {x v:LV} {u:Value} (hs:P.underlying s=some (.pointer e)) (hd:P.underlying d=some .unsafePointer) (hk:known P e=true) (hz:szT P e≠0)
  (h:Rel w0 β st w) (hx:Rp β x u) (hl:Af st x=some v):∃ u',(convert s d u).run P w=.ok u' w∧Rp β v u':=by
 unfold Af at hl
 split at hl
 ·cases hl
  simp only[Rp] at hx;subst hx
  refine ⟨.pointer none,?_,rfl⟩
  unfold convert Conv.unsafePointer
  simp only[ae,ai hs,ai hd,ab,an]
 ·rename_i o k
  split at hl
  ·rename_i e' l ho
   split at hl
   ·rename_i hkl
    cases hl
    obtain ⟨b,hb,rfl⟩:=hx
    obtain ⟨c,e',fz,hh,h1,h2,h3⟩:=h.blk ho hb
    refine ⟨_,?_,b,hb,rfl⟩
    unfold convert Conv.unsafePointer
    simp only[ae,ai hs,ai hd,ab,jX (P:=P) (w:=w) (a:=⟨b.blk,b.base+k,none⟩) hh,cellsIn,run_shape,World.shape?,hh,an,run_sizeOf' hk]
    have:¬ c.size≤b.base+k:=by omega
    simp[hz,this]
   ·cases hl
  ·cases hl
 ·cases hl
theorem ti {fits:TypeId→Bool} {d e:Nat} {n m:Nat} (hs:P.cellsOf e≠0) (hf:fits e=true) (hn:m≤n):rowAt P fits (d+1) e n 0 m=true:=by
 unfold rowAt
 simp[hs,hf,hn]
theorem nx:∃ d,P.depth=d+1:=⟨_,rfl⟩
theorem gW {d:Nat} {t:TypeId}:sameLayout P (d+1) t t=true:=by
 unfold sameLayout
 simp
theorem ik {e:TypeId}:P.cellsOf e=szT P e:=by
 unfold Program.cellsOf szT
 cases P.info? e<;>rfl
theorem lp {a:Addr} {c:Array Value} {e:TypeId} {fz:Nat × Nat} (hh:w.heap[a.block]?=some (.cells c e fz)) (ho:a.off=0) (hz:szT P e≠0) (hc:szT P e≤c.size) :
  (variablesAt a e 1).run P w=.ok true w:=by
 unfold variablesAt
 simp only[ae,run_program,ab,run_shape,World.shape?,hh,an,ho]
 congr 1
 obtain ⟨d,hd⟩:=nx (P:=P)
 rw[hd]
 unfold liesAt
 rw[hd]
 have hr:rowAt P (fun x=>sameLayout P (d+1) x e) (d+1) e (c.size / P.cellsOf e) 0 1=true:=
  ti (by rw[ik];exact hz) gW (by
   rw[ik]
   exact (Nat.le_div_iff_mul_le (by omega)).2 (by omega))
 rw[hr];rfl
theorem tj {s d e:TypeId} {x v:LV} {u:Value} (hs:P.underlying s=some .unsafePointer) (hd:P.underlying d=some (.pointer e)) (hk:known P e=true) (hz:szT P e≠0)
  (h:Rel w0 β st w) (hx:Rp β x u) (hl:Ag st e (szT P e) x=some v):∃ u',(convert s d u).run P w=.ok u' w∧Rp β v u':=by
 unfold Ag at hl
 split at hl
 ·cases hl
  simp only[Rp] at hx;subst hx
  refine ⟨.pointer none,?_,rfl⟩
  unfold convert Conv.unsafePointer
  simp only[ae,ai hs,ai hd,ab,an]
 ·rename_i o
  split at hl
  ·rename_i e' l ho
   split at hl
   ·rename_i hkl
    obtain ⟨rfl,hlen⟩:=hkl
    cases hl
    obtain ⟨b,hb,rfl⟩:=hx
    obtain ⟨c,e2,fz,hh,h1,h2,h3⟩:=h.blk ho hb
    obtain ⟨rfl,hbase⟩:=h3.2.1 _ rfl
    refine ⟨_,?_,b,hb,rfl⟩
    unfold convert Conv.unsafePointer
    simp only[ae,ai hs,ai hd,ab,jX (P:=P) (w:=w) (a:=⟨b.blk,b.base+0,none⟩) hh,run_sizeOf' hk,
     lp (P:=P) (w:=w) (a:=⟨b.blk,b.base+0,none⟩) hh (by simpa using hbase) hz (by omega)]
    simp
   ·cases hl
  ·cases hl
 ·cases hl
theorem jF {t:List LV} {a:Act} {o:Oper} {v:LV} (h:Rel w0 β st w) (ht:Rps β t a.tmps.toList) (hl:gi P t st o.op=some v) :
  ∃ u,(execOp a.eval o).run P w=.ok (.value u) w∧Rp β v u:=by
 cases ho:o.op with
 | load ty x=>
  rw[ho] at hl;simp only[gi] at hl
  split at hl
  ·rename_i x' h1
   obtain ⟨u,h3,h4⟩:=nk (P:=P) h (au ht h1) hl
   exact ⟨u,by unfold execOp;rw[ho];exact bX h3,h4⟩
  ·simp at hl
 | lookup ty x k ok=>
  rw[ho] at hl;simp only[gi] at hl
  split at hl
  ·rename_i x' k' h1 h2
   obtain ⟨u,h3,h4⟩:=pM (P:=P) h (au ht h1) (au ht h2) hl
   exact ⟨u,by unfold execOp;rw[ho];exact bX h3,h4⟩
  ·simp at hl
 | entry x=>
  rw[ho] at hl;simp only[gi] at hl
  split at hl
  ·rename_i x' h1
   obtain ⟨u,h3,h4⟩:=rh (P:=P) h (au ht h1) hl
   exact ⟨u,by unfold execOp;rw[ho];exact bX h3,h4⟩
  ·simp at hl
 | convert s d x=>
  rw[ho] at hl;simp only[gi] at hl
  split at hl
  ·rename_i x' h1
   split at hl
   ·rename_i hc
    simp only[aF] at hc
    obtain ⟨e,hs1,hs2⟩:=ij hc.1
    have hd:=lO hc.2
    obtain ⟨u,h3,h4⟩:=nv (P:=P) h (au ht h1) hl
    refine ⟨u,?_,h4⟩
    unfold execOp;rw[ho]
    refine bX ?_
    unfold convert
    simp only[ae,ai hs1,ai hd,ab]
    rw[← h3]
    have hx:=au ht h1
    unfold iO at hl
    split at hl
    ·simp only[Rp] at hx;rw[hx];simp only[ae,ai hs2,ab]
    ·obtain ⟨b,_,_,hx⟩:=hx;rw[hx];simp only[ae,ai hs2,ab]
    ·simp at hl
   ·split at hl
    ·rename_i hu
     split at hl
     ·rename_i e he
      split at hl
      ·rename_i hz
       obtain ⟨u,h3,h4⟩:=th (P:=P) (ll he) (oU hu) hz.1 hz.2 h (au ht h1) hl
       exact ⟨u,by unfold execOp;rw[ho];exact bX h3,h4⟩
      ·simp at hl
     ·simp at hl
    ·split at hl
     ·rename_i hu
      split at hl
      ·rename_i e he
       split at hl
       ·rename_i hz
        obtain ⟨u,h3,h4⟩:=tj (P:=P) (oU hu) (ll he) hz.1 hz.2 h (au ht h1) hl
        exact ⟨u,by unfold execOp;rw[ho];exact bX h3,h4⟩
       ·simp at hl
      ·simp at hl
     ·simp at hl
  ·simp at hl
 | slice ty x l hh m=>
  rw[ho] at hl;simp only[gi] at hl
  split at hl
  ·rename_i x' l' hh' m' h1 h2 h3 h4
   unfold ob3 at hl
   split at hl
   ·rename_i l2 hh2 m2 e1 e2 e3
    obtain ⟨u,h5,h6⟩:=pQ h (au ht h1) (oP ht h2 e1) (oP ht h3 e2) (oP ht h4 e3) hl
    exact ⟨u,by unfold execOp;rw[ho];exact bX h5,h6⟩
   ·simp at hl
  ·simp at hl
 | call c=>
  rw[ho] at hl;simp only[gi] at hl
  split at hl
  ·rename_i x hc h1
   obtain ⟨u,e,r⟩:=gI ht h1
   obtain ⟨cs,hcs⟩:=bp (P:=P) (w:=w) (ρ:=a.eval) ho hc
   rw[hcs,e]
   by_cases h0:0<c.argTypes.size
   ·rw[if_pos h0] at hl
    obtain ⟨u',h3,h4⟩:=ni (w0:=w0) (rt:=o.type) (st:=st) (w:=w) (.inl h) r h0 hl
    exact ⟨u',by unfold builtin;exact bX h3,h4⟩
   ·rw[if_neg h0] at hl;simp at hl
  ·simp at hl
 | _=>rw[ho] at hl;simp[gi] at hl
def Did (w0:World) (β:Lay) (v:LV) (st':aa) (n:Next) (w':World):Prop:=
 ∃ β' u,(n=.value u∨(n=.skip∧u=undef))∧Rp β' v u∧Rel w0 β' st' w'∧β.le β'
theorem iQ {v:LV} {st':aa} {u:Value} {w':World} (h:eT w0 β v st' u w'):Did w0 β v st' (.value u) w':=
 let ⟨β',h1,h2,h3⟩:=h;⟨β',u,.inl rfl,h1,h2,h3⟩
theorem wJ {st':aa} {w':World} (h:Rel w0 β st' w'):Did w0 β af st' .skip w':=
 ⟨β,undef,.inr ⟨rfl,rfl⟩,Rp.undef,h,Lay.le.refl _⟩
theorem gu {o:Option aa} {v:LV} {st':aa} (h:lmk o=some (v,st')):o=some st'∧v=af:=by
 unfold lmk at h
 split at h
 ·simp at h;obtain ⟨rfl,rfl⟩:=h;exact ⟨rfl,rfl⟩
 ·simp at h
theorem tk {e:TypeId} {s:List UInt8} (h:Rel w0 β st w) :
  ∃ u w',(Conv.stringToBytes e ⟨⟨s⟩⟩).run P w=.ok u w'∧eT w0 β (.sl st.length 0 s.length (.rest 1)) (st++[.cells .rw (s.map fun b=>.int .u8 b.toNat)]) u w':=by
 unfold Conv.stringToBytes
 have hforced:(Question.appendCap s.length 0 e).forced=false:=rfl
 have hge:s.length≤(Question.appendCap s.length 0 e).cut (w.tape w.drawn (Question.appendCap s.length 0 e)):=by simp only[Question.cut];omega
 simp only[ae,show (⟨⟨s⟩⟩:ByteArray).size=s.length from rfl,run_choose,hforced,Bool.false_eq_true,if_false,ab,newRow,run_newObj,an]
 generalize (Question.appendCap s.length 0 e).cut (w.tape w.drawn (Question.appendCap s.length 0 e))=c at hge
 have hrp:Rps β (s.map fun b=>LV.int .u8 b.toNat) (s.map fun b=>Value.int .u8 b.toNat):=by
  clear hge
  induction s with
  | nil=>simp[Rps]
  | cons b q ih=>exact ⟨_,_,rfl,rfl,ih rfl⟩
 let row:Array Value:=((⟨s⟩:Array UInt8).map fun b=>Value.int .u8 b.toNat)++Array.replicate (c-s.length) (.int .u8 0)
 have hrow:row.size=c:=by simp[row];omega
 have hshape:∀ (w1:World) (b:Nat) (x:Array Value) (t:TypeId) (fz:Nat × Nat),w1.heap[b]?=some (.cells x t fz)→fz=(0,0)→
   (markStringish ⟨b,0,none⟩).run P w1=.ok () (bM w1 b (.cells x t (x.size,x.size+1))):=by
  intro w1 b x t fz hb hfz
  subst hfz
  unfold markStringish
  simp only[ae,run_shape,ab,World.shape?,hb]
  simp only[run_freeze]
  congr 1
  obtain ⟨hlt,hx⟩:=Array.getElem?_eq_some_iff.1 hb
  unfold World.freeze bM
  rw[if_neg (by omega)]
  congr 1
  apply Array.ext
  ·simp
  ·intro i h1 h2
   rw[Array.getElem_modify,Array.getElem_setIfInBounds]
   by_cases e:b=i
   ·subst e;rw[if_pos rfl,if_pos rfl,hx];simp
   ·rw[if_neg e,if_neg e]
 refine ⟨.slice (some ⟨w.heap.size,0,none⟩) s.length c,bM (w.drew.alloc (.cells row e)) w.heap.size (.cells row e (row.size,row.size+1)),?_,β.put st.length ⟨w.heap.size,0,c⟩,⟨_,Lay.aM,?_,?_⟩,?_,Lay.cf (h.dom _ (Nat.le_refl _))⟩
 ·rw[hshape _ w.heap.size row e (0,0) (by simp[row]) rfl]
  rfl
 ·simp[cK.cap];exact hge
 ·simp[cK.cap]
 ·have hg:=h.draw
  have h2:=hg.alloc (m:=.rw) (l:=s.map fun b=>LV.int .u8 b.toNat) (c:=row) (e:=e) (fz:=(row.size,row.size+1)) (by simp[hrow];exact hge) (fun i x hx=>by
   obtain ⟨u,hu,ru⟩:=hrp.get hx
   refine ⟨u,?_,ru⟩
   have hi:i<s.length:=by
    rcases Nat.lt_or_ge i s.length with k|k
    ·exact k
    ·rw[List.getElem?_eq_none (by simpa using k)] at hu;simp at hu
   simp only[row]
   rw[Array.getElem?_append_left (by simpa using hi)]
   simpa using hu) (by intro j hj;simp;omega)
  rw[hrow] at h2
  have e1:bM (w.drew.alloc (.cells row e)) w.heap.size (.cells row e (row.size,row.size+1))=w.drew.alloc (.cells row e (row.size,row.size+1)):=by
   simp only[bM,World.alloc,World.drew]
   congr 1
   apply Array.ext
   ·simp
   ·intro i h1 h2
    simp only[Array.size_setIfInBounds,Array.size_push] at h1
    rw[Array.getElem_setIfInBounds]
    by_cases e:w.heap.size=i
    ·subst e;rw[if_pos rfl];simp
    ·rw[if_neg e]
     rw[Array.getElem_push_lt (by omega),Array.getElem_push_lt (by omega)]
    ·simp only[Array.size_push];omega
  rw[e1,hrow]
  exact h2
end
end Go.CP
