/- Parts of the proof. -/
import Derived.Test.YtknegckgmklnhaaGreatDoorCp30
import Derived.Lib.Bytealg
import Derived.Lib.MakeNoZero
import Derived.ChangeArms
import Derived.DataReads
import Derived.Carry
namespace Go.CP
mutual
def LV.plain:LV→Bool
 | .ptr _ _ | .sl _ _ _ _ | .map _=>false
 | .iface _ v=>LV.plain v
 | .agg cs=>LV.ar cs
 | .tup cs=>LV.ar cs
 | .fn _ a b=>LV.ar a&&LV.ar b
 | .isl cs _ _=>LV.ar cs
 | .iptr cs _=>LV.ar cs
 | .imap a b=>LV.ar a&&LV.ar b
 | _=>true
def LV.ar:List LV→Bool
 | []=>true
 | a::as_=>LV.plain a&&LV.ar as_
end
mutual
theorem Rp.ct {β β':Lay} (hf:∀ b x,β.f b=some x→β'.f b=some x):∀ {v:LV} {u:Value},v.plain=true→Rp β v u→Rp β' v u
 | .bool _,_,_,e=>e
 | .int ..,_,_,e=>e
 | .flt ..,_,_,e=>e
 | .cplx ..,_,_,e=>e
 | .str _,_,_,e=>e
 | .nilp,_,_,e=>e
 | .ptr o k,_,h,_=>by simp[LV.plain] at h
 | .nils,_,_,e=>e
 | .sl o k l c,_,h,_=>by simp[LV.plain] at h
 | .nilm,_,_,e=>e
 | .map o,_,h,_=>by simp[LV.plain] at h
 | .nilf,_,_,e=>e
 | .fn _ a b,_,h,⟨vs,us,e,r,s⟩=>by
  simp only[LV.plain,aF] at h
  exact ⟨vs,us,e,Rps.ct hf h.1 r,Rps.ct hf h.2 s⟩
 | .nili,_,_,e=>e
 | .iface _ v,_,h,⟨u,e,r⟩=>⟨u,e,Rp.ct hf (by simpa[LV.plain] using h) r⟩
 | .agg cs,_,h,⟨vs,e,r⟩=>⟨vs,e,Rps.ct hf (by simpa[LV.plain] using h) r⟩
 | .tup cs,_,h,⟨vs,e,r⟩=>⟨vs,e,Rps.ct hf (by simpa[LV.plain] using h) r⟩
 | .dY _ _,_,_,e=>e
 | .emp,_,_,e=>e
 | .txt,_,_,e=>e
 | .aJ,_,_,_=>trivial
 | .isl cs _ _,_,h,⟨us,r,a,c,e,l,k,fz⟩=>⟨us,Rps.ct hf (by simpa[LV.plain] using h) r,a,c,e,l,k,fz.imp id fun ⟨b,base,q1,q2⟩=>⟨b,base,q1,q2.hM hf⟩⟩
 | .iptr cs _,_,h,⟨us,b,base,r,e,fz⟩=>⟨us,b,base,Rps.ct hf (by simpa[LV.plain] using h) r,e,fz.hM hf⟩
 | .imap a c,_,h,⟨b,us,ws,e,r,s,fz⟩=>by
  simp only[LV.plain,aF] at h
  exact ⟨b,us,ws,e,Rps.ct hf h.1 r,Rps.ct hf h.2 s,fz.hM hf⟩
theorem Rps.ct {β β':Lay} (hf:∀ b x,β.f b=some x→β'.f b=some x):∀ {v:List LV} {u:List Value},LV.ar v=true→Rps β v u→Rps β' v u
 | [],_,_,e=>e
 | _::_,_,h,⟨v,us,e,r,s⟩=>by
  simp only[LV.ar,aF] at h
  exact ⟨v,us,e,Rp.ct hf h.1 r,Rps.ct hf h.2 s⟩
end
theorem Rel.eF {w0 w w':World} {β:Lay} {st:aa} (h:Rel w0 β st w) (hb:Bw w.heap.size w w'):Rel w0 β st w':=by
 refine ⟨h.below.trans (hb.mono h.below.size),h.dom,fun o x hx=>(h.obj o x hx).same fun b hb' hl=>?_,h.sep,h.base,fun b x hx=>?_,h.sepf⟩
 ·obtain ⟨b',e,hlt⟩:=(h.obj o x hx).live hl
  rw[hb'] at e;cases e
  exact hb.block _ hlt
 ·have:=h.froz b x hx
  rw[hb.block _ (by rcases Nat.lt_or_ge b w.heap.size with k|k;exact k;simp[Array.getElem?_eq_none k] at this)]
  exact this
theorem Rel.uw {w0 w:World} {β:Lay} {st:aa} (h:Rel w0 β st w) {b:Nat} (hb:w.heap.size≤b):β.f b=none:=by
 cases hf:β.f b with
 | none=>rfl
 | some x=>have:=h.froz _ _ hf;simp[Array.getElem?_eq_none hb] at this
def Lay.bare (β:Lay) (n:Nat):Lay:=⟨fun _=>none,β.f,n⟩
def Lay.fz (β β':Lay):Lay:=⟨β.o,β'.f,β.n⟩
theorem Rel.bare {w0 w:World} {β:Lay} {st:aa} (h:Rel w0 β st w):Rel w (β.bare w.heap.size) [] w where
 below:=Bw.refl _ _
 dom:=fun _ _=>rfl
 obj:=fun _ _ h=>by simp at h
 sep:=fun _ _ _ _ _ _ h=>by simp at h
 base:=rfl
 froz:=h.froz
 sepf:=fun _ _ _ h=>by simp at h
theorem Rel.behind {w0 w w':World} {β β':Lay} {st:aa} (h:Rel w0 β st w) (hb:Bw w.heap.size w w') (hle:(β.bare w.heap.size).le β') (hf:∀ b x,β'.f b=some x→w'.heap[b]?=some x) :
  Rel w0 (β.fz β') st w'∧β.le (β.fz β'):=by
 have h':=h.eF hb
 have hl:β.le (β.fz β'):=⟨fun _ _ e=>e,hle.f,rfl,fun b x e l=>hle.old b x e (by have:=h.base;have:=h.below.size;show b<w.heap.size;omega)⟩
 refine ⟨⟨h'.below,h'.dom,fun o x hx=>(h'.obj o x hx).mono hl,h'.sep,h'.base,hf,fun o x b hx hrw hb'=>?_⟩,hl⟩
 have hn:=h.sepf o x b hx hrw hb'
 obtain ⟨b1,e1,e2⟩:=(h.obj o x hx).live (al.ey hrw)
 rw[show β o=some b from hb'] at e1;cases e1
 cases hc:β'.f b.blk with
 | none=>exact hc
 | some y=>have:=hle.old _ _ hc e2;rw[show (β.bare w.heap.size).f=β.f from rfl,hn] at this;cases this
def Frz (β:Lay) (st:aa) (b:Nat):Prop:=∃ o x bl,st[o]?=some x∧x.rw=true∧β o=some bl∧bl.blk=b
section
open Classical
noncomputable def Lay.frz (β:Lay) (st:aa) (w:World):Lay:=⟨fun _=>none,fun b=>if Frz β st b then w.heap[b]? else β.f b,β.n⟩
theorem oZ {w0 w:World} {β:Lay} {st:aa} (h:Rel w0 β st w):∀ b x,β.f b=some x→(β.frz st w).f b=some x:=by
 intro b x hx
 show (if Frz β st b then w.heap[b]? else β.f b)=some x
 split
 ·exact h.froz b x hx
 ·exact hx
theorem pY {w0 w:World} {β0 β:Lay} {st:aa} (h:Rel w0 β st w) (hle:β0.le β) (h0:∀ o,β0 o=none):β0.le (β.frz st w):=by
 refine ⟨fun o b e=>(by rw[h0] at e;cases e),fun b x e=>oZ h b x (hle.f b x e),hle.n,fun b x e l=>?_⟩
 have e':(if Frz β st b then w.heap[b]? else β.f b)=some x:=e
 split at e'
 ·rename_i hF
  obtain ⟨o,y,bl,h1,h2,h3,h4⟩:=hF
  have:=(h.obj o y h1).mR h2 h3
  rw[h4,← h.base,hle.n] at this
  omega
 ·exact hle.old b x e' l
theorem kj {w0 w:World} {β:Lay} {st:aa} (h:Rel w0 β st w):∀ b x,(β.frz st w).f b=some x→w.heap[b]?=some x:=by
 intro b x e
 have e':(if Frz β st b then w.heap[b]? else β.f b)=some x:=e
 split at e'
 ·exact e'
 ·exact h.froz b x e'
theorem o0 {w0 w:World} {β:Lay} {st:aa} (h:Rel w0 β st w) {o:Nat} {m:Md} {l:List LV} {b:Bl} (ho:st[o]?=some (.cells m l)) (hm:m.w=true) (hb:β o=some b) {k n:Nat} (hk:k+n≤l.length) :
  ∃ us:List Value,Rps β ((l.drop k).take n) us∧FzC (β.frz st w) b.blk (b.base+k) us:=by
 obtain ⟨b',hb',c,e,fz,hh,h1,h2,h3,h4⟩:=h.obj o _ ho
 rw[hb] at hb';cases hb'
 have hfz:(β.frz st w).f b.blk=some (.cells c e fz):=by
  show (if Frz β st b.blk then w.heap[b.blk]? else β.f b.blk)=_
  rw[if_pos ⟨o,_,b,ho,hm,hb,rfl⟩,hh]
 have hl:((l.drop k).take n).length=n:=by simp;omega
 refine ⟨(c.toList.drop (b.base+k)).take n,Rps.kO (by simp;omega) fun i x hx=>?_,c,e,fz,hfz,by simp;omega,fun i u hu=>?_⟩
 ·rw[List.getElem?_take,List.getElem?_drop] at hx
  split at hx
  ·rename_i hi
   obtain ⟨u,hu,r⟩:=h3 _ _ hx
   refine ⟨u,?_,r⟩
   rw[List.getElem?_take,if_pos hi,List.getElem?_drop,Array.getElem?_toList]
   rw[← hu];congr 1;omega
  ·cases hx
 ·rw[List.getElem?_take] at hu
  split at hu
  ·rw[List.getElem?_drop,Array.getElem?_toList] at hu;exact hu
  ·cases hu
theorem yD {β:Lay} {st:aa} {w:World} {b:Nat} (h:Frz β st b):(β.frz st w).f b=w.heap[b]?:=if_pos h
end
mutual
def dp (st:aa):LV→LV→Prop
 | .isl cs len none,r=>(∃ (o k:Nat) (ci:cK) (m:Md) (l:List LV),r=.sl o k len ci∧st[o]?=some (.cells m l)∧m.w=true∧k+cs.length≤l.length∧dps st cs ((l.drop k).take cs.length))∨
   (∃ cs' c,r=.isl cs' len c∧dps st cs cs')∨((r=.emp∨r=.nils)∧len=0∧cs=[])
 | .isl cs len (some c),r=>∃ cs',r=.isl cs' len (some c)∧dps st cs cs'
 | .iptr cs k,r=>(∃ (o:Nat) (m:Md) (l:List LV),r=.ptr o k∧st[o]?=some (.cells m l)∧m.w=true∧cs.length≤l.length∧dps st cs (l.take cs.length))∨∃ cs',r=.iptr cs' k∧dps st cs cs'
 | .imap ks vs,r=>(∃ (o:Nat) (m:Md) (es:List (LV × LV)) (bs:List Nat) (n:Nat) (es':List (LV × LV)),r=.map o∧st[o]?=some (.map m es bs n)∧m.w=true∧es'.Perm es∧(cA ks []).isSome=true∧es'.map (·.1)=ks∧dps st vs (es'.map (·.2)))∨
   (∃ ks' vs',r=.imap ks' vs'∧dps st ks ks'∧dps st vs vs')
 | .iface t v,r=>∃ x,r=.iface t x∧dp st v x
 | .agg vs,r=>∃ xs,r=.agg xs∧dps st vs xs
 | .tup vs,r=>∃ xs,r=.tup xs∧dps st vs xs
 | .fn f a b,r=>∃ a' b',r=.fn f a' b'∧dps st a a'∧dps st b b'
 | .ptr _ _,_=>False
 | .sl _ _ _ _,_=>False
 | .map _,_=>False
 | .txt,r=>r=.txt∨∃ s,r=.str s
 | .aJ,_=>True
 | .bool b,r=>r=.bool b
 | .int k n,r=>r=.int k n
 | .flt k n,r=>r=.flt k n
 | .cplx k a b,r=>r=.cplx k a b
 | .str s,r=>r=.str s
 | .nilp,r=>r=.nilp
 | .nils,r=>r=.nils
 | .nilm,r=>r=.nilm
 | .nilf,r=>r=.nilf
 | .nili,r=>r=.nili
 | .dY g k,r=>r=.dY g k
 | .emp,r=>r=.emp
def dps (st:aa):List LV→List LV→Prop
 | [],rs=>rs=[]
 | v::vs,rs=>∃ r rs',rs=r::rs'∧dp st v r∧dps st vs rs'
end
theorem jo {β:Lay}:∀ {ks:List LV} {seen:List (List UInt8)} {us:List Value},(cA ks seen).isSome=true→Rps β ks us→us.Nodup∧∀ s ∈ seen,Value.string ⟨⟨s⟩⟩ ∉ us
 | [],seen,us,_,r=>by simp only[Rps] at r;subst r;simp
 | k::ks,seen,us,h,r=>by
  obtain ⟨u,us',rfl,r1,r2⟩:=r
  cases k<;>simp only[cA] at h<;>try (simp at h;done)
  rename_i s
  split at h
  ·simp at h
  ·rename_i hs
   simp only[Rp] at r1;subst r1
   obtain ⟨h1,h2⟩:=jo (seen:=s::seen) (by simpa using h) r2
   refine ⟨List.nodup_cons.2 ⟨h2 s (by simp),h1⟩,fun x hx=>?_⟩
   intro hc
   rcases List.mem_cons.1 hc with e|e
   ·simp only[Value.string.injEq,ByteArray.mk.injEq,Array.mk.injEq] at e
    exact hs (e ▸ hx)
   ·exact h2 x (List.mem_cons_of_mem _ hx) e
theorem lZ {β:Lay}:∀ {es:List (LV × LV)} {l:List MapEntry},Entries β es l→Rps β (es.map (·.1)) (l.map (·.key))∧Rps β (es.map (·.2)) (l.map (·.val))
 | [],l,h=>by simp only[Entries] at h;subst h;exact ⟨rfl,rfl⟩
 | e::es,l,h=>by
  obtain ⟨c,cs,rfl,hc,hs⟩:=h
  obtain ⟨h1,h2⟩:=lZ hs
  exact ⟨⟨_,_,rfl,hc.1,h1⟩,⟨_,_,rfl,hc.2,h2⟩⟩
theorem iw:∀ {ks:List LV} {seen:List (List UInt8)},(cA ks seen).isSome=true→LV.ar ks=true
 | [],_,_=>rfl
 | k::ks,seen,h=>by
  cases k<;>simp only[cA] at h<;>try (simp at h;done)
  split at h
  ·simp at h
  ·simp only[LV.ar,LV.plain,Bool.true_and]
   exact iw (by simpa using h)
mutual
theorem iy {w0 w:World} {β:Lay} {st:aa} (h:Rel w0 β st w):∀ {v r:LV} {u:Value},dp st v r→Rp β r u→Rp (β.frz st w) v u
 | .isl cs len none,r,u,hd,hr=>by
  rcases hd with ⟨o,k,ci,m,l,rfl,ho,hm,hk,hs⟩ | ⟨cs',c,rfl,hs⟩ | ⟨rfl|rfl,rfl,rfl⟩
  ·obtain ⟨b,hb,hlc,rfl⟩:=hr
   obtain ⟨us,hu,hF⟩:=o0 h ho hm hb hk
   exact ⟨us,cp h hs hu,_,_,rfl,hlc,fun _ e=>(by cases e),.inr ⟨_,_,rfl,hF⟩⟩
  ·obtain ⟨us,hu,a,c2,rfl,hl,hc,hF⟩:=hr
   exact ⟨us,cp h hs hu,a,c2,rfl,hl,fun _ e=>(by cases e),hF.imp id fun ⟨b,base,q1,q2⟩=>⟨b,base,q1,q2.hM (oZ h)⟩⟩
  ·obtain ⟨a,c,rfl⟩:=hr
   exact ⟨[],rfl,some a,c,rfl,Nat.zero_le _,fun _ e=>(by cases e),.inl ⟨rfl,fun e=>by cases e⟩⟩
  ·simp only[Rp] at hr;subst hr
   exact ⟨[],rfl,none,0,rfl,Nat.le_refl _,fun _ e=>(by cases e),.inl ⟨rfl,fun _=>rfl⟩⟩
 | .isl cs len (some c0),r,u,hd,hr=>by
  obtain ⟨cs',rfl,hs⟩:=hd
  obtain ⟨us,hu,a,c2,rfl,hl,hc,hF⟩:=hr
  exact ⟨us,cp h hs hu,a,c2,rfl,hl,hc,hF.imp id fun ⟨b,base,q1,q2⟩=>⟨b,base,q1,q2.hM (oZ h)⟩⟩
 | .iptr cs k,r,u,hd,hr=>by
  rcases hd with ⟨o,m,l,rfl,ho,hm,hk,hs⟩ | ⟨cs',rfl,hs⟩
  ·obtain ⟨b,hb,rfl⟩:=hr
   obtain ⟨us,hu,hF⟩:=o0 h ho hm hb (k:=0) (n:=cs.length) (by omega)
   exact ⟨us,b.blk,b.base,cp h hs (by simpa using hu),rfl,by simpa using hF⟩
  ·obtain ⟨us,b,base,hu,rfl,hF⟩:=hr
   exact ⟨us,b,base,cp h hs hu,rfl,hF.hM (oZ h)⟩
 | .imap ks vs,r,u,hd,hr=>by
  rcases hd with ⟨o,m,es,bs,n,es',rfl,ho,hm,hp,hk,rfl,hs⟩ | ⟨ks',vs',rfl,h1,h2⟩
  ·obtain ⟨b,hb,rfl⟩:=hr
   obtain ⟨b',hb',c,hh,he,_,hst,_⟩:=h.obj o _ ho
   rw[hb] at hb';cases hb'
   obtain ⟨l',hp',he'⟩:=jS hp he
   obtain ⟨z1,z2⟩:=lZ he'
   have hpk:LV.ar (es'.map (·.1))=true:=iw hk
   refine ⟨b.blk,l'.map (·.key),l'.map (·.val),rfl,z1.ct (oZ h) hpk,cp h hs z2,c,n,?_,by simp,(jo hk z1).1,?_,hst⟩
   ·rw[yD ⟨o,_,b,ho,hm,hb,rfl⟩,hh]
   ·rw[List.zip_map']
    exact hp'.map _
  ·obtain ⟨b,us,ws,rfl,r1,r2,hF⟩:=hr
   exact ⟨b,us,ws,rfl,cp h h1 r1,cp h h2 r2,hF.hM (oZ h)⟩
 | .iface t v,r,u,hd,hr=>by
  obtain ⟨x,rfl,hs⟩:=hd
  obtain ⟨y,rfl,hy⟩:=hr
  exact ⟨y,rfl,iy h hs hy⟩
 | .agg vs,r,u,hd,hr=>by
  obtain ⟨x,rfl,hs⟩:=hd
  obtain ⟨y,rfl,hy⟩:=hr
  exact ⟨y,rfl,cp h hs hy⟩
 | .tup vs,r,u,hd,hr=>by
  obtain ⟨x,rfl,hs⟩:=hd
  obtain ⟨y,rfl,hy⟩:=hr
  exact ⟨y,rfl,cp h hs hy⟩
 | .fn f a b,r,u,hd,hr=>by
  obtain ⟨x,z,rfl,h1,h2⟩:=hd
  obtain ⟨y,y2,rfl,hy,hz⟩:=hr
  exact ⟨y,y2,rfl,cp h h1 hy,cp h h2 hz⟩
 | .ptr _ _,_,_,hd,_=>by simp[dp] at hd
 | .sl _ _ _ _,_,_,hd,_=>by simp[dp] at hd
 | .map _,_,_,hd,_=>by simp[dp] at hd
 | .txt,r,u,hd,hr=>by
  rcases hd with rfl|⟨s,rfl⟩
  ·exact hr
  ·exact ⟨_,hr⟩
 | .aJ,_,_,_,_=>trivial
 | .bool b,r,u,hd,hr=>by simp only[dp] at hd;subst hd;exact hr
 | .int k n,r,u,hd,hr=>by simp only[dp] at hd;subst hd;exact hr
 | .flt k n,r,u,hd,hr=>by simp only[dp] at hd;subst hd;exact hr
 | .cplx k a b,r,u,hd,hr=>by simp only[dp] at hd;subst hd;exact hr
 | .str s,r,u,hd,hr=>by simp only[dp] at hd;subst hd;exact hr
 | .nilp,r,u,hd,hr=>by simp only[dp] at hd;subst hd;exact hr
 | .nils,r,u,hd,hr=>by simp only[dp] at hd;subst hd;exact hr
 | .nilm,r,u,hd,hr=>by simp only[dp] at hd;subst hd;exact hr
 | .nilf,r,u,hd,hr=>by simp only[dp] at hd;subst hd;exact hr
 | .nili,r,u,hd,hr=>by simp only[dp] at hd;subst hd;exact hr
 | .dY g k,r,u,hd,hr=>by simp only[dp] at hd;subst hd;exact hr
 | .emp,r,u,hd,hr=>by simp only[dp] at hd;subst hd;exact hr
theorem cp {w0 w:World} {β:Lay} {st:aa} (h:Rel w0 β st w):∀ {v r:List LV} {u:List Value},dps st v r→Rps β r u→Rps (β.frz st w) v u
 | [],r,u,hd,hr=>by simp only[dps] at hd;subst hd;exact hr
 | v::vs,r,u,hd,hr=>by
  obtain ⟨r1,rs,rfl,h1,h2⟩:=hd
  obtain ⟨u1,us,rfl,r1',r2'⟩:=hr
  exact ⟨u1,us,rfl,iy h h1 r1',cp h h2 r2'⟩
end
theorem ak.deep {P:Program} {f:FuncId} {xs:List LV} {st:aa} {v:LV} {R:LV→aa→Prop} (h:ak P f xs [] fun r s=>dp s v r) (hx:LV.ar xs=true) (hv:v.plain=true)
  (hR:R v st):ak P f xs st R:=by
 have go:∀ {w0:World} {β:Lay} {w w':World} {u:Value} {β':Lay} {r:LV} {st':aa},Rel w0 β st w→dp st' v r→Rp β' r u→Rel w β' st' w'→(β.bare w.heap.size).le β'→
   ∃ β2,Rp β2 v u∧Rel w0 β2 st w'∧β.le β2:=by
  intro w0 β w w' u β' r st' h1 hd hr hrel hle
  have e:=pY hrel hle fun _=>rfl
  obtain ⟨k1,k2⟩:=h1.behind hrel.below e (kj hrel)
  exact ⟨_,Rp.ct (β:=β'.frz st' w') (β':=β.fz (β'.frz st' w')) (fun _ _ e=>e) hv (iy hrel hd hr),k1,k2⟩
 rcases h with h|h
 ·refine .inl ⟨h.1,fun w0 β w vs h1 h2=>?_⟩
  refine (h.2 w _ w vs h1.bare (Rps.ct (β:=β) (β':=β.bare w.heap.size) (fun _ _ e=>e) hx h2)).mono ?_
  rintro e w' ⟨β',r,st',u,hd,rfl,h4,h5,h6⟩
  obtain ⟨β2,k1,k2,k3⟩:=go h1 hd h4 h5 h6
  exact ⟨β2,v,st,u,hR,rfl,k1,k2,k3⟩
 ·refine .inr fun w0 β w vs h1 h2=>?_
  obtain ⟨u,w',h3,β',r,st',hd,h5,h6,h7⟩:=h w _ w vs h1.bare (Rps.ct (β:=β) (β':=β.bare w.heap.size) (fun _ _ e=>e) hx h2)
  obtain ⟨β2,k1,k2,k3⟩:=go h1 hd h5 h6 h7
  exact ⟨u,w',h3,β2,v,st,hR,k1,k2,k3⟩
mutual
theorem bO (st:aa):∀ {v:LV},v.plain=true→dp st v v
 | .isl cs len none,h=>.inr (.inl ⟨cs,none,rfl,bx st (by simpa[LV.plain] using h)⟩)
 | .isl cs len (some c),h=>⟨cs,rfl,bx st (by simpa[LV.plain] using h)⟩
 | .iptr cs k,h=>.inr ⟨cs,rfl,bx st (by simpa[LV.plain] using h)⟩
 | .imap ks vs,h=>by
  simp only[LV.plain,aF] at h
  exact .inr ⟨ks,vs,rfl,bx st h.1,bx st h.2⟩
 | .iface t v,h=>⟨v,rfl,bO st (by simpa[LV.plain] using h)⟩
 | .agg vs,h=>⟨vs,rfl,bx st (by simpa[LV.plain] using h)⟩
 | .tup vs,h=>⟨vs,rfl,bx st (by simpa[LV.plain] using h)⟩
 | .fn f a b,h=>by
  simp only[LV.plain,aF] at h
  exact ⟨a,b,rfl,bx st h.1,bx st h.2⟩
 | .ptr _ _,h=>by simp[LV.plain] at h
 | .sl _ _ _ _,h=>by simp[LV.plain] at h
 | .map _,h=>by simp[LV.plain] at h
 | .txt,_=>.inl rfl
 | .aJ,_=>trivial
 | .bool _,_=>rfl
 | .int _ _,_=>rfl
 | .flt _ _,_=>rfl
 | .cplx _ _ _,_=>rfl
 | .str _,_=>rfl
 | .nilp,_=>rfl
 | .nils,_=>rfl
 | .nilm,_=>rfl
 | .nilf,_=>rfl
 | .nili,_=>rfl
 | .dY _ _,_=>rfl
 | .emp,_=>rfl
theorem bx (st:aa):∀ {v:List LV},LV.ar v=true→dps st v v
 | [],_=>rfl
 | v::vs,h=>by
  simp only[LV.ar,aF] at h
  exact ⟨v,vs,rfl,bO st h.1,bx st h.2⟩
end
theorem ak.forget {P:Program} {f:FuncId} {xs:List LV} {st:aa} {v:LV} {R:LV→aa→Prop} (h:ak P f xs [] fun r _=>r=v) (hx:LV.ar xs=true) (hv:v.plain=true)
  (hR:R v st):ak P f xs st R:=
 ak.deep (h.mono fun r s e=>by subst e;exact bO s hv) hx hv hR
theorem pJ.fo {P:Program} {f:FuncId} {fn:Func} {e:Array Value→Sem Value} {xs:List LV} {st:aa} {R:LV→aa→Prop} (hf:P.funcs[f]?=some fn) (hname:(fn.name == "runtime.NumGoroutine")=false)
  (hb:fn.body.isNone=true) (hn:Extern.findNext fn=none) (he:Extern.find fn=some e)
  (h:∀ w0 β w vs,Rel w0 β st w→Rps β xs vs→∃ u w',(e ⟨vs⟩).run P w=.ok u w'∧∃ β' r st',R r st'∧Rp β' r u∧Rel w0 β' st' w'∧β.le β'):ak P f xs st R:=by
 refine .inr fun w0 β w vs h1 h2=>?_
 obtain ⟨u,w',h3,h4⟩:=h w0 β w vs h1 h2
 exact ⟨u,w',by rw[run_callFunc_extern hf hname hb hn he,h3];rfl,h4⟩
theorem tA {P:Program} {f:FuncId} {fn:Func} {s:List UInt8} {c:Int} {st:aa} {R:LV→aa→Prop} (hf:P.funcs[f]?=some fn) (hname:(fn.name == "runtime.NumGoroutine")=false)
  (hb:fn.body.isNone=true) (hn:Extern.findNext fn=none) (he:Extern.find fn=some Extern.BytealgCount.count) (hR:R (.int .i64 (Lib.countByte s c.toNat.toUInt8:Nat)) st):ak P f [.str s,.int .u8 c] st R:=by
 refine pJ.fo hf hname hb hn he fun w0 β w vs h1 h2=>?_
 obtain ⟨v,us,rfl,r1,v2,us2,rfl,r2,rfl⟩:=h2
 simp only[Rp] at r1 r2
 subst r1;subst r2
 exact ⟨_,w,Lib.run_countString _ _ _,β,_,st,hR,rfl,h1,Lay.le.refl _⟩
theorem nJ {P:Program} {f:FuncId} {fn:Func} {s:List UInt8} {c:Int} {st:aa} {R:LV→aa→Prop} (hf:P.funcs[f]?=some fn) (hname:(fn.name == "runtime.NumGoroutine")=false)
  (hb:fn.body.isNone=true) (hn:Extern.findNext fn=none) (he:Extern.find fn=some Extern.BytealgIndexByte.indexByte) (hR:R (.int .i64 (Lib.indexByte s c.toNat.toUInt8)) st):ak P f [.str s,.int .u8 c] st R:=by
 refine pJ.fo hf hname hb hn he fun w0 β w vs h1 h2=>?_
 obtain ⟨v,us,rfl,r1,v2,us2,rfl,r2,rfl⟩:=h2
 simp only[Rp] at r1 r2
 subst r1;subst r2
 exact ⟨_,w,Lib.run_indexByteString _ _ _,β,_,st,hR,rfl,h1,Lay.le.refl _⟩
theorem vK {P:Program} {f:FuncId} {fn:Func} {x:LV} {st:aa} {R:LV→aa→Prop} (hf:P.funcs[f]?=some fn) (hname:(fn.name == "runtime.NumGoroutine")=false)
  (hb:fn.body.isNone=true) (hn:Extern.findNext fn=none) (he:Extern.find fn=some Extern.AbiNoEscape.same) (hR:R x st):ak P f [x] st R:=by
 refine pJ.fo hf hname hb hn he fun w0 β w vs h1 h2=>?_
 obtain ⟨v,us,rfl,r1,rfl⟩:=h2
 exact ⟨_,w,rfl,β,_,st,hR,r1,h1,Lay.le.refl _⟩
theorem rI {P:Program} {f:FuncId} {fn:Func} {t e:TypeId} {ps:Array TypeId} {n:Nat} {st:aa} {R:LV→aa→Prop} (hf:P.funcs[f]?=some fn) (hname:(fn.name == "runtime.NumGoroutine")=false)
  (hb:fn.body.isNone=true) (hn:Extern.findNext fn=none) (he:Extern.find fn=some (Extern.BytealgMakeNoZero.makeNoZero ps #[t])) (ht:P.underlying t=some (.slice e)) (hn47:n≤2 ^ 47)
  (hR:R (.sl st.length 0 n (.rest 1)) (st++[.cells (.bt e) (List.replicate n .aJ)])):ak P f [.int .i64 n] st R:=by
 refine pJ.fo hf hname hb hn he fun w0 β w vs h1 h2=>?_
 obtain ⟨v,us,rfl,r1,rfl⟩:=h2
 simp only[Rp] at r1;subst r1
 obtain ⟨cs,hrun,hc,_⟩:=Lib.run_makeNoZero (P:=P) w ps t e ht n (by omega)
 refine ⟨_,_,hrun,_,_,_,hR,⟨_,Lay.aM,?_,?_⟩,((h1.draw).draw).alloc (m:=.bt e) (l:=List.replicate n .aJ) (c:=cs) (e:=e) (fz:=(0,0)) (by simpa using hc) (fun i x hx=>?_) (by simp),Lay.cf (h1.dom _ (Nat.le_refl _))⟩
 ·simpa[cK.cap] using hc
 ·simp[cK.cap]
 ·have hi:i<n:=by
   have:=(List.getElem?_eq_some_iff.1 hx).1
   simpa using this
  rw[List.getElem?_replicate,if_pos hi] at hx
  cases hx
  exact ⟨cs[i]'(by omega),by simp,trivial⟩
theorem tB {P:Program} {f:FuncId} {fn:Func} {t:TypeId} {o n:Nat} {m:Md} {es:List (LV × LV)} {bs:List Nat} {st:aa} {R:LV→aa→Prop} (hf:P.funcs[f]?=some fn) (hname:(fn.name == "runtime.NumGoroutine")=false)
  (hb:fn.body.isNone=true) (hn:Extern.findNext fn=none) (he:Extern.find fn=some Extern.MapsClone.clone) (ho:st[o]?=some (.map m es bs n)) (hR:R (.iface t (.map st.length)) (st++[.map .rw es bs n])):ak P f [.iface t (.map o)] st R:=by
 refine pJ.fo hf hname hb hn he fun w0 β w vs h1 h2=>?_
 obtain ⟨v,us,rfl,r1,rfl⟩:=h2
 obtain ⟨u,rfl,b,hb,rfl⟩:=r1
 obtain ⟨c,hh,hes,hst,hbs⟩:=h1.gV ho hb
 have hle:β.le (β.put st.length ⟨w.heap.size,0,0⟩):=Lay.cf (h1.dom _ (Nat.le_refl _))
 refine ⟨.iface t (.map (some w.heap.size)),w.alloc (.map c n),?_,_,_,_,hR,⟨_,rfl,_,Lay.aM,rfl⟩,(h1.grow _).push (b:=⟨w.heap.size,0,0⟩) ?_ ?_ fun _=>h1.fresh,hle⟩
 ·show ((getObj b.blk >>= fun o=>match o with
   | .map entries clock=>(newObj (.map entries clock) >>= fun r=>pure (.iface t (.map (some r))))
   | _=>stuck "maps.clone: a map expected"):Sem Value).run P w=_
  simp only[ae,MapKept.run_getObj_map hh,ab,run_newObj,an]
  rfl
 ·intro o y b' hy hl hb'
  obtain ⟨b'',hb'',hlt⟩:=(h1.obj o y hy).live hl
  rw[hb'] at hb'';cases hb''
  show b'.blk≠w.heap.size
  omega
 ·exact ⟨_,Lay.aM,c,by simp[cX],hes.mono hle,fun _=>h1.below.size,hst,hbs⟩
inductive rJ where
 | count
 | indexByte
 | same
 | noZero (e:TypeId)
 | clone
def zK (P:Program) (f:FuncId) (k:rJ):Prop:=∃ fn,P.funcs[f]?=some fn∧(fn.name == "runtime.NumGoroutine")=false∧fn.body.isNone=true∧Extern.findNext fn=none∧(match k with
 | .count=>Extern.find fn=some Extern.BytealgCount.count
 | .indexByte=>Extern.find fn=some Extern.BytealgIndexByte.indexByte
 | .same=>Extern.find fn=some Extern.AbiNoEscape.same
 | .clone=>Extern.find fn=some Extern.MapsClone.clone
 | .noZero e=>∃ ps t,Extern.find fn=some (Extern.BytealgMakeNoZero.makeNoZero ps #[t])∧P.underlying t=some (.slice e))
def rK:List (FuncId × rJ)→FuncId→Option rJ
 | [],_=>none
 | p::r,f=>match f==p.1 with
  | true=>some p.2
  | false=>rK r f
def Ar (tb:List (FuncId × rJ)):Ora:=fun f xs st=>match rK tb f with
 | some .count=>(match xs with
  | [.str s,.int .u8 c]=>some (.int .i64 (Lib.countByte s c.toNat.toUInt8:Nat),st)
  | _=>none)
 | some .indexByte=>(match xs with
  | [.str s,.int .u8 c]=>some (.int .i64 (Lib.indexByte s c.toNat.toUInt8),st)
  | _=>none)
 | some .same=>(match xs with
  | [x]=>some (x,st)
  | _=>none)
 | some (.noZero e)=>(match xs with
  | [.int .i64 (.ofNat n)]=>(match Nat.ble n (2 ^ 47) with
   | true=>some (.sl st.length 0 n (.rest 1),st++[.cells (.bt e) (List.replicate n .aJ)])
   | false=>none)
  | _=>none)
 | some .clone=>(match xs with
  | [.iface t (.map o)]=>(match st[o]? with
   | some (.map _ es bs n)=>some (.iface t (.map st.length),st++[.map .rw es bs n])
   | _=>none)
  | _=>none)
 | none=>none
theorem fp:∀ {tb:List (FuncId × rJ)} {f:FuncId} {k:rJ},rK tb f=some k→(f,k) ∈ tb
 | [],_,_,h=>by simp[rK] at h
 | p::r,f,k,h=>by
  unfold rK at h
  split at h
  ·rename_i e
   cases h
   have:f=p.1:=by simpa using e
   rw[this];exact List.mem_cons_self
  ·exact List.mem_cons_of_mem _ (fp h)
theorem yE {P:Program} {tb:List (FuncId × rJ)} (h:∀ p ∈ tb,zK P p.1 p.2):jn P (Ar tb):=by
 intro f xs st v st' h1 K hK
 unfold Ar at h1
 split at h1
 ·rename_i e
  obtain ⟨fn,c1,c2,c3,c4,c5⟩:=h _ (fp e)
  split at h1
  ·cases h1;exact tA c1 c2 c3 c4 c5 hK
  ·cases h1
 ·rename_i e
  obtain ⟨fn,c1,c2,c3,c4,c5⟩:=h _ (fp e)
  split at h1
  ·cases h1;exact nJ c1 c2 c3 c4 c5 hK
  ·cases h1
 ·rename_i e
  obtain ⟨fn,c1,c2,c3,c4,c5⟩:=h _ (fp e)
  split at h1
  ·cases h1;exact vK c1 c2 c3 c4 c5 hK
  ·cases h1
 ·rename_i el e
  obtain ⟨fn,c1,c2,c3,c4,ps,t,c5,c6⟩:=h _ (fp e)
  split at h1
  ·split at h1
   ·rename_i hb
    cases h1
    exact rI c1 c2 c3 c4 c5 c6 (Nat.le_of_ble_eq_true hb) hK
   ·cases h1
  ·cases h1
 ·rename_i e
  obtain ⟨fn,c1,c2,c3,c4,c5⟩:=h _ (fp e)
  split at h1
  ·split at h1
   ·rename_i ho
    cases h1
    exact tB c1 c2 c3 c4 c5 ho hK
   ·cases h1
  ·cases h1
 ·cases h1
end Go.CP
namespace Go.CP
open Go.ChangeShapes Go.WideShapes Go.ChangeAt Go.RowKit
def Typed (P:Program) (st:aa):Nat→TypeId→List LV→Prop
 | 0,_,_=>False
 | n+1,t,xs=>match P.underlying t with
  | some .bool=>∃ b,xs=[.bool b]
  | some (.int k)=>∃ m,xs=[.int k m]∧(Lit.int k m).wf=true
  | some .string=>∃ s:List UInt8,xs=[.str s]∧s.length≤maxLen
  | some (.slice e)=>xs=[.nils]∨xs=[.emp]∨∃ (o cap:Nat) (rows:List (List LV)),xs=[.sl o 0 rows.length (.ex cap)]∧0<rows.length∧rows.length≤cap∧cap≤maxLen∧
    st[o]?=some (.cells .ro rows.flatten)∧∀ r ∈ rows,r.length=P.cellsOf e∧Typed P st n e r
  | some (.struct fs)=>xs.length=P.cellsOf t∧∀ f ∈ fs.toList,Typed P st n f.type ((xs.drop f.offset).take (P.cellsOf f.type))
  | _=>False
theorem Typed.more {P:Program} {st ext:aa}:∀ {n:Nat} {t:TypeId} {xs:List LV},Typed P st n t xs→Typed P (st++ext) n t xs
 | 0,_,_,h=>h.elim
 | n+1,t,xs,h=>by
  unfold Typed at h ⊢
  split at h
  ·exact h
  ·exact h
  ·exact h
  ·rcases h with h|h|⟨o,cap,rows,h1,h2,h3,h4,h5,h6⟩
   ·exact .inl h
   ·exact .inr (.inl h)
   ·refine .inr (.inr ⟨o,cap,rows,h1,h2,h3,h4,?_,fun r hr=>⟨(h6 r hr).1,(h6 r hr).2.more⟩⟩)
    rw[bH (List.getElem?_eq_some_iff.1 h5).1];exact h5
  ·exact ⟨h.1,fun f hf=>(h.2 f hf).more⟩
  ·exact h.elim
def rM (P:Program):Nat→List Field→Option Nat
 | off,[]=>some off
 | off,f::fs=>if f.offset=off then rM P (off+P.cellsOf f.type) fs else none
def okT (P:Program) (S:List TypeId) (t:TypeId):Bool:=match P.underlying t with
 | some .bool|some (.int _) | some .string=>true
 | some (.slice e)=>S.contains e&&decide (0<P.cellsOf e)
 | some (.struct fs)=>fs.toList.all (fun f=>S.contains f.type)&&(rM P 0 fs.toList==some (P.cellsOf t))
 | _=>false
section
variable {H:Type} {enc:TypeId × Value→H} {P:Program} {w0 w:World} {base:Nat} {sp:Nat→Bool} {held:Bool}
def BU (st:aa):Prop:=∀ y ∈ st,y.rw=false
theorem Rps.flatten {β:Lay}:∀ {rows:List (List LV)} {vs:List (List Value)},rows.length=vs.length→(∀ (i:Nat) (r:List LV) (v:List Value),rows[i]?=some r→vs[i]?=some v→Rps β r v)→Rps β rows.flatten vs.flatten
 | [],[],_,_=>rfl
 | [],_::_,h,_=>by simp at h
 | _::_,[],h,_=>by simp at h
 | r::rows,v::vs,h,g=>by
  simp only[List.flatten_cons]
  exact (g 0 r v (by simp) (by simp)).append (Rps.flatten (by simpa using h) fun i r v h1 h2=>g (i+1) r v (by simpa using h1) (by simpa using h2))
theorem ux:∀ {fs:List Field} {off fin:Nat},rM P off fs=some fin→off≤fin∧∀ f ∈ fs,f.offset+P.cellsOf f.type≤fin
 | [],off,fin,h=>by simp only[rM,ao] at h;exact ⟨by omega,by simp⟩
 | f::fs,off,fin,h=>by
  simp only[rM] at h
  split at h
  ·obtain ⟨h1,h2⟩:=ux h
   refine ⟨by omega,fun f' h'=>?_⟩
   rcases List.mem_cons.1 h' with e' | h'
   ·subst e';omega
   ·exact h2 f' h'
  ·cases h
end
def bz (P:Program) (t:TypeId):Bool:=match P.underlying t with
 | some (.struct _)=>true
 | _=>false
def eG (P:Program) (st:aa) (t:TypeId) (x:LV):Prop:=∃ n cs,x=(if bz P t=true then .agg cs else x)∧(bz P t=false→cs=[x])∧Typed P st n t cs
section
variable {H:Type} {enc:TypeId × Value→H} {P:Program} {w0 w:World} {base:Nat} {sp:Nat→Bool} {held:Bool}
theorem eG.more {st ext:aa} {t:TypeId} {x:LV} (h:eG P st t x):eG P (st++ext) t x:=
 let ⟨n,cs,h1,h2,h3⟩:=h;⟨n,cs,h1,h2,h3.more⟩
theorem jq (hl:laidOutB P=true) {W W':World} (hb:Below W.heap.size W W'):∀ {ts:List TypeId} {vs:List Value} {ds:List (DataW H)} {ps:List MemPlace},(ts.all fun t=>P.readableRec t&&decide (t<P.types.size))=true→
  DataW.TrodAll enc P W 0 (fun _=>true) true ts vs ds ps→(∀ x ∈ ps,x.block<W.heap.size)→DataW.TrodAll enc P W' 0 (fun b=>decide (b<W.heap.size)) true ts vs ds ps
 | [],vs,ds,ps,_,h,_=>by
  cases vs<;>cases ds<;>simp_all [DataW.TrodAll]
 | t::ts,vs,ds,ps,hr,h,hlt=>by
  obtain ⟨v,vs',d,ds',p,q,rfl,rfl,rfl,h1,h2⟩:=trodAll_cons h
  simp only[List.all_cons,aF,decide_eq_true_eq] at hr
  exact ⟨p,q,Below.trod hl hr.1.1 hr.1.2 h1 hb (fun x hx=>hlt x (List.mem_append.2 (.inl hx))),jq hl hb hr.2 h2 (fun x hx=>hlt x (List.mem_append.2 (.inr hx))),rfl⟩
theorem l8:∀ {ts:List TypeId} {vs:List Value} {ds:List (DataW H)} {ps:List MemPlace},DataW.TrodAll enc P w base sp held ts vs ds ps→ds.length=ts.length
 | [],vs,ds,ps,h=>by cases vs<;>cases ds<;>simp_all [DataW.TrodAll]
 | t::ts,vs,ds,ps,h=>by
  obtain ⟨v,vs',d,ds',p,q,rfl,rfl,rfl,h1,h2⟩:=trodAll_cons h
  simp[l8 h2]
end
end Go.CP
