/- Parts of the proof. -/
import Derived.WalkKit
import Derived.Below
import Derived.Orders
import Derived.KernelRfl
namespace Go.CP
open Go.RowKit (Below)
inductive cK where
 | ex (c:Nat)
 | rest (sz:Nat)
inductive LV where
 | bool (b:Bool)
 | int (k:IntKind) (n:Int)
 | flt (k:FloatKind) (bits:Nat)
 | cplx (k:FloatKind) (re im:Nat)
 | str (s:List UInt8)
 | nilp
 | ptr (o k:Nat)
 | nils
 | sl (o k len:Nat) (ci:cK)
 | nilm
 | map (o:Nat)
 | nilf
 | fn (f:Fn) (first captured:List LV)
 | nili
 | iface (t:TypeId) (v:LV)
 | agg (cs:List LV)
 | tup (vs:List LV)
 | dY (g k:Nat)
 | emp
 | txt
 | aJ
 | isl (cs:List LV) (len:Nat) (cap:Option Nat)
 | iptr (cs:List LV) (k:Nat)
 | imap (ks vs:List LV)
def LV.cells:LV→List LV
 | .agg cs=>cs
 | v=>[v]
def LV.ok:LV→Bool
 | .aJ=>false
 | _=>true
def LV.one:LV→Bool
 | .agg _ | .tup _ | .aJ=>false
 | _=>true
structure Bl where
 blk:Nat
 base:Nat
 room:Nat
def cK.cap (b:Bl) (k:Nat):cK→Nat
 | .ex c=>c
 | .rest sz=>(b.room-k) / sz
structure Lay where
 o:Nat→Option Bl
 f:Nat→Option Obj
 n:Nat
instance:CoeFun Lay (fun _=>Nat→Option Bl):=⟨Lay.o⟩
def Lay.nil (n:Nat):Lay:=⟨fun _=>none,fun _=>none,n⟩
def FzC (β:Lay) (b base:Nat) (us:List Value):Prop:=
 ∃ c e fz,β.f b=some (.cells c e fz)∧base+us.length≤c.size∧∀ (i:Nat) (u:Value),us[i]?=some u→c[base+i]?=some u
def ja (c:Array MapEntry) (k:Nat):Prop:=(∀ x ∈ c.toList,x.born<k)∧(c.toList.map (·.born)).Nodup
def FzM (β:Lay) (b:Nat) (ks vs:List Value):Prop:=
 ∃ es clk,β.f b=some (.map es clk)∧ks.length=vs.length∧ks.Nodup∧(ks.zip vs).Perm (es.toList.map fun e=>(e.key,e.val))∧ja es clk
mutual
def Rp (β:Lay):LV→Value→Prop
 | .bool b,v=>v=.bool b
 | .int k n,v=>v=.int k n
 | .flt k n,v=>v=.float k n
 | .cplx k a b,v=>v=.complex k a b
 | .str s,v=>v=.string ⟨⟨s⟩⟩
 | .nilp,v=>v=.pointer none
 | .ptr o k,v=>∃ b,β o=some b∧v=.pointer (some ⟨b.blk,b.base+k,none⟩)
 | .nils,v=>v=.slice none 0 0
 | .sl o k len ci,v=>∃ b,β o=some b∧len≤ci.cap b k∧v=.slice (some ⟨b.blk,b.base+k,none⟩) len (ci.cap b k)
 | .nilm,v=>v=.map none
 | .map o,v=>∃ b,β o=some b∧v=.map (some b.blk)
 | .nilf,v=>v=.nilFunc
 | .fn f xs ys,v=>∃ vs us:List Value,v=.func f ⟨vs⟩ ⟨us⟩∧Rps β xs vs∧Rps β ys us
 | .nili,v=>v=.nilIface
 | .iface t x,v=>∃ u,v=.iface t u∧Rp β x u
 | .agg cs,v=>∃ vs:List Value,v=.agg ⟨vs⟩∧Rps β cs vs
 | .tup cs,v=>∃ vs:List Value,v=.tuple ⟨vs⟩∧Rps β cs vs
 | .dY g k,v=>v=.pointer (some ⟨g,k,none⟩)
 | .emp,v=>∃ a c,v=.slice (some a) 0 c
 | .txt,v=>∃ s,v=.string s
 | .aJ,_=>True
 | .isl cs len cap,v=>∃ us:List Value,Rps β cs us∧∃ (a:Option Addr) (c:Nat),v=.slice a len c∧len≤c∧(∀ k,cap=some k→c=k)∧(len=0∧(a=none→c=0)∨∃ b base,a=some ⟨b,base,none⟩∧FzC β b base us)
 | .iptr cs k,v=>∃ (us:List Value) (b base:Nat),Rps β cs us∧v=.pointer (some ⟨b,base+k,none⟩)∧FzC β b base us
 | .imap ks vs,v=>∃ (b:Nat) (us ws:List Value),v=.map (some b)∧Rps β ks us∧Rps β vs ws∧FzM β b us ws
def Rps (β:Lay):List LV→List Value→Prop
 | [],vs=>vs=[]
 | c::cs,vs=>∃ v us,vs=v::us∧Rp β c v∧Rps β cs us
end
structure Lay.le (β β':Lay):Prop where
 o:∀ o b,β o=some b→β' o=some b
 f:∀ b x,β.f b=some x→β'.f b=some x
 n:β'.n=β.n
 old:∀ b x,β'.f b=some x→b < β.n→β.f b=some x
theorem Lay.le.refl (β:Lay):β.le β:=⟨fun _ _ h=>h,fun _ _ h=>h,rfl,fun _ _ h _=>h⟩
theorem Lay.le.trans {a b c:Lay} (h:a.le b) (k:b.le c):a.le c:=
 ⟨fun o x e=>k.o o x (h.o o x e),fun o x e=>k.f o x (h.f o x e),k.n.trans h.n,fun o x e l=>h.old o x (k.old o x e (by rw[h.n];exact l)) l⟩
theorem FzC.hM {β β':Lay} (h:∀ b x,β.f b=some x→β'.f b=some x) {b base:Nat} {us:List Value} (k:FzC β b base us):FzC β' b base us:=
 let ⟨c,e,fz,h1,h2⟩:=k;⟨c,e,fz,h _ _ h1,h2⟩
theorem FzM.hM {β β':Lay} (h:∀ b x,β.f b=some x→β'.f b=some x) {b:Nat} {ks vs:List Value} (k:FzM β b ks vs):FzM β' b ks vs:=
 let ⟨es,c,h1,h2⟩:=k;⟨es,c,h _ _ h1,h2⟩
theorem FzC.mono {β β':Lay} (h:β.le β') {b base:Nat} {us:List Value} (k:FzC β b base us):FzC β' b base us:=
 let ⟨c,e,fz,h1,h2⟩:=k;⟨c,e,fz,h.f _ _ h1,h2⟩
theorem FzM.mono {β β':Lay} (h:β.le β') {b:Nat} {ks vs:List Value} (k:FzM β b ks vs):FzM β' b ks vs:=
 let ⟨es,c,h1,h2⟩:=k;⟨es,c,h.f _ _ h1,h2⟩
mutual
theorem Rp.mono {β β':Lay} (h:β.le β'):∀ {l:LV} {v:Value},Rp β l v→Rp β' l v
 | .bool _,_,e=>e
 | .int ..,_,e=>e
 | .flt ..,_,e=>e
 | .cplx ..,_,e=>e
 | .str _,_,e=>e
 | .nilp,_,e=>e
 | .ptr _ _,_,⟨b,e,r⟩=>⟨b,h.o _ _ e,r⟩
 | .nils,_,e=>e
 | .sl ..,_,⟨b,e,r⟩=>⟨b,h.o _ _ e,r⟩
 | .nilm,_,e=>e
 | .map _,_,⟨b,e,r⟩=>⟨b,h.o _ _ e,r⟩
 | .nilf,_,e=>e
 | .fn ..,_,⟨vs,us,e,r,s⟩=>⟨vs,us,e,Rps.mono h r,Rps.mono h s⟩
 | .nili,_,e=>e
 | .iface _ _,_,⟨u,e,r⟩=>⟨u,e,Rp.mono h r⟩
 | .agg _,_,⟨vs,e,r⟩=>⟨vs,e,Rps.mono h r⟩
 | .tup _,_,⟨vs,e,r⟩=>⟨vs,e,Rps.mono h r⟩
 | .dY _ _,_,e=>e
 | .emp,_,e=>e
 | .txt,_,e=>e
 | .aJ,_,_=>trivial
 | .isl ..,_,⟨us,r,a,c,e,l,k,fz⟩=>⟨us,Rps.mono h r,a,c,e,l,k,fz.imp id fun ⟨b,base,q1,q2⟩=>⟨b,base,q1,q2.mono h⟩⟩
 | .iptr ..,_,⟨us,b,base,r,e,fz⟩=>⟨us,b,base,Rps.mono h r,e,fz.mono h⟩
 | .imap ..,_,⟨b,us,ws,e,r,s,fz⟩=>⟨b,us,ws,e,Rps.mono h r,Rps.mono h s,fz.mono h⟩
theorem Rps.mono {β β':Lay} (h:β.le β'):∀ {l:List LV} {v:List Value},Rps β l v→Rps β' l v
 | [],_,e=>e
 | _::_,_,⟨v,us,e,r,s⟩=>⟨v,us,e,Rp.mono h r,Rps.mono h s⟩
end
theorem Rps.length {β:Lay}:∀ {l:List LV} {v:List Value},Rps β l v→v.length=l.length
 | [],_,e=>by simp only[Rps] at e;simp[e]
 | _::_,_,e=>by obtain ⟨v,us,rfl,_,s⟩:=e;simp[Rps.length s]
theorem Rps.get {β:Lay}:∀ {l:List LV} {v:List Value},Rps β l v→∀ {i:Nat} {x:LV},l[i]?=some x→∃ u,v[i]?=some u∧Rp β x u
 | [],_,_,_,_,e=>by simp at e
 | _::_,_,h,0,x,e=>by
  obtain ⟨v,us,rfl,r,s⟩:=h
  simp at e;subst e;exact ⟨v,by simp,r⟩
 | _::_,_,h,i+1,x,e=>by
  obtain ⟨v,us,rfl,r,s⟩:=h
  simp at e
  obtain ⟨u,hu,ru⟩:=Rps.get s e
  exact ⟨u,by simpa using hu,ru⟩
theorem Rps.kO {β:Lay}:∀ {l:List LV} {v:List Value},v.length=l.length→(∀ (i:Nat) (x:LV),l[i]?=some x→∃ u,v[i]?=some u∧Rp β x u)→Rps β l v
 | [],v,h,_=>by simp only[Rps];exact List.eq_nil_of_length_eq_zero (by simpa using h)
 | x::l,[],h,_=>by simp at h
 | x::l,u::v,h,g=>by
  obtain ⟨u',hu,r⟩:=g 0 x (by simp)
  simp at hu;subst hu
  exact ⟨u,v,rfl,r,Rps.kO (by simpa using h) (fun i y hy=>by
   obtain ⟨z,hz,rz⟩:=g (i+1) y (by simpa using hy)
   exact ⟨z,by simpa using hz,rz⟩)⟩
theorem Rps.append {β:Lay}:∀ {l m:List LV} {v u:List Value},Rps β l v→Rps β m u→Rps β (l++m) (v++u)
 | [],_,_,_,h,k=>by simp only[Rps] at h;subst h;simpa using k
 | _::_,_,_,_,h,k=>by
  obtain ⟨v,us,rfl,r,s⟩:=h
  exact ⟨v,us++_,by simp,r,Rps.append s k⟩
theorem Rps.drop {β:Lay}:∀ {l:List LV} {v:List Value} (n:Nat),Rps β l v→Rps β (l.drop n) (v.drop n)
 | _,_,0,h=>by simpa using h
 | [],_,n+1,h=>by simp only[Rps] at h;subst h;simp[Rps]
 | _::_,_,n+1,h=>by obtain ⟨v,us,rfl,r,s⟩:=h;simpa using Rps.drop n s
theorem Rps.take {β:Lay}:∀ {l:List LV} {v:List Value} (n:Nat),Rps β l v→Rps β (l.take n) (v.take n)
 | _,_,0,h=>by simp[Rps]
 | [],_,n+1,h=>by simp only[Rps] at h;subst h;simp[Rps]
 | _::_,_,n+1,h=>by
  obtain ⟨v,us,rfl,r,s⟩:=h
  simp only[List.take_succ_cons];exact ⟨v,_,rfl,r,Rps.take n s⟩
theorem Rps.set {β:Lay}:∀ {l:List LV} {v:List Value} (n:Nat) {x:LV} {u:Value},Rps β l v→Rp β x u→Rps β (l.set n x) (v.set n u)
 | [],_,_,_,_,h,_=>by simp only[Rps] at h;subst h;simp[Rps]
 | _::_,_,0,x,u,h,k=>by obtain ⟨v,us,rfl,r,s⟩:=h;simp only[List.set_cons_zero];exact ⟨u,us,rfl,k,s⟩
 | _::_,_,n+1,x,u,h,k=>by
  obtain ⟨v,us,rfl,r,s⟩:=h;simp only[List.set_cons_succ];exact ⟨v,_,rfl,r,Rps.set n s k⟩
theorem Rps.replicate {β:Lay} {x:LV} {u:Value} (h:Rp β x u):∀ n,Rps β (List.replicate n x) (List.replicate n u)
 | 0=>by simp[Rps]
 | n+1=>by simp only[List.replicate_succ];exact ⟨u,_,rfl,h,Rps.replicate h n⟩
theorem Rps.one {β:Lay} {x:LV} {v:Value} (h:Rp β x v):Rps β [x] [v]:=⟨v,[],rfl,h,rfl⟩
inductive Md where
 | rw
 | ro
 | bt (t:TypeId)
 | gl (g n:Nat)
 deriving DecidableEq
def Md.w:Md→Bool
 | .rw | .bt _=>true
 | _=>false
def Ad (N:Nat) (m:Md) (b:Bl) (c:Array Value) (e:TypeId) (fz:Nat × Nat):Prop:=
 (m.w=true→N≤b.blk∧∀ j,j<c.size→¬(fz.1≤j∧j<fz.2))∧(∀ t,m=.bt t→e=t∧b.base=0)∧(∀ g n,m=.gl g n→b.blk=g∧b.base=0∧b.room=n)
inductive al where
 | cells (m:Md) (l:List LV)
 | map (m:Md) (es:List (LV × LV)) (bs:List Nat) (k:Nat)
 | iter (om:Option Nat) (since:Nat) (seen:List Nat) (last:Nat)
 | dead
 | fiter (cur:Option (LV × LV)) (rest:List (LV × LV))
abbrev aa:=List al
def al.rw:al→Bool
 | .cells m _ | .map m _ _ _=>m.w
 | .iter ..=>true
 | .fiter ..=>true
 | .dead=>false
def al.live:al→Bool
 | .dead=>false
 | _=>true
def Entry (β:Lay) (e:LV × LV) (c:MapEntry):Prop:=Rp β e.1 c.key∧Rp β e.2 c.val
def Entries (β:Lay):List (LV × LV)→List MapEntry→Prop
 | [],vs=>vs=[]
 | c::cs,vs=>∃ v us,vs=v::us∧Entry β c v∧Entries β cs us
theorem Entries.mono {β β':Lay} (h:β.le β'):∀ {l:List (LV × LV)} {v:List MapEntry},Entries β l v→Entries β' l v
 | [],_,e=>e
 | _::_,_,⟨v,us,e,r,s⟩=>⟨v,us,e,⟨r.1.mono h,r.2.mono h⟩,Entries.mono h s⟩
def ItM (β:Lay):Option Nat→Option Nat→Prop
 | none,mb=>mb=none
 | some p,mb=>∃ b,β p=some b∧mb=some b.blk
theorem ItM.mono {β β':Lay} (h:β.le β'):∀ {p mb:Option Nat},ItM β p mb→ItM β' p mb
 | none,_,e=>e
 | some _,_,⟨b,e,r⟩=>⟨b,h.o _ _ e,r⟩
def FzI (β:Lay) (cur:Option (LV × LV)) (rest:List (LV × LV)) (mb:Nat) (seen:List Nat) (clk:Nat):Prop:=
 ∃ es,β.f mb=some (.map es clk)∧ja es clk∧(∃ lm,Entries β rest lm∧lm.Perm (es.toList.filter fun e=>!seen.contains e.born))∧
  match cur with
  | none=>True
  | some c=>∃ e ∈ es.toList,seen.getLast?=some e.born∧Entry β c e
theorem FzI.mono {β β':Lay} (h:β.le β') {cur:Option (LV × LV)} {rest:List (LV × LV)} {mb:Nat} {seen:List Nat} {clk:Nat} (k:FzI β cur rest mb seen clk):FzI β' cur rest mb seen clk:=by
 obtain ⟨es,h1,h2,⟨lm,h3,h4⟩,h5⟩:=k
 refine ⟨es,h.f _ _ h1,h2,⟨lm,h3.mono h,h4⟩,?_⟩
 cases cur with
 | none=>trivial
 | some c=>
  obtain ⟨e,he,hs,hc⟩:=h5
  exact ⟨e,he,hs,hc.1.mono h,hc.2.mono h⟩
def OR (N:Nat) (β:Lay) (w:World) (o:Nat):al→Prop
 | .dead=>True
 | .cells m l=>∃ b,β o=some b∧∃ c e fz,w.heap[b.blk]?=some (.cells c e fz)∧c.size=b.base+b.room∧l.length≤b.room∧
   (∀ i x,l[i]?=some x→∃ u,c[b.base+i]?=some u∧Rp β x u)∧Ad N m b c e fz
 | .map m es bs k=>∃ b,β o=some b∧∃ c,w.heap[b.blk]?=some (.map c k)∧Entries β es c.toList∧(m.w=true→N≤b.blk)∧ja c k∧c.toList.map (·.born)=bs
 | .iter om since seen last=>∃ b,β o=some b∧∃ mb,w.heap[b.blk]?=some (.mapIter mb since ⟨seen⟩ last)∧ItM β om mb∧b.base=0∧N≤b.blk
 | .fiter cur rest=>∃ b,β o=some b∧∃ mb seen clk,w.heap[b.blk]?=some (.mapIter (some mb) clk ⟨seen⟩ clk)∧FzI β cur rest mb seen clk∧b.base=0∧N≤b.blk
theorem OR.mono {N:Nat} {β β':Lay} {w:World} {o:Nat} (h:β.le β'):∀ {x:al},OR N β w o x→OR N β' w o x
 | .dead,_=>trivial
 | .cells _ _,⟨b,e,c,t,fz,h1,h2,h3,h4,h5⟩=>⟨b,h.o _ _ e,c,t,fz,h1,h2,h3,fun i x hx=>let ⟨u,hu,r⟩:=h4 i x hx;⟨u,hu,r.mono h⟩,h5⟩
 | .map _ _ _ _,⟨b,e,c,h1,h2,h3⟩=>⟨b,h.o _ _ e,c,h1,h2.mono h,h3⟩
 | .iter ..,⟨b,e,c,h1,h2,h3⟩=>⟨b,h.o _ _ e,c,h1,h2.mono h,h3⟩
 | .fiter ..,⟨b,e,c,s,k,h1,h2,h3⟩=>⟨b,h.o _ _ e,c,s,k,h1,h2.mono h,h3⟩
structure Bw (B:Nat) (w w':World):Prop extends Go.RowKit.Below B w w'
theorem Bw.refl (B:Nat) (w:World):Bw B w w:=⟨Go.RowKit.Below.refl B w⟩
theorem Bw.trans {B:Nat} {a b c:World} (h:Bw B a b) (k:Bw B b c):Bw B a c:=⟨h.toBelow.trans k.toBelow⟩
theorem Bw.mono {B C:Nat} {a b:World} (h:Bw B a b) (hc:C≤B):Bw C a b:=⟨h.toBelow.mono hc⟩
theorem Bw.drew {B:Nat} {a b:World} (h:Bw B a b):Bw B a b.drew:=⟨h.toBelow.drew⟩
theorem Bw.alloc {B:Nat} {a b:World} (h:Bw B a b) (hb:B≤a.heap.size) (o:Obj):Bw B a (b.alloc o):=⟨h.toBelow.alloc (Nat.le_trans hb h.size) o⟩
structure Rel (w0:World) (β:Lay) (st:aa) (w:World):Prop where
 below:Bw w0.heap.size w0 w
 dom:∀ o,st.length≤o→β o=none
 obj:∀ o x,st[o]?=some x→OR w0.heap.size β w o x
 sep:∀ o o' x x' b b',st[o]?=some x→x.rw=true→st[o']?=some x'→x'.live=true→o≠o'→β o=some b→β o'=some b'→b.blk≠b'.blk
 base:β.n=w0.heap.size
 froz:∀ b x,β.f b=some x→w.heap[b]?=some x
 sepf:∀ o x b,st[o]?=some x→x.rw=true→β o=some b→β.f b.blk=none
theorem ab:type_of% @Result.andThen_ok:=@Result.andThen_ok
theorem ae:type_of% @Sem.run_bind:=@Sem.run_bind
theorem an:type_of% @Sem.run_pure:=@Sem.run_pure
theorem bh.{u}:type_of% @List.getElem?_cons_zero.{u}:=@List.getElem?_cons_zero.{u}
theorem bE.{u}:type_of% @List.getElem?_cons_succ.{u}:=@List.getElem?_cons_succ.{u}
theorem av:type_of% @Nat.zero_add:=@Nat.zero_add
theorem ba.{u}:type_of% @List.getElem?_eq_getElem.{u}:=@List.getElem?_eq_getElem.{u}
theorem ao.{u}:type_of% @Option.some.injEq.{u}:=@Option.some.injEq.{u}
theorem a8.{u}:type_of% @List.length_nil.{u}:=@List.length_nil.{u}
theorem aN.{u}:type_of% @List.length_cons.{u}:=@List.length_cons.{u}
theorem bH.{u}:type_of% @List.getElem?_append_left.{u}:=@List.getElem?_append_left.{u}
theorem gf.{u}:type_of% @List.drop_eq_getElem_cons.{u}:=@List.drop_eq_getElem_cons.{u}
theorem dw.{u}:type_of% @List.drop_eq_nil_of_le.{u}:=@List.drop_eq_nil_of_le.{u}
theorem aF:type_of% @Bool.and_eq_true:=@Bool.and_eq_true
theorem ft:type_of% @decide_false:=@decide_false
theorem dT:type_of% @decide_true:=@decide_true
theorem aR.{u}:type_of% @List.nil_append.{u}:=@List.nil_append.{u}
theorem cb.{u,v}:type_of% @List.length_map.{u,v}:=@List.length_map.{u,v}
theorem eN:type_of% @Bool.not_false:=@Bool.not_false
theorem dU:type_of% @Bool.not_true:=@Bool.not_true
theorem gg.{u}:type_of% @List.length_append.{u}:=@List.length_append.{u}
theorem bU.{u,v}:type_of% @List.getElem?_map.{u,v}:=@List.getElem?_map.{u,v}
theorem qH.{u,v}:type_of% @List.mem_map.{u,v}:=@List.mem_map.{u,v}
theorem cd.{u}:type_of% @List.mem_of_getElem?.{u}:=@List.mem_of_getElem?.{u}
theorem wx.{u}:type_of% @List.length_replicate.{u}:=@List.length_replicate.{u}
abbrev LV.RT:=LV→aa→Prop
def LV.gx:Nat→Nat→List Nat→List Nat
 | _,0,_=>[]
 | i,n+1,[]=>i::LV.gx (i+1) n []
 | i,n+1,x::l=>bif Nat.beq i x then LV.gx (i+1) n l else i::LV.gx (i+1) n (x::l)
def LV.jk:Nat→List LV→List LV
 | 0,l=>l
 | n+1,l=>.aJ::LV.jk n l
def Lay.put (β:Lay) (n:Nat) (b:Bl):Lay:={ β with o:=fun o=>if o=n then some b else β o }
theorem Lay.cf {β:Lay} {n:Nat} {b:Bl} (h:β n=none):β.le (β.put n b):=by
 refine ⟨fun o x e=>?_,fun _ _ e=>e,rfl,fun _ _ e _=>e⟩
 show (if o=n then some b else β o)=some x
 by_cases ho:o=n
 ·subst ho;rw[h] at e;cases e
 ·rw[if_neg ho];exact e
theorem Lay.aM {β:Lay} {n:Nat} {b:Bl}:(β.put n b) n=some b:=by simp[Lay.put]
theorem Lay.dd {β:Lay} {n o:Nat} {b:Bl} (h:o≠n):(β.put n b) o=β o:=by simp[Lay.put,h]
theorem OR.live {N:Nat} {β:Lay} {w:World} {o:Nat} {x:al} (h:OR N β w o x) (hl:x.live=true):∃ b,β o=some b∧b.blk<w.heap.size:=by
 cases x with
 | dead=>simp[al.live] at hl
 | cells m l=>
  obtain ⟨b,hb,c,e,fz,hh,_⟩:=h
  exact ⟨b,hb,by rcases Nat.lt_or_ge b.blk w.heap.size with k|k;exact k;simp[Array.getElem?_eq_none k] at hh⟩
 | map m es bs k=>
  obtain ⟨b,hb,c,hh,_⟩:=h
  exact ⟨b,hb,by rcases Nat.lt_or_ge b.blk w.heap.size with k|k;exact k;simp[Array.getElem?_eq_none k] at hh⟩
 | iter=>
  obtain ⟨b,hb,c,hh,_⟩:=h
  exact ⟨b,hb,by rcases Nat.lt_or_ge b.blk w.heap.size with k|k;exact k;simp[Array.getElem?_eq_none k] at hh⟩
 | fiter=>
  obtain ⟨b,hb,c,_,_,hh,_⟩:=h
  exact ⟨b,hb,by rcases Nat.lt_or_ge b.blk w.heap.size with k|k;exact k;simp[Array.getElem?_eq_none k] at hh⟩
theorem OR.same {N:Nat} {β:Lay} {w w':World} {o:Nat} {x:al} (h:OR N β w o x) (hs:∀ b,β o=some b→x.live=true→w'.heap[b.blk]?=w.heap[b.blk]?):OR N β w' o x:=by
 cases x with
 | dead=>trivial
 | cells m l=>
  obtain ⟨b,hb,c,e,fz,hh,r⟩:=h
  exact ⟨b,hb,c,e,fz,by rw[hs b hb rfl];exact hh,r⟩
 | map m es bs k=>
  obtain ⟨b,hb,c,hh,r⟩:=h
  exact ⟨b,hb,c,by rw[hs b hb rfl];exact hh,r⟩
 | iter=>
  obtain ⟨b,hb,c,hh,r⟩:=h
  exact ⟨b,hb,c,by rw[hs b hb rfl];exact hh,r⟩
 | fiter=>
  obtain ⟨b,hb,c,s,k,hh,r⟩:=h
  exact ⟨b,hb,c,s,k,by rw[hs b hb rfl];exact hh,r⟩
theorem al.ey {x:al} (h:x.rw=true):x.live=true:=by
 cases x with
 | dead=>simp[al.rw] at h
 | cells m l=>rfl
 | map m es bs k=>rfl
 | iter=>rfl
 | fiter=>rfl
theorem OR.mR {N:Nat} {β:Lay} {w:World} {o:Nat} {x:al} {b:Bl} (h:OR N β w o x) (hx:x.rw=true) (hb:β o=some b):N≤b.blk:=by
 cases x with
 | dead=>simp[al.rw] at hx
 | cells m l=>
  obtain ⟨b',hb',c,e,fz,hh,_,_,_,r⟩:=h
  rw[hb] at hb';cases hb';exact (r.1 hx).1
 | map m es bs k=>
  obtain ⟨b',hb',c,hh,_,r,_⟩:=h
  rw[hb] at hb';cases hb';exact r hx
 | iter=>
  obtain ⟨b',hb',c,hh,_,_,r⟩:=h
  rw[hb] at hb';cases hb';exact r
 | fiter=>
  obtain ⟨b',hb',c,_,_,hh,_,_,r⟩:=h
  rw[hb] at hb';cases hb';exact r
section
variable {w0 w w':World} {β β':Lay} {st:aa}
theorem Rel.draw (h:Rel w0 β st w):Rel w0 β st w.drew:=
 ⟨h.below.drew,h.dom,fun o x hx=>(h.obj o x hx).same fun _ _ _=>rfl,h.sep,h.base,h.froz,h.sepf⟩
theorem Rel.qI (h:Rel w0 β st w) {n:Nat} (_hn:w.drawn≤n):Rel w0 β st { w with drawn:=n }:=
 ⟨⟨⟨h.below.os,h.below.tape,h.below.output,h.below.size,h.below.block⟩⟩,h.dom,fun o x hx=>(h.obj o x hx).same fun _ _ _=>rfl,h.sep,h.base,h.froz,h.sepf⟩
theorem Rel.grow (h:Rel w0 β st w) (o:Obj):Rel w0 β st (w.alloc o):=
 ⟨h.below.alloc (Nat.le_refl _) o,h.dom,fun i x hx=>(h.obj i x hx).same fun b hb hl=>by
  obtain ⟨b',hb',hlt⟩:=(h.obj i x hx).live hl
  rw[hb] at hb';cases hb'
  exact Below.heap_alloc w o _ hlt,h.sep,h.base,fun b x hx=>by
   have:=h.froz b x hx
   rw[Below.heap_alloc w o _ (by rcases Nat.lt_or_ge b w.heap.size with k|k;exact k;simp[Array.getElem?_eq_none k] at this)];exact this,h.sepf⟩
theorem Rel.upd {o:Nat} {x x':al} {b:Bl} (h:Rel w0 β st w) (ho:st[o]?=some x) (hx:x.rw=true) (hb:β o=some b)
  (hos:w'.os=w.os) (htape:w'.tape=w.tape) (hout:w'.output=w.output) (hsz:w'.heap.size=w.heap.size)
  (hw:∀ k,k≠b.blk→w'.heap[k]?=w.heap[k]?) (hx':OR w0.heap.size β w' o x'):Rel w0 β (st.set o x') w':=by
 have hN:=(h.obj o x ho).mR hx hb
 refine ⟨h.below.trans ⟨⟨hos,htape,hout,by omega,fun k hk=>hw k (by have:=h.below.size;omega)⟩⟩,fun i hi=>h.dom i (by simpa using hi),?_,?_,h.base,?_,?_⟩
 rotate_left 2
 ·intro k y hk
  have hne:k≠b.blk:=fun e=>by subst e;rw[h.sepf o x b ho hx hb] at hk;cases hk
  rw[hw k hne];exact h.froz k y hk
 ·intro i y b1 hy hyr h1
  by_cases hio:i=o
  ·subst hio;exact h.sepf i x b1 ho hx h1
  ·exact h.sepf i y b1 (by simpa[List.getElem?_set,Ne.symm hio] using hy) hyr h1
 ·intro i y hy
  by_cases hio:i=o
  ·subst hio
   have hlt:i<st.length:=by
    rcases Nat.lt_or_ge i st.length with k|k
    ·exact k
    ·simp[List.getElem?_eq_none k] at ho
   simp[hlt] at hy;subst hy;exact hx'
  ·have hy':st[i]?=some y:=by simpa[List.getElem?_set,Ne.symm hio] using hy
   exact (h.obj i y hy').same fun b' hb' hl=>hw _ (fun e=>h.sep o i x y b b' ho hx hy' hl (Ne.symm hio) hb hb' e.symm)
 ·intro i j y z b1 b2 hy hyr hz hzl hij h1 h2
  by_cases hio:i=o
  ·subst hio
   have hz':st[j]?=some z:=by simpa[List.getElem?_set,hij] using hz
   exact h.sep i j x z b1 b2 ho hx hz' hzl hij h1 h2
  ·have hy':st[i]?=some y:=by simpa[List.getElem?_set,Ne.symm hio] using hy
   by_cases hjo:j=o
   ·subst hjo
    exact h.sep i j y x b1 b2 hy' hyr ho (al.ey hx) hij h1 h2
   ·have hz':st[j]?=some z:=by simpa[List.getElem?_set,Ne.symm hjo] using hz
    exact h.sep i j y z b1 b2 hy' hyr hz' hzl hij h1 h2
theorem Rel.weaken {o:Nat} {x x':al} (h:Rel w0 β st w) (ho:st[o]?=some x) (hrw:x'.rw=true→x.rw=true) (hlive:x'.live=true→x.live=true)
  (hx':OR w0.heap.size β w o x→OR w0.heap.size β w o x'):Rel w0 β (st.set o x') w:=by
 have hlt:o<st.length:=by
  rcases Nat.lt_or_ge o st.length with k|k
  ·exact k
  ·simp[List.getElem?_eq_none k] at ho
 refine ⟨h.below,fun i hi=>h.dom i (by simpa using hi),?_,?_,h.base,h.froz,?_⟩
 rotate_left 2
 ·intro i y b1 hy hyr h1
  by_cases hio:i=o
  ·subst hio;simp[hlt] at hy;subst hy;exact h.sepf i x b1 ho (hrw hyr) h1
  ·exact h.sepf i y b1 (by simpa[List.getElem?_set,Ne.symm hio] using hy) hyr h1
 ·intro i y hy
  by_cases hio:i=o
  ·subst hio;simp[hlt] at hy;subst hy;exact hx' (h.obj i x ho)
  ·exact h.obj i y (by simpa[List.getElem?_set,Ne.symm hio] using hy)
 ·intro i j y z b1 b2 hy hyr hz hzl hij h1 h2
  have hy':∃ y',st[i]?=some y'∧y'.rw=true:=by
   by_cases hio:i=o
   ·subst hio;simp[hlt] at hy;subst hy;exact ⟨x,ho,hrw hyr⟩
   ·exact ⟨y,by simpa[List.getElem?_set,Ne.symm hio] using hy,hyr⟩
  have hz':∃ z',st[j]?=some z'∧z'.live=true:=by
   by_cases hjo:j=o
   ·subst hjo;simp[hlt] at hz;subst hz;exact ⟨x,ho,hlive hzl⟩
   ·exact ⟨z,by simpa[List.getElem?_set,Ne.symm hjo] using hz,hzl⟩
  obtain ⟨y',e1,e2⟩:=hy'
  obtain ⟨z',e3,e4⟩:=hz'
  exact h.sep i j y' z' b1 b2 e1 e2 e3 e4 hij h1 h2
theorem Rel.push {x:al} {b:Bl} (h:Rel w0 β st w) (hf:∀ o y b',st[o]?=some y→y.live=true→β o=some b'→b'.blk≠b.blk)
  (hx:OR w0.heap.size (β.put st.length b) w st.length x) (hff:x.rw=true→β.f b.blk=none):Rel w0 (β.put st.length b) (st++[x]) w:=by
 have hle:β.le (β.put st.length b):=Lay.cf (h.dom _ (Nat.le_refl _))
 refine ⟨h.below,?_,?_,?_,h.base,h.froz,?_⟩
 rotate_left 3
 ·intro o y b1 hy hyr h1
  show β.f b1.blk=none
  rcases Nat.lt_trichotomy o st.length with k|k|k
  ·rw[bH k] at hy
   rw[Lay.dd (by omega)] at h1
   exact h.sepf o y b1 hy hyr h1
  ·subst k
   simp at hy;subst hy
   rw[Lay.aM] at h1;cases h1
   exact hff hyr
  ·rw[List.getElem?_eq_none (by simp;omega)] at hy;cases hy
 ·intro o ho
  simp at ho
  rw[Lay.dd (by omega)];exact h.dom o (by omega)
 ·intro o y hy
  rcases Nat.lt_trichotomy o st.length with k|k|k
  ·rw[bH k] at hy
   exact (h.obj o y hy).mono hle
  ·subst k;simp at hy;subst hy;exact hx
  ·simp[List.getElem?_append_right (Nat.le_of_lt k)] at hy
   have:o-st.length≠0:=by omega
   cases hh:o-st.length with
   | zero=>omega
   | succ n=>simp[hh] at hy
 ·intro o o' y y' b1 b2 hy hyr hy' hyl hne h1 h2
  have get:∀ {i:Nat} {z:al},(st++[x])[i]?=some z→i<st.length∧st[i]?=some z∨i=st.length:=by
   intro i z hz
   rcases Nat.lt_or_ge i st.length with k|k
   ·rw[bH k] at hz;exact .inl ⟨k,hz⟩
   ·have:i<(st++[x]).length:=by
     rcases Nat.lt_or_ge i (st++[x]).length with k' | k'
     ·exact k'
     ·simp[List.getElem?_eq_none k'] at hz
    simp at this;exact .inr (by omega)
  rcases get hy with ⟨k,g⟩ | k
  ·rw[Lay.dd (by omega)] at h1
   rcases get hy' with ⟨k',g'⟩ | k'
   ·rw[Lay.dd (by omega)] at h2
    exact h.sep o o' y y' b1 b2 g hyr g' hyl hne h1 h2
   ·subst k';rw[Lay.aM] at h2;cases h2
    exact hf o y b1 g (al.ey hyr) h1
  ·subst k;rw[Lay.aM] at h1;cases h1
   rcases get hy' with ⟨k',g'⟩ | k'
   ·rw[Lay.dd (by omega)] at h2
    exact fun e=>hf o' y' b2 g' hyl h2 e.symm
   ·exact absurd k'.symm hne
theorem cX (w:World) (o:Obj):(w.alloc o).heap=w.heap.push o:=rfl
theorem Rel.fresh (h:Rel w0 β st w):β.f w.heap.size=none:=by
 cases hf:β.f w.heap.size with
 | none=>rfl
 | some x=>have:=h.froz _ _ hf;simp at this
theorem Rel.alloc {m:Md} {l:List LV} {c:Array Value} {e:TypeId} {fz:Nat × Nat} (h:Rel w0 β st w) (hl:l.length≤c.size)
  (hc:∀ (i:Nat) (x:LV),l[i]?=some x→∃ u,c[i]?=some u∧Rp β x u) (hfz:∀ j,j<c.size→¬(fz.1≤j∧j<fz.2))
  (hm:m=.rw∨m=.ro∨m=.bt e:=by first|exact .inl rfl|exact .inr (.inr rfl) | exact .inr (.inl rfl)) :
  Rel w0 (β.put st.length ⟨w.heap.size,0,c.size⟩) (st++[.cells m l]) (w.alloc (.cells c e fz)):=by
 have hle:β.le (β.put st.length ⟨w.heap.size,0,c.size⟩):=Lay.cf (h.dom _ (Nat.le_refl _))
 refine (h.grow _).push ?_ ?_ fun _=>h.fresh
 ·intro o y b' hy hl hb'
  obtain ⟨b'',hb'',hlt⟩:=(h.obj o y hy).live hl
  rw[hb'] at hb'';cases hb''
  show b'.blk≠w.heap.size
  omega
 ·refine ⟨_,Lay.aM,c,e,fz,by simp[cX],by simp,hl,?_,fun _=>⟨h.below.size,hfz⟩,?_,?_⟩
  rotate_left
  ·rintro t rfl;rcases hm with k|k|k<;>cases k;exact ⟨rfl,rfl⟩
  ·rintro g n rfl;rcases hm with k|k|k<;>cases k
  intro i x hx
  obtain ⟨u,hu,r⟩:=hc i x hx
  exact ⟨u,by simpa using hu,r.mono hle⟩
theorem Rel.allocMap {m:Md} (h:Rel w0 β st w) :
  Rel w0 (β.put st.length ⟨w.heap.size,0,0⟩) (st++[.map m [] [] 0]) (w.alloc (.map #[] 0)):=by
 refine (h.grow _).push ?_ ?_ fun _=>h.fresh
 ·intro o y b' hy hl hb'
  obtain ⟨b'',hb'',hlt⟩:=(h.obj o y hy).live hl
  rw[hb'] at hb'';cases hb''
  show b'.blk≠w.heap.size
  omega
 ·exact ⟨_,Lay.aM,#[],by simp[cX],by simp[Entries],fun _=>h.below.size,by simp[ja],rfl⟩
theorem Rel.lt {o:Nat} {b:Bl} (h:Rel w0 β st w) (hb:β o=some b):o<st.length:=by
 rcases Nat.lt_or_ge o st.length with k|k
 ·exact k
 ·rw[h.dom o k] at hb;cases hb
theorem Rel.cell {o k:Nat} {m:Md} {l:List LV} {b:Bl} {x:LV} (h:Rel w0 β st w) (ho:st[o]?=some (.cells m l)) (hb:β o=some b) (hk:l[k]?=some x) :
  ∃ u,w.cell? ⟨b.blk,b.base+k,none⟩=some u∧Rp β x u:=by
 obtain ⟨b',hb',c,e,fz,hh,h1,h2,h3,h4⟩:=h.obj o _ ho
 rw[hb] at hb';cases hb'
 obtain ⟨u,hu,r⟩:=h3 k x hk
 exact ⟨u,by simp[World.cell?,hh,hu],r⟩
end
end Go.CP
