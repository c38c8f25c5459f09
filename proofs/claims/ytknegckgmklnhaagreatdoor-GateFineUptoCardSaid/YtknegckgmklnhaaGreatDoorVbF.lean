/- Parts of the proof. -/
import Derived.Test.YtknegckgmklnhaaGreatDoorVbR7
namespace Go.CP
def iy (k:Tx):List AT→Option AT
 | []=>none
 | a::l=>if a.nm=k then some a else iy k l
def jf (l:List AT):List (Tx × T)→Tx × Int
 | []=>([],0)
 | e::es=>match iy e.1 l with
  | none=>(e.1,7)
  | some a=>if dw a.ty e.2 then jf l es else (e.1,6)
def dd (l:List AT) (v:T):Tx × Int:=match v with
 | .map es=>jf l es
 | _=>([],6)
def cf (v:T) (k:Tx):T:=(v.at k).getD .null
def gM (v:T):List AT→Tx × Int
 | []=>([],0)
 | a::l=>if a.must&&decide ((cf v a.nm).kind=0) then (a.nm,8) else gM v l
def fu (l:List AT) (v:T):Tx × Int:=if (dd l v).2=0 then gM v l else dd l v
def qy (v:T):List AT→Tx × Int
 | []=>([],0)
 | a::l=>if (v.at a.nm).isSome then qy v l else (a.nm,8)
def cb (l:List AT) (v:T):Tx × Int:=if (dd l v).2=0 then qy v l else dd l v
def iz (v:T) (a:AT):T:=if a.own&&decide ((cf v a.nm).kind=0) then .unknown else cf v a.nm
def cN (l:List AT) (v:T):List (Tx × T):=l.map fun a=>(a.nm,iz v a)
def dS (l:List AT) (v:T):T:=.map (cN l v)
structure ST.ok (s:ST):Prop where
 ver:0≤s.ver∧s.ver≤1000
 len:s.l.length≤16
 rise:(s.l.map (·.nm)).Pairwise ltB
 nm:∀ a ∈ s.l,named a.nm=true
 ty:∀ a ∈ s.l,a.ty.wf 8
 mo:∀ a ∈ s.l,(a.must&&a.own)=false
theorem uf {t:T}:t.kind=0↔t=.null:=by cases t<;>simp[T.kind]
theorem A0 {k:KT}:dw k .null=true:=by cases k;simp[dw,dh,T.kind]
theorem tC {k:KT}:dw k .unknown=true:=by cases k;simp[dw,dh,T.kind]
theorem pA {k:Tx}:∀ {l:List AT} {a:AT},iy k l=some a→a ∈ l∧a.nm=k
 | x::l,a,h=>by
  unfold iy at h
  split at h
  ·simp only[Option.some.injEq] at h;subst h;exact ⟨by simp,by assumption⟩
  ·have:=pA h;exact ⟨List.mem_cons_of_mem _ this.1,this.2⟩
theorem yH {l:List AT} (h:(l.map (·.nm)).Pairwise ltB) {a:AT} (ha:a ∈ l):iy a.nm l=some a:=by
 induction l with
 | nil=>cases ha
 | cons x l ih=>
  simp only[List.map_cons,List.pairwise_cons] at h
  unfold iy
  rcases List.mem_cons.1 ha with rfl|ha
  ·rw[if_pos rfl]
  ·rw[if_neg (mV (h.1 _ (List.mem_map.2 ⟨a,ha,rfl⟩)))]
   exact ih h.2 ha
theorem lV {l:List AT}:∀ {es:List (Tx × T)},(jf l es).2=0↔∀ e ∈ es,∃ a,iy e.1 l=some a∧dw a.ty e.2=true
 | []=>by simp[jf]
 | e::es=>by
  unfold jf
  cases hf:iy e.1 l with
  | none=>simp[hf]
  | some a=>
   simp only
   split
   ·rename_i ht
    rw[lV]
    simp[hf,ht]
   ·rename_i ht
    simp[hf,ht]
theorem sK {v:T}:∀ {l:List AT},(gM v l).2=0↔∀ a ∈ l,a.must=true→cf v a.nm≠.null
 | []=>by simp[gM]
 | a::l=>by
  unfold gM
  split
  ·rename_i h
   simp only[Bool.and_eq_true,decide_eq_true_eq,uf] at h
   simp[h.1,h.2]
  ·rename_i h
   simp only[Bool.and_eq_true,decide_eq_true_eq,uf,not_and] at h
   rw[sK]
   simp only[List.mem_cons,forall_eq_or_imp]
   exact ⟨fun k=>⟨h,k⟩,fun k=>k.2⟩
theorem CY {v:T}:∀ {l:List AT},(qy v l).2=0↔∀ a ∈ l,(v.at a.nm).isSome=true
 | []=>by simp[qy]
 | a::l=>by
  unfold qy
  split
  ·rename_i h
   rw[CY]
   simp[h]
  ·rename_i h
   simp[h]
theorem yI {l:List AT} {v:T}:(fu l v).2=0↔(dd l v).2=0∧∀ a ∈ l,a.must=true→cf v a.nm≠.null:=by
 unfold fu
 split
 ·rename_i h;rw[sK];simp[h]
 ·rename_i h;simp[h]
theorem ug {l:List AT} {v:T}:(cb l v).2=0↔(dd l v).2=0∧∀ a ∈ l,(v.at a.nm).isSome=true:=by
 unfold cb
 split
 ·rename_i h;rw[CY];simp[h]
 ·rename_i h;simp[h]
theorem GQ {g:AT→T} {l:List AT} (h:(l.map (·.nm)).Pairwise ltB) {a:AT} (ha:a ∈ l):T.find (l.map fun a=>(a.nm,g a)) a.nm=some (g a):=by
 refine T.iQ ?_ (List.mem_map.2 ⟨a,ha,rfl⟩)
 rw[List.map_map]
 exact cJ h
theorem pB {l:List AT} {v:T} (h:(l.map (·.nm)).Pairwise ltB) {a:AT} (ha:a ∈ l):(dS l v).at a.nm=some (iz v a):=GQ h ha
theorem Er {l:List AT} {v:T} (h:(dd l v).2=0) (hl:(l.map (·.nm)).Pairwise ltB) {a:AT} (ha:a ∈ l):dw a.ty (cf v a.nm)=true:=by
 cases v<;>simp only[dd] at h<;>try (simp at h;done)
 rename_i es
 show dw a.ty ((T.find es a.nm).getD .null)=true
 cases hf:T.find es a.nm with
 | none=>exact A0
 | some t=>
  obtain ⟨b,h1,h2⟩:=lV.1 h _ (T.k9 hf)
  rw[yH hl ha] at h1
  cases h1
  exact h2
theorem Es {s:ST} (hs:s.ok) {v:T} (h:(fu s.l v).2=0):fu s.l (dS s.l v)=([],0):=by
 obtain ⟨h1,h2⟩:=yI.1 h
 have t1:(dd s.l (dS s.l v)).2=0:=by
  refine lV.2 fun e he=>?_
  obtain ⟨a,ha,rfl⟩:=List.mem_map.1 he
  refine ⟨a,yH hs.rise ha,?_⟩
  show dw a.ty (iz v a)=true
  unfold iz
  split
  ·exact tC
  ·exact Er h1 hs.rise ha
 have t2:(gM (dS s.l v) s.l).2=0:=by
  refine sK.2 fun a ha hm=>?_
  rw[cf,pB hs.rise ha]
  show iz v a≠.null
  unfold iz
  split
  ·simp
  ·exact h2 a ha hm
 have t3:∀ {l:List AT} {v:T},(gM v l).2=0→gM v l=([],0):=by
  intro l v
  induction l with
  | nil=>exact fun _=>rfl
  | cons a l ih=>
   unfold gM
   split
   ·intro h;simp at h
   ·exact ih
 unfold fu
 rw[if_pos t1,t3 t2]
theorem A1 {s:ST} (hs:s.ok) {v:T} (h:(fu s.l v).2=0):(cb s.l (dS s.l v)).2=0:=by
 refine ug.2 ⟨(yI.1 (by rw[Es hs h])).1,fun a ha=>by rw[pB hs.rise ha];rfl⟩
end Go.CP
