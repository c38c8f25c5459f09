/- What is wrong with a configuration, by a schema; a configuration, filled: plain. -/
import Derived.Test.YtknegckgmklnhaaGreatDoorVbR7
namespace Go.CP
def gW (k:Tx):List AT→Option AT
 | []=>none
 | a::l=>if a.nm=k then some a else gW k l
def iG (l:List AT):List (Tx × T)→Tx × Int
 | []=>([],0)
 | e::es=>match gW e.1 l with
  | none=>(e.1,7)
  | some a=>if da a.ty e.2 then iG l es else (e.1,6)
def eD (l:List AT) (v:T):Tx × Int:=match v with
 | .map es=>iG l es
 | _=>([],6)
def dA (v:T) (k:Tx):T:=(v.at k).getD .null
def gj (v:T):List AT→Tx × Int
 | []=>([],0)
 | a::l=>if a.must&&decide ((dA v a.nm).kind=0) then (a.nm,8) else gj v l
def eW (l:List AT) (v:T):Tx × Int:=if (eD l v).2=0 then gj v l else eD l v
def eX (v:T) (a:AT):T:=if a.own&&decide ((dA v a.nm).kind=0) then .unknown else dA v a.nm
def dc (l:List AT) (v:T):List (Tx × T):=l.map fun a=>(a.nm,eX v a)
def dR (l:List AT) (v:T):T:=.map (dc l v)
structure ST.ok (s:ST):Prop where
 ver:0≤s.ver∧s.ver≤1000
 len:s.l.length≤16
 rise:(s.l.map (·.nm)).Pairwise ltB
 nm:∀ a ∈ s.l,named a.nm=true
 ty:∀ a ∈ s.l,a.ty.wf 8
 mo:∀ a ∈ s.l,(a.must&&a.own)=false
theorem kZ {t:T}:t.kind=0↔t=.null:=by cases t<;>simp[T.kind]
theorem xJ {k:KT}:da k .null=true:=by cases k;simp[da,cV,T.kind]
theorem rG {k:KT}:da k .unknown=true:=by cases k;simp[da,cV,T.kind]
theorem si {k:Tx}:∀ {l:List AT} {a:AT},gW k l=some a→a ∈ l∧a.nm=k
 | x::l,a,h=>by
  unfold gW at h
  split at h
  ·simp only[Option.some.injEq] at h;subst h;exact ⟨by simp,by assumption⟩
  ·have:=si h;exact ⟨List.mem_cons_of_mem _ this.1,this.2⟩
theorem vQ {l:List AT} (h:(l.map (·.nm)).Pairwise ltB) {a:AT} (ha:a ∈ l):gW a.nm l=some a:=by
 induction l with
 | nil=>cases ha
 | cons x l ih=>
  simp only[List.map_cons,List.pairwise_cons] at h
  unfold gW
  rcases List.mem_cons.1 ha with rfl|ha
  ·rw[if_pos rfl]
  ·rw[if_neg (qL (h.1 _ (List.mem_map.2 ⟨a,ha,rfl⟩)))]
   exact ih h.2 ha
theorem oq {l:List AT}:∀ {es:List (Tx × T)},(iG l es).2=0↔∀ e ∈ es,∃ a,gW e.1 l=some a∧da a.ty e.2=true
 | []=>by simp[iG]
 | e::es=>by
  unfold iG
  cases hf:gW e.1 l with
  | none=>simp[hf]
  | some a=>
   simp only
   split
   ·rename_i ht
    rw[oq]
    simp[hf,ht]
   ·rename_i ht
    simp[hf,ht]
theorem q6 {v:T}:∀ {l:List AT},(gj v l).2=0↔∀ a ∈ l,a.must=true→dA v a.nm≠.null
 | []=>by simp[gj]
 | a::l=>by
  unfold gj
  split
  ·rename_i h
   simp only[Bool.and_eq_true,decide_eq_true_eq,kZ] at h
   simp[h.1,h.2]
  ·rename_i h
   simp only[Bool.and_eq_true,decide_eq_true_eq,kZ,not_and] at h
   rw[q6]
   simp only[List.mem_cons,forall_eq_or_imp]
   exact ⟨fun k=>⟨h,k⟩,fun k=>k.2⟩
theorem BP {l:List AT} {v:T}:(eW l v).2=0↔(eD l v).2=0∧∀ a ∈ l,a.must=true→dA v a.nm≠.null:=by
 unfold eW
 split
 ·rename_i h;rw[q6];simp[h]
 ·rename_i h;simp[h]
theorem BQ {g:AT→T} {l:List AT} (h:(l.map (·.nm)).Pairwise ltB) {a:AT} (ha:a ∈ l):T.find (l.map fun a=>(a.nm,g a)) a.nm=some (g a):=by
 refine T.ko ?_ (List.mem_map.2 ⟨a,ha,rfl⟩)
 rw[List.map_map]
 exact cQ h
theorem ot {l:List AT} {v:T} (h:(l.map (·.nm)).Pairwise ltB) {a:AT} (ha:a ∈ l):(dR l v).at a.nm=some (eX v a):=BQ h ha
theorem Ap {l:List AT} {v:T} (h:(eD l v).2=0) (hl:(l.map (·.nm)).Pairwise ltB) {a:AT} (ha:a ∈ l):da a.ty (dA v a.nm)=true:=by
 cases v<;>simp only[eD] at h<;>try (simp at h;done)
 rename_i es
 show da a.ty ((T.find es a.nm).getD .null)=true
 cases hf:T.find es a.nm with
 | none=>exact xJ
 | some t=>
  obtain ⟨b,h1,h2⟩:=oq.1 h _ (T.mO hf)
  rw[vQ hl ha] at h1
  cases h1
  exact h2
theorem Aq {s:ST} (hs:s.ok) {v:T} (h:(eW s.l v).2=0):eW s.l (dR s.l v)=([],0):=by
 obtain ⟨h1,h2⟩:=BP.1 h
 have t1:(eD s.l (dR s.l v)).2=0:=by
  refine oq.2 fun e he=>?_
  obtain ⟨a,ha,rfl⟩:=List.mem_map.1 he
  refine ⟨a,vQ hs.rise ha,?_⟩
  show da a.ty (eX v a)=true
  unfold eX
  split
  ·exact rG
  ·exact Ap h1 hs.rise ha
 have t2:(gj (dR s.l v) s.l).2=0:=by
  refine q6.2 fun a ha hm=>?_
  rw[dA,ot hs.rise ha]
  show eX v a≠.null
  unfold eX
  split
  ·simp
  ·exact h2 a ha hm
 have t3:∀ {l:List AT} {v:T},(gj v l).2=0→gj v l=([],0):=by
  intro l v
  induction l with
  | nil=>exact fun _=>rfl
  | cons a l ih=>
   unfold gj
   split
   ·intro h;simp at h
   ·exact ih
 unfold eW
 rw[if_pos t1,t3 t2]
theorem Ar {s:ST} (hs:s.ok) {v:T}:dR s.l (dR s.l v)=dR s.l v:=by
 unfold dR
 congr 1
 refine List.map_congr_left fun a ha=>?_
 congr 1
 have e:dA (dR s.l v) a.nm=eX v a:=by rw[dA,ot hs.rise ha];rfl
 show (if a.own&&decide ((dA (dR s.l v) a.nm).kind=0) then T.unknown else dA (dR s.l v) a.nm)=eX v a
 rw[e]
 split
 ·rename_i h
  simp only[Bool.and_eq_true,decide_eq_true_eq,kZ] at h
  unfold eX at h ⊢
  split
  ·rfl
  ·rename_i h3
   rw[if_neg h3] at h
   simp only[Bool.and_eq_true,decide_eq_true_eq,kZ,not_and] at h3
   exact absurd h.2 (h3 h.1)
 ·rfl
end Go.CP
