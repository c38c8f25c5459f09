/- Parts of the proof. -/
import Derived.Test.YtknegckgmklnhaaGreatDoorVaC3
import Derived.Test.YtknegckgmklnhaaGreatDoorVbF
namespace Go.Proofs.YtknegckgmklnhaaGreatDoor
open Go Go.CP Classical
set_option maxRecDepth 100000
theorem sQ {α:Type}:∀ {l:List α} {p:α × List α},p ∈ gH l→(p.1::p.2).Perm l
 | [],p,h=>by simp[gH] at h
 | x::xs,p,h=>by
  simp only[gH,List.mem_cons,List.mem_map] at h
  rcases h with rfl|⟨q,hq,rfl⟩
  ·exact .refl _
  ·exact (List.Perm.swap x q.1 q.2).trans ((sQ hq).cons x)
theorem um {α β:Type} {f:α→β}:∀ {l:List α},gH (l.map f)=(gH l).map fun p=>(f p.1,p.2.map f)
 | []=>rfl
 | x::xs=>by
  simp only[List.map_cons,gH,um (l:=xs),List.map_map]
  rfl
theorem Od {es:List (List UInt8 × T)}:(es.map fun e=>LV.str e.1).zip (iG es)=mE es:=by
 rw[qM]
 induction es with
 | nil=>rfl
 | cons e es ih=>simp only[List.map_cons,List.zip_cons_cons,ih,mE]
def InE (p:T→T→Prop) (es' rest:List (List UInt8 × T)):Prop:=∀ e ∈ rest,∃ y,T.find es' e.1=some y∧p e.2 y
theorem Jk {es es':List (List UInt8 × T)} {p:T→T→Prop} (hn:(es'.map (·.1)).Nodup) {g:FuncId} (hg:∀ e ∈ es,∀ y,T.find es' e.1=some y→Pu Tryz.prog g [vT e.2,vT y] (.bool (decide (p e.2 y)))) {R:LV→aa→Prop} :
  ∀ (n:Nat) (rest:List (List UInt8 × T)),rest.length=n→(∀ e ∈ rest,e ∈ es)→∀ (st:aa) (o:Nat) (cur:Option (LV × LV)),st[o]?=some (.fiter cur (mE rest))→(∀ s,R (.bool (decide (InE p es' rest))) s)→
   vh (.imap (es'.map fun e=>.str e.1) (iG es')) (.fn (.func g) [] []) (.ptr o 0) R st:=by
 intro n
 induction n with
 | zero=>
  intro rest hl _ st o cur ho hR
  obtain rfl:=List.eq_nil_of_length_eq_zero hl
  apply Fs
  have e:dD st (.ptr o 0)=some [(.tup [.bool false],st)]:=by simp only[dD,ho,mE,List.map_nil]
  have:=hR st
  rw[decide_eq_true (show InE p es' [] from fun e h=>by cases h)] at this
  simp only[vn,kx,e,ab,EY,aw,List.getElem?_cons_zero,af,and_true]
  exact this
 | succ n ih=>
  intro rest hl hsub st o cur ho hR
  apply Fs
  obtain ⟨x,xs,rfl⟩:∃ x xs,rest=x::xs:=by
   cases rest with
   | nil=>simp at hl
   | cons x xs=>exact ⟨x,xs,rfl⟩
  have e:dD st (.ptr o 0)=some ((gH (mE (x::xs))).map fun q=>(.tup [.bool true,q.1.1,q.1.2],st.set o (.fiter (some q.1) q.2))):=by
   simp only[dD,ho,mE,List.map_cons]
  simp only[vn,kx,e,ab]
  refine BT fun q hq=>?_
  obtain ⟨q',hq',rfl⟩:=List.mem_map.1 hq
  simp only[mE] at hq'
  rw[um] at hq'
  obtain ⟨⟨⟨k,t⟩,l⟩,hpk,rfl⟩:=List.mem_map.1 hq'
  have hperm:=sQ hpk
  have ho1:(st.set o (.fiter (some (.str k,vT t)) (mE l)))[o]?=some (.fiter (some (.str k,vT t)) (mE l)):=bx ho
  have hin:(k,t) ∈ x::xs:=hperm.mem_iff.1 List.mem_cons_self
  generalize st.set o (.fiter (some (.str k,vT t)) (mE l))=st1 at ho1
  have e2:oM st1 (.ptr o 0)=some (.tup [.str k,vT t]):=by simp only[oM,ho1]
  simp only[aw,List.getElem?_cons_zero,List.getElem?_cons_succ,ab,ah,e2,bQ,cI,az,ag,AM hn,if_true]
  have hl2:l.length=n:=by have:=hperm.length_eq;simp at this hl;omega
  rcases hf:T.find es' k with _|y
  ·simp only[Option.getD_none,Option.isSome_none,aZ,ab,Bool.not_false,ah]
   have:=hR (st1++[.cells .rw [lvT t]]++[.cells .rw [lvT .null]])
   rwa [decide_eq_false (fun h=>by obtain ⟨y,h1,_⟩:=h _ hin;rw[hf] at h1;cases h1)] at this
  ·have e3:oT (.fn (.func g) [] []) [vT t,vT y]=some (g,[vT t,vT y]):=rfl
   simp only[Option.getD_some,Option.isSome_some,ag,aZ,ab,Bool.not_true,af,gR,sy,e3]
   refine (hg _ (hsub _ hin) y hf).call ?_
   simp only[aZ,ab,bN]
   refine ⟨fun h=>?_,fun h=>?_⟩
   ·have hp:¬ p t y:=by simpa using h
    have:=hR (st1++[.cells .rw [lvT t]]++[.cells .rw [lvT y]])
    rwa [decide_eq_false (fun h=>by obtain ⟨y',h1,h2⟩:=h _ hin;rw[hf] at h1;cases h1;exact hp h2)] at this
   ·have hp:p t y:=by simpa using h
    refine ih l hl2 (fun e he=>hsub e (hperm.mem_iff.1 (List.mem_cons_of_mem _ he))) _ o _ (bH (bH ho1)) fun s=>?_
    have:=hR s
    have e4:InE p es' (x::xs)=InE p es' l:=propext ⟨fun h e he=>h e (hperm.mem_iff.1 (List.mem_cons_of_mem _ he)),fun h e he=>by
     rcases List.mem_cons.1 (hperm.mem_iff.2 he) with rfl|he
     ·exact ⟨y,hf,hp⟩
     ·exact h e he⟩
    rwa [e4] at this
theorem Mo {es es':List (List UInt8 × T)} {p:T→T→Prop} (hn:(es'.map (·.1)).Nodup) {g:FuncId} (hg:∀ e ∈ es,∀ y,T.find es' e.1=some y→Pu Tryz.prog g [vT e.2,vT y] (.bool (decide (p e.2 y)))) :
  Pu Tryz.prog 114 [.imap (es.map fun e=>.str e.1) (iG es),.imap (es'.map fun e=>.str e.1) (iG es'),.fn (.func g) [] []] (.bool (decide (es.length=es'.length∧InE p es' es))):=by
 refine Pu.of (OA _ _ _ ?_) (by simp only[LV.aB,LV.plain,mY,Bool.and_true,bB (f:=fun e:List UInt8 × T=>LV.str e.1) fun _ _=>rfl]) rfl
 have e1:∀ {es:List (List UInt8 × T)} {st:aa},oO st (.imap (es.map fun e=>.str e.1) (iG es))=some (i64 es.length):=fun {es st}=>by simp only[oO,List.length_map]
 simp only[Lx,e1,ab,ae,bz,bN]
 refine ⟨fun h=>?_,fun h=>?_⟩
 ·have hne:es.length≠es'.length:=fun e=>by simp[e] at h
  rw[decide_eq_false (fun k=>hne k.1)];rfl
 ·have he:es.length=es'.length:=by
   have h1:(es.length:Int)=es'.length:=by simpa using h
   omega
  have e2:∀ {st:aa},oJ Tryz.prog st 173 (.imap (es.map fun e=>.str e.1) (iG es))=some (.ptr st.length 0,st++[.fiter none (mE es)]):=fun {st}=>by
   unfold oJ
   rw[Tryz.underlying173]
   simp only[List.length_map,sv,if_true,Od]
  rw[e2]
  simp only[ag]
  refine Jk hn hg es.length es rfl (fun _ h=>h) _ _ none (by simp) fun s=>?_
  by_cases hI:InE p es' es
  ·rw[decide_eq_true hI,decide_eq_true ⟨he,hI⟩];rfl
  ·rw[decide_eq_false hI,decide_eq_false fun h=>hI h.2];rfl
theorem G9 {x y:Bool}:ia Tryz.prog 4 (.bool x) (.bool y)=some (x==y):=by kernel_rfl
theorem Jl {x y:Int}:ia Tryz.prog 3 (.int .i64 x) (.int .i64 y)=some (x==y):=by kernel_rfl
theorem Jm {x y:List UInt8}:ia Tryz.prog 9 (.str x) (.str y)=some (x==y):=by kernel_rfl
theorem Ha {a b c d:Nat}:ia Tryz.prog 170 (.cplx .f64 a b) (.cplx .f64 c d)=some (Op.floatEq .f64 a c&&Op.floatEq .f64 b d):=by kernel_rfl
theorem C8:∀ {a b:List (List UInt8)},a.Nodup→(∀ x ∈ a,x ∈ b)→a.length≤b.length
 | [],_,_,_=>by simp
 | x::a,b,h,hs=>by
  rw[List.nodup_cons] at h
  have hx:=hs x (by simp)
  have h1:=C8 (a:=a) (b:=b.erase x) h.2 fun y hy=>by
   have hne:y≠x:=fun e=>h.1 (e ▸ hy)
   exact (List.mem_erase_of_ne hne).2 (hs y (List.mem_cons_of_mem _ hy))
  rw[List.length_erase_of_mem hx] at h1
  have:=List.length_pos_of_mem hx
  simp only[List.length_cons];omega
theorem C9:∀ {es es':List (List UInt8 × T)},(es.map (·.1)).Pairwise ltB→(es'.map (·.1)).Pairwise ltB→es.length=es'.length→(∀ e ∈ es,e ∈ es')→es=es'
 | [],[],_,_,_,_=>rfl
 | [],_::_,_,_,h,_=>by simp at h
 | _::_,[],_,_,h,_=>by simp at h
 | e::l,e'::l',h,h',hl,hs=>by
  simp only[List.map_cons,List.pairwise_cons] at h h'
  have hll:l.length=l'.length:=by simpa using hl
  rcases List.mem_cons.1 (hs e (by simp)) with rfl|he
  ·congr 1
   refine C9 h.2 h'.2 hll fun x hx=>?_
   rcases List.mem_cons.1 (hs x (List.mem_cons_of_mem _ hx)) with rfl|hx'
   ·exact absurd rfl (mV (h.1 x.1 (List.mem_map.2 ⟨x,hx,rfl⟩)))
   ·exact hx'
  ·exfalso
   have h1:ltB e'.1 e.1:=h'.1 e.1 (List.mem_map.2 ⟨e,he,rfl⟩)
   have h2:∀ x ∈ (e::l).map (·.1),x ∈ l'.map (·.1):=by
    intro x hx
    obtain ⟨y,hy,rfl⟩:=List.mem_map.1 hx
    have h3:ltB e'.1 y.1:=by
     rcases List.mem_cons.1 hy with rfl|hy
     ·exact h1
     ·exact jt h1 (h.1 y.1 (List.mem_map.2 ⟨y,hy,rfl⟩))
    rcases List.mem_cons.1 (hs y hy) with rfl|hy'
    ·exact absurd rfl (mV h3)
    ·exact List.mem_map.2 ⟨y,hy',rfl⟩
   have h4:=C8 (a:=(e::l).map (·.1)) (by
    refine cJ ?_
    simp only[List.map_cons,List.pairwise_cons];exact h) h2
   simp at h4;omega
theorem Hb {es es':List (List UInt8 × T)} (h:(es.map (·.1)).Pairwise ltB) (h':(es'.map (·.1)).Pairwise ltB):(es.length=es'.length∧InE (· = ·) es' es)↔T.map es=T.map es':=by
 constructor
 ·rintro ⟨h1,h2⟩
  rw[C9 h h' h1 fun e he=>by
   obtain ⟨y,h3,h4⟩:=h2 e he
   have:=T.k9 h3
   rw[← h4] at this;exact this]
 ·intro e
  cases e
  exact ⟨rfl,fun e he=>⟨e.2,T.iQ (cJ h) he,rfl⟩⟩
def scalar:T→Prop
 | .list _ | .map _=>False
 | _=>True
theorem Oe {a b:T} (ha:a.ok) (hb:b.ok) (sa:scalar a) (sb:scalar b):qY true (ia Tryz.prog) (lvT a) (lvT b)=some (decide (a=b)):=by
 have dt:∀ {p:Prop},p→some true=some (decide p):=fun h=>by rw[decide_eq_true h]
 have df:∀ {p:Prop},¬ p→some false=some (decide p):=fun h=>by rw[decide_eq_false h]
 have db:∀ {p:Prop} {c:Bool},(c=true↔p)→some c=some (decide p):=fun {p c} h=>by
  cases c
  ·exact df fun hp=>by have:=h.2 hp;cases this
  ·exact dt (h.1 rfl)
 cases a<;>cases b<;>first|exact sa.elim|exact sb.elim|exact df (by simp) | exact dt rfl|skip
 ·rename_i x y
  exact (show qY true (ia Tryz.prog) (lvT (.bool x)) (lvT (.bool y))=some (x==y) from G9).trans (db (by simp))
 ·rename_i x y
  exact (show qY true (ia Tryz.prog) (lvT (.int x)) (lvT (.int y))=some (x==y) from Jl).trans (db (by simp))
 ·rename_i x y z w
  refine (show qY true (ia Tryz.prog) (lvT (.point x y)) (lvT (.point z w))=some (Op.floatEq .f64 (fb x) (fb z)&&Op.floatEq .f64 (fb y) (fb w)) from Ha).trans ?_
  simp only[T.ok] at ha hb
  rw[show fb x=FloatKind.f64.nearest x from rfl,show fb z=FloatKind.f64.nearest z from rfl,show fb y=FloatKind.f64.nearest y from rfl,show fb w=FloatKind.f64.nearest w from rfl,
   od (by omega) (by omega),od (by omega) (by omega)]
  exact db (by simp)
 ·rename_i x y
  exact (show qY true (ia Tryz.prog) (lvT (.text x)) (lvT (.text y))=some (x==y) from Jm).trans (db (by simp))
theorem Jn {a:T}:asC 171 (some .nils) (lvT a) true=some (.tup [match a with | .list l=>vL l|_=>.nils,.bool (match a with | .list _=>true|_=>false)]):=by cases a<;>rfl
theorem Mp {a:T}:asC 173 (some .nilm) (lvT a) true=some (.tup [match a with | .map es=>.imap (es.map fun e=>.str e.1) (iG es) | _=>.nilm,.bool (match a with | .map _=>true|_=>false)]):=by cases a<;>rfl
theorem wz:∀ (n:Nat) (a b:T),SizeOf.sizeOf a<n→a.ok→b.ok→Pu Tryz.prog 48 [vT a,vT b] (.bool (decide (a=b)))
 | 0,_,_,h,_,_=>by omega
 | n+1,a,b,hn,ha,hb=>by
  have hrec:∀ x ∈ a.items,∀ y,y.ok→Pu Tryz.prog 48 [vT x,vT y] (.bool (decide (x=y))):=fun x hx y hy=>wz n x y (by have:=T.fJ hx;omega) (T.fq ha x hx) hy
  refine Pu.of (c48 _ _ ?_) (by simp only[LV.aB,LV.plain,eC,Bool.and_true]) rfl
  have lb:∀ {st:aa} {t:T},b8 st (vT t)=some (.ptr st.length 0,st++[.cells .rw [lvT t]]):=rfl
  have g0:ld1 [aq.cells .rw [lvT a],.cells .rw [lvT b]] (.ptr 0 0)=some (lvT a):=rfl
  have g1:ld1 [aq.cells .rw [lvT a],.cells .rw [lvT b]] (.ptr 1 0)=some (lvT b):=rfl
  simp only[w48,lb,ag,av,Nat.zero_add,List.nil_append,List.cons_append,List.length_nil,List.length_cons,g0,g1,ab,Jn,Mp,aw,List.getElem?_cons_zero,List.getElem?_cons_succ]
  have no:∀ {p:Prop} {st:aa},¬ p→dp st (.bool (decide p)) (.bool false):=fun h=>by rw[decide_eq_false h];rfl
  have yes:∀ {p q:Prop} {dq:Decidable q} {st:aa},(q↔p)→dp st (.bool (decide p)) (.bool (@decide q dq)):=fun {p q dq st} h=>by
   by_cases hp:p
   ·rw[decide_eq_true hp,decide_eq_true (h.2 hp)];rfl
   ·rw[decide_eq_false hp,decide_eq_false fun hq=>hp (h.1 hq)];rfl
  by_cases sa:scalar a
  ·by_cases sb:scalar b
   ·have he:=Oe ha hb sa sb
    cases a<;>first|exact sa.elim|skip
    all_goals cases b<;>first|exact sb.elim|skip
    all_goals simp only[af,tH,cond_false,ab,he,cW,cH]
    all_goals exact rfl
   ·cases b<;>first|exact (sb trivial).elim|skip
    all_goals cases a<;>first|exact sa.elim|skip
    all_goals simp only[af,ah,tH,cond_false,cond_true,ab]
    all_goals exact no (by simp)
  ·cases a<;>first|exact (sa trivial).elim|skip
   ·rename_i l
    cases b<;>simp only[af,ah]<;>first|exact no (by simp) | skip
    rename_i l'
    refine (Me (p:=(· = ·)) (l:=l) (l':=l') ha.1 fun i x y hx hy=>hrec x (List.mem_of_getElem? hx) y (T.fq hb y (List.mem_of_getElem? hy))).call ?_
    exact yes (ff.eq.trans (by simp))
   ·rename_i es
    cases b<;>simp only[af,ah]<;>first|exact no (by simp) | skip
    rename_i es'
    refine (Mo (p:=(· = ·)) (cJ hb.2.2) fun e he y hy=>hrec e.2 (List.mem_map.2 ⟨e,he,rfl⟩) y ((T.lO.1 hb.2.1 _ (T.k9 hy)).2)).call ?_
    exact yes (Hb ha.2.2 hb.2.2)
end Go.Proofs.YtknegckgmklnhaaGreatDoor
namespace Go.Proofs.YtknegckgmklnhaaGreatDoor
open Go Go.CP
set_option maxRecDepth 100000
mutual
def every (q:T→Bool):T→Bool
 | .list l=>q (.list l)&&wA q l
 | .map es=>q (.map es)&&wB q es
 | .null=>q .null
 | .unknown=>q .unknown
 | .bool b=>q (.bool b)
 | .int n=>q (.int n)
 | .point a b=>q (.point a b)
 | .text s=>q (.text s)
def wA (q:T→Bool):List T→Bool
 | []=>true
 | t::ts=>every q t&&wA q ts
def wB (q:T→Bool):List (List UInt8 × T)→Bool
 | []=>true
 | e::es=>every q e.2&&wB q es
end
theorem uo {q:T→Bool}:∀ {l:List T},wA q l=l.all (every q)
 | []=>rfl
 | t::ts=>by simp[wA,uo (l:=ts)]
theorem uq {q:T→Bool}:∀ {l:List (List UInt8 × T)},wB q l=(l.map (·.2)).all (every q)
 | []=>rfl
 | t::ts=>by simp[wB,uq (l:=ts)]
theorem sR {q:T→Bool} {t:T}:every q t=(q t&&t.items.all (every q)):=by
 cases t<;>simp[every,T.items,uo,uq]
theorem de {st:aa} {t:T}:b8 st (vT t)=some (.ptr st.length 0,st++[.cells .rw [lvT t]]):=rfl
theorem Jo {q:T→Bool} {g:FuncId} {x:T} (hx:Pu Tryz.prog 119 [vT x,.fn (.func g) [] []] (.bool (every q x))) {st:aa} {o:Nat} (ho:st[o]?=some (.cells .rw [.fn (.func g) [] []])) {R:LV→aa→Prop}
  (hR:∀ s,s[o]?=some (.cells .rw [.fn (.func g) [] []])→R (.bool (!(every q x))) s):ax Tryz.prog 178 [vT x,.ptr o 0] st R:=by
 refine OE _ _ ?_
 have e1:ld1 (st++[.cells .rw [lvT x]]) (.ptr o 0)=some (.fn (.func g) [] []):=by rw[aU (bH ho)];rfl
 simp only[LB,de,ag,gR,ab,e1]
 refine hx.call ?_
 simp only[aZ,ab]
 exact hR _ (bH ho)
theorem Jp {q:T→Bool} {g:FuncId} {l:List T} (hb:l.length≤big) (hl:∀ x ∈ l,Pu Tryz.prog 119 [vT x,.fn (.func g) [] []] (.bool (every q x))) {o:Nat} {R:LV→aa→Prop}
  (h1:∀ (k:Nat) s,l.all (every q)=false→R (i64 k) s) (h2:∀ s,l.all (every q)=true→R (i64 (-1)) s) :
  ∀ (d i:Nat) (st:aa),i+d=l.length→(l.take i).all (every q)=true→st[o]?=some (.cells .rw [.fn (.func g) [] []])→rU (vL l) (.fn (.func 178) [] [.ptr o 0]) (i64 l.length) (i64 i) R st:=by
 intro d
 induction d with
 | zero=>
  intro i st hi ht ho
  apply Ft
  have:¬ ((i:Int)<l.length):=by omega
  simp only[vo,ae,aA,ab,this,decide_false,af]
  rw[List.take_of_length_le (by omega)] at ht
  exact h2 _ ht
 | succ d ih=>
  intro i st hi ht ho
  apply Ft
  have hlt:i<l.length:=by omega
  have c1:(i:Int)<l.length:=by omega
  have hx:l[i]?=some l[i]:=List.getElem?_eq_getElem hlt
  have hp:=hl _ (List.getElem_mem hlt)
  generalize l[i]=x at hx hp
  have e1:aR 1 (vL l) (i64 i)=some (.iptr (eF l) (i*1)):=bW hlt
  have e2:oT (.fn (.func 178) [] [.ptr o 0]) [vT x]=some (178,[vT x,.ptr o 0]):=rfl
  simp only[vo,ae,aA,ab,c1,decide_true,ah,e1,sx hx,e2,ag]
  refine Jo hp ho fun s hs=>?_
  rcases hq:every q x with _|_
  ·simp only[Bool.not_false,ah]
   exact h1 i s (List.all_eq_false.2 ⟨x,List.mem_of_getElem? hx,by simp[hq]⟩)
  ·simp only[Bool.not_true,af,aH,ab,aI (show i<2 ^ 40 by unfold big at hb;omega)]
   refine ih (i+1) s (by omega) ?_ hs
   rw[List.take_add_one,List.all_append,ht,hx]
   simp[hq]
theorem Da {q:T→Bool} {g:FuncId} (hg:∀ t:T,Pu Tryz.prog g [vT t] (.bool (q t))):∀ (n:Nat) (t:T),SizeOf.sizeOf t<n→t.ok→Pu Tryz.prog 119 [vT t,.fn (.func g) [] []] (.bool (every q t))
 | 0,_,h,_=>by omega
 | n+1,t,hn,ht=>by
  have hrec:∀ x ∈ t.items,Pu Tryz.prog 119 [vT x,.fn (.func g) [] []] (.bool (every q x)):=fun x hx=>Da hg n x (by have:=T.fJ hx;omega) (T.fq ht x hx)
  have hb:t.items.length≤big:=by
   cases t<;>simp only[T.items,List.length_nil,Nat.zero_le,List.length_map]
   ·exact ht.1
   ·exact ht.1
  refine Pu.of (c119 _ _ ?_) (by simp only[LV.aB,LV.plain,eC,Bool.and_true]) rfl
  have lb2:b8 [aq.cells .rw [lvT t]] (.fn (.func g) [] [])=some (.ptr 1 0,[aq.cells .rw [lvT t],.cells .rw [.fn (.func g) [] []]]):=rfl
  have g0:ldA [aq.cells .rw [lvT t],.cells .rw [.fn (.func g) [] []]] (.ptr 0 0) 1=some (vT t):=rfl
  have g1:ld1 [aq.cells .rw [lvT t],.cells .rw [.fn (.func g) [] []]] (.ptr 1 0)=some (.fn (.func g) [] []):=rfl
  have e2:oT (.fn (.func g) [] []) [vT t]=some (g,[vT t]):=rfl
  simp only[Lz,de,ag,List.nil_append,List.length_nil,lb2,g0,g1,e2,ab]
  refine (hg t).call ?_
  rw[sR]
  rcases hq:q t with _|_
  ·simp only[af,Bool.false_and];exact rfl
  ·simp only[ah,g0,ab,Bool.true_and]
   refine (jx ht).call ?_
   refine OD _ _ ?_
   show ax Tryz.prog 216 _ _ _
   refine OG _ _ ?_
   show rU (vL t.items) _ (i64 t.items.length) (i64 (0:Nat)) _ _
   refine Jp (q:=q) (g:=g) (o:=1) hb hrec (fun k s h=>?_) (fun s h=>?_) t.items.length 0 _ (by omega) rfl rfl
   ·have c:((k:Int)≥0):=by omega
    simp only[ae,cY,ab,c,decide_true,aZ,Bool.not_true,h]
    exact rfl
   ·have c:¬ ((-1:Int)≥0):=by omega
    simp only[ae,cY,ab,c,decide_false,aZ,Bool.not_false,h]
    exact rfl
def dT (t:T):Bool:=t.kind != 1
theorem Hc (t:T):Pu Tryz.prog 120 [vT t] (.bool (dT t)):=by
 refine Pu.of (OC _ ?_) jv rfl
 simp only[LA,de,ag,gR,ab]
 refine (ft t).call ?_
 simp only[ae,bz,ab]
 exact rfl
theorem oe {t:T} (h:t.ok):Pu Tryz.prog 55 [vT t] (.bool (every dT t)):=by
 refine Pu.of (c55 _ ?_) jv rfl
 simp only[w55,de,ag,gR,ab]
 refine (Da Hc _ t (Nat.lt_succ_self _) h).call ?_
 exact rfl
end Go.Proofs.YtknegckgmklnhaaGreatDoor
namespace Go.CP
theorem ax.Og {P:Program} {f:FuncId} {xs:List LV} {st:aa} {R:LV→aa→Prop} (h:ax P f xs [] fun r s=>∃ v,dp s v r∧v.plain=true∧R v st) (hx:LV.aB xs=true):ax P f xs st R:=by
 have go:∀ {w0:World} {β:Lay} {w w':World} {u:Value} {β':Lay} {r v:LV} {st':aa},Rel w0 β st w→dp st' v r→v.plain=true→Rp β' r u→Rel w β' st' w'→(β.bare w.heap.size).le β'→
   ∃ β2,Rp β2 v u∧Rel w0 β2 st w'∧β.le β2:=by
  intro w0 β w w' u β' r v st' h1 hd hv hr hrel hle
  have e:=Fc hrel hle fun _=>rfl
  obtain ⟨k1,k2⟩:=h1.behind hrel.below e (rO hrel)
  exact ⟨_,Rp.dG (β:=β'.frz st' w') (β':=β.fz (β'.frz st' w')) (fun _ _ e=>e) hv (kS hrel hd hr),k1,k2⟩
 rcases h with h|h
 ·refine .inl ⟨h.1,fun w0 β w vs h1 h2=>?_⟩
  refine (h.2 w _ w vs h1.bare (Rps.dG (β:=β) (β':=β.bare w.heap.size) (fun _ _ e=>e) hx h2)).mono ?_
  rintro e w' ⟨β',r,st',u,⟨v,hd,hv,hR⟩,rfl,h4,h5,h6⟩
  obtain ⟨β2,k1,k2,k3⟩:=go h1 hd hv h4 h5 h6
  exact ⟨β2,v,st,u,hR,rfl,k1,k2,k3⟩
 ·refine .inr fun w0 β w vs h1 h2=>?_
  obtain ⟨u,w',h3,β',r,st',⟨v,hd,hv,hR⟩,h5,h6,h7⟩:=h w _ w vs h1.bare (Rps.dG (β:=β) (β':=β.bare w.heap.size) (fun _ _ e=>e) hx h2)
  obtain ⟨β2,k1,k2,k3⟩:=go h1 hd hv h5 h6 h7
  exact ⟨u,w',h3,β2,v,st,hR,k1,k2,k3⟩
structure Pb (P:Program) (f:FuncId) (xs:List LV) (Q:LV→Prop):Prop where
 call:∀ {st:aa} {R:LV→aa→Prop},(∀ v,Q v→R v st)→ax P f xs st R
def Dp (Q:LV→Prop) (r:LV) (s:aa):Prop:=∃ v,dp s v r∧v.plain=true∧Q v
theorem Pb.of {P:Program} {f:FuncId} {xs:List LV} {Q:LV→Prop} (h:ax P f xs [] (Dp Q)) (hx:LV.aB xs=true):Pb P f xs Q:=
 ⟨fun hR=>ax.Og (h.mono fun _ _ ⟨v,h1,h2,h3⟩=>⟨v,h1,h2,hR v h3⟩) hx⟩
end Go.CP
namespace Go.Proofs.YtknegckgmklnhaaGreatDoor
open Go Go.CP
set_option maxRecDepth 100000
section
variable {st st':aa} {R:LV→aa→Prop}
theorem jB {t:KT} {v:T}:LV.aB [kV t,vT v]=true:=by simp[LV.aB,dH,bO]
theorem kl0 {t:KT}:ld1 st (.iptr (kC t) 0)=some (i64 t.f):=by rw[bF,sG];rfl
theorem kl1 {t:KT}:ld1 st (.iptr (kC t) 1)=some (.isl (kVs t.l) t.l.length none):=by rw[bF,sG];rfl
theorem kl2 {t:KT}:ld1 st (.iptr (kC t) 2)=some (sL t.ns):=by rw[bF,sG];rfl
theorem wC (k:Tx):Pu Tryz.prog 214 [.str k] (.agg [.str k,i64 (-1)]):=by
 refine Pu.of (Pg _ ?_) rfl rfl
 have e:aL (ao (ay [(0,1),(1,1)]) [LV.str [],i64 0] [(0,.str k),(1,i64 (-1))])=some (.agg [.str k,i64 (-1)]):=rfl
 have p:stV [aq.cells .rw [LV.str [],i64 0]] 2 (.ptr 0 0) (.agg [.str k,i64 (-1)])=some [aq.cells .rw [.str k,i64 (-1)]]:=rfl
 have g:ldA [aq.cells .rw [LV.str k,i64 (-1)]] (.ptr 0 0) 2=some (.agg [.str k,i64 (-1)]):=rfl
 simp only[N3,bQ,List.nil_append,List.length_nil,e,ab,p,az,ag,g]
 exact bj _ rfl
theorem Jq (i:Int):Pu Tryz.prog 215 [i64 i] (.agg [.str [],i64 i]):=by
 refine Pu.of (Ph _ ?_) rfl rfl
 have e:aL (ao (ay [(0,1),(1,1)]) [LV.str [],i64 0] [(1,i64 i)])=some (.agg [.str [],i64 i]):=rfl
 have p:stV [aq.cells .rw [LV.str [],i64 0]] 2 (.ptr 0 0) (.agg [.str [],i64 i])=some [aq.cells .rw [.str [],i64 i]]:=rfl
 have g:ldA [aq.cells .rw [LV.str [],i64 i]] (.ptr 0 0) 2=some (.agg [.str [],i64 i]):=rfl
 simp only[N4,bQ,List.nil_append,List.length_nil,e,ab,p,az,ag,g]
 exact bj _ rfl
def StQ (n:Nat) (v:LV):Prop:=∃ cs,v=.isl cs n none∧cs.length=n*2∧LV.aB cs=true∧cs.all LV.one=true
theorem Db {f:Option Nat} {n:Nat} {acc:List LV} {x y:LV} (h:bD .rw st f 2 n acc) (hx:x.one=true) (hy:y.one=true) (hl:n<2 ^ 31) :
  ∃ st2 f2,ar (st++[.cells .rw [x,y]]) 2 24 .rw (osl f 2 n) (.sl st.length 0 1 (.ex 1))=some (osl f2 2 (n+1),st2)∧bD .rw st2 f2 2 (n+1) (acc++[x,y]):=by
 have h1:=h.fr (st':=st++[.cells .rw [x,y]]) (S:=fun _=>False) Fr.app (fun _ _ h=>h)
 obtain ⟨st2,f2,q1,q2,_⟩:=h1.append (x:=.sl st.length 0 1 (.ex 1)) (k:=1) (new:=[x,y]) (bytes:=24) (by simp[dJ]) (by omega) rfl (by simp[hx,hy]) (cL (by omega) (by omega))
 exact ⟨st2,f2,q1,q2⟩
theorem Eu {ks:List Tx} (hb:ks.length≤big):∀ (d i:Nat) (f:Option Nat) (acc:List LV) (st:aa),i+d=ks.length→bD .rw st f 2 i acc→LV.aB acc=true→acc.all LV.one=true→
  si (osl f 2 i) (sL ks) (i64 ks.length) (i64 i) (Dp (StQ ks.length)) st:=by
 intro d
 induction d with
 | zero=>
  intro i f acc st hi ho hp h1
  refine Gz _ _ _ _ ?_
  have c1:¬ ((i:Int)<ks.length):=by omega
  simp only[AI,ae,aA,ab,c1,decide_false,af]
  have hi:i=ks.length:=by omega
  subst hi
  exact ⟨.isl acc ks.length none,dZ ho rfl (bA _ hp),by simp[LV.plain,hp],acc,rfl,ho.1,hp,h1⟩
 | succ d ih=>
  intro i f acc st hi ho hp h1
  refine Gz _ _ _ _ ?_
  have hlt:i<ks.length:=by omega
  have c1:((i:Int)<ks.length):=by omega
  have e1:aR 1 (sL ks) (i64 i)=some (.iptr (ks.map .str) (i*1)):=bW hlt
  have hg:(ks.map LV.str)[i*1]?=some (.str ks[i]):=by simp[hlt]
  simp only[AI,ae,aA,ab,c1,decide_true,ah,e1,bF,hg]
  refine (wC _).call ?_
  have ef:ao (fun i=>some (i*2,2)) (List.replicate 1 [LV.str [],i64 0]).flatten [(0,.agg [.str ks[i],i64 (-1)])]=some [.str ks[i],i64 (-1)]:=rfl
  rw[ef]
  simp only[bw,ag]
  obtain ⟨st2,f2,q1,q2⟩:=Db ho (x:=.str ks[i]) (y:=i64 (-1)) rfl rfl (by unfold big at hb;omega)
  rw[q1]
  simp only[ag,aH,ab,aI (show i<2 ^ 40 by unfold big at hb;omega)]
  exact ih (i+1) f2 _ st2 (by omega) q2 (by rw[cZ,hp];rfl) (by rw[List.all_append,h1];rfl)
theorem Jr {ks:List Tx} (hb:ks.length≤big):Pb Tryz.prog 175 [sL ks] (StQ ks.length):=by
 refine Pb.of (c175 _ ?_) (by simp only[LV.aB,LV.plain,bB (f:=LV.str) fun _ _=>rfl,Bool.and_true])
 show si (osl none 2 0) (sL ks) (i64 ks.length) (i64 (0:Nat)) _ _
 exact Eu hb ks.length 0 none [] _ (by omega) bD.nil rfl rfl
theorem yO {n:Nat} (hb:n≤big):∀ (d i:Nat) (f:Option Nat) (acc:List LV) (st:aa),i+d=n→bD .rw st f 2 i acc→LV.aB acc=true→acc.all LV.one=true→
  sj (osl f 2 i) (i64 n) (i64 i) (Dp (StQ n)) st:=by
 intro d
 induction d with
 | zero=>
  intro i f acc st hi ho hp h1
  refine GA _ _ _ ?_
  have c1:¬ ((i:Int)<n):=by omega
  simp only[AJ,ae,aA,ab,c1,decide_false,af]
  have hi:i=n:=by omega
  subst hi
  exact ⟨.isl acc i none,dZ ho rfl (bA _ hp),by simp[LV.plain,hp],acc,rfl,ho.1,hp,h1⟩
 | succ d ih=>
  intro i f acc st hi ho hp h1
  refine GA _ _ _ ?_
  have c1:((i:Int)<n):=by omega
  simp only[AJ,ae,aA,ab,c1,decide_true,ah]
  refine (Jq _).call ?_
  have ef:ao (fun i=>some (i*2,2)) (List.replicate 1 [LV.str [],i64 0]).flatten [(0,.agg [.str [],i64 i])]=some [.str [],i64 i]:=rfl
  rw[ef]
  simp only[bw,ag]
  obtain ⟨st2,f2,q1,q2⟩:=Db ho (x:=.str []) (y:=i64 i) rfl rfl (by unfold big at hb;omega)
  rw[q1]
  simp only[ag,aH,ab,aI (show i<2 ^ 40 by unfold big at hb;omega)]
  exact ih (i+1) f2 _ st2 (by omega) q2 (by rw[cZ,hp];rfl) (by rw[List.all_append,h1];rfl)
theorem Ev {n:Nat} (hb:n≤big):Pb Tryz.prog 176 [i64 n] (StQ n):=by
 refine Pb.of (Pc _ ?_) rfl
 show sj (osl none 2 0) (i64 n) (i64 (0:Nat)) _ _
 exact yO hb n 0 none [] _ (by omega) bD.nil rfl rfl
def ixI (k:Tx) (ns:List Tx):Int:=match px k ns 0 with
 | some i=>i
 | none=>-1
theorem sS {k:Tx} {ns:List Tx} (hb:ns.length≤big) (hR:R (i64 (ixI k ns)) st):∀ (d i:Nat),i+d=ns.length→px k ns 0=px k (ns.drop i) i→sk (sL ns) (.str k) (i64 ns.length) (i64 i) R st
 | 0,i,hi,hp=>by
  refine GB _ _ _ _ ?_
  have c1:¬ ((i:Int)<ns.length):=by omega
  have e:ixI k ns = -1:=by unfold ixI;rw[hp,List.drop_eq_nil_of_le (by omega)];rfl
  rw[e] at hR
  simp only[AK,ae,aA,ab,c1,decide_false,af]
  exact hR
 | d+1,i,hi,hp=>by
  refine GB _ _ _ _ ?_
  have hlt:i<ns.length:=by omega
  have c1:((i:Int)<ns.length):=by omega
  have e1:aR 1 (sL ns) (i64 i)=some (.iptr (ns.map .str) (i*1)):=bW hlt
  have hg:(ns.map LV.str)[i*1]?=some (.str ns[i]):=by simp[hlt]
  have hd:ns.drop i=ns[i]::ns.drop (i+1):=List.drop_eq_getElem_cons hlt
  generalize ns[i]=n at hg hd
  simp only[AK,ae,aA,ab,c1,decide_true,ah,e1,bF,hg,ca,du]
  rw[hd,px] at hp
  by_cases h:n=k
  ·subst h
   rw[if_pos rfl] at hp
   have e:ixI n ns=i:=by unfold ixI;rw[hp]
   rw[e] at hR
   simp only[beq_self_eq_true,ah]
   exact hR
  ·rw[if_neg h] at hp
   have e2:(k==n)=false:=by simpa using Ne.symm h
   simp only[e2,af,aH,ab,aI (show i<2 ^ 40 by unfold big at hb;omega)]
   exact sS hb hR d (i+1) (by omega) hp
theorem Hd {k:Tx} {ns:List Tx} (hb:ns.length≤big):Pu Tryz.prog 158 [sL ns,.str k] (i64 (ixI k ns)):=by
 refine Pu.of (Pe _ _ ?_) (by simp only[LV.aB,LV.plain,bB (f:=LV.str) fun _ _=>rfl,Bool.and_true]) rfl
 show sk (sL ns) (.str k) (i64 ns.length) (i64 (0:Nat)) _ _
 exact sS hb (R:=fun v s=>dp s (i64 (ixI k ns)) v) rfl ns.length 0 (by omega) rfl
theorem wD {k:Tx}:∀ {ns:List Tx} {i j:Nat},px k ns i=some j→i≤j∧j<i+ns.length∧ns[j-i]?=some k
 | n::ns,i,j,h=>by
  unfold px at h
  split at h
  ·rename_i e
   simp only[Option.some.injEq] at h
   subst h;subst e
   simp
  ·obtain ⟨h1,h2,h3⟩:=wD h
   refine ⟨by omega,by simp;omega,?_⟩
   have:j-i=(j-(i+1))+1:=by omega
   rw[this];simpa using h3
theorem wE {l:List KT} {i:Nat}:(kVs l)[i]?=(l[i]?).map kV:=by rw[wg];simp
theorem He {t:KT} {k:Tx} (hb:t.ns.length≤big) (hl:t.ns.length=t.l.length):Pu Tryz.prog 213 [kV t,.str k] (match (px k t.ns 0).bind (t.l[·]?) with
  | some x=>.tup [kV x,.bool true]
  | none=>.tup [.nilp,.bool false]):=by
 refine Pu.of (c213 _ _ ?_) (by simp[LV.aB,LV.plain,eI]) (by split<;>simp[LV.plain,LV.aB,eI])
 simp only[Nu,iq,cW,cH,ab,af,bE,b6,Nat.zero_add,kl2]
 refine (Hd hb).call ?_
 unfold ixI
 cases h:px k t.ns 0 with
 | none=>
  have c1:((-1:Int)<0):=by omega
  simp only[ae,aA,ab,c1,decide_true,ah,Option.bind_none]
  exact bj _ rfl
 | some i=>
  obtain ⟨_,h2,_⟩:=wD h
  have c1:¬ ((i:Int)<0):=by omega
  have hlt:i<t.l.length:=by omega
  have e1:aR 1 (.isl (kVs t.l) t.l.length none) (i64 i)=some (.iptr (kVs t.l) (i*1)):=bW hlt
  have hx:t.l[i]?=some t.l[i]:=List.getElem?_eq_getElem hlt
  simp only[ae,aA,ab,c1,decide_false,af,kl1]
  simp only[ab,e1,bF,Nat.mul_one,wE,hx,Option.map_some,Option.bind_some]
  exact bj (v:=.tup [kV t.l[i],.bool true]) _ (by simp[LV.plain,LV.aB,eI])
theorem Hf {t:KT}:Pu Tryz.prog 167 [kV t] (i64 (eY t.f)):=by
 refine Pu.of (c167 _ ?_) (by simp[LV.aB,LV.plain,eI]) rfl
 have e6:((t.f:Int)==6)=decide (t.f=6):=by by_cases h:t.f=6<;>simp[h];omega
 have e8:((t.f:Int)==8)=decide (t.f=8):=by by_cases h:t.f=8<;>simp[h];omega
 simp only[Nt,iq,cW,cH,ab,af,bE,b6,Nat.zero_add,kl0,ae,aA,aW,e6,e8,aM]
 unfold eY
 refine ⟨fun h=>?_,fun h=>⟨fun h6=>?_,fun h6=>⟨fun h8=>?_,fun h8=>?_⟩⟩⟩
 ·rw[if_pos (by omega)];exact (rfl:_=_)
 ·rw[if_neg (by omega),if_pos (.inl h6)];exact (rfl:_=_)
 ·rw[if_neg (by omega),if_pos (.inr h8)];exact (rfl:_=_)
 ·rw[if_neg (by omega),if_neg (by intro h;rcases h with h|h;exact h6 h;exact h8 h)];exact (rfl:_=_)
def intOf:T→Int
 | .int n=>n
 | _=>0
theorem Hg (t:T):Pu Tryz.prog 98 [vT t] (.tup [i64 (intOf t),.bool (decide (t.kind=3))]):=by
 refine Pu.of (c98 _ ?_) jv rfl
 cases t<;>exact bj (v:=.tup [i64 _,.bool _]) _ rfl
theorem Js (n:Int):Pu Tryz.prog 156 [i64 n] (.bool (decide (-9007199254740992≤n∧n≤9007199254740992))):=by
 refine Pu.of (c156 _ ?_) rfl rfl
 simp only[Iy,ae,cY,dF,ab]
 rw[aM]
 refine ⟨fun h=>?_,fun h=>?_⟩
 ·have:decide (-9007199254740992≤n∧n≤9007199254740992)=decide (n≤9007199254740992):=decide_eq_decide.2 (by omega)
  rw[this];exact (rfl:_=_)
 ·have:decide (-9007199254740992≤n∧n≤9007199254740992)=false:=decide_eq_false (by omega)
  rw[this];exact (rfl:_=_)
theorem Ew {n:Int} (h:¬ (-9007199254740992≤n∧n≤9007199254740992)):Pu Tryz.prog 93 [i64 n,i64 0] (.tup [vT .null,i64 2]):=by
 refine Pu.of (c93 _ _ ?_) rfl rfl
 simp only[w93,bQ]
 refine (Js n).call ?_
 rw[decide_eq_false h]
 simp only[aZ,ab,Bool.not_false,ah]
 exact mk1 (st:=[]) (v:=.nili) rfl rfl (Q:=fun v s=>dp s (.tup [vT .null,i64 2]) (.tup [v,i64 2])) fun s=>bj s rfl
theorem Jt {v:T}:Pu Tryz.prog 212 [vT v] (.bool (nW v)):=by
 refine Pu.of (c212 _ ?_) jv rfl
 have g:ldA ([]++[aq.cells .rw [lvT v]]) (.ptr 0 0) 1=some (vT v):=rfl
 simp only[N1,de,ag,List.length_nil,g,ab]
 refine (Hg v).call ?_
 simp only[aw,List.getElem?_cons_zero,List.getElem?_cons_succ,ab]
 have fin:∀ {w:T} {e:Int} {s:aa} {b:Bool},(b=true→nW v=decide (e=0))→(b=false→nW v=false)→nw s [LV.nili] fun v11 st12=>bd2 (lmk (stV st12 1 v11 (vT w))) fun _v13 st14=>al (.bool b) (bd (ak BinOp.eql (i64 e) (i64 0)) fun v15=>dp st14 (.bool (nW v)) v15) (dp st14 (.bool (nW v)) (LV.bool false)):=by
  intro w e s b h1 h2
  simp only[bQ,cI,az,ag,ae,aW,ab]
  cases b with
  | true=>
   rw[h1 rfl]
   have:(e==0)=decide (e=0):=by by_cases h:e=0<;>simp[h]
   simp only[ah,this];exact rfl
  | false=>rw[h2 rfl];exact rfl
 by_cases hn:∃ n,v=.int n
 ·obtain ⟨n,rfl⟩:=hn
  by_cases hr : -9007199254740992≤n∧n≤9007199254740992
  ·refine (sP hr (by omega)).call ?_
   simp only[aw,List.getElem?_cons_zero,List.getElem?_cons_succ,ab]
   exact fin (fun _=>by simp only[nW];exact decide_eq_true hr) fun h=>by cases h
  ·refine (Ew hr).call ?_
   simp only[aw,List.getElem?_cons_zero,List.getElem?_cons_succ,ab]
   exact fin (fun _=>by simp only[nW];rw[decide_eq_false hr];rfl) fun h=>by cases h
 ·have e0:intOf v=0:=by cases v<;>first|rfl | (exact absurd ⟨_,rfl⟩ hn)
  have ek:decide (v.kind=3)=false:=by cases v<;>first|rfl | (exact absurd ⟨_,rfl⟩ hn)
  have en:nW v=false:=by cases v<;>first|rfl | (exact absurd ⟨_,rfl⟩ hn)
  rw[e0,ek]
  refine (sP (a:=0) (b:=0) (by omega) (by omega)).call ?_
  simp only[aw,List.getElem?_cons_zero,List.getElem?_cons_succ,ab]
  exact fin (fun h=>by cases h) fun _=>en
theorem Hh {t:KT} {v:T}:Pu Tryz.prog 172 [kV t,vT v] (.bool (mZ t.f v)):=by
 refine Pu.of (O6 _ _ ?_) jB rfl
 have g:ldA ([]++[aq.cells .rw [lvT v]]) (.ptr 0 0) 1=some (vT v):=rfl
 simp only[NX,de,ag,List.length_nil,g,ab]
 refine (ft v).call ?_
 have e1:((t.f:Int)==1)=decide (t.f=1):=by by_cases h:t.f=1<;>simp[h];omega
 have e2:((t.f:Int)==2)=decide (t.f=2):=by by_cases h:t.f=2<;>simp[h];omega
 have e3:((t.f:Int)==3)=decide (t.f=3):=by by_cases h:t.f=3<;>simp[h];omega
 have e4:((t.f:Int)==4)=decide (t.f=4):=by by_cases h:t.f=4<;>simp[h];omega
 have ek:∀ n:Int,(v.kind==n)=decide (v.kind=n):=fun n=>by by_cases h:v.kind=n<;>simp[h]
 simp only[bE,b6,Nat.zero_add,kl0,ab,ae,aW,e1,e2,e3,e4,ek,aM]
 unfold mZ
 refine ⟨fun h1=>?_,fun h1=>⟨fun h2=>?_,fun h2=>⟨fun h3=>⟨fun h4=>?_,fun h4=>?_⟩,fun h3=>⟨fun h4=>?_,fun h4=>?_⟩⟩⟩⟩
 ·rw[if_pos (by omega)];exact rfl
 ·rw[if_neg (by omega),if_pos (by omega)];exact rfl
 ·rw[if_neg (by omega),if_neg (by omega),if_pos (by omega),decide_eq_true (by omega)];exact rfl
 ·rw[if_neg (by omega),if_neg (by omega),if_pos (by omega),decide_eq_false (by omega),Bool.false_or]
  exact Jt.call (bj _ rfl)
 ·rw[if_neg (by omega),if_neg (by omega),if_neg (by omega),if_pos (by omega)];exact rfl
 ·rw[if_neg (by omega),if_neg (by omega),if_neg (by omega),if_neg (by omega)];exact rfl
end
end Go.Proofs.YtknegckgmklnhaaGreatDoor
