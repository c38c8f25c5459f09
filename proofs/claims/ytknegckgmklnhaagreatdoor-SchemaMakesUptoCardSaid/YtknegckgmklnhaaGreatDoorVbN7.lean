/- Parts of the proof. -/
import Derived.Test.YtknegckgmklnhaaGreatDoorVbN3
namespace Go.Proofs.YtknegckgmklnhaaGreatDoor
open Go Go.CP
set_option maxRecDepth 100000
section
variable {st st':aa} {R:LV→aa→Prop}
theorem zy {n0:Nat} {v:Int} {l:List AT} {B:Nat} {f:Option Nat} {M:Nat} (h:Sch st n0 v l B f M):dp (eh n0 st) (sV ⟨v,l⟩) (.ptr B 0):=by
 refine .inl ⟨B,.rw,[i64 v,osl f 6 l.length,.map M],rfl,by rw[fa h.nb];exact h.b,rfl,Nat.le_refl _,?_⟩
 refine ⟨_,_,rfl,rfl,_,_,rfl,gX (h.o.eh h.nf) rfl (bE _ iz),_,_,rfl,?_,rfl⟩
 refine .inl ⟨M,.rw,_,_,_,_,rfl,by rw[fa h.nm];exact h.m,rfl,List.Perm.refl _,?_,ub,?_⟩
 ·have:=jJ (ss:=l.map (·.nm)) (seen:=[]) (pI h.pw) (by simp)
  rw[List.map_map] at this
  show (cM (l.map fun a=>.str a.nm) []).isSome=true
  rw[show (l.map fun a=>LV.str a.nm)=l.map (LV.str ∘ fun x=>x.nm) from rfl,this]
  rfl
 ·rw[uc]
  exact bE _ lh
theorem nR (g:GlS st) {s:Tx} (hs:s.length≤2 ^ 20) (h1:∀ S,cU s=.inl S→R (.tup [sV S,i64 0,i64 0]) st) (h2:∀ n e,cU s=.inr (n,e)→R (.tup [.nilp,i64 n,i64 e]) st) :
  au Tryz.prog 21 [.str s] st R:=by
 refine au.tG ?_
 refine c21 _ ?_
 have bad:∀ n e,cU s=.inr (n,e)→∀ st2,Fr st st2 (fun _=>False)→∃ v,Fr st st2 (fun _=>False)∧dp (eh st.length st2) v (.tup [.nilp,i64 n,i64 e])∧v.plain=true∧R v st:=fun n e h st2 hf=>⟨_,hf,bH _ rfl,rfl,h2 n e h⟩
 have hl:¬ ((s.length:Int) > 1048576):=by omega
 simp only[w21,aL,ab,ag,cy,hl,decide_false,ae]
 refine (BI s (by omega)).call ?_
 match hsp:splitB 10 s with
 | []=>exact absurd hsp cb
 | [p]=>
  have hps:=iV hsp
  subst hps
  have he:cU p=.inr (1,4):=by unfold cU;rw[hsp]
  rw[ue hsp]
  simp only[az,List.getElem?_cons_zero,List.getElem?_cons_succ,ab]
  refine qY g (by omega) (fun n _=>?_) fun _ n=>?_
  all_goals
   simp only[az,List.getElem?_cons_zero,List.getElem?_cons_succ,ab,bq,Bool.not_false,ah]
   exact bad 1 4 he _ Fr.refl
 | p::q::r=>
  have hnx:=gC hsp
  have hpl:=ga p (by rw[hsp];simp)
  have hcl:=dF (c:=10) (s:=s)
  have hcc:s.count 10≤s.length:=List.count_le_length
  rw[hsp] at hcl
  have he:cU s=match fU p with
   | none=>.inr (1,4)
   | some v=>if v<0∨1000<v then .inr (1,2) else match bW [] 2 (q::r) with
    | .inl l=>.inl ⟨v,l⟩
    | .inr e=>.inr e:=by unfold cU;rw[hsp];rfl
  rw[ud hsp]
  simp only[az,List.getElem?_cons_zero,List.getElem?_cons_succ,ab]
  refine qY g (by omega) (fun v hv=>?_) fun hv n=>?_
  ·rw[hv] at he
   simp only at he
   simp only[az,List.getElem?_cons_zero,List.getElem?_cons_succ,ab,bq,Bool.not_true,ae]
   refine mQ (v:=v) (l:=[]) (f:=none) (fun _ h=>by simp at h) (by simp) br.nil (.inr rfl) (fun e st3 hne hme hfr=>?_) fun st3 B M f hme hfr hB hM hf hne g1 g2 g3 g4=>?_
   ·simp only[az,List.getElem?_cons_zero,List.getElem?_cons_succ,ab]
    have hme':v<0∨1000<v:=by
     refine Classical.byContradiction fun h=>hne ?_
     rw[← hme]
     unfold mkW
     rw[if_neg h];rfl
    have e2:e=2:=by rw[← hme];unfold mkW;rw[if_pos hme']
    subst e2
    rw[if_pos hme'] at he
    refine p21_10 _ _ _ _ _ ?_
    have q1:((2:Int)==0)=false:=rfl
    have q2:((2:Int) != 0)=true:=rfl
    simp only[w21_10,ag,aR,bw,q1,q2,ab,ae,ah]
    exact bad 1 2 he _ hfr
   ·have hv0:¬ (v<0∨1000<v):=by
     intro h
     unfold mkW at hme
     rw[if_pos h] at hme
     omega
    rw[if_neg hv0] at he
    simp only[az,List.getElem?_cons_zero,List.getElem?_cons_succ,ab]
    refine vH (st0:=st) hv0 (bW [] 2 (q::r)) (fun l B' f' M' st4 hres hfr4 hS4=>?_) (fun n e st4 hres hfr4=>?_) (q::r).length (q::r) (s.drop (p.length+1)) [] 2 B f M st3 (Nat.le_refl _) hnx (by simp;omega) (by simp at hcl ⊢;omega) (by simp) rfl (by simp) rfl hfr ⟨?_,?_,?_,hB,hM,hf,?_,?_⟩
    ·rw[hres] at he
     exact ⟨.tup [sV ⟨v,l⟩,i64 0,i64 0],hfr4,⟨_,rfl,_,_,rfl,zy hS4,_,_,rfl,rfl,_,_,rfl,rfl,rfl⟩,by simp only[LV.plain,LV.aF,jT];rfl,h1 _ he⟩
    ·rw[hres] at he
     exact bad n e he _ hfr4
    ·exact g1
    ·exact g2
    ·exact g3
    ·exact hne
    ·exact g4
  ·rw[hv] at he
   simp only[az,List.getElem?_cons_zero,List.getElem?_cons_succ,ab,bq,Bool.not_true,Bool.not_false,ae,ah]
   exact bad 1 4 he _ Fr.refl
end
section
variable {st st':aa} {R:LV→aa→Prop}
theorem AV {a b x y:LV} (h1:dp st a x) (h2:dp st b y):dp st (.tup [a,b]) (.tup [x,y]):=⟨_,rfl,_,_,rfl,h1,_,_,rfl,h2,rfl⟩
end
def si (k:Tx):List AT→Nat→Option Nat
 | [],_=>none
 | a::l,j=>if a.nm=k then some j else si k l (j+1)
theorem qZ {k:Tx}:∀ {l:List AT} {j:Nat},match si k l j with
  | none=>iv k l=none
  | some i=>j≤i∧l[i-j]?=iv k l∧(iv k l).isSome=true
 | [],_=>rfl
 | a::l,j=>by
  unfold si iv
  by_cases h:a.nm=k
  ·simp[h]
  ·simp only[h,if_false]
   have:=qZ (k:=k) (l:=l) (j:=j+1)
   cases hx:si k l (j+1) with
   | none=>rw[hx] at this;exact this
   | some i=>
    rw[hx] at this
    obtain ⟨h1,h2,h3⟩:=this
    refine ⟨by omega,?_,h3⟩
    have e:i-j=(i-(j+1))+1:=by omega
    rw[e,List.getElem?_cons_succ]
    exact h2
theorem wR {k:Tx}:∀ {l:List AT} {j:Nat},dL (.str k) ((l.map fun a=>LV.str a.nm).zip (nZ j l))=some ((si k l j).map fun i=>i64 (i:Nat))
 | [],_=>rfl
 | a::l,j=>by
  simp only[List.map_cons,nZ,List.zip_cons_cons,dL,qX,si]
  by_cases h:a.nm=k
  ·simp[h]
  ·have h':(k==a.nm)=false:=by simpa using Ne.symm h
   rw[h',if_neg h]
   exact wR
theorem uh:∀ {l:List AT} {j:Nat},(nZ j l).length=l.length
 | [],_=>rfl
 | _::l,j=>by simp[nZ,uh]
section
variable {st st':aa} {R:LV→aa→Prop}
theorem Cl {s:ST} (hs:s.ok) {k:Tx}:Av st true (some (.int .i64 0)) (.imap (s.l.map fun a=>.str a.nm) (nZ 0 s.l)) (.str k) true=some (match si k s.l 0 with
  | some i=>.tup [i64 i,.bool true]
  | none=>.tup [i64 0,.bool false]):=by
 have hk:(cM (s.l.map fun a=>LV.str a.nm) []).isSome=true:=by
  have:=jJ (ss:=s.l.map (·.nm)) (seen:=[]) (pI hs.rise) (by simp)
  rw[List.map_map] at this
  simp only[Function.comp_def] at this
  rw[this];rfl
 show wg _ _ _ _ _ _=_
 unfold wg
 rw[if_pos ⟨rfl,rfl,hk,by simp[uh]⟩,wR]
 cases si k s.l 0<;>rfl
theorem BJ {s:ST}:ld1 st (.iptr (sC s) 0)=some (i64 s.ver):=rfl
theorem zA {s:ST}:ld1 st (.iptr (sC s) 1)=some (.isl (atC s.l) s.l.length none):=rfl
theorem C5 {s:ST}:ld1 st (.iptr (sC s) 2)=some (.imap (s.l.map fun a=>.str a.nm) (nZ 0 s.l)):=rfl
theorem wS {l:List AT} {i:Nat} {a:AT} (h:l[i]?=some a):ldA st (.iptr (atC l) (i*6)) 6=some (aV a):=by
 have hlt:=(List.getElem?_eq_some_iff.1 h).1
 rw[tB (by rw[wQ];omega)]
 unfold atC
 rw[mP (r:=ed a) (by rw[List.getElem?_map,h];rfl)]
 rfl
theorem Cm {s:ST} (hs:s.ok) (k:Tx):Pu Tryz.prog 39 [sV s,.str k] (match iv k s.l with
  | some a=>.tup [aV a,.bool true]
  | none=>.tup [.agg (aX [] .nilp false false false false),.bool false]):=by
 refine Pu.of (c39 _ _ ?_) (by simp only[LV.aF,jT];rfl) (by split<;>simp[LV.plain,LV.aF,jR])
 have zag:aN (av (ax [(0,1),(1,1),(2,1),(3,1),(4,1),(5,1)]) [LV.str [],LV.nilp,LV.bool false,LV.bool false,LV.bool false,LV.bool false] [])=some (.agg (aX [] .nilp false false false false)):=rfl
 have hx:=qZ (k:=k) (l:=s.l) (j:=0)
 simp only[w39,cY,List.nil_append,List.length_nil,sV,pB,cP,cw,ab,ae,cu,cx,Nat.zero_add,C5,Cl hs]
 cases hi:si k s.l 0 with
 | none=>
  rw[hi] at hx
  rw[show iv k s.l=none from hx]
  simp only[az,List.getElem?_cons_zero,List.getElem?_cons_succ,ab,bq,Bool.not_false,ah,zag]
  rw[qq (l:=aX [] .nilp false false false false) rfl rfl rfl rfl]
  simp only[ay,ai]
  rw[ld6 (l:=aX [] .nilp false false false false) rfl rfl,ab]
  exact bH (v:=.tup [.agg _,.bool false]) _ rfl
 | some i=>
  rw[hi] at hx
  obtain ⟨_,h2,h3⟩:=hx
  rw[Nat.sub_zero] at h2
  obtain ⟨a,ha⟩:=Option.isSome_iff_exists.1 h3
  rw[ha] at h2 ⊢
  have hlt:=(List.getElem?_eq_some_iff.1 h2).1
  have e1:bh 6 (.isl (atC s.l) s.l.length none) (i64 i)=some (.iptr (atC s.l) (i*6)):=gr hlt
  simp only[az,List.getElem?_cons_zero,List.getElem?_cons_succ,ab,bq,Bool.not_true,ae,zA,e1,wS h2]
  rw[qq (l:=aX [] .nilp false false false false) rfl rfl rfl zn]
  simp only[ay,ai]
  rw[ld6 (l:=aC a) rfl rfl,ab]
  exact bH (v:=.tup [aV a,.bool true]) _ (by simp only[LV.plain,LV.aF,jR];rfl)
end
section
variable {st st':aa} {R:LV→aa→Prop}
theorem zB {cs:List LV} (h1:cs.length=6) (h2:cs.all LV.one=true):stV (st++[al.cells .rw [LV.str [],LV.nilp,LV.bool false,LV.bool false,LV.bool false,LV.bool false]]) 6 (.ptr st.length 0) (.agg cs)=some (st++[.cells .rw cs]):=by
 rw[qq aA rfl h1 h2];simp
theorem wT {x y:al} (h:st[0]?=some x):(st++[y])[0]?=some x:=by rw[List.getElem?_append_left (cI h)];exact h
end
section
variable {st st':aa} {R:LV→aa→Prop}
structure Fil (st:aa) (v:T) (f8 f9:Option Nat) (n:Nat) (ks vs:List LV):Prop where
 b0:st[0]?=some (.cells .rw [lvT v])
 b1:∃ y,st[1]?=some (.cells .rw [y])
 o8:br .rw st f8 1 n ks
 o9:br .rw st f9 1 n vs
 n8:∀ o,f8=some o→2≤o
 n9:∀ o,f9=some o→2≤o
 ne:∀ o,f8=some o→f9≠some o
structure Mid (st:aa) (v:T) (f8 f9:Option Nat) (n:Nat) (ks vs:List LV):Prop where
 b0:st[0]?=some (.cells .rw [lvT v])
 b1:∃ y,st[1]?=some (.cells .rw [y])
 o8:br .rw st f8 1 (n+1) ks
 o9:br .rw st f9 1 n vs
 n8:∀ o,f8=some o→2≤o
 n9:∀ o,f9=some o→2≤o
 ne:∀ o,f8=some o→f9≠some o
end
end Go.Proofs.YtknegckgmklnhaaGreatDoor
namespace Go.Proofs.YtknegckgmklnhaaGreatDoor
open Go Go.CP
theorem xX {l:List AT} {b:AT} (h:(l.map (·.nm)).Pairwise ltB) (hb:l.getLast?=some b):∀ x ∈ l,x=b∨ltB x.nm b.nm:=by
 obtain ⟨ys,rfl⟩:=List.getLast?_eq_some_iff.1 hb
 intro x hx
 rw[List.map_append] at h
 have:=(List.pairwise_append.1 h).2.2
 rcases List.mem_append.1 hx with h1|h1
 ·exact .inr (this x.nm (List.mem_map.2 ⟨x,h1,rfl⟩) b.nm (by simp))
 ·simp at h1;exact .inl h1
theorem AW {v:Int} {l:List AT} {a:AT} (h:ST.ok ⟨v,l⟩) (ht:a.ty.wf 8) (hm:dK l a=0):ST.ok ⟨v,l++[a]⟩:=by
 unfold dK at hm
 split at hm
 ·omega
 rename_i h16
 rw[← Cj] at hm
 obtain ⟨h1,h2,_,h4⟩:=ua hm
 have hl:=h.len
 refine ⟨h.ver,by simp at hl ⊢;omega,?_,?_,?_,?_⟩
 ·show ((l++[a]).map (·.nm)).Pairwise ltB
  rw[List.map_append]
  refine List.pairwise_append.2 ⟨h.rise,by simp,fun x hx y hy=>?_⟩
  simp at hy;subst hy
  obtain ⟨z,hz,rfl⟩:=List.mem_map.1 hx
  unfold dT at h2
  cases hg:l.getLast? with
  | none=>rw[List.getLast?_eq_none_iff] at hg;subst hg;cases hz
  | some b=>
   rw[hg] at h2
   rcases xX h.rise hg z hz with rfl|h3
   ·exact h2
   ·exact zt h3 h2
 all_goals
  intro x hx
  rcases List.mem_append.1 hx with hx|hx
  ·first|exact h.nm x hx|exact h.ty x hx|exact h.mo x hx
  ·simp at hx;subst hx;first|exact h1|exact ht|exact h4
theorem zC {s:Tx} {a:AT} (h:dd s=some a):a.ty.wf 8:=by
 unfold dd at h
 split at h
 ·split at h
  ·cases h
  ·split at h
   ·cases h
   ·rename_i t e
    split at h
    ·cases h;exact pW e
    ·cases h
 ·cases h
theorem q6 {v:Int}:∀ {ps:List Tx} {l l':List AT} {n:Int},ST.ok ⟨v,l⟩→bW l n ps=.inl l'→ST.ok ⟨v,l'⟩
 | [],l,l',n,h,e=>by simp only[bW,Sum.inl.injEq] at e;subst e;exact h
 | [p],l,l',n,h,e=>by
  simp only[bW] at e
  split at e
  ·simp only[Sum.inl.injEq] at e;subst e;exact h
  ·cases e
 | p::q::r,l,l',n,h,e=>by
  simp only[bW] at e
  split at e
  ·cases e
  ·rename_i a ha
   split at e
   ·rename_i hm
    exact q6 (AW h (zC ha) hm) e
   ·cases e
theorem vI {s:Tx} {S:ST} (h:cU s=.inl S):S.ok:=by
 unfold cU at h
 split at h
 ·split at h
  ·cases h
  ·rename_i v _
   split at h
   ·cases h
   ·rename_i hv
    split at h
    ·rename_i l e
     simp only[Sum.inl.injEq] at h
     subst h
     exact q6 ⟨(by show 0≤v∧v≤1000;omega),by simp,by simp,by simp,by simp,by simp⟩ e
    ·cases h
 ·cases h
end Go.Proofs.YtknegckgmklnhaaGreatDoor
