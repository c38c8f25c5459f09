/- Parts of the proof. -/
import Derived.Test.YtknegckgmklnhaaGreatDoorVbN2
namespace Go.Proofs.YtknegckgmklnhaaGreatDoor
open Go Go.CP
set_option maxRecDepth 100000
def iR (a:AT):Row:=⟨a.nm,kV a.ty,false,a.must,a.own,a.hide,a.new⟩
def atC (l:List AT):List LV:=fw (l.map iR)
def qu:Nat→List AT→List LV
 | _,[]=>[]
 | j,_::l=>i64 j::qu (j+1) l
def sC (s:ST):List LV:=[i64 s.ver,.isl (atC s.l) s.l.length none,.imap (s.l.map fun a=>.str a.nm) (qu 0 s.l)]
def sV (s:ST):LV:=.iptr (sC s) 0
theorem tX {a:AT}:(iR a).cells=aC a:=rfl
theorem LM {a:AT} (h:a.nm.length≤2 ^ 32):(iR a).ok:=⟨.inr ⟨a.ty,rfl,rfl⟩,h⟩
theorem pr:∀ {l:List AT},LV.aB (atC l)=true
 | []=>rfl
 | a::l=>by
  have:=pr (l:=l)
  unfold atC at this ⊢
  rw[List.map_cons,fw,cZ,this,tX,ll];rfl
theorem I3 {l:List AT}:(atC l).length=l.length*6:=by unfold atC;rw[po,List.length_map]
theorem mT:∀ {l:List AT} {j:Nat},LV.aB (qu j l)=true
 | [],_=>rfl
 | _::l,j=>by simp only[qu,LV.aB,LV.plain,mT (l:=l),Bool.and_true]
theorem jy {s:ST}:(sV s).plain=true:=by
 simp only[sV,sC,LV.plain,LV.aB,pr,mT,bD (f:=fun a:AT=>LV.str a.nm) fun _ _=>rfl];rfl
theorem yA:∀ {l:List AT} {j:Nat},(fN j ((l.map iR).map (·.nm))).map (·.1)=l.map fun a=>.str a.nm
 | [],_=>rfl
 | a::l,j=>by simp only[List.map_cons,fN];rw[yA (l:=l)];rfl
theorem yB:∀ {l:List AT} {j:Nat},(fN j ((l.map iR).map (·.nm))).map (·.2)=qu j l
 | [],_=>rfl
 | a::l,j=>by simp only[List.map_cons,fN,qu];rw[yB (l:=l)]
def eH (s:Tx):ST ⊕ Int × Int:=match splitB 10 s with
 | p::q::r=>match vX p with
  | none=>.inr (1,4)
  | some v=>if v<0∨1000<v then .inr (1,2) else match dc [] 2 (q::r) with
   | .inl l=>.inl ⟨v,l⟩
   | .inr e=>.inr e
 | _=>.inr (1,4)
theorem sA:∀ {l:List AT} {a:AT} {last:Tx},iy last (l.map iR)=0→iy last ((l++[a]).map iR)=iu (match l.getLast? with
  | none=>last
  | some b=>b.nm) a
 | [],a,last,_=>by
  simp only[List.nil_append,List.map_cons,List.map_nil,iy,List.getLast?_nil]
  show (if iu last a=0 then 0 else iu last a)=iu last a
  split<;>simp_all
 | b::l,a,last,h=>by
  simp only[List.map_cons,iy,List.cons_append] at h ⊢
  split at h
  ·rename_i e
   rw[if_pos e,sA (l:=l) h]
   cases l with
   | nil=>rfl
   | cons c l=>
    rw[List.getLast?_cons_cons]
    cases hq:(c::l).getLast? with
    | none=>simp at hq
    | some q=>rfl
  ·rename_i e;exact absurd h e
theorem Hd {v:Int} {l:List AT} {a:AT} (hv:¬ (v<0∨1000<v)) (hl:l.length≤16) (h:iy [] (l.map iR)=0):mkW v ((l++[a]).map iR)=fM l a:=by
 unfold mkW fM
 rw[if_neg hv]
 simp only[List.length_map,List.length_append,List.length_singleton]
 by_cases h16:l.length=16
 ·rw[if_pos (by omega),if_pos h16]
 ·rw[if_neg (by omega),if_neg h16,sA h]
  rfl
theorem mU {c:UInt8}:∀ {s a b:Tx} {l:List Tx},splitB c s=a::b::l→splitB c (s.drop (a.length+1))=b::l
 | [],a,b,l,h=>by simp[splitB] at h
 | x::s,a,b,l,h=>by
  rw[cT] at h
  split at h
  ·simp only[List.cons.injEq] at h
   obtain ⟨rfl,h⟩:=h
   simpa using h
  ·split at h
   ·simp at h
   ·rename_i p ps e
    simp only[List.cons.injEq] at h
    obtain ⟨rfl,h⟩:=h
    simp only[List.length_cons,List.drop_succ_cons]
    exact mU (by rw[e,h])
theorem oc {c:UInt8} {s a:Tx} (h:splitB c s=[a]):a=s:=by
 by_cases hi:Lib.indexByte s c = -1
 ·rw[jU hi] at h;simpa using h.symm
 ·have hg:=Lib.indexByte_ge s c
  obtain ⟨m,hm⟩:∃ m:Nat,Lib.indexByte s c=m:=⟨(Lib.indexByte s c).toNat,by omega⟩
  have:=(jV hm).1
  rw[this] at h
  simp only[List.cons.injEq] at h
  exact absurd h.2 cC
section
variable {st st':aa} {R:LV→aa→Prop}
structure Sch (st:aa) (n0:Nat) (v:Int) (l:List AT) (B:Nat) (f:Option Nat) (M:Nat):Prop where
 b:st[B]?=some (.cells .rw [i64 v,osl f 6 l.length,.map M])
 o:bB .rw st f 6 l.length (atC l)
 m:st[M]?=some (.map .rw (fN 0 ((l.map iR).map (·.nm))) (List.range l.length) l.length)
 nb:n0≤B
 nm:n0≤M
 nf:∀ o,f=some o→n0≤o
 ne:0<l.length∨f=none
 pw:(l.map (·.nm)).Pairwise ltB
theorem yC {c:UInt8} {s p q:Tx} {r:List Tx} (h:splitB c s=p::q::r):nZ c s=.tup [.str p,.str (s.drop (p.length+1)),.bool true]:=by unfold nZ;rw[h]
theorem yD {c:UInt8} {s p:Tx} (h:splitB c s=[p]):nZ c s=.tup [.str s,.str [],.bool false]:=by unfold nZ;rw[h]
theorem He {l:List AT} {a:AT}:atC (l++[a])=atC l++aC a:=by
 unfold atC
 rw[List.map_append,tT]
 simp[fw,tX]
theorem yE {s:Tx} {a:AT} (h:eD s=some a):a.nm.length≤s.length:=by
 unfold eD at h
 split at h
 ·rename_i w0 w1 w2 r e
  split at h
  ·cases h
  ·split at h
   ·cases h
   ·split at h
    ·cases h
     exact gY w1 (by rw[e];simp)
    ·cases h
 ·cases h
theorem Hf {v:Int} {l:List Row} (h:mkW v l=0):iy [] l=0∧l.length≤16:=by
 unfold mkW at h
 split at h
 ·omega
 split at h
 ·omega
 ·exact ⟨h,by omega⟩
theorem AR {s:Tx} {q:LV} (h:AtQ s q):∃ cs ok,cs.length=6∧cs.all LV.one=true∧q=.tup [.agg cs,.bool ok]:=by
 unfold AtQ at h
 split at h
 ·rename_i a _
  exact ⟨aC a,true,rfl,rfl,h⟩
 ·obtain ⟨nm,tv,tnil,m,o,hh,n,ht,rfl⟩:=h
  exact ⟨_,false,rfl,vW ht,rfl⟩
theorem AU {st0:aa} {v:Int} (hv:¬ (v<0∨1000<v)) (res:List AT ⊕ Int × Int)
  (hK1:∀ l B f M st,res=.inl l→Fr st0 st (fun _=>False)→Sch st st0.length v l B f M→R (.tup [.ptr B 0,i64 0,i64 0]) st)
  (hK2:∀ n e st,res=.inr (n,e)→Fr st0 st (fun _=>False)→R (.tup [.nilp,i64 n,i64 e]) st) :
  ∀ (k:Nat) (ps:List Tx) (rest:Tx) (l:List AT) (n B:Nat) (f:Option Nat) (M:Nat) (st:aa),ps.length≤k→splitB 10 rest=ps→rest.length≤2 ^ 20→n+k≤2 ^ 30→l.length≤16→iy [] (l.map iR)=0→(∀ a ∈ l,a.nm.length≤2 ^ 32)→dc l n ps=res→
   Fr st0 st (fun _=>False)→Sch st st0.length v l B f M→va (.str rest) (i64 v) (.ptr B 0) (i64 0) (i64 n) R st:=by
 intro k
 induction k with
 | zero=>
  intro ps rest l n B f M st hk hs
  have:=cC (c:=10) (s:=rest)
  rw[hs] at this
  exact absurd (List.eq_nil_of_length_eq_zero (by omega)) this
 | succ k ih=>
  intro ps rest l n B f M st hk hs hr hn hl hw hnm hp hfr hS
  refine Fv _ _ _ _ _ ?_
  have e0:((0:Int)==0)=true:=rfl
  simp only[zY,ae,aQ,e0,ab,ai,bN,ia]
  by_cases hre:rest=[]
  ·subst hre
   have hps:ps=[[]]:=by rw[← hs];rfl
   subst hps
   simp only[dc,if_true] at hp
   have e1:(!(([]:Tx)==[]))=false:=rfl
   have e2:((0:Int) != 0)=false:=rfl
   simp only[e1,af,bx,e2,ab]
   exact hK1 l B f M st hp.symm hfr hS
  ·have e1:(!(rest==[]))=true:=by simp[hre]
   simp only[e1,ai]
   refine (Kq rest (by omega)).call ?_
   have put:∀ cs:List LV,cs.length=6→cs.all LV.one=true→stV (st++[av.cells .rw [LV.str [],LV.nilp,LV.bool false,LV.bool false,LV.bool false,LV.bool false]]) 6 (.ptr st.length 0) (.agg cs)=some (st++[.cells .rw cs]):=fun cs h1 h2=>by
    rw[sx aw rfl h1 h2];simp
   have fr1:∀ y,Fr st0 (st++[y]) (fun _=>False):=fun y=>hfr.trans Fr.app fun _ _ h=>h
   match ps,hs with
   | [],hs=>exact absurd hs cC
   | [p],hs=>
    have hps:=oc hs
    subst hps
    simp only[dc,hre,if_false] at hp
    rw[yD hs]
    simp only[au,List.getElem?_cons_zero,List.getElem?_cons_succ,ab]
    refine (Ha (s:=p) (by omega)).call fun q hq=>?_
    obtain ⟨cs,ok,h1,h2,rfl⟩:=AR hq
    simp only[au,List.getElem?_cons_zero,List.getElem?_cons_succ,ab,b6,put cs h1 h2,ay,ag,bF,Bool.not_false,ai]
    exact hK2 n 4 _ hp.symm (fr1 _)
   | p::q::r,hs=>
    have hnx:=mU hs
    have hpl:=gY p (by rw[hs];simp)
    rw[yC hs]
    simp only[au,List.getElem?_cons_zero,List.getElem?_cons_succ,ab]
    refine (Ha (s:=p) (by omega)).call fun w hq=>?_
    simp only[dc] at hp
    cases hpa:eD p with
    | none=>
     rw[hpa] at hp
     unfold AtQ at hq
     rw[hpa] at hq
     obtain ⟨nm,tv,tnil,m,o,hh,nn,ht,rfl⟩:=hq
     simp only[au,List.getElem?_cons_zero,List.getElem?_cons_succ,ab,b6,put _ rfl (vW ht),ay,ag,bF,Bool.not_true,Bool.not_false,af,ai]
     exact hK2 n 4 _ hp.symm (fr1 _)
    | some a=>
     rw[hpa] at hp
     unfold AtQ at hq
     rw[hpa] at hq
     simp only at hq hp
     subst hq
     have hB1:∀ y,(st++[y])[B]?=some (.cells .rw [i64 v,osl f 6 l.length,.map M]):=fun y=>by rw[List.getElem?_append_left (bL hS.b)];exact hS.b
     have hlB:∀ y,ld1 (st++[y]) (.ptr B 1)=some (osl f 6 l.length):=fun y=>by rw[a7 (hB1 y)];rfl
     have g6:ldA (st++[av.cells .rw (aC a)]) (.ptr st.length 0) 6=some (aV a):=ld6 aw rfl
     have ef:ao (fun i=>some (i*6,6)) (List.replicate 1 [LV.str [],LV.nilp,LV.bool false,LV.bool false,LV.bool false,LV.bool false]).flatten [(0,aV a)]=some (aC a):=rfl
     have ho1:=hS.o.fr (st':=st++[.cells .rw (aC a)]) (S:=fun _=>False) Fr.app (fun _ _ h=>h)
     obtain ⟨st2,f2,q1,q2,q3,q4⟩:=iQ ho1 (new:=aC a) rfl rfl (by omega) (b:=32)
     have hlB2:ld1 ((st++[av.cells .rw (aC a)])++[av.cells .rw (aC a)]) (.ptr B 1)=some (osl f 6 l.length):=by
      rw[a7 (l:=[i64 v,osl f 6 l.length,.map M]) (m:=.rw) (by rw[List.getElem?_append_left (by simp;have:=bL hS.b;omega)];exact hB1 _)];rfl
     simp only[au,List.getElem?_cons_zero,List.getElem?_cons_succ,ab,b6,put _ vV sw,ay,ag,bF,Bool.not_true,af,aF,aq,Nat.zero_add,hlB,g6,ef,aY,hlB2,true_and,q1]
     have hfr2:Fr st0 st2 (fun _=>False):=(fr1 _).trans q3 fun j hj h=>by have:=hS.nf j h;omega
     have hlen:((l++[a]).map iR).length=l.length+1:=by simp
     have hnm':∀ x ∈ l++[a],x.nm.length≤2 ^ 32:=fun x hx=>by
      rcases List.mem_append.1 hx with h|h
      ·exact hnm x h
      ·simp at h;subst h;have:=yE hpa;omega
     have hmore:=Hd (a:=a) hv hl hw
     rw[← He,← hlen] at q2
     rw[← hlen]
     refine tV (fun x hx=>?_) (by rw[hlen];omega) q2 (.inl (by rw[hlen];omega)) (fun e st3 he hme hfr3=>?_) fun st3 B3 M3 f3 hme hfr3 hb3 hm3 hf3 hne3 g1 g2 g3 g4=>?_
     ·obtain ⟨y,hy,rfl⟩:=List.mem_map.1 hx
      exact LM (hnm' y hy)
     ·rw[hmore] at hme
      rw[hme,if_neg he] at hp
      simp only[au,List.getElem?_cons_zero,List.getElem?_cons_succ,ab]
      refine Fw _ _ _ _ _ ?_
      have he':(e != 0)=true:=by simpa using he
      simp only[zZ,ae,bx,he',ab,ai]
      exact hK2 n e st3 hp.symm (hfr2.trans hfr3 fun _ _ h=>h)
     ·have hz:=Hf hme
      rw[hmore] at hme
      rw[if_pos hme] at hp
      simp only[au,List.getElem?_cons_zero,List.getElem?_cons_succ,ab]
      refine Fw _ _ _ _ _ ?_
      have he':((0:Int) != 0)=false:=rfl
      simp only[zZ,ae,bx,he',ab,af,aG,aH (show n<2 ^ 40 by omega)]
      have hl2:=hfr2.len
      rw[hlen] at g1 g2 g3
      refine ih (q::r) (rest.drop (p.length+1)) (l++[a]) (n+1) B3 f3 M3 st3 (by simp at hk ⊢;omega) hnx (by simp;omega) (by omega) (by have:=hz.2;simp at this ⊢;omega) hz.1 hnm' hp (hfr2.trans hfr3 fun _ _ h=>h) ⟨?_,?_,?_,by omega,by omega,fun o ho=>by have:=hf3 o ho;omega,?_,?_⟩
      ·simpa using g1
      ·simpa[atC] using g2
      ·simpa using g3
      ·rcases hne3 with h|h
       ·exact .inl (by simp)
       ·exact .inr h
      ·have e:((l++[a]).map iR).map (·.nm)=(l++[a]).map (·.nm):=by rw[List.map_map];rfl
       rw[← e];exact g4
end
section
variable {st st':aa} {R:LV→aa→Prop}
theorem LN {n0:Nat} {v:Int} {l:List AT} {B:Nat} {f:Option Nat} {M:Nat} (h:Sch st n0 v l B f M):dp (eW n0 st) (sV ⟨v,l⟩) (.ptr B 0):=by
 refine .inl ⟨B,.rw,[i64 v,osl f 6 l.length,.map M],rfl,by rw[fR h.nb];exact h.b,rfl,Nat.le_refl _,?_⟩
 refine ⟨_,_,rfl,rfl,_,_,rfl,dA (h.o.eW h.nf) rfl (bA _ pr),_,_,rfl,?_,rfl⟩
 refine .inl ⟨M,.rw,_,_,_,_,rfl,by rw[fR h.nm];exact h.m,rfl,List.Perm.refl _,?_,yA,?_⟩
 ·have:=gm (ss:=l.map (·.nm)) (seen:=[]) (dB h.pw) (by simp)
  rw[List.map_map] at this
  show (cN (l.map fun a=>.str a.nm) []).isSome=true
  rw[show (l.map fun a=>LV.str a.nm)=l.map (LV.str ∘ fun x=>x.nm) from rfl,this]
  rfl
 ·rw[yB]
  exact bA _ mT
theorem yF (g:GlS st) {s:Tx} (hs:s.length≤2 ^ 20) (h1:∀ S,eH s=.inl S→R (.tup [sV S,i64 0,i64 0]) st) (h2:∀ n e,eH s=.inr (n,e)→R (.tup [.nilp,i64 n,i64 e]) st) :
  az Tryz.prog 21 [.str s] st R:=by
 refine az.Fa ?_
 refine c21 _ ?_
 have bad:∀ n e,eH s=.inr (n,e)→∀ st2,Fr st st2 (fun _=>False)→∃ v,Fr st st2 (fun _=>False)∧dp (eW st.length st2) v (.tup [.nilp,i64 n,i64 e])∧v.plain=true∧R v st:=fun n e h st2 hf=>⟨_,hf,bn _ rfl,rfl,h2 n e h⟩
 have hl:¬ ((s.length:Int) > 1048576):=by omega
 simp only[w21,bh,ab,ae,cq,hl,decide_false,af]
 refine (Kq s (by omega)).call ?_
 match hsp:splitB 10 s with
 | []=>exact absurd hsp cC
 | [p]=>
  have hps:=oc hsp
  subst hps
  have he:eH p=.inr (1,4):=by unfold eH;rw[hsp]
  rw[yD hsp]
  simp only[au,List.getElem?_cons_zero,List.getElem?_cons_succ,ab]
  refine tW g (by omega) (fun n _=>?_) fun _ n=>?_
  all_goals
   simp only[au,List.getElem?_cons_zero,List.getElem?_cons_succ,ab,bF,Bool.not_false,ai]
   exact bad 1 4 he _ Fr.refl
 | p::q::r=>
  have hnx:=mU hsp
  have hpl:=gY p (by rw[hsp];simp)
  have hcl:=dX (c:=10) (s:=s)
  have hcc:s.count 10≤s.length:=List.count_le_length
  rw[hsp] at hcl
  have he:eH s=match vX p with
   | none=>.inr (1,4)
   | some v=>if v<0∨1000<v then .inr (1,2) else match dc [] 2 (q::r) with
    | .inl l=>.inl ⟨v,l⟩
    | .inr e=>.inr e:=by unfold eH;rw[hsp];try rfl
  rw[yC hsp]
  simp only[au,List.getElem?_cons_zero,List.getElem?_cons_succ,ab]
  refine tW g (by omega) (fun v hv=>?_) fun hv n=>?_
  ·rw[hv] at he
   simp only at he
   simp only[au,List.getElem?_cons_zero,List.getElem?_cons_succ,ab,bF,Bool.not_true,af]
   refine tV (v:=v) (l:=[]) (f:=none) (fun _ h=>by simp at h) (by simp) bB.nil (.inr rfl) (fun e st3 hne hme hfr=>?_) fun st3 B M f hme hfr hB hM hf hne g1 g2 g3 g4=>?_
   ·simp only[au,List.getElem?_cons_zero,List.getElem?_cons_succ,ab]
    have hme':v<0∨1000<v:=by
     refine Classical.byContradiction fun h=>hne ?_
     rw[← hme]
     unfold mkW
     rw[if_neg h];rfl
    have e2:e=2:=by rw[← hme];unfold mkW;rw[if_pos hme']
    subst e2
    rw[if_pos hme'] at he
    refine Fv _ _ _ _ _ ?_
    have q1:((2:Int)==0)=false:=rfl
    have q2:((2:Int) != 0)=true:=rfl
    simp only[zY,ae,aQ,bx,q1,q2,ab,af,ai]
    exact bad 1 2 he _ hfr
   ·have hv0:¬ (v<0∨1000<v):=by
     intro h
     unfold mkW at hme
     rw[if_pos h] at hme
     omega
    rw[if_neg hv0] at he
    simp only[au,List.getElem?_cons_zero,List.getElem?_cons_succ,ab]
    refine AU (st0:=st) hv0 (dc [] 2 (q::r)) (fun l B' f' M' st4 hres hfr4 hS4=>?_) (fun n e st4 hres hfr4=>?_) (q::r).length (q::r) (s.drop (p.length+1)) [] 2 B f M st3 (Nat.le_refl _) hnx (by simp;omega) (by simp at hcl ⊢;omega) (by simp) rfl (by simp) rfl hfr ⟨?_,?_,?_,hB,hM,hf,?_,?_⟩
    ·rw[hres] at he
     exact ⟨.tup [sV ⟨v,l⟩,i64 0,i64 0],hfr4,⟨_,rfl,_,_,rfl,LN hS4,_,_,rfl,rfl,_,_,rfl,rfl,rfl⟩,by simp only[LV.plain,LV.aB,jy];rfl,h1 _ he⟩
    ·rw[hres] at he
     exact bad n e he _ hfr4
    ·exact g1
    ·exact g2
    ·exact g3
    ·exact hne
    ·exact g4
  ·rw[hv] at he
   simp only[au,List.getElem?_cons_zero,List.getElem?_cons_succ,ab,bF,Bool.not_true,Bool.not_false,af,ai]
   exact bad 1 4 he _ Fr.refl
end
section
variable {st st':aa} {R:LV→aa→Prop}
theorem CO {a b x y:LV} (h1:dp st a x) (h2:dp st b y):dp st (.tup [a,b]) (.tup [x,y]):=⟨_,rfl,_,_,rfl,h1,_,_,rfl,h2,rfl⟩
theorem sB {x y:LV} {d:Nat} {b:Bool} (hx:LV.aB [x,y]=true) (h1:[x,y].all LV.one=true) :
  Dp (WrQ (d+1) b) (.tup [.sl st.length 0 1 (.ex 1),.bool b]) (st++[.cells .rw [x,y]]):=
 ⟨.tup [.isl [x,y] 1 none,.bool b],CO (.inl ⟨_,_,_,.rw,[x,y],rfl,aw,rfl,by simp,bA _ hx⟩) rfl,by simpa[LV.plain,LV.aB] using hx,_,1,[x,y],rfl,rfl,rfl,hx,h1,by omega⟩
theorem px {x y:LV} {cs:List LV} {k d:Nat} (hx:LV.aB [x,y]=true) (h1:[x,y].all LV.one=true) (hc:cs.length=k*2) (hp:LV.aB cs=true) (ho:cs.all LV.one=true) (hk:k≤d) (hd:d≤1000) {b:Bool} :
  bd2 (ar (st++[.cells .rw [x,y]]) 2 24 .rw (.sl st.length 0 1 (.ex 1)) (.isl cs k none)) fun v st2=>Dp (WrQ (d+1) b) (.tup [v,.bool b]) st2:=by
 have hs:=xB (st:=st++[.cells .rw [x,y]]) (c:=none) hc
 by_cases hk0:k=0
 ·subst hk0
  simp only[ar,hs,if_true,ag]
  exact sB hx h1
 ·have c1:¬ (1+k≤1):=by omega
  have hr:ew (1+k) 24=true:=db (by omega) (by omega)
  have e:ar (st++[.cells .rw [x,y]]) 2 24 .rw (.sl st.length 0 1 (.ex 1)) (.isl cs k none)=some (.sl (st++[av.cells .rw [x,y]]).length 0 (1+k) (.rest 2),(st++[.cells .rw [x,y]])++[.cells .rw ([x,y]++cs)]):=by
   simp[ar,hs,hk0,c1,hr]
  rw[e,ag]
  have hpl:LV.aB ([x,y]++cs)=true:=by rw[cZ,hx,hp];rfl
  refine ⟨.tup [.isl ([x,y]++cs) (1+k) none,.bool b],CO (.inl ⟨_,_,_,.rw,[x,y]++cs,rfl,aw,rfl,by simp,?_⟩) rfl,by simp only[LV.plain,LV.aB,hpl];rfl,_,1+k,_,rfl,rfl,by simp[hc];omega,hpl,by rw[List.all_append,h1,ho];rfl,by omega⟩
  rw[List.drop_zero,List.take_length]
  exact bA _ hpl
def AV (ts:List KT) (vs:List T):Prop:=∀ (i:Nat) (t:KT) (v:T),ts[min i (ts.length-1)]?=some t→vs[i]?=some v→bU t v=true
theorem Eb {a b:Nat}:kb [i64 a,i64 b]=some (i64 (min a b:Nat)):=by
 simp only[kb,na,wE]
 rcases Nat.lt_or_ge b a with h|h
 ·rw[Nat.min_eq_right (by omega)]
  have:(b:Int)<a:=by omega
  simp[this]
 ·rw[Nat.min_eq_left h]
  have:¬ (b:Int)<a:=by omega
  simp[this]
theorem AW {d:Nat} (hd:d≤1000) {ts:List KT} {vs:List T} {cs:List LV} (ht:0<vs.length→0<ts.length) (htb:ts.length≤big) (hb:vs.length≤big) (hc:cs.length=vs.length*2) (hp:LV.aB cs=true) (h1:cs.all LV.one=true)
  (ih:∀ (i:Nat) (t:KT) (v:T),ts[min i (ts.length-1)]?=some t→vs[i]?=some v→Pb Tryz.prog 118 [kV t,vT v] (WrQ d (!bU t v))) {b:Bool} (hbb:b=false↔AV ts vs) :
  ∀ (k i:Nat) (st:aa),i+k=vs.length→(∀ (j:Nat) (t:KT) (v:T),j<i→ts[min j (ts.length-1)]?=some t→vs[j]?=some v→bU t v=true)→vu (.isl (kVs ts) ts.length none) (.isl cs vs.length none) (vL vs) (i64 vs.length) (i64 i) (Dp (WrQ (d+1) b)) st:=by
 intro k
 induction k with
 | zero=>
  intro i st hi hh
  refine Gb _ _ _ _ _ ?_
  have c1:¬ ((i:Int)<vs.length):=by omega
  have e:b=false:=hbb.2 fun j t v h2 h3=>hh j t v (by have:=(List.getElem?_eq_some_iff.1 h3).1;omega) h2 h3
  subst e
  simp only[Al,ae,ax,ab,c1,decide_false,af]
  exact vS
 | succ k ihk=>
  intro i st hi hh
  refine Gb _ _ _ _ _ ?_
  have hlt:i<vs.length:=by omega
  have c1:((i:Int)<vs.length):=by omega
  have e1:aK 1 (vL vs) (i64 i)=some (.iptr (fk vs) (i*1)):=bO hlt
  have hv:vs[i]?=some vs[i]:=List.getElem?_eq_getElem hlt
  have hlv:(fk vs).length=vs.length:=by rw[dJ];simp
  have g:∀ s:aa,ldA s (.iptr (fk vs) (i*1)) 1=some (vT vs[i]):=fun s=>by
   rw[eB (by omega),Nat.mul_one,dJ,← List.map_drop,List.drop_eq_getElem_cons hlt];rfl
  have ht:=ht (by omega)
  have hm:min i (ts.length-1)<ts.length:=by omega
  have htm:ts[min i (ts.length-1)]?=some ts[min i (ts.length-1)]:=List.getElem?_eq_getElem hm
  have e2:aK 1 (.isl (kVs ts) ts.length none) (i64 (min i (ts.length-1):Nat))=some (.iptr (kVs ts) (min i (ts.length-1)*1)):=bO hm
  have hw:IntKind.i64.wrap ((ts.length:Int)-1)=((ts.length-1:Nat):Int):=by rw[wrap_i64 (by omega) (by unfold big at htb;omega)];omega
  have hk:(kVs ts)[min i (ts.length-1)*1]?=some (kV ts[min i (ts.length-1)]):=by rw[Nat.mul_one,vQ,htm];rfl
  generalize ts[min i (ts.length-1)]=t at htm hk
  generalize vs[i]=v at hv g
  have gb:∀ {s:aa},ldA (s++[av.cells .rw [lvT v]]) (.ptr s.length 0) 1=some (vT v):=fun {s}=>by rw[cv aw (by simp)];rfl
  simp only[Al,ae,ax,ab,c1,decide_true,ai,e1,g,b6,eF,ay,ag,aR,cX,hw,Eb,e2,ba,hk,gb]
  refine (ih i t v htm hv).call fun r hr=>?_
  obtain ⟨x,n,ds,rfl,rfl,hn,hpd,h1d,hnd⟩:=hr
  simp only[au,List.getElem?_cons_zero,List.getElem?_cons_succ,ab]
  refine Lx _ _ _ _ _ _ _ _ ?_
  cases htk:bU t v with
  | true=>
   simp only[Am,Bool.not_true,af,ae,aG,ab,aH (show i<2 ^ 40 by unfold big at hb;omega)]
   refine ihk (i+1) _ (by omega) fun j t' v' hj h2 h3=>?_
   rcases Nat.lt_or_ge j i with h|h
   ·exact hh j t' v' h h2 h3
   ·have:j=i:=by omega
    subst this
    rw[htm] at h2;rw[hv] at h3
    cases h2;cases h3
    exact htk
  | false=>
   have e:b=true:=by
    cases b with
    | true=>rfl
    | false=>have:=hbb.1 rfl i t v htm hv;rw[htk] at this;cases this
   subst e
   have e3:aK 2 (.isl cs vs.length none) (i64 i)=some (.iptr cs (i*2)):=bO hlt
   have hd2:(cs.drop (i*2)).take 2=[cs[i*2]'(by omega),cs[i*2+1]'(by omega)]:=by
    rw[List.drop_eq_getElem_cons (by omega),List.drop_eq_getElem_cons (by omega)];rfl
   have p1:=mH hp _ (List.getElem_mem (show i*2<cs.length by omega))
   have p2:=mH hp _ (List.getElem_mem (show i*2+1<cs.length by omega))
   have o1:=List.all_eq_true.1 h1 _ (List.getElem_mem (show i*2<cs.length by omega))
   have o2:=List.all_eq_true.1 h1 _ (List.getElem_mem (show i*2+1<cs.length by omega))
   generalize cs[i*2]'(by omega)=y1 at hd2 p1 o1
   generalize cs[i*2+1]'(by omega)=y2 at hd2 p2 o2
   have ef:ao (fun i=>some (i*2,2)) (List.replicate 1 [LV.str [],i64 0]).flatten [(0,.agg [y1,y2])]=some [y1,y2]:=rfl
   have g2:∀ s:aa,ldA s (.iptr cs (i*2)) 2=some (.agg [y1,y2]):=fun s=>by rw[eB (by omega),hd2]
   simp only[Am,Bool.not_false,ai,e3,ab,g2,ef,aY,ag]
   exact px (by simp[LV.aB,p1,p2]) (by simp[o1,o2]) hn hpd h1d hnd hd
theorem Hg {d:Nat} (hd:d≤1000) {ts:List KT} {vs:List T} {cs:List LV} (ht:0<vs.length→0<ts.length) (htb:ts.length≤big) (hb:vs.length≤big) (hc:cs.length=vs.length*2) (hp:LV.aB cs=true) (h1:cs.all LV.one=true)
  (ih:∀ (i:Nat) (t:KT) (v:T),ts[min i (ts.length-1)]?=some t→vs[i]?=some v→Pb Tryz.prog 118 [kV t,vT v] (WrQ d (!bU t v))) {b:Bool} (hbb:b=false↔AV ts vs) :
  Pb Tryz.prog 174 [.isl (kVs ts) ts.length none,vL vs,.isl cs vs.length none] (WrQ (d+1) b):=by
 refine Pb.of (Ox _ _ _ ?_) (by simp[LV.aB,LV.plain,pf,fG,hp])
 simp only[Ny,aR,ab]
 exact AW hd ht htb hb hc hp h1 ih hbb vs.length 0 [] (by omega) fun _ _ _ h=>by omega
end
section
variable {st st':aa} {R:LV→aa→Prop}
def ja (t:KT) (k:Tx):Option KT:=(dU k t.ns 0).bind (t.l[·]?)
def od (t:KT) (e:Tx × T):Bool:=match ja t e.1 with
 | some x=>bU x e.2
 | none=>false
theorem AX {d:Nat} (hd:d≤1000) {t:KT} {es:List (Tx × T)} (hv:(T.map es).ok) (htb:t.ns.length≤big) (hl:t.ns.length=t.l.length) (hl2:t.ls.length=t.l.length)
  (ih:∀ (i:Nat) (x:KT),t.l[i]?=some x→∀ e ∈ es,Pb Tryz.prog 118 [kV x,vT e.2] (WrQ d (!bU x e.2))) :
  ∀ (k i:Nat) (st:aa),i+k=es.length→st[0]?=some (.cells .rw [lvT (.map es)])→
   vt (kV t) (.ptr 0 0) (vL (es.map (·.2))) (sL (es.map (·.1))) (i64 es.length) (i64 i) (LV.tup []) (LV.tup []) (LV.tup []) (Dp (WrQ (d+1) (!((es.drop i).all (od t)&&(missing t.ns t.ls es).isEmpty)))) st:=by
 have hbe:es.length≤big:=by simp only[T.ok] at hv;exact hv.1
 intro k
 induction k with
 | zero=>
  intro i st hi h0
  refine F5 _ _ _ _ _ _ _ _ _ ?_
  have c1:¬ ((i:Int)<es.length):=by omega
  have g:ldA st (.ptr 0 0) 1=some (vT (.map es)):=by rw[cv h0 (by simp)];rfl
  simp only[Ak,ae,ax,ab,c1,decide_false,af,g]
  refine (AL hv htb (by omega)).call ?_
  rw[List.drop_eq_nil_of_le (by omega)]
  have hml:=qi (es:=es) (ns:=t.ns) (ls:=t.ls)
  generalize missing t.ns t.ls es=ms at hml
  simp only[aR,ab,List.all_nil,Bool.true_and]
  refine Iz _ _ _ _ _ _ _ _ _ ?_
  cases ms with
  | nil=>exact vS
  | cons m ms=>
   have c2:((0:Int)<(m::ms).length):=by simp only[List.length_cons];omega
   have e1:aK 1 (sL (m::ms)) (.int .i64 0)=some (.iptr ((m::ms).map .str) (0*1)):=bO (i:=0) (by simp)
   have hg:((m::ms).map LV.str)[0*1]?=some (.str m):=rfl
   simp only[Cw,ae,ax,ab,c2,decide_true,ai,e1,ba,hg]
   refine (vP _).call ?_
   have ef:ao (fun i=>some (i*2,2)) (List.replicate 1 [LV.str [],i64 0]).flatten [(0,.agg [.str m,i64 (-1)])]=some [.str m,i64 (-1)]:=rfl
   simp only[ef,aY,ag]
   exact sB rfl rfl
 | succ k ihk=>
  intro i st hi h0
  refine F5 _ _ _ _ _ _ _ _ _ ?_
  have hlt:i<es.length:=by omega
  have c1:((i:Int)<es.length):=by omega
  have e1:aK 1 (sL (es.map (·.1))) (i64 i)=some (.iptr ((es.map (·.1)).map .str) (i*1)):=bO (by simpa using hlt)
  have hg:((es.map (·.1)).map LV.str)[i*1]?=some (.str es[i].1):=by simp[hlt]
  have e2:aK 1 (vL (es.map (·.2))) (i64 i)=some (.iptr (fk (es.map (·.2))) (i*1)):=bO (by simpa using hlt)
  have g:∀ s:aa,ldA s (.iptr (fk (es.map (·.2))) (i*1)) 1=some (vT es[i].2):=fun s=>by
   rw[eB (by rw[dJ];simp;omega),Nat.mul_one,dJ,List.map_map,← List.map_drop,List.drop_eq_getElem_cons hlt];rfl
  have hm:es[i] ∈ es:=List.getElem_mem hlt
  have hdr:es.drop i=es[i]::es.drop (i+1):=List.drop_eq_getElem_cons hlt
  generalize es[i]=e at hg g hm hdr
  simp only[Ak,ae,ax,ab,c1,decide_true,ai,e1,ba,hg]
  have hfp:Pu Tryz.prog 213 [kV t,.str e.1] (match ja t e.1 with
   | some x=>.tup [kV x,.bool true]
   | none=>.tup [.nilp,.bool false]):=GU htb hl
  refine hfp.call ?_
  rw[hdr,List.all_cons]
  have hf:od t e=match ja t e.1 with|some x=>bU x e.2|none=>false:=rfl
  rw[hf]
  cases hx:ja t e.1 with
  | none=>
   simp only[au,List.getElem?_cons_zero,List.getElem?_cons_succ,ab,bF,Bool.not_false,ai]
   refine (vP _).call ?_
   have ef:ao (fun i=>some (i*2,2)) (List.replicate 1 [LV.str [],i64 0]).flatten [(0,.agg [.str e.1,i64 (-1)])]=some [.str e.1,i64 (-1)]:=rfl
   simp only[ef,aY,ag]
   exact sB rfl rfl
  | some x=>
   have hxl:∃ j:Nat,t.l[j]?=some x:=by
    unfold ja at hx
    obtain ⟨j,_,h⟩:=Option.bind_eq_some_iff.1 hx
    exact ⟨j,h⟩
   obtain ⟨j,hj⟩:=hxl
   simp only[au,List.getElem?_cons_zero,List.getElem?_cons_succ,ab,bF,Bool.not_true,af,e2,g]
   refine (ih j x hj e hm).call fun r hr=>?_
   obtain ⟨y,n,ds,rfl,rfl,hn,hpd,h1d,hnd⟩:=hr
   simp only[au,List.getElem?_cons_zero,List.getElem?_cons_succ,ab]
   cases htk:bU x e.2 with
   | true=>
    simp only[Bool.not_true,af,aG,ab,aH (show i<2 ^ 40 by unfold big at hbe;omega),Bool.true_and]
    exact ihk (i+1) st (by omega) h0
   | false=>
    simp only[Bool.not_false,ai,Bool.false_and]
    refine (vP _).call ?_
    have ef:ao (fun i=>some (i*2,2)) (List.replicate 1 [LV.str [],i64 0]).flatten [(0,.agg [.str e.1,i64 (-1)])]=some [.str e.1,i64 (-1)]:=rfl
    simp only[ef,aY,ag]
    exact px rfl rfl hn hpd h1d hnd hd
theorem Hh {d:Nat} (hd:d≤1000) {t:KT} {es:List (Tx × T)} (hv:(T.map es).ok) (htb:t.ns.length≤big) (hl:t.ns.length=t.l.length) (hl2:t.ls.length=t.l.length)
  (ih:∀ (i:Nat) (x:KT),t.l[i]?=some x→∀ e ∈ es,Pb Tryz.prog 118 [kV x,vT e.2] (WrQ d (!bU x e.2))) :
  Pb Tryz.prog 173 [kV t,vT (.map es)] (WrQ (d+1) (!(es.all (od t)&&(missing t.ns t.ls es).isEmpty))):=by
 refine Pb.of (c173 _ _ ?_) ju
 have g:ldA ([]++[av.cells .rw [lvT (.map es)]]) (.ptr 0 0) 1=some (vT (.map es)):=rfl
 simp only[Nx,iw,ag,List.length_nil,g,ab]
 refine (nM hv).call ?_
 simp only[g,ab]
 refine (nJ hv).call ?_
 have hk:(T.map es).keys=es.map (·.1):=rfl
 have hi:(T.map es).items=es.map (·.2):=rfl
 rw[hk,hi]
 simp only[aR,ab,List.length_map]
 have:=AX hd hv htb hl hl2 ih es.length 0 ([]++[av.cells .rw [lvT (.map es)]]) (by omega) rfl
 simpa using this
end
end Go.Proofs.YtknegckgmklnhaaGreatDoor
