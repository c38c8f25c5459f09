/- Parts of the proof. -/
import Derived.Test.YtknegckgmklnhaaGreatDoorVbL9
namespace Go.Proofs.YtknegckgmklnhaaGreatDoor
open Go Go.CP
set_option maxRecDepth 100000
structure iX where
 nm:Tx
 tx:Tx
 t:List LV
 m:Bool
 o:Bool
 h:Bool
 n:Bool
def iX.cells (b:iX):List LV:=.str b.nm::.str b.tx::(b.t++[.bool b.m,.bool b.o,.bool b.h,.bool b.n])
def brC:List iX→List LV
 | []=>[]
 | b::l=>b.cells++brC l
def bO (b:iX):Row:=⟨b.nm,match bV b.tx with
 | some t=>kV t
 | none=>.nilp,(bV b.tx).isNone,b.m,b.o,b.h,b.n⟩
theorem Al {b:iX} (h:b.nm.length≤60):(bO b).ok:=by
 refine ⟨?_,by show b.nm.length≤_;omega⟩
 unfold bO
 cases bV b.tx with
 | none=>exact .inl ⟨rfl,rfl⟩
 | some t=>exact .inr ⟨t,rfl,rfl⟩
theorem Am {b:iX} (h:b.t.length=4):b.cells.length=10:=by unfold iX.cells;simp[h]
theorem An:∀ {l:List iX} {i j:Nat} {b:iX},(∀ b ∈ l,b.t.length=4)→l[i]?=some b→j<10→(brC l)[i*10+j]?=b.cells[j]?
 | b::l,0,j,a,ht,h,hj=>by
  simp only[List.getElem?_cons_zero,Option.some.injEq] at h
  subst h
  rw[brC,Nat.zero_mul,Nat.zero_add,List.getElem?_append_left (by rw[Am (ht b (by simp))];exact hj)]
 | b::l,i+1,j,a,ht,h,hj=>by
  simp only[List.getElem?_cons_succ] at h
  have hb:=Am (ht b (by simp))
  rw[brC,show (i+1)*10+j=b.cells.length+(i*10+j) by rw[hb];omega,List.getElem?_append_right (by omega),Nat.add_sub_cancel_left]
  exact An (fun x hx=>ht x (List.mem_cons_of_mem _ hx)) h hj
def kJ (last:Tx) (l:List Row):Tx:=match l.getLast? with
 | none=>last
 | some r=>r.nm
theorem rp:∀ {l:List Row} {r:Row} {last:Tx},cT last (l++[r])=if cT last l=0 then aWr (kJ last l) r.nm r.tnil r.must r.own else cT last l
 | [],r,last=>by
  simp only[List.nil_append,cT,if_true]
  show (if aWr last r.nm r.tnil r.must r.own=0 then 0 else aWr last r.nm r.tnil r.must r.own)=aWr last r.nm r.tnil r.must r.own
  split<;>simp_all
 | b::l,r,last=>by
  by_cases h:aWr last b.nm b.tnil b.must b.own=0
  ·have e2:cT last (b::l)=cT b.nm l:=if_pos h
   have e3:cT last (b::l++[r])=cT b.nm (l++[r]):=if_pos h
   rw[e2,e3,rp]
   have:kJ b.nm l=kJ last (b::l):=by
    unfold kJ
    cases l with
    | nil=>rfl
    | cons c l=>rw[List.getLast?_cons_cons];cases hq:(c::l).getLast? with
     | none=>simp at hq
     | some q=>rfl
   rw[this]
  ·have e2:cT last (b::l)=aWr last b.nm b.tnil b.must b.own:=if_neg h
   have e3:cT last (b::l++[r])=aWr last b.nm b.tnil b.must b.own:=if_neg h
   rw[e2,e3,if_neg h]
theorem rq:∀ {l:List Row} {last:Tx},cT last l=0→∀ r ∈ l,named r.nm=true∧r.tnil=false∧(r.must&&r.own)=false
 | r::l,last,h,x,hx=>by
  unfold cT at h
  split at h
  ·rename_i h0
   rcases List.mem_cons.1 hx with rfl|hx
   ·unfold aWr at h0
    split at h0
    ·omega
    ·rename_i hn
     split at h0
     ·omega
     ·split at h0
      ·omega
      ·split at h0
       ·omega
       ·rename_i ht
        split at h0
        ·omega
        ·rename_i hm
         exact ⟨by simpa using hn,by simpa using ht,by simpa using hm⟩
   ·exact rq h x hx
  ·rename_i h0;exact absurd h h0
def yn (v:Int) (n:Nat):Int:=if v<0 then 2 else if v > 1000 then 2 else if n > 16 then 3 else 0
def fB (v:Int) (n:Nat) (l:List Row):Int:=if yn v n=0 then cT [] l else yn v n
theorem Bd {v:Int} {l:List Row}:fB v l.length l=mkW v l:=by
 unfold fB yn mkW
 by_cases h1:v<0
 ·rw[if_pos h1,if_neg (by omega),if_pos (.inl h1)]
 ·by_cases h2:v > 1000
  ·rw[if_neg h1,if_pos h2,if_neg (by omega),if_pos (.inr h2)]
  ·rw[if_neg h1,if_neg h2,if_neg (c:=v<0∨1000<v) (by omega)]
   by_cases h3:l.length > 16
   ·rw[if_pos h3,if_neg (by omega),if_pos h3]
   ·rw[if_neg h3,if_pos rfl,if_neg (by omega)]
theorem Ao {v:Int} {n:Nat} {l:List Row} {r:Row}:fB v n (l++[r])=if fB v n l=0 then aWr (kJ [] l) r.nm r.tnil r.must r.own else fB v n l:=by
 unfold fB
 by_cases h:yn v n=0
 ·rw[if_pos h,if_pos h,rp]
 ·rw[if_neg h,if_neg h,if_neg h]
section
variable {st:aa} {R:LV→aa→Prop}
theorem vZ {l:List Row} {r:Row}:db (l++[r])=db l++r.cells:=by rw[mO];simp[db]
theorem yo {b:iX}:(bO b).cells.all LV.one=true:=by
 unfold Row.cells bO
 cases bV b.tx<;>rfl
theorem Ap {s:Tx} {t:KT} (h:bV s=some t):kpr t=s:=(mT h).symm
theorem uB {v:Int} {l:List iX} (hm:mkW v (l.map bO)=0) (hp:((l.map bO).map (·.nm)).Pairwise ltB) (ht:∀ b ∈ l,b.tx.length≤100) :
  ∃ ats:List AT,l.map bO=ats.map ed∧ST.ok ⟨v,ats⟩∧(∀ a ∈ ats,bV (kpr a.ty)=some a.ty∧(kpr a.ty).length≤100):=by
 obtain ⟨hw,h16⟩:=ug hm
 have hv:¬ (v<0∨1000<v):=fun h=>by unfold mkW at hm;rw[if_pos h] at hm;omega
 have hall:=rq hw
 have:∀ {l:List iX},(∀ r ∈ l.map bO,named r.nm=true∧r.tnil=false∧(r.must&&r.own)=false)→(∀ b ∈ l,b.tx.length≤100)→
   ∃ ats:List AT,l.map bO=ats.map ed∧(∀ a ∈ ats,named a.nm=true∧(a.must&&a.own)=false∧a.ty.wf 8∧bV (kpr a.ty)=some a.ty∧(kpr a.ty).length≤100):=by
  intro l
  induction l with
  | nil=>exact fun _ _=>⟨[],rfl,fun _ h=>by cases h⟩
  | cons b l ih=>
   intro h ht
   obtain ⟨ats,e,ha⟩:=ih (fun r hr=>h r (List.mem_cons_of_mem _ hr)) fun x hx=>ht x (List.mem_cons_of_mem _ hx)
   obtain ⟨g1,g2,g3⟩:=h (bO b) (by simp)
   have htb:=ht b (by simp)
   cases hp:bV b.tx with
   | none=>
    have:(bO b).tnil=true:=by show (bV b.tx).isNone=true;rw[hp];rfl
    rw[this] at g2;cases g2
   | some t=>
    have er:bO b=ed ⟨b.nm,t,b.m,b.o,b.h,b.n⟩:=by unfold bO;rw[hp];rfl
    refine ⟨⟨b.nm,t,b.m,b.o,b.h,b.n⟩::ats,by rw[List.map_cons,List.map_cons,er,e],fun a hx=>?_⟩
    rcases List.mem_cons.1 hx with rfl|hx
    ·exact ⟨g1,g3,pW hp,by rw[Ap hp];exact hp,by rw[Ap hp];exact htb⟩
    ·exact ha a hx
 obtain ⟨ats,e,ha⟩:=this hall ht
 have en:(l.map bO).map (·.nm)=ats.map (·.nm):=by rw[e,List.map_map];rfl
 refine ⟨ats,e,⟨by show 0≤v∧v≤1000;omega,?_,by rw[← en];exact hp,fun a h=>(ha a h).1,fun a h=>(ha a h).2.2.1,fun a h=>(ha a h).2.1⟩,fun a h=>(ha a h).2.2.2⟩
 have:=congrArg List.length e
 rw[List.length_map] at this
 rw[List.length_map] at h16
 simp only at this ⊢
 rw[List.length_map] at this
 omega
theorem Aq {v:Int} (h:0≤v∧v≤1000):(Lib.itoa v).length≤21:=Lib.itoa_length_le v (by omega) (by omega)
theorem yp {S:ST} (hS:S.ok) (ht:∀ a ∈ S.l,(kpr a.ty).length≤100):(gG S).length≤2 ^ 20:=by
 have hi:=Aq hS.ver
 have h16:=hS.len
 have hl:∀ {l:List AT},(∀ a ∈ l,a.nm.length≤20∧(kpr a.ty).length≤100)→((l.map gF).flatten).length≤l.length*200:=by
  intro l
  induction l with
  | nil=>intro _;simp
  | cons a l ih=>
   intro h
   have h1:=ih fun x hx=>h x (List.mem_cons_of_mem _ hx)
   obtain ⟨h2,h3⟩:=h a (by simp)
   have hm:(fJ a).length≤20:=by unfold fJ;cases a.must<;>cases a.own<;>cases a.hide<;>cases a.new<;>decide
   have hta:fy.length=4:=rfl
   have:(gF a).length≤200:=by
    unfold gF dc
    simp only[List.length_append,List.length_cons,List.length_nil,hta]
    omega
   rw[List.map_cons,List.flatten_cons,List.length_append,List.length_cons]
   omega
 have:=hl (l:=S.l) fun a ha=>⟨iy (hS.nm a ha),ht a ha⟩
 have htv:aY.length=8:=rfl
 unfold gG
 simp only[List.length_append,List.length_cons,List.length_nil,htv]
 omega
theorem Be {l:List iX} (h20:l.length≤20) (ht:∀ b ∈ l,b.t.length=4) {v:Int} (hR:∀ st,R (.bool true) st) :
  ∀ (d i:Nat) (f:Option Nat) (last:Tx) (st:aa),i+d=l.length→GlS st→(∀ b ∈ l.take i,b.nm.length≤60∧b.tx.length≤100)→br .rw st f 6 i (db ((l.take i).map bO))→(∀ o,f=some o→3≤o)→(0<i∨f=none)→
   (fB v l.length ((l.take i).map bO)=0→last=kJ [] ((l.take i).map bO))→
   P3_12 (i64 v) (.isl (brC l) l.length none) (osl f 6 i) (i64 (fB v l.length ((l.take i).map bO))) (.str last) (i64 i) R st:=by
 intro d
 induction d with
 | zero=>
  intro i f last st hi g hb ho hf3 hf hlast
  refine p3_12 _ _ _ _ _ _ ?_
  have c1:¬ ((i:Int)<l.length):=by omega
  have hil:i=l.length:=by omega
  subst hil
  rw[List.take_length] at hb ho hlast ⊢
  have ew:fB v l.length (l.map bO)=mkW v (l.map bO):=by rw[← Bd,List.length_map]
  rw[ew]
  simp only[w3_12,ca,ag,aG,ab,c1,decide_false,ae]
  have hlen:(l.map bO).length=l.length:=List.length_map ..
  rw[← hlen] at ho hf ⊢
  refine yi (fun r hr=>by obtain ⟨b,hb',rfl⟩:=List.mem_map.1 hr;exact Al (hb b hb').1) (by rw[hlen];omega) ho hf (fun e he hm=>?_) fun hm hp=>?_
  ·rw[hm]
   have q1:(e != 0)=true:=by simpa using he
   have ep:cV true .nilp .nilp=some true:=rfl
   simp only[az,List.getElem?_cons_zero,List.getElem?_cons_succ,ab,ag,bw,q1,ah,ep,cP,cw,aR,beq_self_eq_true]
   exact hR _
  ·obtain ⟨ats,e,hS,hty⟩:=uB hm hp fun b hb'=>(hb b hb').2
   refine ⟨ats,e,?_⟩
   rw[hm]
   have q0:((0:Int) != 0)=false:=rfl
   have q1:((0:Int)==0)=true:=rfl
   simp only[az,List.getElem?_cons_zero,List.getElem?_cons_succ,ab,ag,bw,q0,ae]
   refine ot g hS ?_
   have hps:=qu hS fun a ha=>(hty a ha).1
   refine nR g (yp hS fun a ha=>(hty a ha).2) (fun S hS'=>?_) fun k e hS'=>by rw[hps] at hS';cases hS'
   rw[hps] at hS'
   cases hS'
   simp only[az,List.getElem?_cons_zero,List.getElem?_cons_succ,ab,ag,aR,q1,ah]
   refine Aa g hS hS ?_
   rw[beq_self_eq_true]
   exact hR _
 | succ d ih=>
  intro i f last st hi g hb ho hf3 hf hlast
  refine p3_12 _ _ _ _ _ _ ?_
  have hlt:i<l.length:=by omega
  have c1:((i:Int)<l.length):=by omega
  have hx:l[i]?=some l[i]:=List.getElem?_eq_getElem hlt
  have htk:l.take (i+1)=l.take i++[l[i]]:=by rw[List.take_add_one,hx];rfl
  have hbm:=List.getElem_mem hlt
  generalize l[i]=b at hx htk hbm
  have hw1:=aJ (show i<2 ^ 40 by omega)
  have e10:bh 10 (.isl (brC l) l.length none) (i64 i)=some (.iptr (brC l) (i*10)):=gr hlt
  have at_:∀ {j:Nat} {x:LV},j<10→b.cells[j]?=some x→∀ s:aa,ld1 s (.iptr (brC l) (i*10+j))=some x:=fun hj hx' s=>by rw[cQ,An ht hx hj];exact hx'
  have ht4:=ht b hbm
  obtain ⟨t0,t1,t2,t3,hte⟩:∃ t0 t1 t2 t3,b.t=[t0,t1,t2,t3]:=by
   match hq:b.t,ht4 with
   | [t0,t1,t2,t3],_=>exact ⟨t0,t1,t2,t3,rfl⟩
  have ec:b.cells=[.str b.nm,.str b.tx,t0,t1,t2,t3,.bool b.m,.bool b.o,.bool b.h,.bool b.n]:=by unfold iX.cells;rw[hte];rfl
  have a0:∀ s:aa,ld1 s (.iptr (brC l) (i*10))=some (.str b.nm):=at_ (j:=0) (by omega) (by rw[ec];rfl)
  have a1:=at_ (j:=1) (x:=.str b.tx) (by omega) (by rw[ec];rfl)
  have a6:=at_ (j:=6) (x:=.bool b.m) (by omega) (by rw[ec];rfl)
  have a7:=at_ (j:=7) (x:=.bool b.o) (by omega) (by rw[ec];rfl)
  have a8:=at_ (j:=8) (x:=.bool b.h) (by omega) (by rw[ec];rfl)
  have a9:=at_ (j:=9) (x:=.bool b.n) (by omega) (by rw[ec];rfl)
  simp only[w3_12,ca,ag,aG,cy,ab,c1,decide_true,ah,e10,cx,Nat.add_zero,a0,a1,aL,bj]
  refine ⟨fun _=>hR _,fun h60=>⟨fun _=>hR _,fun h100=>?_⟩⟩
  have hb':∀ x ∈ l.take (i+1),x.nm.length≤60∧x.tx.length≤100:=fun x hx'=>by
   rw[htk] at hx'
   rcases List.mem_append.1 hx' with h|h
   ·exact hb x h
   ·simp only[List.mem_singleton] at h;subst h;exact ⟨by omega,by omega⟩
  have hmap:(l.take (i+1)).map bO=(l.take i).map bO++[bO b]:=by rw[htk,List.map_append];rfl
  -- one row more
  have step:∀ (e:Int),((bO b).tnil=decide (e≠0))→
    bd2 (bJ st 1 (some (bO b).cells)) fun v36 st37=>bd2 (aP st37 6 32 Md.rw (osl f 6 i) v36) fun v38 st39=>P3_18 (i64 v) (.isl (brC l) l.length none) v38 (i64 (fB v l.length ((l.take i).map bO))) (.str last) (i64 i) (i64 e) R st39:=by
   intro e he
   obtain ⟨st2,f2,q1,q2,q3,q4⟩:=ki ho (new:=(bO b).cells) rfl yo (by omega) (b:=32)
   simp only[bz,ai,q1]
   have g2:GlS st2:=g.fr q3 (fun h=>by have:=hf3 0 h;omega) (fun h=>by have:=hf3 1 h;omega) (fun h=>by have:=hf3 2 h;omega)
   have hl3:=g.len
   have hf32:∀ o,f2=some o→3≤o:=fun o h=>by
    rcases q4 o h with k|k
    ·exact hf3 o k
    ·omega
   have ho2:br .rw st2 f2 6 (i+1) (db ((l.take (i+1)).map bO)):=by rw[hmap,vZ];exact q2
   have go:∀ (w:Int) (last':Tx),w=fB v l.length ((l.take (i+1)).map bO)→(w=0→last'=kJ [] ((l.take (i+1)).map bO))→
     P3_12 (i64 v) (.isl (brC l) l.length none) (osl f2 6 (i+1)) (i64 w) (.str last') (i64 (i+1:Nat)) R st2:=fun w last' hw hl'=>by
    subst hw
    exact ih (i+1) f2 last' st2 (by omega) g2 hb' ho2 hf32 (.inl (by omega)) hl'
   have hwa:fB v l.length ((l.take (i+1)).map bO)=if fB v l.length ((l.take i).map bO)=0 then aWr (kJ [] ((l.take i).map bO)) b.nm (bO b).tnil b.m b.o else fB v l.length ((l.take i).map bO):=by rw[hmap,Ao];rfl
   have hla:kJ [] ((l.take (i+1)).map bO)=b.nm:=by rw[hmap];unfold kJ;rw[List.getLast?_concat];rfl
   refine p3_18 _ _ _ _ _ _ _ ?_
   have en:∀ x:Int,(x != 0)=decide (x≠0):=fun x=>by by_cases h:x=0<;>simp[h]
   simp only[w3_18,ag,bw,aK,hw1,en,ab,bj,e10,cx,Nat.add_zero,a0,a6,a7]
   refine ⟨fun hne=>?_,fun heq=>?_⟩
   ·rw[if_neg hne] at hwa
    exact go _ _ hwa.symm fun h=>absurd h hne
   ·have h0:fB v l.length ((l.take i).map bO)=0:=Classical.byContradiction heq
    rw[if_pos h0,← hlast h0] at hwa
    refine (wV (by omega)).call ?_
    unfold aWr at hwa
    cases hn:named b.nm with
    | false=>
     rw[hn,if_pos rfl] at hwa
     simp only[bq,Bool.not_false,ab,ah]
     exact go _ _ hwa.symm fun h=>by cases h
    | true=>
     rw[hn,if_neg (by simp)] at hwa
     simp only[bq,Bool.not_true,ab,ae,bA,ct,pS]
     by_cases hel:b.nm=last
     ·rw[if_pos hel] at hwa
      rw[show (b.nm==last)=true by simpa using hel,ah]
      exact go _ _ hwa.symm fun h=>by cases h
     ·rw[if_neg hel] at hwa
      rw[show (b.nm==last)=false by simpa using hel,ae]
      cases hll:Op.bytesLess b.nm last with
      | true=>
       rw[hll,if_pos rfl] at hwa
       rw[ah]
       exact go _ _ hwa.symm fun h=>by cases h
      | false=>
       rw[hll,if_neg (by simp)] at hwa
       rw[ae]
       refine ⟨fun hee=>?_,fun hee=>?_⟩
       ·rw[he,decide_eq_true hee,if_pos rfl] at hwa
        exact go _ _ hwa.symm fun h=>by cases h
       ·rw[he,decide_eq_false hee,if_neg (by simp)] at hwa
        cases hmm:b.m with
        | false=>
         rw[hmm,Bool.false_and,if_neg (by simp)] at hwa
         rw[ae,h0]
         exact go _ _ hwa.symm fun _=>hla.symm
        | true=>
         rw[hmm,Bool.true_and] at hwa
         rw[ah]
         cases hoo:b.o with
         | false=>
          rw[hoo,if_neg (by simp)] at hwa
          rw[ae,h0]
          exact go _ _ hwa.symm fun _=>hla.symm
         | true=>
          rw[hoo,if_pos rfl] at hwa
          rw[ah]
          exact go _ _ hwa.symm fun h=>by cases h
  refine pR b.tx (fun t hp=>?_) fun hp a e he=>?_
  ·have er:(bO b).cells=[.str b.nm,kV t,.bool b.m,.bool b.o,.bool b.h,.bool b.n]:=by unfold Row.cells bO;rw[hp]
   have s:=step 0 (by show (bV b.tx).isNone=_;rw[hp];rfl)
   rw[er] at s
   have zag:aN (av (ax [(0,1),(1,1),(2,1),(3,1),(4,1),(5,1)]) [LV.str [],LV.nilp,LV.bool false,LV.bool false,LV.bool false,LV.bool false] [(0,.str b.nm),(1,kV t),(2,.bool b.m),(3,.bool b.o),(4,.bool b.h),(5,.bool b.n)])=some (.agg [.str b.nm,kV t,.bool b.m,.bool b.o,.bool b.h,.bool b.n]):=rfl
   have ef:av (fun i=>some (i*6,6)) (List.replicate 1 [LV.str [],LV.nilp,LV.bool false,LV.bool false,LV.bool false,LV.bool false]).flatten [(0,.agg [.str b.nm,kV t,.bool b.m,.bool b.o,.bool b.h,.bool b.n])]=some [.str b.nm,kV t,.bool b.m,.bool b.o,.bool b.h,.bool b.n]:=rfl
   simp only[az,List.getElem?_cons_zero,List.getElem?_cons_succ,ab,a6,a7,a8,a9,zag,ef]
   exact s
  ·have er:(bO b).cells=[.str b.nm,.nilp,.bool b.m,.bool b.o,.bool b.h,.bool b.n]:=by unfold Row.cells bO;rw[hp]
   have s:=step e (by show (bV b.tx).isNone=_;rw[hp,decide_eq_true he];rfl)
   rw[er] at s
   have zag:aN (av (ax [(0,1),(1,1),(2,1),(3,1),(4,1),(5,1)]) [LV.str [],LV.nilp,LV.bool false,LV.bool false,LV.bool false,LV.bool false] [(0,.str b.nm),(1,.nilp),(2,.bool b.m),(3,.bool b.o),(4,.bool b.h),(5,.bool b.n)])=some (.agg [.str b.nm,.nilp,.bool b.m,.bool b.o,.bool b.h,.bool b.n]):=rfl
   have ef:av (fun i=>some (i*6,6)) (List.replicate 1 [LV.str [],LV.nilp,LV.bool false,LV.bool false,LV.bool false,LV.bool false]).flatten [(0,.agg [.str b.nm,.nilp,.bool b.m,.bool b.o,.bool b.h,.bool b.n])]=some [.str b.nm,.nilp,.bool b.m,.bool b.o,.bool b.h,.bool b.n]:=rfl
   simp only[az,List.getElem?_cons_zero,List.getElem?_cons_succ,ab,a6,a7,a8,a9,zag,ef]
   exact s
theorem yq (g:GlS st) {v:Int} {l:List iX} (ht:∀ b ∈ l,b.t.length=4):w3 (i64 v) (.isl (brC l) l.length none) (fun v _=>v=.bool true) st:=by
 simp only[w3,ca,ag,cy,aG,ab,bj]
 refine ⟨fun _=>mn rfl,fun h20=>mn ?_⟩
 simp only[bq,ab,Bool.not_true,ae]
 have go:∀ w:Int,w=yn v l.length→P3_12 (i64 v) (.isl (brC l) l.length none) LV.nils (i64 w) (LV.str []) (i64 0) (fun v _=>v=.bool true) st:=fun w hw=>by
  have e:fB v l.length (([]:List iX).map bO)=w:=by
   unfold fB
   rw[← hw]
   by_cases h:w=0
   ·rw[if_pos h,h];rfl
   ·rw[if_neg h]
  have:=Be (R:=fun v _=>v=.bool true) (by omega) ht (v:=v) (fun _=>rfl) l.length 0 none [] st (by omega) g (fun _ h=>by cases h) br.nil (fun _ h=>by cases h) (.inr rfl) fun _=>rfl
  rw[List.take_zero,e] at this
  exact this
 refine ⟨fun h=>go 2 ?_,fun h=>⟨fun h'=>go 2 ?_,fun h'=>⟨fun h3=>go 3 ?_,fun h3=>go 0 ?_⟩⟩⟩<;>unfold yn
 ·rw[if_pos h]
 ·rw[if_neg h,if_pos h']
 ·rw[if_neg h,if_neg h',if_pos (by omega)]
 ·rw[if_neg h,if_neg h',if_neg (by omega)]
theorem Dk (g:GlS st) {v:Int} {l:List iX} (ht:∀ b ∈ l,b.t.length=4):au Tryz.prog 3 [i64 v,.isl (brC l) l.length none] st fun v _=>v=.bool true:=c3 _ _ (yq g ht)
end
theorem Db:Tryz.prog.cellsOf 31=10:=by kernel_rfl
theorem Dl {H:Type} {n:Nat} {xs:List LV} {d:DataW H} (h:ck Tryz.prog n 31 xs d):∃ b:iX,xs=b.cells∧b.t.length=4:=by
 cases n with
 | zero=>exact h.elim
 | succ n=>
  unfold ck at h;rw[Tryz.underlying31] at h
  obtain ⟨hlen,parts,rfl,hp,hf⟩:=h
  rw[Db] at hlen
  obtain ⟨x0,x1,x2,x3,x4,x5,x6,x7,x8,x9,rfl⟩:∃ x0 x1 x2 x3 x4 x5 x6 x7 x8 x9,xs=[x0,x1,x2,x3,x4,x5,x6,x7,x8,x9]:=by
   match xs,hlen with
   | [x0,x1,x2,x3,x4,x5,x6,x7,x8,x9],_=>exact ⟨x0,x1,x2,x3,x4,x5,x6,x7,x8,x9,rfl⟩
  obtain ⟨p0,p1,p2,p3,p4,p5,p6,rfl⟩:∃ x0 x1 x2 x3 x4 x5 x6,parts=[x0,x1,x2,x3,x4,x5,x6]:=by
   match parts,hp with
   | [x0,x1,x2,x3,x4,x5,x6],_=>exact ⟨x0,x1,x2,x3,x4,x5,x6,rfl⟩
  have f0:ck Tryz.prog n 9 (([x0,x1,x2,x3,x4,x5,x6,x7,x8,x9].drop 0).take (Tryz.prog.cellsOf 9)) p0:=hf 0 _ _ rfl rfl
  have f1:ck Tryz.prog n 9 (([x0,x1,x2,x3,x4,x5,x6,x7,x8,x9].drop 1).take (Tryz.prog.cellsOf 9)) p1:=hf 1 _ _ rfl rfl
  have f3:ck Tryz.prog n 4 (([x0,x1,x2,x3,x4,x5,x6,x7,x8,x9].drop 6).take (Tryz.prog.cellsOf 4)) p3:=hf 3 _ _ rfl rfl
  have f4:ck Tryz.prog n 4 (([x0,x1,x2,x3,x4,x5,x6,x7,x8,x9].drop 7).take (Tryz.prog.cellsOf 4)) p4:=hf 4 _ _ rfl rfl
  have f5:ck Tryz.prog n 4 (([x0,x1,x2,x3,x4,x5,x6,x7,x8,x9].drop 8).take (Tryz.prog.cellsOf 4)) p5:=hf 5 _ _ rfl rfl
  have f6:ck Tryz.prog n 4 (([x0,x1,x2,x3,x4,x5,x6,x7,x8,x9].drop 9).take (Tryz.prog.cellsOf 4)) p6:=hf 6 _ _ rfl rfl
  rw[ce9] at f0 f1
  rw[ce4] at f3 f4 f5 f6
  simp only[List.drop_zero,List.drop_succ_cons,List.take_succ_cons,List.take_zero] at f0 f1 f3 f4 f5 f6
  obtain ⟨s0,e0,_⟩:=sr f0
  obtain ⟨s1,e1,_⟩:=sr f1
  obtain ⟨b3,e3⟩:=ou f3
  obtain ⟨b4,e4⟩:=ou f4
  obtain ⟨b5,e5⟩:=ou f5
  obtain ⟨b6,e6⟩:=ou f6
  simp only[List.cons.injEq,and_true] at e0 e1 e3 e4 e5 e6
  subst e0 e1 e3 e4 e5 e6
  exact ⟨⟨s0,s1,[x2,x3,x4,x5],b3,b4,b5,b6⟩,rfl,rfl⟩
theorem Ar {H:Type} {n:Nat}:∀ {rows:List (List LV)} {elems:List (DataW H)},elems.length=rows.length→(∀ (i:Nat) (r:List LV) (di:DataW H),rows[i]?=some r→elems[i]?=some di→r.length=10∧ck Tryz.prog n 31 r di)→
  ∃ l:List iX,rows.flatten=brC l∧l.length=rows.length∧∀ b ∈ l,b.t.length=4
 | [],_,_,_=>⟨[],rfl,rfl,fun _ h=>(by cases h)⟩
 | r::rows,[],h,_=>by simp at h
 | r::rows,d::elems,h,hr=>by
  obtain ⟨b,rfl,hb⟩:=Dl (hr 0 r d rfl rfl).2
  obtain ⟨l,h1,h2,h3⟩:=Ar (n:=n) (rows:=rows) (elems:=elems) (by simpa using h) (fun i r di a b=>hr (i+1) r di (by simpa using a) (by simpa using b))
  refine ⟨b::l,by simp[h1,brC],by simp[h2],fun x hx=>?_⟩
  rcases List.mem_cons.1 hx with rfl|hx
  ·exact hb
  ·exact h3 x hx
theorem oc {H:Type} {u u':TypeId} {xs:List LV} {ds:List (DataW H)} (h:lS Tryz.prog [3,22] xs ds) (_hb:Rows.uptoBulkAll ds≤1048576):au Tryz.prog 3 xs (rX (qw u u')) fun v _=>v=.bool true:=by
 obtain ⟨x0,_,d0,_,rfl,rfl,⟨n0,cs0,_,a2,a3⟩,x1,_,d1,_,rfl,rfl,⟨n1,cs1,_,b2,b3⟩,rfl,rfl⟩:=h
 have i0:bQ Tryz.prog 3=false:=by kernel_rfl
 have i1:bQ Tryz.prog 22=false:=by kernel_rfl
 rw[a2 i0] at a3
 obtain ⟨v,e,_⟩:=Cr a3
 simp only[List.cons.injEq,and_true] at e
 subst e
 rw[b2 i1] at b3
 cases n1 with
 | zero=>exact b3.elim
 | succ n=>
  unfold ck at b3;rw[Tryz.underlying22] at b3
  obtain ⟨rows,elems,e,hl,_,hr⟩:=b3
  rw[Db] at hr
  obtain ⟨l,h1,h2,h3⟩:=Ar hl hr
  simp only[List.cons.injEq,and_true] at e
  subst e
  rw[h1,← h2]
  exact Dk xc h3
end Go.Proofs.YtknegckgmklnhaaGreatDoor
