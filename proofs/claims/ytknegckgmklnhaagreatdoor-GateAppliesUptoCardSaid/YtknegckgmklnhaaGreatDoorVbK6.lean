/- Parts of the proof. -/
import Derived.Test.YtknegckgmklnhaaGreatDoorVaE
import Derived.Test.YtknegckgmklnhaaGreatDoorVbW3
namespace Go.Proofs.YtknegckgmklnhaaGreatDoor
open Go Go.CP
set_option maxRecDepth 100000
theorem kc {x y:Tx} (h:x.length+y.length≤4611686018427387904):ck .add (.str x) (.str y)=some (.str (x++y)):=by
 simp only[ct,uB]
 rw[if_neg (by show ¬ ((x.length+y.length:Nat):Int) > 9223372036854775807;omega)]
theorem ma:∀ {l:List Tx},iA l=Lib.join l [44]
 | []=>rfl
 | [a]=>(Lib.join_one a [44]).symm
 | a::b::l=>by
  rw[iA,ma (l:=b::l),Lib.join_cons,Lib.join_cons]
  simp[Lib.joinTail]
theorem ke {B:Nat}:∀ {l:List Tx},(∀ a ∈ l,a.length≤B)→(iA l).length≤l.length*(B+1)
 | [],_=>by simp[iA]
 | [a],h=>by have:=h a (by simp);simp only[iA,List.length_singleton];omega
 | a::b::l,h=>by
  have h1:=h a (by simp)
  have h2:=ke (l:=b::l) fun x hx=>h x (List.mem_cons_of_mem _ hx)
  simp only[iA,b8,aW] at h2 ⊢
  have:(l.length+1+1)*(B+1)=(l.length+1)*(B+1)+(B+1):=by rw[Nat.add_mul,Nat.one_mul]
  omega
theorem mc:∀ {ns:List Tx} {ls:List Bool} {ts:List Tx},(cY ns ls ts).length=ts.length
 | [],_,_=>by simp[cY]
 | _::_,[],_=>by simp[cY]
 | _::_,_::_,[]=>by simp[cY]
 | _::_,_::_,_::_=>by simp[cY,mc]
theorem nV {B L:Nat}:∀ {ns:List Tx} {ls:List Bool} {ts:List Tx},(∀ n ∈ ns,n.length≤L)→(∀ t ∈ ts,t.length≤B)→∀ x ∈ cY ns ls ts,x.length≤L+2+B
 | [],_,ts,_,h,x,hx=>by simp only[cY] at hx;have:=h x hx;omega
 | _::_,[],ts,_,h,x,hx=>by simp only[cY] at hx;have:=h x hx;omega
 | _::_,_::_,[],_,h,x,hx=>by simp[cY] at hx
 | n::ns,l::ls,t::ts,hn,h,x,hx=>by
  simp only[cY,List.mem_cons] at hx
  rcases hx with rfl|hx
  ·have:=hn n (by simp);have:=h t (by simp)
   unfold gu
   split<;>simp<;>omega
  ·exact nV (fun a ha=>hn a (List.mem_cons_of_mem _ ha)) (fun a ha=>h a (List.mem_cons_of_mem _ ha)) x hx
theorem KT.ui {d:Nat} {t:KT} (h:t.wf (d+1)):t.f≤8∧(t.f<5→t.l=[])∧(t.f=5∨t.f=6→t.l.length=1)∧(t.f<8→t.ns=[]∧t.ls=[])∧(t.f=8→t.ns.length=t.l.length∧t.ls.length=t.l.length)∧t.l.length≤16∧t.ns.Pairwise ltB∧(∀ n ∈ t.ns,named n=true)∧∀ x ∈ t.l,x.wf d:=by
 cases t
 simp only[KT.wf] at h
 obtain ⟨a,b,c,e,f,g,i,j,k⟩:=h
 exact ⟨a,b,c,e,f,g,i,j,KT.mI.1 k⟩
theorem qz {s:Tx} (h:named s=true):s.length≤20:=by
 simp only[named,bp,decide_eq_true_eq] at h;exact h.2
theorem IT {t:KT}:kpr t=tL t.f (t.l.map kpr) t.ns t.ls:=by cases t;simp only[kpr,rY];rfl
theorem xW:∀ {d:Nat} {t:KT},t.wf d→(kpr t).length≤100*32 ^ d:=by
 intro d
 induction d with
 | zero=>intro t h;cases t;simp only[KT.wf] at h
 | succ d ih=>
  intro t h
  obtain ⟨a,b,c,e,f,g,_,j,k⟩:=KT.ui h
  rw[IT]
  have hb:∀ x ∈ t.l.map kpr,x.length≤100*32 ^ d:=fun x hx=>by
   obtain ⟨y,hy,rfl⟩:=List.mem_map.1 hx
   exact ih (k y hy)
  have hp:1≤32 ^ d:=Nat.one_le_pow _ _ (by omega)
  have hpp:32 ^ (d+1)=32*32 ^ d:=by rw[Nat.pow_succ,Nat.mul_comm]
  rw[hpp]
  generalize 32 ^ d=P at hb hp
  have j1:=ke hb
  have j2:=ke (nV (ls:=t.ls) (fun n hn=>qz (j n hn)) hb)
  have m1:t.l.length*(100*P+1)≤16*(100*P+1):=Nat.mul_le_mul_right _ g
  have m2:t.l.length*(20+2+100*P+1)≤16*(20+2+100*P+1):=Nat.mul_le_mul_right _ g
  rw[bH] at j1
  rw[mc,bH] at j2
  have h0:((t.l.map kpr).getD 0 []).length≤100*P:=by
   cases ht:t.l.map kpr with
   | nil=>simp
   | cons x l=>simp only[List.getD_cons_zero];exact hb x (by rw[ht];simp)
  have hw:(bQ.getD t.f []).length≤5:=by
   have:t.f=0∨t.f=1∨t.f=2∨t.f=3∨t.f=4∨t.f=5∨t.f=6∨t.f=7∨t.f=8:=by omega
   rcases this with h|h|h|h|h|h|h|h|h<;>rw[h]<;>decide
  unfold tL
  split
  ·simp only[b8,aW,aR];omega
  split
  ·simp only[b8,aW,aR];omega
  split
  ·simp only[b8,aW,aR];omega
  split
  ·simp only[b8,aW,aR];omega
  ·omega
theorem rq:∀ {ns:List Tx} {ls:List Bool} {ts:List Tx} {i:Nat},ns.length=ts.length→ls.length=ts.length→(cY ns ls ts)[i]?=(match ns[i]?,ls[i]?,ts[i]? with
  | some n,some l,some x=>some (gu n l x)
  | _,_,_=>none)
 | [],[],[],i,_,_=>by simp[cY]
 | [],_::_,[],_,_,k=>by simp at k
 | [],_,_::_,_,h,_=>by simp at h
 | _::_,_,[],_,h,_=>by simp at h
 | _::_,[],_::_,_,_,k=>by simp at k
 | n::ns,l::ls,t::ts,i,h,k=>by
  cases i with
  | zero=>rfl
  | succ i=>
   simp only[cY,aO]
   exact rq (by simpa using h) (by simpa using k)
section
variable {st st':aa} {R:LV→aa→Prop}
theorem IU {ts:List KT} (hb:ts.length≤big) (hp:∀ t ∈ ts,Pu Tryz.prog 38 [kV t] (.str (kpr t))) (hR:∀ f s,ca .rw s f 1 ts.length ((ts.map kpr).map .str)→R (osl f 1 ts.length) s) :
  ∀ (d i:Nat) (f:Option Nat) (st:aa),i+d=ts.length→ca .rw st f 1 i (((ts.map kpr).take i).map .str)→xy (osl f 1 i) (.isl (kVs ts) ts.length none) (i64 ts.length) (i64 i) R st:=by
 intro d
 induction d with
 | zero=>
  intro i f st hi ho
  refine HS _ _ _ _ ?_
  have c1:¬ ((i:Int)<ts.length):=by omega
  simp only[B5,ad,au,ab,c1,a8,ae]
  have hi:i=ts.length:=by omega
  subst hi
  rw[List.take_of_length_le (by simp)] at ho
  exact hR _ _ ho
 | succ d ih=>
  intro i f st hi ho
  refine HS _ _ _ _ ?_
  have hlt:i<ts.length:=by omega
  have c1:((i:Int)<ts.length):=by omega
  have e1:bn 1 (.isl (kVs ts) ts.length none) (i64 i)=some (.iptr (kVs ts) (i*1)):=cj hlt
  have hx:ts[i]?=some ts[i]:=bg hlt
  have hk:(kVs ts)[i*1]?=some (kV ts[i]):=by rw[Nat.mul_one,xU,hx];rfl
  simp only[B5,ad,au,ab,c1,aZ,ah,e1,bA,hk]
  refine (hp _ (List.getElem_mem hlt)).call ?_
  have ef:aB (fun i=>some (i*1,1)) (List.replicate 1 [LV.str []]).flatten [(0,.str (kpr ts[i]))]=some [.str (kpr ts[i])]:=rfl
  rw[ef]
  simp only[bE,af]
  obtain ⟨st2,f2,q1,q2,-,-⟩:=mN ho (new:=[.str (kpr ts[i])]) rfl rfl (by unfold big at hb;omega) (b:=16)
  rw[q1]
  simp only[af,aH,ab,aK (show i<2 ^ 40 by unfold big at hb;omega)]
  refine ih (i+1) f2 st2 (by omega) ?_
  rw[List.take_add_one,bT,hx]
  simpa using q2
theorem IV {ts:List KT} (hb:ts.length≤big) (hp:∀ t ∈ ts,Pu Tryz.prog 38 [kV t] (.str (kpr t))) (hR:∀ f s,ca .rw s f 1 ts.length ((ts.map kpr).map .str)→R (osl f 1 ts.length) s) :
  aw Tryz.prog 107 [.isl (kVs ts) ts.length none] st R:=by
 refine c107 _ ?_
 simp only[PX,aU,ab]
 exact IU hb hp hR ts.length 0 none st (by omega) ca.nil
theorem ca.Ix {f:Option Nat} {n i:Nat} {cs:List LV} {x:LV} (h:ca .rw st f 1 n cs) (hi:i<n) (hx:x.one=true):∃ o st2,f=some o∧stV st 1 (.ptr o i) x=some st2∧ca .rw st2 f 1 n (cs.set i x):=by
 cases f with
 | none=>have:=h.2;simp only at this;omega
 | some o=>
  obtain ⟨rest,ho⟩:=h.2
  have hl:=h.1
  refine ⟨o,_,rfl,dZ ho (by simp;omega) hx,by simpa using hl,rest,?_⟩
  rw[bO ho,List.set_append_left _ _ (by omega)]
theorem Ak {t:KT} {d:Nat} (hw:t.wf (d+1)) (h8:t.f=8) (hd:d≤7) (hR:∀ s,R (.str (123::(iA (cY t.ns t.ls (t.l.map kpr))++[125]))) s) :
  ∀ (k i:Nat) (f:Option Nat) (st:aa),i+k=t.l.length→ca .rw st f 1 t.l.length (((cY t.ns t.ls (t.l.map kpr)).take i++(t.l.map kpr).drop i).map .str)→
   tF (kV t) (osl f 1 t.l.length) (sL t.ns) (i64 t.ns.length) (i64 i) R st:=by
 obtain ⟨_,_,_,_,hq,g,_,hj,hk⟩:=KT.ui hw
 obtain ⟨l1,l2⟩:=hq h8
 have hG:∀ x ∈ t.l.map kpr,x.length≤100*32 ^ d:=fun x hx=>by
  obtain ⟨y,hy,rfl⟩:=List.mem_map.1 hx
  exact xW (hk y hy)
 have hjl:=ke (nV (ls:=t.ls) (fun n hn=>qz (hj n hn)) hG)
 have hFl:(cY t.ns t.ls (t.l.map kpr)).length=t.l.length:=by rw[mc,bH]
 have hget:∀ i:Nat,(cY t.ns t.ls (t.l.map kpr))[i]?=(match t.ns[i]?,t.ls[i]?,(t.l.map kpr)[i]? with
  | some n,some l,some x=>some (gu n l x)
  | _,_,_=>none):=fun i=>rq (by rw[bH];omega) (by rw[bH];omega)
 have hGl:(t.l.map kpr).length=t.l.length:=bH ..
 generalize cY t.ns t.ls (t.l.map kpr)=F at hFl hget hR hjl
 generalize t.l.map kpr=G at hGl hget hG
 have hpow:32 ^ d≤32 ^ 7:=Nat.pow_le_pow_right (by omega) hd
 have hp7:32 ^ 7≤34359738368:=by decide
 have hjl':(Lib.join F [44]).length≤140737488355328:=by
  rw[← ma]
  have:F.length*(20+2+100*32 ^ d+1)≤16*(20+2+100*32 ^ 7+1):=Nat.mul_le_mul (by omega) (by omega)
  have h7:16*(20+2+100*32 ^ 7+1)≤140737488355328:=by decide
  omega
 intro k
 induction k with
 | zero=>
  intro i f st hi ho
  refine HR _ _ _ _ _ ?_
  have c1:¬ ((i:Int)<t.ns.length):=by omega
  simp only[xx,ad,au,ab,c1,a8,ae]
  rw[List.take_of_length_le (by omega),bR (by omega),List.append_nil] at ho
  refine Aj ho (by omega) hjl' ?_
  rw[← ma] at hjl' ⊢
  rw[kc (by simp only[aW,aR];omega),ab,kc (by simp only[b8,aW,aR];omega),ab]
  exact hR st
 | succ k ih=>
  intro i f st hi ho
  refine HR _ _ _ _ _ ?_
  have hlt:i<t.l.length:=by omega
  have c1:((i:Int)<t.ns.length):=by omega
  have e1:bn 1 (sL t.ns) (i64 i)=some (.iptr (t.ns.map .str) (i*1)):=cj (by omega)
  have hn:t.ns[i]?=some (t.ns[i]'(by omega)):=bg (by omega)
  have hl:t.ls[i]?=some (t.ls[i]'(by omega)):=bg (by omega)
  have hx:G[i]?=some (G[i]'(by omega)):=bg (by omega)
  have hF:=hget i
  have hdr:G.drop i=G[i]'(by omega)::G.drop (i+1):=b6 (by omega)
  generalize t.ns[i]'(by omega)=n at hn
  generalize t.ls[i]'(by omega)=l at hl
  generalize G[i]'(by omega)=x at hx hdr
  rw[hn,hl,hx] at hF
  simp only at hF
  have hg:(t.ns.map LV.str)[i*1]?=some (.str n):=by rw[Nat.mul_one,bT,hn];rfl
  have e2:bn 1 (.isl (t.ls.map .bool) t.ls.length none) (i64 i)=some (.iptr (t.ls.map .bool) (i*1)):=cj (by omega)
  have hg2:(t.ls.map LV.bool)[i*1]?=some (.bool l):=by rw[Nat.mul_one,bT,hl];rfl
  obtain ⟨o,hfo,e3⟩:=ho.ix (i:=(i:Int)) (kk:=.i64) (by omega) (by omega)
  subst hfo
  rw[hdr] at ho
  have hti:(F.take i).length=i:=by rw[List.length_take];omega
  have hld:((F.take i++x::G.drop (i+1)).map LV.str)[(i:Int).toNat*1]?=some (.str x):=by
   rw[Int.toNat_natCast,Nat.mul_one,bT,List.getElem?_append_right (by omega),hti,Nat.sub_self];rfl
  have h3:=ho.ld hld
  obtain ⟨o',st2,e,q1,q2⟩:=ca.Ix ho (i:=i) (x:=.str (gu n l x)) hlt rfl
  cases e
  have e4:((F.take i++x::G.drop (i+1)).map LV.str).set i (.str (gu n l x))=(F.take (i+1)++G.drop (i+1)).map LV.str:=by
   rw[← List.map_set,List.set_append_right _ _ (by omega),hti,Nat.sub_self,List.take_add_one,hF]
   simp
  rw[e4] at q2
  have hw1:=aK (show i<2 ^ 40 by omega)
  have hnl:=qz (hj n (cr hn))
  have hxl:=hG x (cr hx)
  have a1:∀ m:Tx,m.length≤2→ck .add (.str n) (.str m)=some (.str (n++m)):=fun m hm=>kc (by omega)
  have a2:∀ m:Tx,m.length≤2→ck .add (.str (n++m)) (.str x)=some (.str (n++m++x)):=fun m hm=>kc (by rw[b8];omega)
  have a3:=a1 [63,58] (by decide)
  have a4:=a2 [63,58] (by decide)
  have a5:=a1 [58] (by decide)
  have a6:=a2 [58] (by decide)
  have hpt:(i:Int).toNat*1=i:=by simp
  rw[hpt] at e3 h3
  cases l with
  | true=>
   have ex:n++[63,58]++x=gu n true x:=by simp[gu]
   simp only[xx,ad,au,ab,c1,aZ,ah,e1,bA,hg,cf,b9,aj,kc3,e2,hg2,a3,a4,e3,h3,ex,q1,aA,af,aH,hw1]
   exact ih (i+1) (some o) st2 (by omega) q2
  | false=>
   have ex:n++[58]++x=gu n false x:=by simp[gu]
   simp only[xx,ad,au,ab,c1,aZ,ah,ae,e1,bA,hg,cf,b9,aj,kc3,e2,hg2,a5,a6,e3,h3,ex,q1,aA,af,aH,hw1]
   exact ih (i+1) (some o) st2 (by omega) q2
theorem IW:∀ {d:Nat} {t:KT},d≤8→t.wf d→Pu Tryz.prog 38 [kV t] (.str (kpr t)):=by
 intro d
 induction d with
 | zero=>intro t _ h;cases t;simp only[KT.wf] at h
 | succ d ih=>
  intro t hd h
  obtain ⟨a,b,c,e,f,g,_,j,k⟩:=KT.ui h
  refine Pu.of (c38 _ ?_) (by simp[LV.aG,LV.plain,fm]) rfl
  simp only[w38,iY,dL,dz,ab,ae,cf,b9,aj,bA,kc1]
  refine IV (by unfold big;omega) (fun x hx=>ih (by omega) (k x hx)) fun fo s ho=>?_
  rw[IT]
  have e5:((t.f:Int)==5)=decide (t.f=5):=by by_cases h:t.f=5<;>simp[h];omega
  have e6:((t.f:Int)==6)=decide (t.f=6):=by by_cases h:t.f=6<;>simp[h];omega
  have e7:((t.f:Int)==7)=decide (t.f=7):=by by_cases h:t.f=7<;>simp[h];omega
  have e8:((t.f:Int)==8)=decide (t.f=8):=by by_cases h:t.f=8<;>simp[h];omega
  have hG:∀ x ∈ t.l.map kpr,x.length≤100*32 ^ d:=fun x hx=>by
   obtain ⟨y,hy,rfl⟩:=List.mem_map.1 hx
   exact xW (k y hy)
  have hjl:=ke hG
  have hpow:32 ^ d≤32 ^ 7:=Nat.pow_le_pow_right (by omega) (by omega)
  have hp7:32 ^ 7≤34359738368:=by decide
  have hx1:∀ {x:Tx} {a b:Tx},t.l.map kpr=[x]→a.length≤10→b.length≤10→(bd (ck .add (.str a) (.str x)) fun v=>bd (ck .add v (.str b)) fun w=>dp s (.str (a++(x++b))) w):=by
   intro x a b hx ha hb
   have:=hG x (by rw[hx];simp)
   rw[kc (by omega),ab,kc (by rw[b8];omega),ab,List.append_assoc]
   exact rfl
  have first:t.f=5∨t.f=6→∃ x o,t.l.map kpr=[x]∧bn 1 (osl fo 1 t.l.length) (.int .i64 0)=some (.ptr o 0)∧ld1 s (.ptr o 0)=some (.str x):=by
   intro h
   have hl:=c h
   match hl1:t.l,hl with
   | [y],_=>
    rw[hl1] at ho
    obtain ⟨o,hfo,e3⟩:=ho.ix (i:=0) (kk:=.i64) (by omega) (by simp)
    subst hfo
    exact ⟨kpr y,o,rfl,e3,ho.ld (k:=0) rfl⟩
  simp only[ab,kc0,ad,bj,e5,e6,e7,e8,aL]
  refine ⟨fun h5=>?_,fun h5=>⟨fun h6=>?_,fun h6=>⟨fun h7=>?_,fun h7=>⟨fun h8=>?_,fun h8=>?_⟩⟩⟩⟩
  ·obtain ⟨x,o,q1,q2,q3⟩:=first (.inl (by omega))
   have:t.f=5:=by omega
   rw[q2,ab,q3,ab,q1,this]
   exact hx1 q1 (by decide) (by decide)
  ·obtain ⟨x,o,q1,q2,q3⟩:=first (.inr (by omega))
   have:t.f=6:=by omega
   rw[q2,ab,q3,ab,q1,this]
   exact hx1 q1 (by decide) (by decide)
  ·have:t.f=7:=by omega
   have hjl':(Lib.join (t.l.map kpr) [44]).length≤140737488355328:=by
    rw[← ma]
    rw[bH] at hjl
    have:t.l.length*(100*32 ^ d+1)≤16*(100*32 ^ 7+1):=Nat.mul_le_mul (by omega) (by omega)
    have h7:16*(100*32 ^ 7+1)≤140737488355328:=by decide
    omega
   refine Aj ho (by rw[bH];omega) hjl' ?_
   rw[← ma] at hjl' ⊢
   rw[kc (by simp only[aW,aR];omega),ab,kc (by simp only[b8,aW,aR];omega),ab,this]
   exact rfl
  ·simp only[kc2,aU,ab]
   refine Ak h (by omega) (by omega) (fun s=>?_) t.l.length 0 fo s (by omega) (by simpa using ho)
   have:t.f=8:=by omega
   rw[this]
   exact rfl
  ·have h5':t.f<5:=by omega
   refine zX.call ⟨by trivial,?_⟩
   have:t.f=0∨t.f=1∨t.f=2∨t.f=3∨t.f=4:=by omega
   rcases this with h|h|h|h|h<;>rw[h]<;>exact rfl
end
section plain
theorem dF {c b:UInt8} {l:Tx}:splitB c (b::l)=if b=c then []::splitB c l else match splitB c l with
  | []=>[[b]]
  | p::ps=>(b::p)::ps:=rfl
theorem eR {c:UInt8}:∀ {s:Tx},(splitB c s).length=s.count c+1
 | []=>by simp[splitB]
 | b::l=>by
  have ih:=eR (c:=c) (s:=l)
  rw[dF]
  by_cases e:b=c
  ·simp[e,ih]
  ·have e':(b==c)=false:=by simpa using e
   simp only[e,if_false,List.count_cons,e',Bool.false_eq_true]
   split
   ·rename_i h;exact absurd h dd
   ·rename_i p ps h;rw[h] at ih;simpa using ih
theorem kR {c:UInt8}:∀ {s:Tx},Lib.indexByte s c = -1→splitB c s=[s]
 | [],_=>rfl
 | b::l,h=>by
  unfold Lib.indexByte at h
  rw[dF]
  split at h
  ·omega
  ·rename_i e
   rw[if_neg (by simpa using e)]
   have hg:=Lib.indexByte_ge l c
   split at h
   ·rename_i e2
    rw[kR (by simpa using e2)]
   ·rename_i e2
    have:Lib.indexByte l c≠-1:=by simpa using e2
    omega
theorem kS {c:UInt8}:∀ {s:Tx} {m:Nat},Lib.indexByte s c=m→splitB c s=s.take m::splitB c (s.drop (m+1))∧m<s.length
 | [],m,h=>by simp[Lib.indexByte] at h
 | b::l,m,h=>by
  unfold Lib.indexByte at h
  rw[dF]
  split at h
  ·rename_i e
   have:m=0:=by omega
   subst this
   rw[if_pos (by simpa using e)]
   exact ⟨rfl,by simp⟩
  ·rename_i e
   rw[if_neg (by simpa using e)]
   split at h
   ·omega
   ·rename_i e2
    cases m with
    | zero=>
     have hg:=Lib.indexByte_ge l c
     have:Lib.indexByte l c≠-1:=by simpa using e2
     omega
    | succ m=>
     obtain ⟨h1,h2⟩:=kS (c:=c) (s:=l) (m:=m) (by omega)
     rw[h1]
     exact ⟨rfl,by simpa using h2⟩
def po (c:UInt8) (s:Tx):LV:=match splitB c s with
 | a::b::_=>.tup [.str a,.str (s.drop (a.length+1)),.bool true]
 | _=>.tup [.str s,.str [],.bool false]
theorem uj {c:UInt8}:∀ {s:Tx},s.count c=0→splitB c s=[s]
 | [],_=>rfl
 | b::l,h=>by
  rw[List.count_cons] at h
  rw[dF]
  split at h
  ·omega
  ·rename_i e
   rw[if_neg (by simpa using e),uj (s:=l) (by omega)]
theorem IX {A B:List LV} {x y:LV} {i:Nat} (h:A.length=i):(A++x::B).set i y=A++y::B:=by
 subst h
 induction A with
 | nil=>rfl
 | cons a A ih=>simp[ih]
def strs (l:List Tx):List LV:=l.map LV.str
end plain
section
variable {st st':aa} {R:LV→aa→Prop} {c:UInt8}
theorem Ga {k:IntKind} {a b:Int}:kZ [.int k a,.int k b]=some (.int k (if b<a then b else a)):=rfl
theorem nW {s:Tx} {m:Nat} (h:m≤s.length):(ob3 none (some (i64 m)) none fun l h m=>dm (.str s) l h m)=some (.str (s.take m)):=by
 simp only[ob3,fP,Int.natCast_nonneg,if_true,Int.toNat_natCast,dm,Option.getD_none,Option.getD_some]
 rw[if_pos ⟨by omega,h⟩];simp
theorem Oe (s:Tx) (hs:s.length≤2 ^ 32):Pu Tryz.prog 143 [.str s,.str [c]] (po c s):=by
 refine Pu.of (c143 _ _ ?_) rfl (by unfold po;split<;>rfl)
 refine (IM s c).call ?_
 have hg:=Lib.indexByte_ge s c
 by_cases hn:Lib.indexByte s c = -1
 ·have e:po c s=.tup [.str s,.str [],.bool false]:=by unfold po;rw[kR hn]
  rw[e,hn]
  exact bu (v:=.tup [.str s,.str [],.bool false]) _ rfl
 ·obtain ⟨m,hm⟩:∃ m:Nat,Lib.indexByte s c=m:=⟨(Lib.indexByte s c).toNat,by omega⟩
  obtain ⟨h1,h2⟩:=kS hm
  have e:po c s=.tup [.str (s.take m),.str (s.drop (m+1)),.bool true]:=by
   unfold po
   rw[h1]
   cases h:splitB c (s.drop (m+1)) with
   | nil=>exact absurd h dd
   | cons a l=>simp only[List.length_take];rw[Nat.min_eq_left (by omega)]
  rw[e,hm]
  have c1:((m:Int)≥0):=by omega
  have hw:IntKind.i64.wrap ((m:Int)+(([c]:Tx).length:Nat))=((m+1:Nat):Int):=by rw[wrap_i64 (by simp;omega) (by simp;omega)];simp
  simp only[ad,dN,ab,c1,aZ,ah,nW (show m≤s.length by omega),bF,aH,hw,gw (show m+1≤s.length by omega)]
  exact bu (v:=.tup [.str _,.str _,.bool true]) _ rfl
theorem IY {s:Tx}:∃ a b d,po c s=.tup [.str a,.str b,.bool d]:=by unfold po;split<;>exact ⟨_,_,_,rfl⟩
theorem MH (s:Tx) (hs:s.length≤2 ^ 32):Pu Tryz.prog 80 [.str s,.str [c]] (po c s):=by
 refine Pu.of (c80 _ _ ?_) rfl (by unfold po;split<;>rfl)
 refine (Oe s hs).call ?_
 obtain ⟨a,b,d,e⟩:=IY (c:=c) (s:=s)
 rw[e]
 simp only[av,aN,aO,ab]
 exact bu (v:=.tup [.str _,.str _,.bool _]) _ rfl
theorem Og (s p:Tx):Pu Tryz.prog 144 [.str s,.str p] (.tup [.str (if p.isPrefixOf s then s.drop p.length else s),.bool (p.isPrefixOf s)]):=by
 have k:Pu Tryz.prog 188 [.str s,.str p] (.tup [.str (if p.isPrefixOf s then s.drop p.length else s),.bool (p.isPrefixOf s)]):=by
  refine Pu.of (Rc _ _ ?_) rfl rfl
  refine (vc s p).call ?_
  cases h:p.isPrefixOf s with
  | false=>exact bu (v:=.tup [.str _,.bool false]) _ rfl
  | true=>
   have hl:=(List.isPrefixOf_iff_prefix.1 h).length_le
   simp only[bw,ab,bM,ae,bF,gw hl,if_true]
   exact bu (v:=.tup [.str _,.bool true]) _ rfl
 refine Pu.of (Ra _ _ ?_) rfl rfl
 refine k.call ?_
 simp only[av,aN,aO,ab]
 exact bu (v:=.tup [.str _,.bool _]) _ rfl
theorem Cv {s:Tx} {N o:Nat} (hN:N≤2 ^ 32) (hs:s.length≤2 ^ 32) (hR:∀ st',st'[o]?=some (.cells .rw (strs (splitB c s)))→R (.sl o 0 (N+1) (.ex (N+1))) st') :
  ∀ (n i:Nat) (pre:List Tx) (rest:Tx) (s1:aa),n=N-i→i≤N→pre.length=i→splitB c s=pre++splitB c rest→rest.count c=N-i→rest.length≤s.length→
   s1[o]?=some (.cells .rw (strs pre++List.replicate (N+1-i) (.str [])))→oS (.str rest) (.str [c]) (i64 0) (i64 (N:Nat)) (.sl o 0 (N+1) (.ex (N+1))) (i64 (i:Nat)) R s1:=by
 intro n
 induction n with
 | zero=>
  intro i pre rest s1 hn hi hp hsp hc hrl ho
  apply D3
  have hiN:i=N:=by omega
  subst hiN
  have hw:=aK (show i<2 ^ 40 by omega)
  have hix:bn 1 (.sl o 0 (i+1) (.ex (i+1))) (i64 i)=some (.ptr o i):=by rw[kF (by omega) (by omega)];simp
  have hset:(strs pre++List.replicate (i+1-i) (LV.str [])).set i (.str rest)=strs (splitB c s):=by
   rw[hsp,uj (by omega),show i+1-i=1 by omega]
   simp only[strs,List.map_append,List.replicate_one,List.map_cons,List.map_nil]
   exact IX (by simp[hp])
  simp only[xu,ad,au,ab,aL]
  refine ⟨fun h=>by omega,fun _=>?_⟩
  rw[hix,ab,dZ ho (by simp[strs,hp]) rfl,hset]
  simp only[aA,af,aH,hw,ab]
  rw[show (ob3 none (some (i64 ((i+1:Nat):Int))) none fun l h m=>dn (s1.set o (.cells .rw (strs (splitB c s)))) 1 (.sl o 0 (i+1) (.ex (i+1))) l h m)=some (.sl o 0 (i+1) (.ex (i+1))) by
   simp only[ob3,fP,Int.natCast_nonneg,if_true,Int.toNat_natCast,dn,rB,nx,Option.getD_none,Option.getD_some]
   rw[if_pos ⟨by omega,by omega⟩]
   simp]
  rw[ab]
  exact hR _ (bO ho)
 | succ n ih=>
  intro i pre rest s1 hn hi hp hsp hc hrl ho
  apply D3
  have hw:=aK (show i<2 ^ 40 by omega)
  have hix:bn 1 (.sl o 0 (N+1) (.ex (N+1))) (i64 i)=some (.ptr o i):=by rw[kF (by omega) (by omega)];simp
  simp only[xu,ad,au,ab,aL]
  refine ⟨fun _=>?_,fun h=>by omega⟩
  refine (IP rest c).call ?_
  have hne:Lib.indexByte rest c≠-1:=by
   intro e
   have h1:=kR e
   have h2:=eR (c:=c) (s:=rest)
   rw[h1,hc] at h2
   simp at h2;omega
  have hge:=Lib.indexByte_ge rest c
  obtain ⟨m,hm⟩:∃ m:Nat,Lib.indexByte rest c=m:=⟨(Lib.indexByte rest c).toNat,by omega⟩
  obtain ⟨h1,h2⟩:=kS hm
  rw[hm]
  have hw0:IntKind.i64.wrap ((m:Int)+0)=(m:Nat):=by rw[wrap_i64 (by omega) (by omega)];simp
  have hw1:=aK (show m<2 ^ 40 by omega)
  simp only[ad,au,ab,aL,aH,hw0]
  refine ⟨fun h=>by omega,fun _=>?_⟩
  rw[nW (by omega),ab,hix,ab,dZ ho (by simp[strs,hp];omega) rfl]
  simp only[aA,af,bF,aW,aR,aj,ab,ad,aH]
  rw[show ((1:Nat):Int)=1 from rfl,hw1,gw (by omega),ab,hw]
  have hset:(strs pre++List.replicate (N+1-i) (LV.str [])).set i (.str (rest.take m))=strs (pre++[rest.take m])++List.replicate (N+1-(i+1)) (.str []):=by
   rw[show N+1-i=(N+1-(i+1))+1 by omega,List.replicate_succ]
   simp only[strs,List.map_append,List.map_cons,List.map_nil]
   rw[IX (by simp[hp])]
   simp
  rw[hset]
  refine ih (i+1) (pre++[rest.take m]) (rest.drop (m+1)) _ (by omega) (by omega) (by simp[hp]) (by rw[hsp,h1];simp) ?_ (by simp;omega) (bO ho)
  have h3:=eR (c:=c) (s:=rest)
  have h4:=eR (c:=c) (s:=rest.drop (m+1))
  rw[h1] at h3
  simp at h3
  omega
theorem IZ (s:Tx) (hs:s.length≤2 ^ 32):Pu Tryz.prog 146 [.str s,.str [c]] (sL (splitB c s)):=by
 refine Pu.of (c146 _ _ (Rf _ _ _ _ ?_)) rfl (by simp only[LV.plain];exact bV (f:=LV.str) fun _ _=>rfl)
 have hc:s.count c≤s.length:=List.count_le_length
 simp only[PV,ad,bj,ab,ct,da,au]
 rw[show ((-1:Int)==0)=false from rfl,show (([c]:Tx)==[])=false from rfl,show decide ((-1:Int)<0)=true from rfl]
 simp only[ae,ah]
 refine (IQ s c).call ?_
 have hl:=eR (c:=c) (s:=s)
 generalize hN:s.count c=N at hc hl
 simp only[ad,aH,ab,bF,aK (show N<2 ^ 40 by omega),aK (show s.length<2 ^ 40 by omega),Ga]
 rw[if_neg (by omega)]
 have hmk:kq 16 [LV.str []] [] (i64 ((N+1:Nat):Int)) (i64 ((N+1:Nat):Int))=some (.sl 0 0 (N+1) (.ex (N+1)),[]++[.cells .rw (List.replicate (N+1) (.str []))]):=by
  simp only[kq]
  rw[if_pos ⟨by omega,by omega,by omega,by omega⟩]
  have hfl:∀ n:Nat,(List.replicate n [LV.str []]).flatten=List.replicate n (LV.str []):=by
   intro n
   induction n with
   | zero=>rfl
   | succ n ih=>rw[List.replicate_succ,List.flatten_cons,ih,List.replicate_succ];rfl
  rw[Int.toNat_natCast,hfl];rfl
 have hws:IntKind.i64.wrap (((N+1:Nat):Int)-1)=(N:Nat):=by rw[wrap_i64 (by omega) (by omega)];omega
 rw[hmk,af,dM,hws,ab]
 refine Cv (s:=s) (o:=0) (by omega) hs (fun st' h1=>?_) _ 0 [] s _ rfl (by omega) rfl rfl (by omega) (Nat.le_refl _) (by simp[strs])
 refine .inl ⟨0,0,.ex (N+1),.rw,_,by rw[hl],h1,rfl,by simp[strs],?_⟩
 rw[List.drop_zero,List.take_of_length_le (by simp[strs])]
 exact bU _ (bV (f:=LV.str) fun _ _=>rfl)
end
abbrev aX (nm:Tx) (tv:LV) (m o h n:Bool):List LV:=[.str nm,tv,.bool m,.bool o,.bool h,.bool n]
def aC (a:AT):List LV:=aX a.nm (kV a.ty) a.must a.own a.hide a.new
abbrev aV (a:AT):LV:=.agg (aC a)
section
variable {st st':aa} {R:LV→aa→Prop}
theorem me {a:AT}:LV.aG (aC a)=true:=by simp[aC,LV.aG,LV.plain,fm]
theorem xX {a:AT}:(aC a).all LV.one=true:=rfl
theorem Cw {a:AT}:(aC a).length=6:=rfl
theorem I0 {a:AT}:(aV a).plain=true:=by simp only[LV.plain];exact me
theorem I1 (nm:Tx) (tv:LV) (ht:tv.plain=true) (m o h n:Bool):Pu Tryz.prog 148 [.agg (aX nm tv m o h n)] (.str ((if m then 32::de else [])++((if o then 32::eG else [])++((if h then 32::dh else [])++(if n then 32::eH else []))))):=by
 refine Pu.of (c148 _ ?_) (by simp[LV.aG,LV.plain,ht]) rfl
 cases m<;>cases o<;>cases h<;>cases n <;>
  exact tB _ _ _ (tB _ _ _ (tB _ _ _ (tB _ _ _ (tB _ _ _ rfl))))
def qA (tv:LV) (tnil:Bool):Prop:=tv=.nilp∧tnil=true∨∃ t,tv=kV t∧tnil=false
theorem qA.plain {tv:LV} {b:Bool} (h:qA tv b):tv.plain=true:=by
 rcases h with ⟨rfl,_⟩ | ⟨t,rfl,_⟩
 ·rfl
 ·exact eu
theorem qA.one {tv:LV} {b:Bool} (h:qA tv b):tv.one=true:=by
 rcases h with ⟨rfl,_⟩ | ⟨t,rfl,_⟩<;>rfl
theorem xY {nm:Tx} {tv:LV} {b m o h n:Bool} (ht:qA tv b):(aX nm tv m o h n).all LV.one=true:=by simp only[List.all_cons,ht.one,List.all_nil];rfl
def aWr (last nm:Tx) (tnil m o:Bool):Int:=
 if named nm=false then 7 else if nm=last then 9 else if Op.bytesLess nm last=true then 4 else if tnil then 6 else if m&&o then 1 else 0
theorem Oh {last:Tx} {a:AT}:aWr last a.nm false a.must a.own=jc last a:=rfl
theorem pq {cs:List LV}:cu st (.agg cs)=some (.ptr st.length 0,st++[.cells .rw cs]):=rfl
theorem KY {last nm:Tx} {tv:LV} {tnil m o h n:Bool} (ht:qA tv tnil) (hn:nm.length<2 ^ 40):Pu Tryz.prog 79 [.agg (aX nm tv m o h n),.str last] (i64 (aWr last nm tnil m o)):=by
 refine Pu.of (c79 _ _ ?_) (by simp[LV.aG,LV.plain,ht.plain]) rfl
 have g:∀ k:Nat,ld1 ([]++[ar.cells .rw (aX nm tv m o h n)]) (.ptr 0 k)=(aX nm tv m o h n)[k]?:=fun k=>bx rfl
 simp only[w79,pq,af,aR,ao,aj,ab,g,aN]
 refine (tY hn).call ?_
 simp only[bw,ab,g,aN,aO,ct,da,pg]
 unfold aWr
 cases named nm with
 | false=>exact rfl
 | true=>
  simp only[bM,ae,Bool.true_eq_false,if_false]
  have e1:(nm==last)=decide (nm=last):=by by_cases h:nm=last<;>simp[h]
  rw[e1,aL]
  refine ⟨fun h1=>by rw[if_pos h1];exact rfl,fun h1=>?_⟩
  rw[if_neg h1]
  cases Op.bytesLess nm last with
  | true=>exact rfl
  | false=>
   simp only[ae,Bool.false_eq_true,if_false]
   rcases ht with ⟨rfl,rfl⟩ | ⟨t,rfl,rfl⟩
   ·exact rfl
   ·simp only[iY,dL,dz,ab,ae,Bool.false_eq_true,if_false]
    cases m<;>cases o<;>exact rfl
theorem Oi {a:AT} (hw:a.ty.wf 8) (hn:a.nm.length≤2 ^ 32):Pu Tryz.prog 84 [aV a] (.str (nr a++[10])):=by
 refine Pu.of (c84 _ ?_) (by simp only[LV.aG,Bool.and_true];exact I0) rfl
 have g:∀ k:Nat,ld1 ([]++[ar.cells .rw (aC a)]) (.ptr 0 k)=(aC a)[k]?:=fun k=>bx rfl
 have g6:ldA ([]++[ar.cells .rw (aC a)]) (.ptr 0 0) 6=some (aV a):=rfl
 have g0:(aC a)[0]?=some (.str a.nm):=rfl
 have g1:(aC a)[1]?=some (kV a.ty):=rfl
 have hk:=xW hw
 have hp:100*32 ^ 8≤109951162777600:=by decide
 have hm:(xM a).length≤20:=by unfold xM;cases a.must<;>cases a.own<;>cases a.hide<;>cases a.new<;>decide
 simp only[w84,pq,af,aR,ao,aj,ab,g,g0,g1,g6]
 rw[kc (by simp only[aW,aR];omega),ab,kc (by simp only[b8,aW,aR];omega),ab]
 refine (IW (Nat.le_refl 8) hw).call ⟨rfl,g 0,?_⟩
 rw[kc (by simp only[b8,aW,aR];omega),ab]
 refine (I1 a.nm (kV a.ty) eu a.must a.own a.hide a.new).call ⟨g 0,?_⟩
 show bd (ck .add (.str _) (.str (xM a))) _
 rw[kc (by simp only[b8,aW,aR];omega),ab,kc (by simp only[b8,aW,aR];omega),ab]
 refine PG _ ?_
 show LV.str _=LV.str _
 unfold nr jx
 simp
end
end Go.Proofs.YtknegckgmklnhaaGreatDoor
