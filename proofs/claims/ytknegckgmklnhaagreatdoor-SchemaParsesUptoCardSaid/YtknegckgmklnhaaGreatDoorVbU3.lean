/- Parts of the proof. -/
import Derived.Test.YtknegckgmklnhaaGreatDoorVbL9
namespace Go.Proofs.YtknegckgmklnhaaGreatDoor
open Go Go.CP
set_option maxRecDepth 100000
def dx (c:UInt8):Bool:=decide (48≤c.toNat)&&decide (c.toNat≤57)
def val (u:Nat) (d:Tx):Nat:=d.foldl (fun u c=>u*10+(c.toNat-48)) u
theorem ml {u:Nat}:val u []=u:=by unfold val;rw[List.foldl_nil]
theorem eD {u:Nat} {c:UInt8} {r:Tx}:val u (c::r)=val (u*10+(c.toNat-48)) r:=by unfold val;rw[List.foldl_cons]
theorem sq {r:Tx}:∀ {u:Nat},u*10 ^ r.length≤val u r:=by
 induction r with
 | nil=>intro u;rw[ml];simp
 | cons c r ih=>
  intro u
  rw[eD,List.length_cons,Nat.pow_succ]
  refine Nat.le_trans ?_ ih
  rw[Nat.mul_comm (10 ^ r.length) 10,← Nat.mul_assoc]
  exact Nat.mul_le_mul_right _ (by omega)
theorem qe:∀ {r:Tx} {u:Nat},r.all dx=true→val u r<(u+1)*10 ^ r.length
 | [],u,_=>by rw[ml];simp
 | c::r,u,h=>by
  simp only[List.all_cons,Bool.and_eq_true] at h
  have h1:=qe (r:=r) (u:=u*10+(c.toNat-48)) h.2
  have h2:=h.1
  simp only[dx,Bool.and_eq_true,decide_eq_true_eq] at h2
  rw[List.length_cons,Nat.pow_succ]
  refine Nat.lt_of_lt_of_le h1 ?_
  rw[Nat.mul_comm (10 ^ r.length) 10,← Nat.mul_assoc]
  exact Nat.mul_le_mul_right _ (by omega)
theorem qf:∀ {x y:Tx} {u:Nat},x.length=y.length→x.all dx=true→y.all dx=true→(Op.bytesLess x y=true↔val u x<val u y)
 | [],[],u,_,_,_=>by simp[Op.bytesLess]
 | a::x,b::y,u,hl,hx,hy=>by
  simp only[List.all_cons,Bool.and_eq_true] at hx hy
  have hl':x.length=y.length:=by simpa using hl
  have ha:=hx.1
  have hb:=hy.1
  simp only[dx,Bool.and_eq_true,decide_eq_true_eq] at ha hb
  simp only[Op.bytesLess,Bool.or_eq_true,decide_eq_true_eq,Bool.and_eq_true,beq_iff_eq,UInt8.lt_iff_toNat_lt,eD]
  have up:=fun (p q:Nat) (h:p<q)=>Nat.lt_of_lt_of_le (qe (u:=u*10+(p-48)) hx.2) (Nat.le_trans (Nat.mul_le_mul_right (10 ^ x.length) (show u*10+(p-48)+1≤u*10+(p-48)+1 from Nat.le_refl _)) (Nat.le_refl _))
  rcases Nat.lt_trichotomy a.toNat b.toNat with h|h|h
  ·have h1:=qe (u:=u*10+(a.toNat-48)) hx.2
   have h2:=sq (r:=y) (u:=u*10+(b.toNat-48))
   have h3:(u*10+(a.toNat-48)+1)*10 ^ x.length≤(u*10+(b.toNat-48))*10 ^ y.length:=by rw[hl'];exact Nat.mul_le_mul_right _ (by omega)
   exact ⟨fun _=>by omega,fun _=>.inl h⟩
  ·have e:a=b:=UInt8.toNat_inj.1 h
   subst e
   rw[← qf hl' hx.2 hy.2]
   simp
  ·have h1:=qe (u:=u*10+(b.toNat-48)) hy.2
   have h2:=sq (r:=x) (u:=u*10+(a.toNat-48))
   have h3:(u*10+(b.toNat-48)+1)*10 ^ y.length≤(u*10+(a.toNat-48))*10 ^ x.length:=by rw[hl'];exact Nat.mul_le_mul_right _ (by omega)
   refine ⟨fun h'=>?_,fun h'=>by omega⟩
   rcases h' with h' | ⟨h',_⟩
   ·omega
   ·subst h';omega
theorem Cq {c:UInt8} {u:Nat} (h:dx c=true):dig (u*10+(c.toNat-48))=c:=by
 simp only[dx,Bool.and_eq_true,decide_eq_true_eq] at h
 apply UInt8.toNat_inj.1
 rw[eC];omega
theorem wX:∀ {r:Tx} {u:Nat},0<u→r.all dx=true→Lib.decDigits (val u r)=Lib.decDigits u++r
 | [],u,_,_=>by rw[ml,List.append_nil]
 | c::r,u,hu,h=>by
  simp only[List.all_cons,Bool.and_eq_true] at h
  have hc:=h.1
  simp only[dx,Bool.and_eq_true,decide_eq_true_eq] at hc
  rw[eD,wX (by omega) h.2,dq,if_neg (by omega),Cq h.1,show (u*10+(c.toNat-48)) / 10=u by omega,List.append_assoc]
  rfl
theorem A4 {u:Nat}:(Lib.decDigits u).all dx=true:=by
 rw[List.all_eq_true]
 intro c hc
 have:=fg u c hc
 simp[dx,this.1,this.2]
theorem wY:∀ {a b:Tx} {u:Nat},val u (a++b)=val (val u a) b
 | [],_,_=>rfl
 | c::a,b,u=>by rw[List.cons_append,eD,eD,wY]
theorem A5:∀ (u:Nat),val 0 (Lib.decDigits u)=u:=by
 intro u
 induction u using Nat.strongRecOn with
 | _ u ih=>
  rw[dq]
  split
  ·simp only[eD,ml,eC];omega
  ·rw[wY,ih (u / 10) (by omega)]
   simp only[eD,ml,eC];omega
theorem zY {u:Nat} (hu:0<u):∃ c r,Lib.decDigits u=c::r∧49≤c.toNat∧c.toNat≤57:=by
 induction u using Nat.strongRecOn with
 | _ u ih=>
  rw[dq]
  split
  ·exact ⟨_,[],rfl,by rw[eC];omega,by rw[eC];omega⟩
  ·obtain ⟨c,r,e,h1,h2⟩:=ih (u / 10) (by omega) (by omega)
   exact ⟨c,r++[dig u],by rw[e];rfl,h1,h2⟩
def eH (most d:Tx):Bool:=match d with
 | []=>false
 | c::r=>decide (d.length≤19)&&(!(decide (d.length=19)&&Op.bytesLess most d))&&(decide (49≤c.toNat)&&decide (c.toNat≤57))&&d.all dx
def qg:Tx:=[57,50,50,51,51,55,50,48,51,54,56,53,52,55,55,53,56,48,55]
def qh:Tx:=[57,50,50,51,51,55,50,48,51,54,56,53,52,55,55,53,56,48,56]
theorem rk {most d:Tx} (hm:most.length=19) (hd:most.all dx=true) (h18:10 ^ 18≤val 0 most) (h:eH most d=true):∃ u,0<u∧u≤val 0 most∧d=Lib.decDigits u:=by
 unfold eH at h
 split at h
 ·cases h
 ·rename_i c r
  simp only[Bool.and_eq_true,decide_eq_true_eq,Bool.not_eq_true',Bool.and_eq_false_iff,decide_eq_false_iff_not] at h
  obtain ⟨⟨⟨h1,h2⟩,h3,h4⟩,h5⟩:=h
  have h5':=h5
  simp only[List.all_cons,Bool.and_eq_true] at h5'
  have ec:Lib.decDigits (c.toNat-48)=[c]:=by
   rw[dq,if_pos (by omega)]
   congr 1
   apply UInt8.toNat_inj.1
   rw[eC];omega
  have ev:val 0 (c::r)=val (c.toNat-48) r:=by rw[eD];congr 1;omega
  have hdec:Lib.decDigits (val 0 (c::r))=c::r:=by rw[ev,wX (by omega) h5'.2,ec];rfl
  refine ⟨val 0 (c::r),?_,?_,hdec.symm⟩
  ·rw[ev]
   have:=sq (r:=r) (u:=c.toNat-48)
   have hp:0<10 ^ r.length:=Nat.pow_pos (by omega)
   have:0<(c.toNat-48)*10 ^ r.length:=Nat.mul_pos (by omega) hp
   omega
  ·by_cases h19:(c::r).length=19
   ·rcases h2 with h2|h2
    ·exact absurd h19 h2
    ·rw[Bool.eq_false_iff] at h2
     have:=(qf (u:=0) (hm.trans h19.symm) hd h5)
     exact Nat.le_of_not_lt fun hlt=>h2 (this.2 hlt)
   ·have hb:=qe (u:=0) h5
    have hle:10 ^ (c::r).length≤10 ^ 18:=Nat.pow_le_pow_right (by omega) (by omega)
    omega
theorem rl {most:Tx} (hm:most.length=19) (hd:most.all dx=true) (h19:val 0 most<10 ^ 19) {u:Nat} (h0:0<u) (hu:u≤val 0 most):eH most (Lib.decDigits u)=true:=by
 obtain ⟨c,r,e,h1,h2⟩:=zY h0
 have ha:=A4 (u:=u)
 have hv:=A5 u
 rw[e] at ha hv ⊢
 have hlen:(c::r).length≤19:=by
  have hl:=sq (r:=r) (u:=c.toNat-48)
  have ev:val 0 (c::r)=val (c.toNat-48) r:=by rw[eD];congr 1;omega
  refine Nat.le_of_not_lt fun hlt=>?_
  have h3:10 ^ 19≤10 ^ r.length:=Nat.pow_le_pow_right (by omega) (by simp only[List.length_cons] at hlt;omega)
  have h4:10 ^ r.length≤(c.toNat-48)*10 ^ r.length:=Nat.le_mul_of_pos_left _ (by omega)
  omega
 unfold eH
 simp only[Bool.and_eq_true,decide_eq_true_eq,Bool.not_eq_true',Bool.and_eq_false_iff,decide_eq_false_iff_not]
 refine ⟨⟨⟨hlen,?_⟩,h1,h2⟩,ha⟩
 by_cases hh:(c::r).length=19
 ·right
  rw[Bool.eq_false_iff]
  intro hlt
  have:=(qf (u:=0) (hm.trans hh.symm) hd ha).1 hlt
  omega
 ·exact .inl hh
theorem oo:val 0 qg=9223372036854775807:=by decide
theorem oq:val 0 qh=9223372036854775808:=by decide
def firstT (s:Tx):Int:=if s.length≤8∨s.take 8≠aY then 4 else match s.drop 8 with
 | []=>4
 | c::d=>if c=45 then (if eH qh d then 2 else 4) else (if eH qg (c::d) then 2 else 4)
theorem zZ {u:Nat} (h0:0<u) (hu:u≤9223372036854775808):Lib.atoiAll (45::Lib.decDigits u)=.ok (-(u:Int)):=by
 have hp:=zV u (by omega) []
 rw[List.append_nil,Lib.parseUint10] at hp
 have hne:=mi (u:=u)
 simp only[Lib.atoiAll,show (45:UInt8).toNat=45 from rfl,or_true,if_true,Lib.parseMag,hne,if_false,hp,not_true_eq_false,false_and,true_and]
 rw[if_neg (by omega)]
theorem yc {d:Tx} {c:UInt8}:(∃ v,Lib.atoiAll (c::d)=.ok v∧Lib.itoa v=c::d∧v≠0)↔(if c=45 then eH qh d else eH qg (c::d))=true:=by
 constructor
 ·rintro ⟨v,h1,h2,h3⟩
  have hr : -9223372036854775808≤v∧v≤9223372036854775807:=by
   have:=h1
   simp only[Lib.atoiAll] at this
   split at this
   ·cases this
   ·cases this
   ·rename_i u hu
    split at this
    ·cases this
    ·split at this
     ·cases this
     ·rename_i g1 g2
      simp only[Lib.NumEnd.ok.injEq] at this
      by_cases hc:c.toNat=45
      ·simp only[hc,if_true,true_and] at this g2;omega
      ·simp only[hc,if_false,not_false_eq_true,true_and] at this g1;omega
  rcases Int.lt_or_gt_of_ne h3 with h|h
  ·obtain ⟨u,rfl⟩:∃ u:Nat,v = -(u:Int):=⟨v.natAbs,by omega⟩
   rw[Lib.itoa_neg u (by omega)] at h2
   simp only[List.cons.injEq] at h2
   obtain ⟨rfl,rfl⟩:=h2
   rw[if_pos rfl]
   exact rl rfl (by decide) (by rw[oq];omega) (by omega) (by rw[oq];omega)
  ·obtain ⟨u,rfl⟩:∃ u:Nat,v=(u:Int):=⟨v.toNat,by omega⟩
   rw[Lib.itoa_nonneg] at h2
   have hd:=fg u c (by rw[h2];simp)
   rw[if_neg (by rintro rfl;revert hd;decide),← h2]
   exact rl rfl (by decide) (by rw[oo];omega) (by omega) (by rw[oo];omega)
 ·intro h
  by_cases hc:c=45
  ·subst hc
   rw[if_pos rfl] at h
   obtain ⟨u,h0,h1,rfl⟩:=rk rfl (by decide) (by rw[oq];omega) h
   rw[oq] at h1
   exact ⟨_,zZ h0 h1,Lib.itoa_neg u h0,by omega⟩
  ·rw[if_neg hc] at h
   obtain ⟨u,h0,h1,e⟩:=rk rfl (by decide) (by rw[oo];omega) h
   rw[oo] at h1
   rw[e]
   exact ⟨_,uu (by omega),Lib.itoa_nonneg u,by omega⟩
theorem z6 {s:Tx} (h:s.drop 8=[]):fU s=none:=by
 unfold fU
 rw[h]
 split
 ·rfl
 ·rfl
theorem yd {s:Tx} (h:s.take 8=aY):fU s=match Lib.atoiAll (s.drop 8) with
  | .ok n=>if Lib.itoa n=s.drop 8 then some n else none
  | _=>none:=by
 have hp:aY.isPrefixOf s=true:=by
  rw[List.isPrefixOf_iff_prefix,← h]
  exact List.take_prefix 8 s
 unfold fU
 rw[hp,if_pos rfl]
 rfl
theorem z8 {s:Tx} {v:Int} (h:fU s=some v):s.take 8=aY:=by
 rw[mX h];rfl
theorem vT {s:Tx}:firstT s=match fU s with
  | none=>4
  | some v=>if v=0 then 4 else 2:=by
 unfold firstT
 by_cases h8:s.length≤8∨s.take 8≠aY
 ·rw[if_pos h8]
  cases hv:fU s with
  | none=>rfl
  | some v=>
   have h1:=z8 hv
   rcases h8 with h|h
   ·rw[z6 (List.drop_eq_nil_of_le h)] at hv;cases hv
   ·exact absurd h1 h
 ·rw[if_neg h8]
  have ht:s.take 8=aY:=Classical.byContradiction fun h=>h8 (.inr h)
  rw[yd ht]
  cases hd:s.drop 8 with
  | nil=>rfl
  | cons c d=>
   simp only
   have key:=yc (c:=c) (d:=d)
   by_cases hn:(if c=45 then eH qh d else eH qg (c::d))=true
   ·obtain ⟨v,h1,h2,h3⟩:=key.2 hn
    rw[h1]
    simp only[h2,if_true]
    rw[if_neg h3]
    split
    ·rename_i hc;rw[if_pos hc] at hn;rw[if_pos hn]
    ·rename_i hc;rw[if_neg hc] at hn;rw[if_pos hn]
   ·have e4:(if c=45 then (if eH qh d then (2:Int) else 4) else (if eH qg (c::d) then 2 else 4))=4:=by
     split
     ·rename_i hc;rw[if_pos hc] at hn;rw[if_neg hn]
     ·rename_i hc;rw[if_neg hc] at hn;rw[if_neg hn]
    rw[e4]
    by_cases hok:∃ v,Lib.atoiAll (c::d)=.ok v
    ·obtain ⟨v,ha⟩:=hok
     rw[ha]
     simp only
     by_cases hi:Lib.itoa v=c::d
     ·rw[if_pos hi]
      have:v=0:=Classical.byContradiction fun h=>hn (key.1 ⟨v,ha,hi,h⟩)
      simp only[this,if_true]
     ·rw[if_neg hi]
    ·generalize Lib.atoiAll (c::d)=q at hok
     cases q with
     | ok v=>exact absurd ⟨v,rfl⟩ hok
     | _=>rfl
section
variable {st:aa} {R:LV→aa→Prop}
theorem A6 {x y:Tx}:(!(Op.bytesLess x y||x==y))=Op.bytesLess y x:=by
 cases h:Op.bytesLess y x with
 | true=>
  have h1:=lN h
  have h2:¬ x=y:=fun e=>by subst e;rw[ij] at h;cases h
  rw[h1,Bool.false_or];simp[h2]
 | false=>
  cases h1:Op.bytesLess x y with
  | true=>rfl
  | false=>
   have e:=pH h1 h
   subst e;simp
theorem rm {d:Tx} (hd:d.length≤2 ^ 30) (hR:R (i64 (if d.all dx then 2 else 4)) st):∀ (k i:Nat),i+k=d.length→d.all dx=(d.drop i).all dx→P105_12 (.str d) (i64 i) R st
 | 0,i,hi,hp=>by
  refine p105_12 _ _ ?_
  have c1:¬ ((i:Int)<d.length):=by omega
  rw[List.drop_eq_nil_of_le (by omega)] at hp
  rw[hp] at hR
  simp only[w105_12,aL,ag,aG,ab,c1,decide_false,ae]
  exact hR
 | k+1,i,hi,hp=>by
  refine p105_12 _ _ ?_
  have hlt:i<d.length:=by omega
  have c1:((i:Int)<d.length):=by omega
  have hx:d[i]?=some d[i]:=List.getElem?_eq_getElem hlt
  have hdr:d.drop i=d[i]::d.drop (i+1):=List.drop_eq_getElem_cons hlt
  generalize d[i]=c at hx hdr
  have hw1:=aJ (show i<2 ^ 40 by omega)
  rw[hdr,List.all_cons] at hp
  have four:dx c=false→R (LV.int .i64 4) st:=fun h=>by
   rw[hp,h] at hR;exact hR
  simp only[w105_12,aL,ag,aG,cy,ab,c1,decide_true,ah,cA hx,bj,aK,hw1]
  refine ⟨fun h=>four ?_,fun h=>⟨fun h'=>four ?_,fun h'=>rm hd hR k (i+1) (by omega) ?_⟩⟩
  ·unfold dx;rw[decide_eq_false (by omega)];rfl
  ·unfold dx;rw[decide_eq_false (p:=c.toNat≤57) (by omega),Bool.and_false]
  ·have:dx c=true:=by unfold dx;rw[decide_eq_true (by omega),decide_eq_true (by omega)];rfl
   rw[hp,this,Bool.true_and]
theorem wZ {most x:Tx} (hx:x.length≤2 ^ 29) (hR:R (i64 (if eH most x then 2 else 4)) st) :
  bd (bo (.str x)) fun v23=>bd (aj BinOp.eql v23 (i64 0)) fun v24=>ak v24 (R (i64 4) st)
   (bd (bo (.str x)) fun v25=>bd (aj BinOp.gtr v25 (i64 19)) fun v26=>ak v26 (R (i64 4) st)
   (bd (bo (.str x)) fun v27=>bd (aj BinOp.eql v27 (i64 19)) fun v28=>ak v28
    (bd (bg BinOp.gtr (.str x) (.str most)) fun v29=>ak v29 (R (i64 4) st)
     (bd (cn (.str x) (i64 0)) fun v30=>bd (aj BinOp.lss v30 (LV.int IntKind.u8 49)) fun v31=>ak v31 (R (i64 4) st)
     (bd (cn (.str x) (i64 0)) fun v32=>bd (aj BinOp.gtr v32 (LV.int IntKind.u8 57)) fun v33=>ak v33 (R (i64 4) st) (P105_12 (.str x) (i64 0) R st))))
    (bd (cn (.str x) (i64 0)) fun v34=>bd (aj BinOp.lss v34 (LV.int IntKind.u8 49)) fun v35=>ak v35 (R (i64 4) st)
     (bd (cn (.str x) (i64 0)) fun v36=>bd (aj BinOp.gtr v36 (LV.int IntKind.u8 57)) fun v37=>ak v37 (R (i64 4) st) (P105_12 (.str x) (i64 0) R st))))):=by
 have four:eH most x=false→R (LV.int .i64 4) st:=fun h=>by rw[h] at hR;exact hR
 cases x with
 | nil=>exact four rfl
 | cons c r=>
  have ei:cn (.str (c::r)) (.int .i64 0)=some (u8 c):=cA (i:=0) rfl
  have hg:bg BinOp.gtr (.str (c::r)) (.str most)=some (.bool (Op.bytesLess most (c::r))):=by
   rw[← A6];rfl
  have e0:(((c::r).length:Int)==0)=false:=by
   rw[Bool.eq_false_iff];intro h;rw[beq_iff_eq] at h;simp only[List.length_cons] at h;omega
  have e19:(((c::r).length:Int)==19)=decide ((c::r).length=19):=by
   by_cases h:(c::r).length=19
   ·rw[h];rfl
   ·rw[decide_eq_false h,Bool.eq_false_iff];intro h';rw[beq_iff_eq] at h';omega
  have en:eH most (c::r)=(decide ((c::r).length≤19)&&(!(decide ((c::r).length=19)&&Op.bytesLess most (c::r)))&&(decide (49≤c.toNat)&&decide (c.toNat≤57))&&(c::r).all dx):=rfl
  generalize c::r=x at *
  have loop:eH most x=x.all dx→P105_12 (.str x) (LV.int .i64 0) R st:=fun h=>
   rm (by omega) (by rw[← h];exact hR) x.length 0 (by omega) rfl
  simp only[aL,ag,aR,cy,aG,ab,ei,hg,e0,e19,ae,bj]
  rw[cX]
  refine ⟨fun h=>four ?_,fun h=>⟨fun h1=>⟨fun h2=>four ?_,fun h2=>⟨fun h3=>four ?_,fun h3=>⟨fun h4=>four ?_,fun h4=>loop ?_⟩⟩⟩,fun h1=>⟨fun h3=>four ?_,fun h3=>⟨fun h4=>four ?_,fun h4=>loop ?_⟩⟩⟩⟩<;>rw[en]
  ·rw[decide_eq_false (p:=x.length≤19) (by omega)];rfl
  ·rw[decide_eq_true h1,h2];simp
  ·rw[decide_eq_false (p:=49≤c.toNat) (by omega)];simp
  ·rw[decide_eq_false (p:=c.toNat≤57) (by omega)];simp
  ·rw[decide_eq_true (p:=x.length≤19) (by omega),h2,decide_eq_true (p:=49≤c.toNat) (by omega),decide_eq_true (p:=c.toNat≤57) (by omega)];simp
  ·rw[decide_eq_false (p:=49≤c.toNat) (by omega)];simp
  ·rw[decide_eq_false (p:=c.toNat≤57) (by omega)];simp
  ·rw[decide_eq_true (p:=x.length≤19) (by omega),decide_eq_false h1,decide_eq_true (p:=49≤c.toNat) (by omega),decide_eq_true (p:=c.toNat≤57) (by omega)];simp
theorem ye {s:Tx} (hs:s.length≤2 ^ 29):Pu Tryz.prog 105 [.str s] (i64 (firstT s)):=by
 refine Pu.of (c105 _ ?_) rfl rfl
 simp only[w105,aL,ag,dA,ab,bj]
 refine ⟨fun h8=>?_,fun h8=>?_⟩
 ·unfold firstT;rw[if_pos (.inl (by omega))];exact rfl
 have h8':8<s.length:=by omega
 have e1:(ob3 none (some (.int .i64 8)) none fun l h m=>cq (.str s) l h m)=some (.str (s.take 8)):=lg (m:=8) (by omega)
 have e2:(ob3 (some (.int .i64 8)) none none fun l h m=>cq (.str s) l h m)=some (.str (s.drop 8)):=eU (x:=8) (by omega)
 have hl:(s.drop 8).length=s.length-8:=by simp
 have ef:firstT s=if s.length≤8∨s.take 8≠aY then 4 else match s.drop 8 with
  | []=>4
  | c::d=>if c=45 then (if eH qh d then 2 else 4) else (if eH qg (c::d) then 2 else 4):=rfl
 rw[ef]
 simp only[e1,e2,ab,bA,gk]
 rw[cX]
 refine ⟨fun ht=>?_,fun ht=>?_⟩
 ·have ht':s.take 8≠aY:=fun e=>by rw[e] at ht;exact absurd ht (by decide)
  rw[if_pos (.inr ht')];exact rfl
 ·have ht':s.take 8=aY:=by
   have h:=ht
   simp only[Bool.not_eq_false'] at h
   exact eq_of_beq h
  rw[if_neg (by rintro (h|h);omega;exact h ht')]
  cases hd:s.drop 8 with
  | nil=>rw[hd] at hl;simp at hl;omega
  | cons c d=>
   rw[hd] at hl
   have ei:cn (.str (c::d)) (.int .i64 0)=some (u8 c):=cA (i:=0) rfl
   refine zP ei (zP (v:=.bool (((c.toNat:Int))==45)) rfl ?_)
   rw[cX]
   refine ⟨fun hc=>?_,fun hc=>?_⟩
   ·have hc':c=45:=by
     rw[beq_iff_eq] at hc
     apply UInt8.toNat_inj.1
     show c.toNat=45
     omega
    subst hc'
    have e3:(ob3 (some (.int .i64 1)) none none fun l h m=>cq (.str (45::d)) l h m)=some (.str d):=eU (x:=1) (by simp)
    refine zP e3 ?_
    refine wZ (R:=fun v s'=>dp s' (i64 _) v) (most:=qh) (by simp only[List.length_cons] at hl;omega) ?_
    exact rfl
   ·have hc':c≠45:=by
     rintro rfl;revert hc;decide
    refine wZ (R:=fun v s'=>dp s' (i64 _) v) (most:=qg) (by omega) ?_
    simp only[hc',if_false]
    exact rfl
end
section
variable {R:LV→aa→Prop}
theorem yf {x0 x6 x7:LV} {p:Tx} {i:Nat} (hp:p.length≤2 ^ 29) (hi:i<2 ^ 40)
  (hOk:∀ (n:Nat) (k:Int),n≤1000→p=aY++Lib.decDigits n→P35_5 x0 (.ptr 0 0) (.ptr 1 0) x6 x7 (i64 (i+1:Nat)) (.str p) (i64 n) (i64 k) R [A35,.cells .rw [i64 n,.nils]])
  (hBad:(∀ n,n≤1000→p≠aY++Lib.decDigits n)→R (.tup [.agg [i64 0,.nils],i64 1,i64 (firstT p)]) [A35,A35]) :
  ∀ (d k:Nat),k+d=1001→(∀ n,n<k→p≠aY++Lib.decDigits n)→P35_16 x0 (.ptr 0 0) (.ptr 1 0) x6 x7 (i64 i) (.str p) (i64 (-1)) (i64 k) R [A35,A35]:=by
 intro d
 have er:∀ {A:Prop},(∀ n,n≤1000→p≠aY++Lib.decDigits n)→(ak (.bool true) (bd (aN (av (ax [(0,1),(1,1)]) [i64 0,LV.nils] [])) fun v11=>au Tryz.prog 105 [.str p] [A35,A35] fun v12 st13=>bd2 (lmk (stV st13 2 (.ptr 0 0) v11)) fun _v14 st15=>bd (ldA st15 (.ptr 0 0) 2) fun v16=>R (LV.tup [v16,i64 1,v12]) st15) A):=by
  intro A hn
  rw[ah,show aN (av (ax [(0,1),(1,1)]) [i64 0,LV.nils] [])=some (.agg [i64 0,.nils]) from rfl,ab]
  refine (ye hp).call ?_
  exact hBad hn
 have cneg:decide ((-1:Int)<0)=true:=rfl
 induction d with
 | zero=>
  intro k hk hn
  refine p35_16 _ _ _ _ _ _ _ _ _ ?_
  have c1:¬ ((k:Int)≤1000):=by omega
  simp only[w35_16,ag,dA,aG,ab,c1,decide_false,ae,cneg]
  exact er fun n h=>hn n (by omega)
 | succ d ih=>
  intro k hk hn
  refine p35_16 _ _ _ _ _ _ _ _ _ ?_
  have c1:((k:Int)≤1000):=by omega
  have hw:=aJ (show k<2 ^ 40 by omega)
  simp only[w35_16,ag,dA,aG,aL,ab,c1,decide_true,cneg]
  rw[ah,ah]
  by_cases h14:p.length<14
  ·have c2:((p.length:Int)<14):=by omega
   simp only[c2,decide_true]
   rw[ah]
   refine (xZ (by omega)).call ?_
   have hd:=wW (n:=k) (by omega)
   have hb:bg .add (.str [118,101,114,115,105,111,110,32]) (.str (Lib.decDigits k))=some (.str (aY++Lib.decDigits k)):=gy (x:=aY) (by simp[aY];omega)
   rw[hb]
   simp only[ab,bA,ct,aK,hw]
   by_cases he:p=aY++Lib.decDigits k
   ·rw[show (p==aY++Lib.decDigits k)=true by simp[← he],ah]
    exact ya hi (hOk k _ (by omega) he)
   ·rw[show (p==aY++Lib.decDigits k)=false by simpa using he,ae]
    exact ih (k+1) (by omega) fun n h=>by
     by_cases hnk:n=k
     ·subst hnk;exact he
     ·exact hn n (by omega)
  ·have c2:¬ ((p.length:Int)<14):=by omega
   simp only[c2,decide_false]
   rw[ae]
   refine er fun n h=>fun e=>?_
   have:=wW h
   rw[e] at h14
   simp[aY] at h14
   omega
end
def uw (s:Tx) (w:LV):Prop:=match splitB 10 s with
 | p::q::r=>(∃ n:Nat,n≤1000∧p=aY++Lib.decDigits n∧(match bW [] 2 (q::r) with
   | .inl l=>w=.tup [bS n l,i64 0,i64 0]
   | .inr (k,e)=>w=.tup [bZ,i64 k,i64 e]))∨((∀ n,n≤1000→p≠aY++Lib.decDigits n)∧w=.tup [bZ,i64 1,i64 (firstT p)])
 | _=>w=.tup [bZ,i64 1,i64 4]
theorem ux {s:Tx} (hs:s.length≤2 ^ 29):∀ (d i:Nat) (x9 x10 x11:LV),i+d=s.length→splitB 10 s=glue (s.take i) (splitB 10 (s.drop i))→
  P35_5 (.str s) (.ptr 0 0) (.ptr 1 0) (i64 (0:Nat)) (i64 (0:Nat)) (i64 i) x9 x10 x11 (Dp (uw s)) [A35,A35]:=by
 intro d
 have zag:aN (av (ax [(0,1),(1,1)]) [i64 0,LV.nils] [])=some (.agg [i64 0,.nils]):=rfl
 have pz:stV [A35,A35] 2 (.ptr 0 0) (.agg [i64 0,.nils])=some [A35,A35]:=rfl
 have gz:ldA [A35,A35] (.ptr 0 0) 2=some (.agg [i64 0,.nils]):=rfl
 induction d with
 | zero=>
  intro i x9 x10 x11 hi hsp
  refine p35_5 _ _ _ _ _ _ _ _ _ ?_
  have c1:¬ ((i:Int)<s.length):=by omega
  rw[List.drop_eq_nil_of_le (by omega:s.length≤i)] at hsp
  have hq:uw s (.tup [bZ,i64 1,i64 4]):=by
   unfold uw
   rw[hsp];rfl
  simp only[w35_5,aL,ag,aG,ab,c1,decide_false,ae,zag,bj]
  refine ⟨fun _=>?_,fun _=>?_⟩
  ·exact dpq hq
  ·exact dpq hq
 | succ d ih=>
  intro i x9 x10 x11 hi hsp
  refine p35_5 _ _ _ _ _ _ _ _ _ ?_
  have hlt:i<s.length:=by omega
  have c1:((i:Int)<s.length):=by omega
  have hw1:=aJ (show i<2 ^ 40 by omega)
  have hx:s[i]?=some s[i]:=List.getElem?_eq_getElem hlt
  have hdr:s.drop i=s[i]::s.drop (i+1):=List.drop_eq_getElem_cons hlt
  have htk:s.take (i+1)=s.take i++[s[i]]:=by rw[List.take_add_one,hx];rfl
  generalize s[i]=c at hx hdr htk
  rw[hdr] at hsp
  have e10:((c.toNat:Int) != 10)=decide (c≠10):=by
   by_cases h:c=10
   ·subst h;rfl
   ·have:¬ c.toNat=10:=fun e=>h (UInt8.toNat_inj.1 e)
    simp only[h,ne_eq,not_false_eq_true,decide_true,bne_iff_ne];omega
  have hw0:IntKind.i64.wrap (((0:Nat):Int)+1)=((1:Nat):Int):=rfl
  have c11:(((1:Nat):Int)==1)=true:=rfl
  simp only[w35_5,aL,ag,aG,ab,c1,decide_true,ah,cA hx,bw,e10,bj]
  refine ⟨fun h=>?_,fun h=>?_⟩
  ·simp only[aK,ab,hw1]
   refine ih (i+1) _ _ _ (by omega) ?_
   rw[htk,← mS h];exact hsp
  ·have h10:c=10:=Classical.byContradiction h
   subst h10
   rw[cv,if_pos rfl] at hsp
   simp only[glue,List.append_nil] at hsp
   have ps:=dE (s:=s) (Nat.zero_le i) (show i≤s.length by omega)
   rw[List.drop_zero,Nat.sub_zero] at ps
   rw[ps]
   simp only[aK,hw1,hw0,ab,ag,aR,c11,ah]
   obtain ⟨q,r,hqr⟩:∃ q r,splitB 10 (s.drop (i+1))=q::r:=by
    cases hq:splitB 10 (s.drop (i+1)) with
    | nil=>exact absurd hq cb
    | cons q r=>exact ⟨q,r,rfl⟩
   rw[hqr] at hsp
   have hQ:∀ w,((∃ n:Nat,n≤1000∧s.take i=aY++Lib.decDigits n∧(match bW [] 2 (q::r) with
     | .inl l=>w=.tup [bS n l,i64 0,i64 0]
     | .inr (k,e)=>w=.tup [bZ,i64 k,i64 e]))∨((∀ n,n≤1000→s.take i≠aY++Lib.decDigits n)∧w=.tup [bZ,i64 1,i64 (firstT (s.take i))]))→uw s w:=by
    intro w h
    unfold uw
    rw[hsp]
    exact h
   refine yf (x7:=i64 (1:Nat)) (i:=i) (by simp;omega) (by omega) (fun n k hn hp=>?_) (fun hn=>?_) 1001 0 (by omega) (fun n h=>by omega)
   ·refine vO hs (v:=n) (bW [] 2 (q::r)) (fun l f st hres ho=>?_) (fun k e st hres=>?_) (s.length-(i+1)) (i+1) (i+1) 1 [] none _ _ _ _ (by omega) (Nat.le_refl _) (Nat.le_refl _) (by omega) ⟨⟨_,_,rfl⟩,rfl,br.nil,fun _ h=>by cases h⟩ (by simp) ?_
    ·refine ⟨.tup [bS n l,i64 0,i64 0],⟨_,rfl,_,_,rfl,⟨_,rfl,_,_,rfl,rfl,_,_,rfl,gX ho rfl (bE _ mU),rfl⟩,_,_,rfl,rfl,_,_,rfl,rfl,rfl⟩,by simp only[LV.plain,LV.aF,um];rfl,hQ _ (.inl ⟨n,hn,hp,by rw[hres]⟩)⟩
    ·exact dpq (hQ _ (.inl ⟨n,hn,hp,by rw[hres]⟩))
    ·rw[Nat.sub_self,List.take_zero,jU cb,hqr];rfl
   ·exact dpq (hQ _ (.inr ⟨hn,rfl⟩))
theorem vU {s:Tx} (hs:s.length≤2 ^ 29):Pb Tryz.prog 35 [.str s] (uw s):=by
 refine Pb.of (c35 _ ?_) rfl
 show P35_5 (.str s) (.ptr 0 0) (.ptr 1 0) (i64 (0:Nat)) (i64 (0:Nat)) (i64 (0:Nat)) _ _ _ _ [A35,A35]
 refine ux hs s.length 0 _ _ _ (by omega) ?_
 rw[List.take_zero,List.drop_zero,jU cb]
end Go.Proofs.YtknegckgmklnhaaGreatDoor
namespace Go.Proofs.YtknegckgmklnhaaGreatDoor
open Go Go.CP
def vV (s:Tx):LV:=match cU s with
 | .inl S=>.tup [bS S.ver S.l,i64 0,i64 0]
 | .inr (k,e)=>.tup [bZ,i64 k,i64 e]
theorem A7 {s:Tx} {w:LV} (h:uw s w):w=vV s:=by
 unfold uw at h
 unfold vV cU
 split at h
 ·rename_i p q r hsp
  rw[hsp]
  rcases h with ⟨n,hn,hp,hm⟩ | ⟨hn,hw⟩
  ·have hv:fU p=some (n:Int):=by rw[hp];exact uv hn
   simp only[hv]
   rw[if_neg (by omega)]
   split at hm
   ·rename_i l hl;rw[hl];exact hm
   ·rename_i k e hl;rw[hl];exact hm
  ·rw[hw,vT]
   cases hv:fU p with
   | none=>simp only[hv]
   | some v=>
    simp only[hv]
    have ho:v<0∨1000<v:=by
     refine Classical.byContradiction fun h=>?_
     have ht:=mX hv
     obtain ⟨n,rfl⟩:∃ n:Nat,v=n:=⟨v.toNat,by omega⟩
     rw[Lib.itoa_nonneg] at ht
     exact hn n (by omega) ht
    rw[if_pos ho,if_neg (by omega)]
 ·rename_i hsp
  have:∀ (x:List Tx),splitB 10 s=x→(∀ p q r,x≠p::q::r)→(match (match x with
    | p::q::r=>match fU p with
     | none=>(.inr (1,4):ST ⊕ Int × Int)
     | some v=>if v<0∨1000<v then .inr (1,2) else match bW [] 2 (q::r) with
      | .inl l=>.inl ⟨v,l⟩
      | .inr e=>.inr e
    | _=>.inr (1,4)) with
   | .inl S=>LV.tup [bS S.ver S.l,i64 0,i64 0]
   | .inr (k,e)=>.tup [bZ,i64 k,i64 e])=.tup [bZ,i64 1,i64 4]:=by
   intro x _ hx
   match x,hx with
   | [],_=>rfl
   | [_],_=>rfl
   | p::q::r,hx=>exact absurd rfl (hx p q r)
  exact h.trans (this _ rfl fun p q r e=>hsp p q r e).symm
theorem Da {s:Tx} (hs:s.length≤2 ^ 29):Pu Tryz.prog 35 [.str s] (vV s):=
 ⟨fun hR=>(vU hs).call fun v hv=>by rw[A7 hv];exact hR⟩
end Go.Proofs.YtknegckgmklnhaaGreatDoor
namespace Go.Proofs.YtknegckgmklnhaaGreatDoor
open Go Go.CP
set_option maxRecDepth 100000
section
variable {st:aa} {R:LV→aa→Prop}
structure W2 (st:aa) (t:KT) (v:T):Prop where
 a:st[0]?=some (.cells .rw (rkC t))
 b:gI st 1 (rT v)
namespace W2
variable {t:KT} {v:T} (h:W2 st t v)
include h
theorem f:ld1 st (.ptr 0 0)=some (i64 t.f):=by rw[aM h.a,dU];rfl
theorem l:ld1 st (.ptr 0 1)=some (.isl (cS t.l) t.l.length none):=by rw[aM h.a,dU];rfl
theorem ns:ld1 st (.ptr 0 2)=some (.isl (t.ns.map .str) t.ns.length none):=by rw[aM h.a,dU];rfl
theorem ls:ld1 st (.ptr 0 3)=some (.isl (t.ls.map .bool) t.ls.length none):=by rw[aM h.a,dU];rfl
theorem all:ldA st (.ptr 0 0) 4=some (.agg (rkC t)):=by rw[eS h.a (by rw[cR];omega),List.drop_zero,List.take_of_length_le (by rw[cR];omega)]
end W2
end
end Go.Proofs.YtknegckgmklnhaaGreatDoor
namespace Go.Proofs.YtknegckgmklnhaaGreatDoor
open Go Go.CP
set_option maxRecDepth 100000
section
variable {st:aa} {R:LV→aa→Prop}
structure SV (st:aa) (n:Int) (l:List AT) (v:T):Prop where
 a:oa st 0 n l
 b:gI st 1 (rT v)
end
section
variable {st:aa} {R:LV→aa→Prop}
def rcz (v:T) (a:AT):List LV:=if a.own&&decide ((C3 v a.nm).kind=0) then [i64 1,.bool false,i64 0,i64 0,.str [],.nils,.nils] else rc (rT (C3 v a.nm))
def zs (v:T) (l:List AT):List LV:=(l.map (rcz v)).flatten
structure Dq (st:aa) (n:Int) (S:ST) (v:T) (fL fK:Option Nat) (i k:Nat):Prop where
 s:SV st n S.l v
 c2:st[2]?=some (.cells .rw z7)
 c3:st[3]?=some (.cells .rw [i64 7,.bool false,i64 0,i64 0,.str [],osl fL 7 i,osl fK 1 k])
 oL:br .rw st fL 7 i (zs v (S.l.take i))
 oK:br .rw st fK 1 k ((S.l.take k).map fun a=>.str a.nm)
 nL:∀ o,fL=some o→4≤o∧fK≠some o
 nK:∀ o,fK=some o→4≤o
variable {n:Int} {S:ST} {v:T} {fL fK:Option Nat} {i k:Nat} {a:AT}
end
end Go.Proofs.YtknegckgmklnhaaGreatDoor
namespace Go.CP
end Go.CP
namespace Go.Proofs.YtknegckgmklnhaaGreatDoor
open Go Go.CP
set_option maxRecDepth 100000
section
variable {st:aa} {R:LV→aa→Prop}
theorem yl {a b:Bool}:je .neq (.bool a) (.bool b)=some (.bool (a != b)):=rfl
structure U2 (st:aa) (t:T):Prop where
 a:st[0]?=some (.cells .rw [lvT t])
 b:gI st 1 (rT t)
end
end Go.Proofs.YtknegckgmklnhaaGreatDoor
