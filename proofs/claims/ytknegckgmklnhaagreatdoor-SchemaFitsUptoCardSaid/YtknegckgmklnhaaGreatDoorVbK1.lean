/- Parts of the proof. -/
import Derived.Test.YtknegckgmklnhaaGreatDoorVbR8
import Derived.Test.YtknegckgmklnhaaGreatDoorVaC3
import Derived.Test.YtknegckgmklnhaaGreatDoorVbW6
import Derived.Shelf.SlSorted.Search
namespace Go.Proofs.YtknegckgmklnhaaGreatDoor
open Go Go.CP
set_option maxRecDepth 100000
section
variable {st st':aa} {R:LV→aa→Prop}
theorem ju {t:KT} {v:T}:LV.aB [kV t,vT v]=true:=by simp[LV.aB,dw,b8]
theorem kl0 {t:KT}:ld1 st (.iptr (kC t) 0)=some (i64 t.f):=by rw[ba,sh];rfl
theorem kl1 {t:KT}:ld1 st (.iptr (kC t) 1)=some (.isl (kVs t.l) t.l.length none):=by rw[ba,sh];rfl
theorem kl2 {t:KT}:ld1 st (.iptr (kC t) 2)=some (sL t.ns):=by rw[ba,sh];rfl
theorem vP (k:Tx):Pu Tryz.prog 214 [.str k] (.agg [.str k,i64 (-1)]):=by
 refine Pu.of (OG _ ?_) rfl rfl
 have e:aP (ao (aA [(0,1),(1,1)]) [LV.str [],i64 0] [(0,.str k),(1,i64 (-1))])=some (.agg [.str k,i64 (-1)]):=rfl
 have p:stV [av.cells .rw [LV.str [],i64 0]] 2 (.ptr 0 0) (.agg [.str k,i64 (-1)])=some [av.cells .rw [.str k,i64 (-1)]]:=rfl
 have g:ldA [av.cells .rw [LV.str k,i64 (-1)]] (.ptr 0 0) 2=some (.agg [.str k,i64 (-1)]):=rfl
 simp only[NB,b6,List.nil_append,List.length_nil,e,ab,p,ay,ag,g]
 exact bn _ rfl
theorem IV (i:Int):Pu Tryz.prog 215 [i64 i] (.agg [.str [],i64 i]):=by
 refine Pu.of (OH _ ?_) rfl rfl
 have e:aP (ao (aA [(0,1),(1,1)]) [LV.str [],i64 0] [(1,i64 i)])=some (.agg [.str [],i64 i]):=rfl
 have p:stV [av.cells .rw [LV.str [],i64 0]] 2 (.ptr 0 0) (.agg [.str [],i64 i])=some [av.cells .rw [.str [],i64 i]]:=rfl
 have g:ldA [av.cells .rw [LV.str [],i64 i]] (.ptr 0 0) 2=some (.agg [.str [],i64 i]):=rfl
 simp only[NC,b6,List.nil_append,List.length_nil,e,ab,p,ay,ag,g]
 exact bn _ rfl
def StQ (n:Nat) (v:LV):Prop:=∃ cs,v=.isl cs n none∧cs.length=n*2∧LV.aB cs=true∧cs.all LV.one=true
theorem CN {f:Option Nat} {n:Nat} {acc:List LV} {x y:LV} (h:bB .rw st f 2 n acc) (hx:x.one=true) (hy:y.one=true) (hl:n<2 ^ 31) :
  ∃ st2 f2,ar (st++[.cells .rw [x,y]]) 2 24 .rw (osl f 2 n) (.sl st.length 0 1 (.ex 1))=some (osl f2 2 (n+1),st2)∧bB .rw st2 f2 2 (n+1) (acc++[x,y]):=by
 have h1:=h.fr (st':=st++[.cells .rw [x,y]]) (S:=fun _=>False) Fr.app (fun _ _ h=>h)
 obtain ⟨st2,f2,q1,q2,_⟩:=h1.append (x:=.sl st.length 0 1 (.ex 1)) (k:=1) (new:=[x,y]) (bytes:=24) (by simp[dz]) (by omega) rfl (by simp[hx,hy]) (db (by omega) (by omega))
 exact ⟨st2,f2,q1,q2⟩
theorem D4 {ks:List Tx} (hb:ks.length≤big):∀ (d i:Nat) (f:Option Nat) (acc:List LV) (st:aa),i+d=ks.length→bB .rw st f 2 i acc→LV.aB acc=true→acc.all LV.one=true→
  rY (osl f 2 i) (sL ks) (i64 ks.length) (i64 i) (Dp (StQ ks.length)) st:=by
 intro d
 induction d with
 | zero=>
  intro i f acc st hi ho hp h1
  refine Gc _ _ _ _ ?_
  have c1:¬ ((i:Int)<ks.length):=by omega
  simp only[An,ae,ax,ab,c1,decide_false,af]
  have hi:i=ks.length:=by omega
  subst hi
  exact ⟨.isl acc ks.length none,dA ho rfl (bA _ hp),by simp[LV.plain,hp],acc,rfl,ho.1,hp,h1⟩
 | succ d ih=>
  intro i f acc st hi ho hp h1
  refine Gc _ _ _ _ ?_
  have hlt:i<ks.length:=by omega
  have c1:((i:Int)<ks.length):=by omega
  have e1:aK 1 (sL ks) (i64 i)=some (.iptr (ks.map .str) (i*1)):=bO hlt
  have hg:(ks.map LV.str)[i*1]?=some (.str ks[i]):=by simp[hlt]
  simp only[An,ae,ax,ab,c1,decide_true,ai,e1,ba,hg]
  refine (vP _).call ?_
  have ef:ao (fun i=>some (i*2,2)) (List.replicate 1 [LV.str [],i64 0]).flatten [(0,.agg [.str ks[i],i64 (-1)])]=some [.str ks[i],i64 (-1)]:=rfl
  rw[ef]
  simp only[aY,ag]
  obtain ⟨st2,f2,q1,q2⟩:=CN ho (x:=.str ks[i]) (y:=i64 (-1)) rfl rfl (by unfold big at hb;omega)
  rw[q1]
  simp only[ag,aG,ab,aH (show i<2 ^ 40 by unfold big at hb;omega)]
  exact ih (i+1) f2 _ st2 (by omega) q2 (by rw[cZ,hp];rfl) (by rw[List.all_append,h1];rfl)
theorem IW {ks:List Tx} (hb:ks.length≤big):Pb Tryz.prog 175 [sL ks] (StQ ks.length):=by
 refine Pb.of (c175 _ ?_) (by simp only[LV.aB,LV.plain,bD (f:=LV.str) fun _ _=>rfl,Bool.and_true])
 show rY (osl none 2 0) (sL ks) (i64 ks.length) (i64 (0:Nat)) _ _
 exact D4 hb ks.length 0 none [] _ (by omega) bB.nil rfl rfl
theorem yr {n:Nat} (hb:n≤big):∀ (d i:Nat) (f:Option Nat) (acc:List LV) (st:aa),i+d=n→bB .rw st f 2 i acc→LV.aB acc=true→acc.all LV.one=true→
  rZ (osl f 2 i) (i64 n) (i64 i) (Dp (StQ n)) st:=by
 intro d
 induction d with
 | zero=>
  intro i f acc st hi ho hp h1
  refine Gd _ _ _ ?_
  have c1:¬ ((i:Int)<n):=by omega
  simp only[Ao,ae,ax,ab,c1,decide_false,af]
  have hi:i=n:=by omega
  subst hi
  exact ⟨.isl acc i none,dA ho rfl (bA _ hp),by simp[LV.plain,hp],acc,rfl,ho.1,hp,h1⟩
 | succ d ih=>
  intro i f acc st hi ho hp h1
  refine Gd _ _ _ ?_
  have c1:((i:Int)<n):=by omega
  simp only[Ao,ae,ax,ab,c1,decide_true,ai]
  refine (IV _).call ?_
  have ef:ao (fun i=>some (i*2,2)) (List.replicate 1 [LV.str [],i64 0]).flatten [(0,.agg [.str [],i64 i])]=some [.str [],i64 i]:=rfl
  rw[ef]
  simp only[aY,ag]
  obtain ⟨st2,f2,q1,q2⟩:=CN ho (x:=.str []) (y:=i64 i) rfl rfl (by unfold big at hb;omega)
  rw[q1]
  simp only[ag,aG,ab,aH (show i<2 ^ 40 by unfold big at hb;omega)]
  exact ih (i+1) f2 _ st2 (by omega) q2 (by rw[cZ,hp];rfl) (by rw[List.all_append,h1];rfl)
theorem D5 {n:Nat} (hb:n≤big):Pb Tryz.prog 176 [i64 n] (StQ n):=by
 refine Pb.of (OA _ ?_) rfl
 show rZ (osl none 2 0) (i64 n) (i64 (0:Nat)) _ _
 exact yr hb n 0 none [] _ (by omega) bB.nil rfl rfl
def ixI (k:Tx) (ns:List Tx):Int:=match dU k ns 0 with
 | some i=>i
 | none=>-1
theorem sr {k:Tx} {ns:List Tx} (hb:ns.length≤big) (hR:R (i64 (ixI k ns)) st):∀ (d i:Nat),i+d=ns.length→dU k ns 0=dU k (ns.drop i) i→r5 (sL ns) (.str k) (i64 ns.length) (i64 i) R st
 | 0,i,hi,hp=>by
  refine Gf _ _ _ _ ?_
  have c1:¬ ((i:Int)<ns.length):=by omega
  have e:ixI k ns = -1:=by unfold ixI;rw[hp,List.drop_eq_nil_of_le (by omega)];rfl
  rw[e] at hR
  simp only[Ap,ae,ax,ab,c1,decide_false,af]
  exact hR
 | d+1,i,hi,hp=>by
  refine Gf _ _ _ _ ?_
  have hlt:i<ns.length:=by omega
  have c1:((i:Int)<ns.length):=by omega
  have e1:aK 1 (sL ns) (i64 i)=some (.iptr (ns.map .str) (i*1)):=bO hlt
  have hg:(ns.map LV.str)[i*1]?=some (.str ns[i]):=by simp[hlt]
  have hd:ns.drop i=ns[i]::ns.drop (i+1):=List.drop_eq_getElem_cons hlt
  generalize ns[i]=n at hg hd
  simp only[Ap,ae,ax,ab,c1,decide_true,ai,e1,ba,hg,bN,cL]
  rw[hd,dU] at hp
  by_cases h:n=k
  ·subst h
   rw[if_pos rfl] at hp
   have e:ixI n ns=i:=by unfold ixI;rw[hp]
   rw[e] at hR
   simp only[beq_self_eq_true,ai]
   exact hR
  ·rw[if_neg h] at hp
   have e2:(k==n)=false:=by simpa using Ne.symm h
   simp only[e2,af,aG,ab,aH (show i<2 ^ 40 by unfold big at hb;omega)]
   exact sr hb hR d (i+1) (by omega) hp
theorem GS {k:Tx} {ns:List Tx} (hb:ns.length≤big):Pu Tryz.prog 158 [sL ns,.str k] (i64 (ixI k ns)):=by
 refine Pu.of (OD _ _ ?_) (by simp only[LV.aB,LV.plain,bD (f:=LV.str) fun _ _=>rfl,Bool.and_true]) rfl
 show r5 (sL ns) (.str k) (i64 ns.length) (i64 (0:Nat)) _ _
 exact sr hb (R:=fun v s=>dp s (i64 (ixI k ns)) v) rfl ns.length 0 (by omega) rfl
theorem qI {k:Tx}:∀ {ns:List Tx} {i j:Nat},dU k ns i=some j→i≤j∧j<i+ns.length∧ns[j-i]?=some k
 | n::ns,i,j,h=>by
  unfold dU at h
  split at h
  ·rename_i e
   simp only[Option.some.injEq] at h
   subst h;subst e
   simp
  ·obtain ⟨h1,h2,h3⟩:=qI h
   refine ⟨by omega,by simp;omega,?_⟩
   have:j-i=(j-(i+1))+1:=by omega
   rw[this];simpa using h3
theorem vQ {l:List KT} {i:Nat}:(kVs l)[i]?=(l[i]?).map kV:=by rw[vC];simp
theorem GU {t:KT} {k:Tx} (hb:t.ns.length≤big) (hl:t.ns.length=t.l.length):Pu Tryz.prog 213 [kV t,.str k] (match (dU k t.ns 0).bind (t.l[·]?) with
  | some x=>.tup [kV x,.bool true]
  | none=>.tup [.nilp,.bool false]):=by
 refine Pu.of (c213 _ _ ?_) (by simp[LV.aB,LV.plain,eC]) (by split<;>simp[LV.plain,LV.aB,eC])
 simp only[MV,ie,dP,dF,ab,af,bH,bG,Nat.zero_add,kl2]
 refine (GS hb).call ?_
 unfold ixI
 cases h:dU k t.ns 0 with
 | none=>
  have c1:((-1:Int)<0):=by omega
  simp only[ae,ax,ab,c1,decide_true,ai,Option.bind_none]
  exact bn _ rfl
 | some i=>
  obtain ⟨_,h2,_⟩:=qI h
  have c1:¬ ((i:Int)<0):=by omega
  have hlt:i<t.l.length:=by omega
  have e1:aK 1 (.isl (kVs t.l) t.l.length none) (i64 i)=some (.iptr (kVs t.l) (i*1)):=bO hlt
  have hx:t.l[i]?=some t.l[i]:=List.getElem?_eq_getElem hlt
  simp only[ae,ax,ab,c1,decide_false,af,kl1]
  simp only[ab,e1,ba,Nat.mul_one,vQ,hx,Option.map_some,Option.bind_some]
  exact bn (v:=.tup [kV t.l[i],.bool true]) _ (by simp[LV.plain,LV.aB,eC])
theorem GV {t:KT}:Pu Tryz.prog 167 [kV t] (i64 (eT t.f)):=by
 refine Pu.of (c167 _ ?_) (by simp[LV.aB,LV.plain,eC]) rfl
 have e6:((t.f:Int)==6)=decide (t.f=6):=by by_cases h:t.f=6<;>simp[h];omega
 have e8:((t.f:Int)==8)=decide (t.f=8):=by by_cases h:t.f=8<;>simp[h];omega
 simp only[MU,ie,dP,dF,ab,af,bH,bG,Nat.zero_add,kl0,ae,ax,aQ,e6,e8,aI]
 unfold eT
 refine ⟨fun h=>?_,fun h=>⟨fun h6=>?_,fun h6=>⟨fun h8=>?_,fun h8=>?_⟩⟩⟩
 ·rw[if_pos (by omega)];exact (rfl:_=_)
 ·rw[if_neg (by omega),if_pos (.inl h6)];exact (rfl:_=_)
 ·rw[if_neg (by omega),if_pos (.inr h8)];exact (rfl:_=_)
 ·rw[if_neg (by omega),if_neg (by intro h;rcases h with h|h;exact h6 h;exact h8 h)];exact (rfl:_=_)
def intOf:T→Int
 | .int n=>n
 | _=>0
theorem yu (t:T):Pu Tryz.prog 98 [vT t] (.tup [i64 (intOf t),.bool (decide (t.kind=3))]):=by
 refine Pu.of (c98 _ ?_) gW rfl
 cases t<;>exact bn (v:=.tup [i64 _,.bool _]) _ rfl
theorem IX (n:Int):Pu Tryz.prog 156 [i64 n] (.bool (decide (-9007199254740992≤n∧n≤9007199254740992))):=by
 refine Pu.of (c156 _ ?_) rfl rfl
 simp only[Ib,ae,dt,dr,ab]
 rw[aI]
 refine ⟨fun h=>?_,fun h=>?_⟩
 ·have:decide (-9007199254740992≤n∧n≤9007199254740992)=decide (n≤9007199254740992):=decide_eq_decide.2 (by omega)
  rw[this];exact (rfl:_=_)
 ·have:decide (-9007199254740992≤n∧n≤9007199254740992)=false:=decide_eq_false (by omega)
  rw[this];exact (rfl:_=_)
theorem D6 {n:Int} (h:¬ (-9007199254740992≤n∧n≤9007199254740992)):Pu Tryz.prog 93 [i64 n,i64 0] (.tup [vT .null,i64 2]):=by
 refine Pu.of (c93 _ _ ?_) rfl rfl
 simp only[w93,b6]
 refine (IX n).call ?_
 rw[decide_eq_false h]
 simp only[bF,ab,Bool.not_false,ai]
 exact mk1 (st:=[]) (v:=.nili) rfl rfl (Q:=fun v s=>dp s (.tup [vT .null,i64 2]) (.tup [v,i64 2])) fun s=>bn s rfl
theorem IY {v:T}:Pu Tryz.prog 212 [vT v] (.bool (js v)):=by
 refine Pu.of (c212 _ ?_) gW rfl
 have g:ldA ([]++[av.cells .rw [lvT v]]) (.ptr 0 0) 1=some (vT v):=rfl
 simp only[Nz,iw,ag,List.length_nil,g,ab]
 refine (yu v).call ?_
 simp only[au,List.getElem?_cons_zero,List.getElem?_cons_succ,ab]
 have fin:∀ {w:T} {e:Int} {s:aa} {b:Bool},(b=true→js v=decide (e=0))→(b=false→js v=false)→nw s [LV.nili] fun v11 st12=>bd2 (lmk (stV st12 1 v11 (vT w))) fun _v13 st14=>ak (.bool b) (bd (ah BinOp.eql (i64 e) (i64 0)) fun v15=>dp st14 (.bool (js v)) v15) (dp st14 (.bool (js v)) (LV.bool false)):=by
  intro w e s b h1 h2
  simp only[b6,eF,ay,ag,ae,aQ,ab]
  cases b with
  | true=>
   rw[h1 rfl]
   have:(e==0)=decide (e=0):=by by_cases h:e=0<;>simp[h]
   simp only[ai,this];exact rfl
  | false=>rw[h2 rfl];exact rfl
 by_cases hn:∃ n,v=.int n
 ·obtain ⟨n,rfl⟩:=hn
  by_cases hr : -9007199254740992≤n∧n≤9007199254740992
  ·refine (sq hr (by omega)).call ?_
   simp only[au,List.getElem?_cons_zero,List.getElem?_cons_succ,ab]
   exact fin (fun _=>by simp only[js];exact decide_eq_true hr) fun h=>by cases h
  ·refine (D6 hr).call ?_
   simp only[au,List.getElem?_cons_zero,List.getElem?_cons_succ,ab]
   exact fin (fun _=>by simp only[js];rw[decide_eq_false hr];rfl) fun h=>by cases h
 ·have e0:intOf v=0:=by cases v<;>first|rfl | (exact absurd ⟨_,rfl⟩ hn)
  have ek:decide (v.kind=3)=false:=by cases v<;>first|rfl | (exact absurd ⟨_,rfl⟩ hn)
  have en:js v=false:=by cases v<;>first|rfl | (exact absurd ⟨_,rfl⟩ hn)
  rw[e0,ek]
  refine (sq (a:=0) (b:=0) (by omega) (by omega)).call ?_
  simp only[au,List.getElem?_cons_zero,List.getElem?_cons_succ,ab]
  exact fin (fun h=>by cases h) fun _=>en
theorem GW {t:KT} {v:T}:Pu Tryz.prog 172 [kV t,vT v] (.bool (jR t.f v)):=by
 refine Pu.of (Ov _ _ ?_) ju rfl
 have g:ldA ([]++[av.cells .rw [lvT v]]) (.ptr 0 0) 1=some (vT v):=rfl
 simp only[Nv,iw,ag,List.length_nil,g,ab]
 refine (jP v).call ?_
 have e1:((t.f:Int)==1)=decide (t.f=1):=by by_cases h:t.f=1<;>simp[h];omega
 have e2:((t.f:Int)==2)=decide (t.f=2):=by by_cases h:t.f=2<;>simp[h];omega
 have e3:((t.f:Int)==3)=decide (t.f=3):=by by_cases h:t.f=3<;>simp[h];omega
 have e4:((t.f:Int)==4)=decide (t.f=4):=by by_cases h:t.f=4<;>simp[h];omega
 have ek:∀ n:Int,(v.kind==n)=decide (v.kind=n):=fun n=>by by_cases h:v.kind=n<;>simp[h]
 simp only[bH,bG,Nat.zero_add,kl0,ab,ae,aQ,e1,e2,e3,e4,ek,aI]
 unfold jR
 refine ⟨fun h1=>?_,fun h1=>⟨fun h2=>?_,fun h2=>⟨fun h3=>⟨fun h4=>?_,fun h4=>?_⟩,fun h3=>⟨fun h4=>?_,fun h4=>?_⟩⟩⟩⟩
 ·rw[if_pos (by omega)];exact rfl
 ·rw[if_neg (by omega),if_pos (by omega)];exact rfl
 ·rw[if_neg (by omega),if_neg (by omega),if_pos (by omega),decide_eq_true (by omega)];exact rfl
 ·rw[if_neg (by omega),if_neg (by omega),if_pos (by omega),decide_eq_false (by omega),Bool.false_or]
  exact IY.call (bn _ rfl)
 ·rw[if_neg (by omega),if_neg (by omega),if_neg (by omega),if_pos (by omega)];exact rfl
 ·rw[if_neg (by omega),if_neg (by omega),if_neg (by omega),if_neg (by omega)];exact rfl
end
end Go.Proofs.YtknegckgmklnhaaGreatDoor
namespace Go.Proofs.YtknegckgmklnhaaGreatDoor
open Go Go.CP Go.RowKit
set_option maxRecDepth 100000
variable {R:LV→aa→Prop} {st:aa}
abbrev Kn:av:=.cells (.gl 3 Lib.pow10Tab.length) (Lib.pow10Tab.map fun z=>.int .u64 z)
abbrev Ko (u:TypeId):av:=.cells (.gl 1 1) [.iface u .aL]
abbrev Kp (u:TypeId):av:=.cells (.gl 2 1) [.iface u .aL]
theorem yv {f:Option Nat} {n:Nat} {xs:List Tx} {sep:Tx} (h:bB .rw st f 1 n (xs.map .str)) (hn:xs.length≤140737488355328) (hl:(Lib.join xs sep).length≤140737488355328) (hR:R (.str (Lib.join xs sep)) st) :
  az Tryz.prog 108 [osl f 1 n,.str sep] st R:=by
 have hlen:n=xs.length:=by have:=h.1;simpa using this.symm
 refine az.kP ⟨Tryz.f108,bz Tryz.f108,Tryz.func108,by kernel_rfl,by kernel_rfl⟩ ?_ hR
 intro w0 β w vs hr hp
 cases f with
 | none=>
  have hz:n=0:=h.2
  have hx:xs=[]:=List.eq_nil_of_length_eq_zero (by omega)
  subst hx
  obtain ⟨v1,us,rfl,h1,v2,us2,rfl,rfl,rfl⟩:=hp
  have h1:v1=.slice none 0 0:=h1
  subst h1
  refine (Tryz.strings_Join_none none 0 ⟨⟨sep⟩⟩ w).mono ?_
  rintro e w' ⟨rfl,rfl⟩
  exact ⟨_,rfl,rfl,Bw.refl _ _⟩
 | some o=>
  obtain ⟨rest,ho⟩:=h.2
  obtain ⟨v1,us,rfl,⟨bl,hb,hle,rfl⟩,v2,us2,rfl,rfl,rfl⟩:=hp
  obtain ⟨bl',hb',cc,e,fz,hh,hs,hle',hc,hm⟩:=hr.obj o _ ho
  rw[hb] at hb';cases hb'
  have hblk:bl.blk<w.heap.size:=by
   rcases Nat.lt_or_ge bl.blk w.heap.size with hlt|hge
   ·exact hlt
   ·rw[Array.getElem?_eq_none hge] at hh;cases hh
  have cell:∀ (j:Nat) (x:ByteArray),(xs.map fun s=>(⟨⟨s⟩⟩:ByteArray))[j]?=some x→w.cell? ⟨bl.blk,(bl.base+0)+j,none⟩=some (.string x):=by
   intro j x hx
   rw[List.getElem?_map] at hx
   cases hj:xs[j]? with
   | none=>rw[hj] at hx;cases hx
   | some s=>
    rw[hj] at hx
    simp only[Option.map_some,Option.some.injEq] at hx
    subst hx
    have hlt:=(List.getElem?_eq_some_iff.1 hj).1
    obtain ⟨u,hu,r⟩:=hr.cell ho hb (k:=j) (x:=.str s) (by rw[List.getElem?_append_left (by simpa using hlt),List.getElem?_map,hj];rfl)
    rw[show u=_ from r] at hu
    rw[Nat.add_zero];exact hu
  have hmm:((xs.map fun s=>(⟨⟨s⟩⟩:ByteArray)).map (·.data.toList))=xs:=by rw[List.map_map];exact List.map_id'' (fun _=>rfl) xs
  have hx:(xs.map fun s=>(⟨⟨s⟩⟩:ByteArray)).length=n:=by rw[List.length_map,hlen]
  have k:=Tryz.strings_Join bl.blk (bl.base+0) (dC.cap bl 0 (.rest 1)) (xs.map fun s=>⟨⟨s⟩⟩) ⟨⟨sep⟩⟩ w cell hblk (by simpa using hn) (by rw[hx];exact hle) (by rw[hmm];exact hl)
  rw[hx,hmm] at k
  refine k.mono ?_
  rintro e w' ⟨rfl,hbw⟩
  exact ⟨_,rfl,rfl,⟨hbw⟩⟩
theorem GX (s:Tx) (c:UInt8):Pu Tryz.prog 187 [.str s,.str [c]] (i64 (Lib.indexByte s c)):=⟨fun {st R} hR=>by
 refine az.kP ⟨Tryz.f187,bz Tryz.f187,Tryz.func187,by kernel_rfl,by kernel_rfl⟩ ?_ hR
 intro w0 β w vs hr hp
 obtain ⟨v1,us,rfl,rfl,v2,us2,rfl,rfl,rfl⟩:=hp
 refine (Tryz.stringslite_Index_one ⟨⟨s⟩⟩ c w).mono ?_
 rintro e w' ⟨rfl,rfl⟩
 exact ⟨_,rfl,rfl,Bw.refl _ _⟩⟩
theorem GY (s:Tx) (c:UInt8):Pu Tryz.prog 195 [.str s,.str [c]] (i64 (Lib.indexByte s c)):=⟨fun {st R} hR=>by
 refine az.kP ⟨Tryz.f195,bz Tryz.f195,Tryz.func195,by kernel_rfl,by kernel_rfl⟩ ?_ hR
 intro w0 β w vs hr hp
 obtain ⟨v1,us,rfl,rfl,v2,us2,rfl,rfl,rfl⟩:=hp
 refine (Tryz.strings_Index_one ⟨⟨s⟩⟩ c w).mono ?_
 rintro e w' ⟨rfl,rfl⟩
 exact ⟨_,rfl,rfl,Bw.refl _ _⟩⟩
theorem GZ (s:Tx) (c:UInt8):Pu Tryz.prog 237 [.str s,.str [c]] (i64 (s.count c:Nat)):=⟨fun {st R} hR=>by
 refine az.kP ⟨Tryz.f237,bz Tryz.f237,Tryz.func237,by kernel_rfl,by kernel_rfl⟩ ?_ hR
 intro w0 β w vs hr hp
 obtain ⟨v1,us,rfl,rfl,v2,us2,rfl,rfl,rfl⟩:=hp
 refine (Tryz.strings_Count_one ⟨⟨s⟩⟩ c w).mono ?_
 rintro e w' ⟨rfl,rfl⟩
 exact ⟨_,rfl,rfl,Bw.refl _ _⟩⟩
theorem D7 {o:Nat} {n:Int} (h:st[o]?=some Kn) (h0 : -9223372036854775808≤n) (h1:n≤9223372036854775807) (hR:R (.str (Lib.itoa n)) st):az Tryz.prog 83 [i64 n] st R:=by
 refine az.kP ⟨Tryz.f83,bz Tryz.f83,Tryz.func83,by kernel_rfl,by kernel_rfl⟩ ?_ hR
 intro w0 β w vs hr hp
 obtain ⟨v1,us,rfl,rfl,rfl⟩:=hp
 refine (Tryz.strconv_Itoa n h0 h1 w (hr.zL h (by kernel_rfl))).mono ?_
 rintro e w' ⟨rfl,k,os,rfl⟩
 exact ⟨_,rfl,rfl,⟨below_grown_sl _ w k os (Nat.le_refl _)⟩⟩
theorem tS {o o':Nat} {u u':TypeId} {s:Tx} (h:st[o]?=some (Ko u)) (h':st[o']?=some (Kp u')) (hl:s.length≤281474976710656)
  (hR:∀ v,Lib.atoiAll s=.ok v→R (.tup [i64 v,.nili]) st) (hN:∀ n,(∀ v,Lib.atoiAll s≠.ok v)→R (.tup [i64 n,.iface 290 .aL]) st):az Tryz.prog 145 [.str s] st R:=by
 have hc:cJ Tryz.prog 145:=⟨Tryz.f145,bz Tryz.f145,Tryz.func145,by kernel_rfl,by kernel_rfl⟩
 cases hs:Lib.atoiAll s with
 | ok v=>
  refine az.kP hc ?_ (hR v hs)
  intro w0 β w vs hr hp
  obtain ⟨v1,us,rfl,rfl,rfl⟩:=hp
  refine (Tryz.strconv_Atoi_ok ⟨⟨s⟩⟩ (show s.length≤_ by omega) v hs w).mono ?_
  rintro e w' ⟨rfl,hw⟩
  refine ⟨_,rfl,⟨_,rfl,_,_,rfl,rfl,_,_,rfl,rfl,rfl⟩,?_⟩
  rcases hw with rfl|⟨t,rfl⟩
  ·exact Bw.refl _ _
  ·exact ⟨Lib.bytesWorld_below _ _ _⟩
 | range=>
  refine az.kP hc ?_ (hN (Lib.atoiSat s) fun v=>by rw[hs];simp)
  intro w0 β w vs hr hp
  obtain ⟨v1,us,rfl,rfl,rfl⟩:=hp
  obtain ⟨ev,hev,pe,he,_⟩:=hr.BP (i:=0) (l:=[.iface u' .aL]) (x:=.iface u' .aL) h' rfl
  refine (Tryz.strconv_Atoi_range ⟨⟨s⟩⟩ hl hs ev w hev (.inr ⟨_,_,he⟩)).mono ?_
  rintro e w' ⟨N,rfl,_,_,hb⟩
  exact ⟨_,rfl,⟨_,rfl,_,_,rfl,rfl,_,_,rfl,⟨_,rfl,trivial⟩,rfl⟩,⟨hb⟩⟩
 | _=>
  refine az.kP hc ?_ (hN 0 fun v=>by rw[hs];simp)
  intro w0 β w vs hr hp
  obtain ⟨v1,us,rfl,rfl,rfl⟩:=hp
  obtain ⟨ev,hev,pe,he,_⟩:=hr.BP (i:=0) (l:=[.iface u .aL]) (x:=.iface u .aL) h rfl
  refine (Tryz.strconv_Atoi_syntax ⟨⟨s⟩⟩ hl hs ev w hev (.inr ⟨_,_,he⟩)).mono ?_
  rintro e w' ⟨N,rfl,_,_,hb⟩
  exact ⟨_,rfl,⟨_,rfl,_,_,rfl,rfl,_,_,rfl,⟨_,rfl,trivial⟩,rfl⟩,⟨hb⟩⟩
end Go.Proofs.YtknegckgmklnhaaGreatDoor
namespace Go.Proofs.YtknegckgmklnhaaGreatDoor
open Go Go.CP
set_option maxRecDepth 100000
section
variable {st st':aa} {R:LV→aa→Prop}
theorem kc0 {t:KT}:(kC t)[0]?=some (i64 t.f):=by rw[sh];rfl
theorem kc1 {t:KT}:(kC t)[1]?=some (.isl (kVs t.l) t.l.length none):=by rw[sh];rfl
theorem kc2 {t:KT}:(kC t)[2]?=some (sL t.ns):=by rw[sh];rfl
theorem kc3 {t:KT}:(kC t)[3]?=some (.isl (t.ls.map .bool) t.ls.length none):=by rw[sh];rfl
theorem iQ {f:Option Nat} {n sz b:Nat} {acc new:List LV} (h:bB .rw st f sz n acc) (hs:new.length=sz) (h1:new.all LV.one=true) (hl:n<2 ^ 31) (hb:b≤256:=by decide) :
  ∃ st2 f2,ar (st++[.cells .rw new]) sz b .rw (osl f sz n) (.sl st.length 0 1 (.ex 1))=some (osl f2 sz (n+1),st2)∧bB .rw st2 f2 sz (n+1) (acc++new)∧Fr st st2 (fun j=>f=some j)∧(∀ j,f2=some j→f=some j∨st.length≤j):=by
 have k:=h.fr (st':=st++[.cells .rw new]) (S:=fun _=>False) Fr.app (fun _ _ h=>h)
 obtain ⟨st2,f2,q1,q2,q3,q4,_⟩:=k.append (x:=.sl st.length 0 1 (.ex 1)) (k:=1) (new:=new) (bytes:=b) (by simp[dz,← hs]) (by omega) (by omega) h1 (db (by omega) hb)
 exact ⟨st2,f2,q1,q2,(Fr.app (S:=fun j=>f=some j)).trans q3 fun _ _ h=>h,fun j hj=>(q4 j hj).imp id fun h=>by simp at h;omega⟩
theorem D8 {t:KT} {es:List (Tx × T)} (hv:(T.map es).ok) (hb:t.ns.length≤big) (hl:t.ls.length=t.ns.length):∀ (d i:Nat) (acc:List Tx) (f:Option Nat) (st:aa),i+d=t.ns.length→acc.length≤i→st[0]?=some (.cells .rw [lvT (.map es)])→bB .rw st f 1 acc.length (acc.map .str)→(∀ j,f=some j→0<j)→
  pc (kV t) (.ptr 0 0) (osl f 1 acc.length) (sL t.ns) (i64 t.ns.length) (i64 i) (fun r s=>dp s (sL (acc++missing (t.ns.drop i) (t.ls.drop i) es)) r) st:=by
 intro d
 induction d with
 | zero=>
  intro i acc f st hi _ _ ho _
  refine Gg _ _ _ _ _ _ ?_
  have c1:¬ ((i:Int)<t.ns.length):=by omega
  simp only[Aq,ae,ax,ab,c1,decide_false,af]
  rw[List.drop_eq_nil_of_le (by omega)]
  simp only[missing,List.append_nil]
  exact dA ho rfl (bA _ (bD (f:=LV.str) fun _ _=>rfl))
 | succ d ih=>
  intro i acc f st hi ha h0 ho hf
  refine Gg _ _ _ _ _ _ ?_
  have hlt:i<t.ns.length:=by omega
  have c1:((i:Int)<t.ns.length):=by omega
  have e1:aK 1 (sL t.ns) (i64 i)=some (.iptr (t.ns.map .str) (i*1)):=bO hlt
  have hg:(t.ns.map LV.str)[i*1]?=some (.str t.ns[i]):=by simp[hlt]
  have e2:aK 1 (.isl (t.ls.map .bool) t.ls.length none) (i64 i)=some (.iptr (t.ls.map .bool) (i*1)):=bO (by omega)
  have hg2:(t.ls.map LV.bool)[i*1]?=some (.bool (t.ls[i]'(by omega))):=by simp[hl,hlt]
  have hd:t.ns.drop i=t.ns[i]::t.ns.drop (i+1):=List.drop_eq_getElem_cons hlt
  have hd2:t.ls.drop i=t.ls[i]'(by omega)::t.ls.drop (i+1):=List.drop_eq_getElem_cons (by omega)
  have g:ldA st (.ptr 0 0) 1=some (vT (.map es)):=by rw[cv h0 (by simp)];rfl
  rw[hd,hd2,missing]
  generalize t.ns[i]=n at hg hd
  generalize t.ls[i]'(by omega)=l at hg2 hd2
  simp only[Aq,ae,ax,ab,c1,decide_true,ai,e1,ba,hg,g]
  refine (xW hv n).call ?_
  have hw:=aH (show i<2 ^ 40 by unfold big at hb;omega)
  have e3:(T.map es).at n=T.find es n:=rfl
  simp only[au,List.getElem?_cons_zero,List.getElem?_cons_succ,ab,b6,eF,ay,ag,bF,bH,bG,Nat.zero_add,ba,kc3,e2,hg2,e3]
  generalize hz:(av.cells Md.rw [lvT ((T.find es n).getD T.null)])=z
  have h0':(st++[z])[0]?=some (.cells .rw [lvT (.map es)]):=by rw[List.getElem?_append_left (bL h0)];exact h0
  have ho':=ho.fr (st':=st++[z]) (S:=fun _=>False) Fr.app (fun _ _ h=>h)
  cases hfn:T.find es n with
  | some w=>
   simp only[Option.isSome_some,Option.isNone_some,Bool.not_true,af,Bool.false_and,Bool.false_eq_true,if_false,aG,ab,hw]
   exact ih (i+1) acc f _ (by omega) (by omega) h0' ho' hf
  | none=>
   simp only[Option.isSome_none,Option.isNone_none,Bool.not_false,ai,Bool.true_and]
   cases l with
   | true=>
    simp only[Bool.not_true,af,Bool.false_eq_true,if_false,aG,ab,hw]
    exact ih (i+1) acc f _ (by omega) (by omega) h0' ho' hf
   | false=>
    have ef:ao (fun i=>some (i*1,1)) (List.replicate 1 [LV.str []]).flatten [(0,.str n)]=some [.str n]:=rfl
    simp only[Bool.not_false,ai,if_true,ef,aY,ag]
    obtain ⟨st2,f2,q1,q2,q3,q4⟩:=iQ ho' (new:=[.str n]) rfl rfl (by unfold big at hb;omega) (b:=16)
    rw[q1]
    simp only[ag,aG,ab,hw]
    have hlen:0<(st++[z]).length:=bL h0'
    have k:=ih (i+1) (acc++[n]) f2 st2 (by omega) (by simp;omega) (q3.get h0' fun e=>by have:=hf 0 e;omega) (by simpa using q2) fun j hj=>(q4 j hj).elim (hf j) fun h=>by omega
    simpa using k
theorem AL {t:KT} {es:List (Tx × T)} (hv:(T.map es).ok) (hb:t.ns.length≤big) (hl:t.ls.length=t.ns.length):Pu Tryz.prog 207 [kV t,vT (.map es)] (sL (missing t.ns t.ls es)):=by
 refine Pu.of (OE _ _ ?_) ju (by simp only[LV.plain];exact bD (f:=LV.str) fun _ _=>rfl)
 simp only[NA,iw,ag,ie,dP,DA,ab,Bool.not_false,ai,bH,bG,Nat.zero_add,ba,kc2,aR]
 exact D8 hv hb hl t.ns.length 0 [] none _ (by omega) (by simp) rfl bB.nil (fun _ h=>by cases h)
theorem qi {es:List (Tx × T)}:∀ {ns:List Tx} {ls:List Bool},(missing ns ls es).length≤ns.length
 | [],_=>by simp[missing]
 | _::_,[]=>by simp[missing]
 | n::ns,l::ls=>by
  have:=qi (es:=es) (ns:=ns) (ls:=ls)
  unfold missing
  split<;>simp<;>omega
def WrQ (d:Nat) (b:Bool) (v:LV):Prop:=∃ x k cs,v=.tup [x,.bool b]∧x=.isl cs k none∧cs.length=k*2∧LV.aB cs=true∧cs.all LV.one=true∧k≤d
theorem vS {d:Nat} {b:Bool}:Dp (WrQ d b) (.tup [.nils,.bool b]) st:=
 ⟨.tup [.isl [] 0 none,.bool b],⟨_,rfl,_,_,rfl,.inr (.inr ⟨.inr rfl,rfl,rfl⟩),_,_,rfl,rfl,rfl⟩,rfl,_,0,[],rfl,rfl,rfl,rfl,rfl,by omega⟩
end
end Go.Proofs.YtknegckgmklnhaaGreatDoor
