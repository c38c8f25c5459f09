/- Parts of the proof. -/
import Derived.Test.YtknegckgmklnhaaGreatDoorVbZ2
namespace Go.Proofs.YtknegckgmklnhaaGreatDoor
open Go Go.CP
set_option maxRecDepth 100000
structure Row where
 nm:Tx
 tv:LV
 tnil:Bool
 must:Bool
 own:Bool
 hide:Bool
 new:Bool
abbrev Row.cells (r:Row):List LV:=aX r.nm r.tv r.must r.own r.hide r.new
structure Row.ok (r:Row):Prop where
 tv:pC r.tv r.tnil
 nm:r.nm.length≤2 ^ 32
def fx:List Row→List LV
 | []=>[]
 | r::l=>r.cells++fx l
def iB:Tx→List Row→Int
 | _,[]=>0
 | last,r::l=>if aWr last r.nm r.tnil r.must r.own=0 then iB r.nm l else aWr last r.nm r.tnil r.must r.own
def mkW (v:Int) (l:List Row):Int:=if v<0∨1000<v then 2 else if 16<l.length then 3 else iB [] l
def fS:Nat→List Tx→List (LV × LV)
 | _,[]=>[]
 | j,n::ns=>(.str n,i64 j)::fS (j+1) ns
theorem pD:∀ {l:List Row},(fx l).length=l.length*6
 | []=>rfl
 | r::l=>by simp only[fx,List.length_append,pD (l:=l),List.length_cons,List.length_nil];omega
theorem uu:∀ {a b:List Row},fx (a++b)=fx a++fx b
 | [],_=>rfl
 | r::a,b=>by rw[List.cons_append,fx,fx,uu,List.append_assoc]
theorem pE:∀ {l:List Row} {i:Nat} {r:Row},l[i]?=some r→((fx l).drop (i*6)).take 6=r.cells
 | r::l,0,r',h=>by
  simp only[List.getElem?_cons_zero,Option.some.injEq] at h
  subst h
  rfl
 | r::l,i+1,r',h=>by
  simp only[List.getElem?_cons_succ] at h
  rw[fx,show (i+1)*6=r.cells.length+i*6 by simp;omega,List.drop_append,List.drop_eq_nil_of_le (by omega),List.nil_append,Nat.add_sub_cancel_left,pE h]
theorem lz:∀ {ns:List Tx} {j:Nat},(fS j ns).length=ns.length
 | [],_=>rfl
 | n::ns,j=>by simp[fS,lz]
theorem yS:∀ {a b:List Tx} {j:Nat},fS j (a++b)=fS j a++fS (j+a.length) b
 | [],_,_=>rfl
 | n::a,b,j=>by
  rw[List.cons_append,fS,fS,yS,List.cons_append,List.length_cons,show j+1+a.length=j+(a.length+1) by omega]
theorem uv {a b:Tx}:iJ (.str a) (.str b)=some (a==b):=rfl
theorem sZ {k:Tx}:∀ {ns:List Tx} {j:Nat},k ∉ ns→dC (.str k) (fS j ns)=some none
 | [],_,_=>rfl
 | n::ns,j,h=>by
  have h1:(k==n)=false:=by simp at h ⊢;exact h.1
  rw[fS,dC,uv,h1]
  exact sZ (by simp at h;exact h.2)
theorem Bg:∀ {n:Nat},uT (n:Nat) (List.range n++[n])=some n:=by
 have go:∀ (d a n:Nat),a+d=n→uT (n:Nat) (List.range' a d++[n])=some d:=by
  intro d
  induction d with
  | zero=>intro a n h;simp[uT]
  | succ d ih=>
   intro a n h
   rw[List.range'_succ,List.cons_append,uT]
   have:¬ ((a:Int)=n):=by omega
   rw[if_neg this,ih (a+1) n (by omega)]
   rfl
 intro n
 have:=go n 0 n (by omega)
 rwa [← List.range_eq_range'] at this
section
variable {st st':aa} {R:LV→aa→Prop}
theorem Jv {f:Option Nat} {sz n:Nat} {cs:List LV} (h:bD .rw st f sz n cs):dJ st sz (osl f sz n)=some (n,cs):=by
 have hl:=h.1
 cases f with
 | none=>
  have hz:n=0:=h.2
  subst hz
  have:cs=[]:=List.eq_nil_of_length_eq_zero (by omega)
  subst this;rfl
 | some o=>
  obtain ⟨rest,ho⟩:=h.2
  simp only[osl,dJ,ho]
  rw[if_pos (by simp;omega)]
  congr 2
  rw[List.drop_zero,List.take_append_of_le_length (by omega),List.take_of_length_le (by omega)]
theorem Jw {f:Option Nat} {n:Nat} {cs:List LV} (h:bD .rw st f 6 n cs) (hf:0<n∨f=none) (hn:n≤2 ^ 30)
  (hR:∀ f' s,Fr st s (fun _=>False)→bD .rw s f' 6 n cs→(∀ o,f'=some o→st.length≤o)→(0<n∨f'=none)→R (osl f' 6 n) s):ax Tryz.prog 78 [osl f 6 n] st R:=by
 refine c78 _ ?_
 cases f with
 | none=>
  have hz:n=0:=h.2
  subst hz
  have:cs=[]:=List.eq_nil_of_length_eq_zero (by have:=h.1;omega)
  subst this
  exact hR none st Fr.refl bD.nil (fun _ h=>by cases h) (.inr rfl)
 | some o=>
  have hn0:0<n:=by rcases hf with h|h;exact h;cases h
  have e0:qX (osl (some o) 6 n) .nils=some false:=rfl
  have ef:ao (fun i=>some (i*6,6)) (List.replicate 0 [LV.str [],LV.nilp,LV.bool false,LV.bool false,LV.bool false,LV.bool false]).flatten []=some []:=rfl
  have h':=h.fr (st':=st++[.cells .rw []]) (S:=fun _=>False) Fr.app (fun _ _ h=>h)
  have hr:dX n 32=true:=cL (by omega) (by omega)
  have hap:ar (st++[aq.cells .rw []]) 6 32 .rw (.sl st.length 0 0 (.ex 0)) (osl (some o) 6 n)=some (.sl (st++[aq.cells .rw []]).length 0 n (.rest 6),(st++[.cells .rw []])++[.cells .rw cs]):=by
   have c1:¬ (n=0):=by omega
   have c2:¬ (n≤0):=by omega
   unfold ar
   rw[Jv h']
   simp only[c1,if_false,au,c2,hr,List.take_zero,List.drop_zero,Nat.zero_mul,Nat.zero_add,List.length_nil,Nat.le_refl,and_self,if_true,List.nil_append]
  simp only[w78,e0,cW,cH,ab,af,ef,bw,ag]
  rw[hap]
  simp only[ag]
  refine hR (some (st++[aq.cells Md.rw []]).length) _ ?_ ⟨h.1,[],by rw[au,List.append_nil]⟩ (fun j hj=>by simp at hj;omega) (.inl hn0)
  exact (Fr.app (S:=fun _=>False)).trans Fr.app fun _ _ h=>h
theorem Jx {a b:Tx} (h:a≠b) (h':Op.bytesLess a b=false):ltB b a:=by
 unfold ltB
 rw[bytesLess_eq] at h' ⊢
 simp only[decide_eq_false_iff_not,decide_eq_true_eq] at h' ⊢
 by_cases k:b<a
 ·exact k
 ·exact absurd (List.le_antisymm (List.not_lt.1 k) (List.not_lt.1 h')) h
theorem Hu {a b c:Tx} (h:ltB a b) (k:ltB b c):ltB a c:=by
 unfold ltB at *
 rw[bytesLess_eq] at *
 simp only[decide_eq_true_eq] at *
 exact List.lt_trans h k
theorem Hv {s:Tx} (h:named s=true):s≠[]:=by
 simp only[named,Bool.and_eq_true,decide_eq_true_eq] at h;exact h.1.2
theorem yT {last nm:Tx} {tnil m o:Bool} (h:aWr last nm tnil m o=0):named nm=true∧ltB last nm∧tnil=false∧(m&&o)=false:=by
 unfold aWr at h
 split at h
 ·omega
 split at h
 ·omega
 split at h
 ·omega
 split at h
 ·omega
 split at h
 ·omega
 rename_i a b c d e
 exact ⟨by simpa using a,Jx b (by simpa using c),by simpa using d,by simpa using e⟩
theorem Bh {a:Tx}:¬ ltB a a:=fun h=>by
 unfold ltB at h
 rw[bytesLess_eq] at h
 exact absurd (by simpa using h) (List.lt_irrefl a)
theorem EA {v:Int} {l:List Row} {f f':Option Nat} {B M:Nat} (hl:∀ r ∈ l,r.ok) (hb:l.length≤16) (st0:aa) (hBM:st0.length≤B∧st0.length≤M) (hfB:∀ o,f=some o→o≠B∧o≠M) (hf':∀ o,f'=some o→o≠B∧o≠M) (hne:B≠M)
  (h1:∀ e st',e≠0→iB [] l=e→Fr st0 st' (fun _=>False)→R (.tup [.nilp,i64 e]) st')
  (h2:∀ st',iB [] l=0→Fr st0 st' (fun _=>False)→st'[B]?=some (.cells .rw [i64 v,osl f' 6 l.length,.map M])→bD .rw st' f' 6 l.length (fx l)→st'[M]?=some (.map .rw (fS 0 (l.map (·.nm))) (List.range l.length) l.length)→(l.map (·.nm)).Pairwise ltB→R (.tup [.ptr B 0,i64 0]) st') :
  ∀ (d i:Nat) (last:Tx) (st:aa),i+d=l.length→iB [] l=iB last (l.drop i)→(i=0∧last=[]∨∀ n ∈ (l.map (·.nm)).take i,n=last∨ltB n last)→((l.map (·.nm)).take i).Pairwise ltB→Fr st0 st (fun _=>False)→
   bD .rw st f 6 l.length (fx l)→bD .rw st f' 6 l.length (fx l)→st[B]?=some (.cells .rw [i64 v,osl f' 6 l.length,.map M])→st[M]?=some (.map .rw (fS 0 ((l.map (·.nm)).take i)) (List.range i) i)→
   vH (.ptr B 0) (.str last) (osl f 6 l.length) (i64 l.length) (i64 i) R st:=by
 intro d
 induction d with
 | zero=>
  intro i last st hi hw hla hpw hfr ho ho' hB hM
  refine FX _ _ _ _ _ ?_
  have c1:¬ ((i:Int)<l.length):=by omega
  simp only[Ar,ae,aA,ab,c1,decide_false,af]
  have hi:i=l.length:=by omega
  subst hi
  rw[List.drop_length] at hw
  rw[List.take_of_length_le (by simp)] at hpw hM
  exact h2 st hw hfr hB ho' hM hpw
 | succ d ih=>
  intro i last st hi hw hla hpw hfr ho ho' hB hM
  refine FX _ _ _ _ _ ?_
  have hlt:i<l.length:=by omega
  have c1:((i:Int)<l.length):=by omega
  have hx:l[i]?=some l[i]:=List.getElem?_eq_getElem hlt
  have hok:=hl _ (List.getElem_mem hlt)
  have hdr:l.drop i=l[i]::l.drop (i+1):=List.drop_eq_getElem_cons hlt
  generalize l[i]=r at hx hok hdr
  rw[hdr,iB] at hw
  obtain ⟨o,hfo,e3⟩:=ho.ix (i:=(i:Int)) (kk:=.i64) (by omega) (by omega)
  have hg:=ho
  rw[hfo] at hg
  have hld:ldA st (.ptr o ((i:Int).toNat*6)) 6=some (.agg r.cells):=by
   rw[hg.ldA (by rw[pD];simp;omega),Int.toNat_natCast,pE hx]
  have hput:stV (st++[aq.cells .rw [LV.str [],LV.nilp,LV.bool false,LV.bool false,LV.bool false,LV.bool false]]) 6 (.ptr st.length 0) (.agg r.cells)=some (st++[.cells .rw r.cells]):=by
   rw[sY au rfl rfl (wH hok.tv)]
   simp
  have g6:ldA (st++[aq.cells .rw r.cells]) (.ptr st.length 0) 6=some (.agg r.cells):=ld6 au rfl
  have g0:ld1 (st++[aq.cells .rw r.cells]) (.ptr st.length 0)=some (.str r.nm):=aU au
  simp only[Ar,ae,aA,ab,c1,decide_true,ah,e3,hld,bQ,hput,az,ag,g6]
  refine (Ju hok.tv (by have:=hok.nm;omega)).call ?_
  have fr1:Fr st (st++[aq.cells .rw r.cells]) (fun _=>False):=Fr.app
  have fr0:=hfr.trans fr1 fun _ _ h=>h
  have hne0:∀ e:Int,(e != 0)=decide (e≠0):=fun e=>by by_cases h:e=0<;>simp[h]
  simp only[ae,bz,hne0,ab,aM]
  refine ⟨fun he=>?_,fun he=>?_⟩
  ·rw[if_neg he] at hw
   exact h1 _ _ he hw fr0
  ·have he':aWr last r.nm r.tnil r.must r.own=0:=Classical.byContradiction he
   rw[if_pos he'] at hw
   have hB1:=fr1.get hB id
   have hM1:=fr1.get hM id
   obtain ⟨_,hlast,_,_⟩:=yT he'
   have hle:∀ n ∈ (l.map (·.nm)).take i,ltB n r.nm:=fun n hn=>by
    rcases hla with ⟨rfl,_⟩ | h
    ·simp at hn
    ·rcases h n hn with rfl|h
     ·exact hlast
     ·exact Hu h hlast
   have hnot:r.nm ∉ (l.map (·.nm)).take i:=fun h=>Bh (hle _ h)
   have hlB:ld1 (st++[aq.cells .rw r.cells]) (.ptr B 2)=some (.map M):=by rw[aU hB1];rfl
   have hmN:((l.map (·.nm)).take i).length=i:=by simp;omega
   have hme:q7 (st++[aq.cells .rw r.cells]) true (some (.int .i64 0)) (.map M) (.str r.nm)=some (.tup [.int .i64 0,.int .i64 i],(st++[aq.cells .rw r.cells]).set M (.map .rw (fS 0 ((l.map (·.nm)).take i)++[(.str r.nm,.int .i64 0)]) (List.range i++[i]) (i+1))):=by
    simp only[q7,plainKey,if_true,hM1,sZ hnot]
   have hw1:=aI (show i<2 ^ 40 by omega)
   have hMs:((st++[aq.cells .rw r.cells]).set M (.map .rw (fS 0 ((l.map (·.nm)).take i)++[(.str r.nm,.int .i64 0)]) (List.range i++[i]) (i+1)))[M]?=some (.map .rw (fS 0 ((l.map (·.nm)).take i)++[(.str r.nm,.int .i64 0)]) (List.range i++[i]) (i+1)):=bx hM1
   have hes:(fS 0 ((l.map (·.nm)).take i)++[(.str r.nm,.int .i64 0)])[i]?=some (.str r.nm,.int .i64 0):=by
    rw[List.getElem?_append_right (by rw[lz];omega),lz,hmN,Nat.sub_self];rfl
   have hls:gU ((st++[aq.cells .rw r.cells]).set M (.map .rw (fS 0 ((l.map (·.nm)).take i)++[(.str r.nm,.int .i64 0)]) (List.range i++[i]) (i+1))) (.map M) (.int .i64 i) (i64 i)=some (((st++[aq.cells .rw r.cells]).set M (.map .rw (fS 0 ((l.map (·.nm)).take i)++[(.str r.nm,.int .i64 0)]) (List.range i++[i]) (i+1))).set M (.map .rw (fS 0 ((l.map (·.nm)).take (i+1))) (List.range (i+1)) (i+1))):=by
    have e1:(fS 0 ((l.map (·.nm)).take i)++[(LV.str r.nm,LV.int .i64 0)]).set i (.str r.nm,i64 i)=fS 0 ((l.map (·.nm)).take (i+1)):=by
     rw[List.set_append_right _ _ (by rw[lz];omega),lz,hmN,Nat.sub_self,List.take_add_one,List.getElem?_map,hx,yS,hmN,Nat.zero_add]
     rfl
    simp only[gU,hMs,Bg,hes]
    rw[e1,List.range_succ]
   rw[List.set_set] at hls
   have hLne:st.length≠M:=by have:=bM hM;omega
   have frM:∀ y,Fr st ((st++[aq.cells .rw r.cells]).set M y) (fun j=>j=M):=fun y=>by
    have q1:Fr st (st++[aq.cells .rw r.cells]) (fun j=>j=M):=Fr.app
    exact q1.trans (Fr.set (S:=fun j=>j=M) rfl) fun _ _ h=>h
   have g0'':∀ y,ld1 ((st++[aq.cells .rw r.cells]).set M y) (.ptr st.length 0)=some (.str r.nm):=fun y=>by
    have hq:((st++[aq.cells .rw r.cells]).set M y)[st.length]?=some (.cells .rw r.cells):=by rw[bq (Ne.symm hLne)];exact au
    rw[aU hq];rfl
   simp only[aF,av,Nat.zero_add,ab,hlB,g0,hme,ag,g0'',true_and,aw,List.getElem?_cons_zero,List.getElem?_cons_succ,hls,az,aH,hw1]
   refine ih (i+1) r.nm _ (by omega) hw (.inr fun n hn=>?_) ?_ (hfr.trans (frM _) fun j hj h=>by omega) (ho.fr (frM _) fun j hj=>(hfB j hj).2) (ho'.fr (frM _) fun j hj=>(hf' j hj).2) ((frM _).get hB hne) (bx hM1)
   ·rw[List.take_add_one,List.getElem?_map,hx] at hn
    rcases List.mem_append.1 hn with h|h
    ·exact .inr (hle n h)
    ·simp at h;exact .inl h
   ·rw[List.take_add_one,List.getElem?_map,hx]
    exact List.pairwise_append.2 ⟨hpw,by simp,fun a ha b hb=>by simp at hb;subst hb;exact hle a ha⟩
theorem uw {v:Int} {l:List Row} {f:Option Nat} (hl:∀ r ∈ l,r.ok) (hn:l.length≤2 ^ 30) (ho:bD .rw st f 6 l.length (fx l)) (hf:0<l.length∨f=none)
  (h1:∀ e st',e≠0→mkW v l=e→Fr st st' (fun _=>False)→R (.tup [.nilp,i64 e]) st')
  (h2:∀ st' B M f',mkW v l=0→Fr st st' (fun _=>False)→st.length≤B→st.length≤M→(∀ o,f'=some o→st.length≤o)→(0<l.length∨f'=none)→st'[B]?=some (.cells .rw [i64 v,osl f' 6 l.length,.map M])→bD .rw st' f' 6 l.length (fx l)→st'[M]?=some (.map .rw (fS 0 (l.map (·.nm))) (List.range l.length) l.length)→(l.map (·.nm)).Pairwise ltB→R (.tup [.ptr B 0,i64 0]) st') :
  ax Tryz.prog 20 [i64 v,osl f 6 l.length] st R:=by
 refine c20 _ _ ?_
 simp only[w20,ae,aA,cx,ab,aM,ho.bo]
 have hm1:v<0∨1000<v→mkW v l=2:=fun h=>by unfold mkW;rw[if_pos h]
 refine ⟨fun h=>h1 2 st (by omega) (hm1 (.inl h)) Fr.refl,fun ha=>⟨fun h=>h1 2 st (by omega) (hm1 (.inr h)) Fr.refl,fun hb=>⟨fun h=>?_,fun hc=>?_⟩⟩⟩
 ·refine h1 3 st (by omega) ?_ Fr.refl
  unfold mkW
  rw[if_neg (by omega),if_pos (by omega)]
 ·have hmw:mkW v l=iB [] l:=by unfold mkW;rw[if_neg (by omega),if_neg (by omega)]
  refine Jw ho hf hn fun f' s hfr ho' hfo hf'=>?_
  have em:aL (ao (ay [(0,1),(1,1),(2,1)]) [i64 0,LV.nils,LV.nilm] [(0,i64 v),(1,osl f' 6 l.length),(2,.map s.length)])=some (.agg [i64 v,osl f' 6 l.length,.map s.length]):=by
   cases f'<;>rfl
  simp only[xG,em,ab,jE,ag]
  have fr2:Fr s (s++[aq.map .rw [] [] 0]++[aq.cells .rw [i64 v,osl f' 6 l.length,.map s.length]]) (fun _=>False):=by
   have q1:Fr s (s++[aq.map .rw [] [] 0]) (fun _=>False):=Fr.app
   exact q1.trans Fr.app fun _ _ h=>h
  have hfs:∀ o,f=some o→o<s.length:=fun o e=>by subst e;have:=ho.lt;have:=hfr.len;omega
  have hfs':∀ o,f'=some o→o<s.length:=fun o e=>by subst e;exact ho'.lt
  have hlen:(s++[aq.map .rw [] [] 0]).length=s.length+1:=by simp
  have hsl:=hfr.len
  rw[hlen]
  refine EA (v:=v) (f':=f') (M:=s.length) hl (by omega) st ⟨by omega,by omega⟩ (fun o e=>?_) (fun o e=>?_) (by omega) (fun e st' he hw hfr'=>h1 e st' he (hmw.trans hw) hfr') (fun st' hw hfr' hB ho2 hM hpw=>h2 st' (s.length+1) s.length f' (hmw.trans hw) hfr' (by omega) hsl hfo hf' hB ho2 hM hpw) l.length 0 [] _ (by omega) rfl (.inl ⟨rfl,rfl⟩) (by simp) (hfr.trans fr2 fun _ _ h=>h) ?_ (ho'.fr fr2 fun _ _ h=>h) ?_ ?_
  ·have:=hfs o e;omega
  ·have:=hfs' o e;omega
  ·exact (ho.fr hfr fun _ _ h=>h).fr fr2 fun _ _ h=>h
  ·rw[← hlen];exact au
  ·rw[List.getElem?_append_left (by simp)];exact au
end
theorem Bi {s:Tx} {n:Int} (h:Lib.atoiAll s=.ok n) : -9223372036854775808≤n∧n≤9223372036854775807:=by
 cases s with
 | nil=>simp[Lib.atoiAll] at h
 | cons c r=>
  simp only[Lib.atoiAll] at h
  generalize Lib.parseMag (if c.toNat=43∨c.toNat=45 then r else c::r)=x at h
  cases x with
  | ok u=>
   simp only at h
   by_cases hc:c.toNat=45
   ·simp only[hc,not_true,false_and,if_false,true_and,if_true] at h
    split at h
    ·cases h
    ·simp only[Lib.NumEnd.ok.injEq] at h;omega
   ·simp only[hc,not_false_eq_true,false_and,if_false,true_and] at h
    split at h
    ·cases h
    ·simp only[Lib.NumEnd.ok.injEq] at h;omega
  | _=>simp at h
def wI (s:Tx):Option Int:=if cm.isPrefixOf s then match Lib.atoiAll (s.drop 8) with
  | .ok n=>if Lib.itoa n=s.drop 8 then some n else none
  | _=>none
 else none
structure GlS (st:aa):Prop where
 p:st[0]?=some KM
 n:∃ u,st[1]?=some (KN u)
 f:∃ u,st[2]?=some (KO u)
section
variable {st st':aa} {R:LV→aa→Prop}
theorem GlS.fr {S:Nat→Prop} (h:GlS st) (k:Fr st st' S) (h0:¬ S 0) (h1:¬ S 1) (h2:¬ S 2):GlS st':=
 ⟨k.get h.p h0,by obtain ⟨u,e⟩:=h.n;exact ⟨u,k.get e h1⟩,by obtain ⟨u,e⟩:=h.f;exact ⟨u,k.get e h2⟩⟩
theorem GlS.len (h:GlS st):3≤st.length:=by obtain ⟨u,e⟩:=h.f;have:=bM e;omega
theorem ux (g:GlS st) {s:Tx} (hs:s.length≤2 ^ 32) (h1:∀ n,wI s=some n→R (.tup [i64 n,.bool true]) st) (h2:wI s=none→∀ n,R (.tup [i64 n,.bool false]) st):ax Tryz.prog 81 [.str s] st R:=by
 refine c81 _ ?_
 refine (Mr s cm).call ?_
 simp only[aw,List.getElem?_cons_zero,List.getElem?_cons_succ,ab]
 obtain ⟨u,gn⟩:=g.n
 obtain ⟨u',gf⟩:=g.f
 cases hp:cm.isPrefixOf s with
 | false=>
  have hv:wI s=none:=by unfold wI;rw[hp];rfl
  simp only[Bool.false_eq_true,if_false]
  refine ur gn gf (by omega) (fun v e=>?_) fun n e=>?_
  ·exact h2 hv v
  ·exact h2 hv n
 | true=>
  simp only[if_true]
  have h8:cm.length=8:=rfl
  rw[h8]
  have hv:wI s=match Lib.atoiAll (s.drop 8) with
   | .ok n=>if Lib.itoa n=s.drop 8 then some n else none
   | _=>none:=by unfold wI;rw[hp];rfl
  refine ur gn gf (by simp;omega) (fun v e=>?_) fun n e=>?_
  ·rw[e] at hv
   simp only at hv
   have hr:=Bi e
   have eq0:qY true (ia Tryz.prog) .nili .nili=some true:=rfl
   simp only[aw,List.getElem?_cons_zero,List.getElem?_cons_succ,ab,ah,eq0,cW,cH]
   refine Ex g.p hr.1 hr.2 ?_
   simp only[ca,du,ab]
   by_cases hi:Lib.itoa v=s.drop 8
   ·rw[if_pos hi] at hv
    rw[hi,beq_self_eq_true]
    exact h1 v hv
   ·rw[if_neg hi] at hv
    have:(Lib.itoa v==s.drop 8)=false:=by simpa using hi
    rw[this]
    exact h2 hv v
  ·have hv':wI s=none:=by
    rw[hv]
    cases h:Lib.atoiAll (s.drop 8) with
    | ok v=>exact absurd h (e v)
    | _=>rfl
   have eq0:qY true (ia Tryz.prog) (.iface 290 .aN) .nili=some false:=rfl
   simp only[aw,List.getElem?_cons_zero,List.getElem?_cons_succ,ab,ah,eq0,cW,cH,af]
   exact h2 hv' n
end
def iW (a:AT):Row:=⟨a.nm,kV a.ty,false,a.must,a.own,a.hide,a.new⟩
def atC (l:List AT):List LV:=fx (l.map iW)
def qz:Nat→List AT→List LV
 | _,[]=>[]
 | j,_::l=>i64 j::qz (j+1) l
def sC (s:ST):List LV:=[i64 s.ver,.isl (atC s.l) s.l.length none,.imap (s.l.map fun a=>.str a.nm) (qz 0 s.l)]
def sV (s:ST):LV:=.iptr (sC s) 0
theorem uy {a:AT}:(iW a).cells=aC a:=rfl
theorem Mu {a:AT} (h:a.nm.length≤2 ^ 32):(iW a).ok:=⟨.inr ⟨a.ty,rfl,rfl⟩,h⟩
theorem jF:∀ {l:List AT},LV.aB (atC l)=true
 | []=>rfl
 | a::l=>by
  have:=jF (l:=l)
  unfold atC at this ⊢
  rw[List.map_cons,fx,cZ,this,uy,ly];rfl
theorem Dc {l:List AT}:(atC l).length=l.length*6:=by unfold atC;rw[pD,List.length_map]
theorem ng:∀ {l:List AT} {j:Nat},LV.aB (qz j l)=true
 | [],_=>rfl
 | _::l,j=>by simp only[qz,LV.aB,LV.plain,ng (l:=l),Bool.and_true]
theorem et {s:ST}:(sV s).plain=true:=by
 simp only[sV,sC,LV.plain,LV.aB,jF,ng,bB (f:=fun a:AT=>LV.str a.nm) fun _ _=>rfl];rfl
theorem yU:∀ {l:List AT} {j:Nat},(fS j ((l.map iW).map (·.nm))).map (·.1)=l.map fun a=>.str a.nm
 | [],_=>rfl
 | a::l,j=>by simp only[List.map_cons,fS];rw[yU (l:=l)];rfl
theorem yV:∀ {l:List AT} {j:Nat},(fS j ((l.map iW).map (·.nm))).map (·.2)=qz j l
 | [],_=>rfl
 | a::l,j=>by simp only[List.map_cons,fS,qz];rw[yV (l:=l)]
def eN (s:Tx):ST ⊕ Int × Int:=match splitB 10 s with
 | p::q::r=>match wI p with
  | none=>.inr (1,4)
  | some v=>if v<0∨1000<v then .inr (1,2) else match dc [] 2 (q::r) with
   | .inl l=>.inl ⟨v,l⟩
   | .inr e=>.inr e
 | _=>.inr (1,4)
theorem s9:∀ {l:List AT} {a:AT} {last:Tx},iB last (l.map iW)=0→iB last ((l++[a]).map iW)=iw (match l.getLast? with
  | none=>last
  | some b=>b.nm) a
 | [],a,last,_=>by
  simp only[List.nil_append,List.map_cons,List.map_nil,iB,List.getLast?_nil]
  show (if iw last a=0 then 0 else iw last a)=iw last a
  split<;>simp_all
 | b::l,a,last,h=>by
  simp only[List.map_cons,iB,List.cons_append] at h ⊢
  split at h
  ·rename_i e
   rw[if_pos e,s9 (l:=l) h]
   cases l with
   | nil=>rfl
   | cons c l=>
    rw[List.getLast?_cons_cons]
    cases hq:(c::l).getLast? with
    | none=>simp at hq
    | some q=>rfl
  ·rename_i e;exact absurd h e
theorem Hw {v:Int} {l:List AT} {a:AT} (hv:¬ (v<0∨1000<v)) (hl:l.length≤16) (h:iB [] (l.map iW)=0):mkW v ((l++[a]).map iW)=fR l a:=by
 unfold mkW fR
 rw[if_neg hv]
 simp only[List.length_map,List.length_append,List.length_singleton]
 by_cases h16:l.length=16
 ·rw[if_pos (by omega),if_pos h16]
 ·rw[if_neg (by omega),if_neg h16,s9 h]
  rfl
theorem nh {c:UInt8}:∀ {s a b:Tx} {l:List Tx},splitB c s=a::b::l→splitB c (s.drop (a.length+1))=b::l
 | [],a,b,l,h=>by simp[splitB] at h
 | x::s,a,b,l,h=>by
  rw[cR] at h
  split at h
  ·simp only[List.cons.injEq] at h
   obtain ⟨rfl,h⟩:=h
   simpa using h
  ·split at h
   ·simp at h
   ·rename_i p ps e
    simp only[List.cons.injEq] at h
    obtain ⟨rfl,h⟩:=h
    simp only[List.length_cons,List.drop_succ_cons]
    exact nh (by rw[e,h])
theorem oh {c:UInt8} {s a:Tx} (h:splitB c s=[a]):a=s:=by
 by_cases hi:Lib.indexByte s c = -1
 ·rw[jX hi] at h;simpa using h.symm
 ·have hg:=Lib.indexByte_ge s c
  obtain ⟨m,hm⟩:∃ m:Nat,Lib.indexByte s c=m:=⟨(Lib.indexByte s c).toNat,by omega⟩
  have:=(jY hm).1
  rw[this] at h
  simp only[List.cons.injEq] at h
  exact absurd h.2 cA
section
variable {st st':aa} {R:LV→aa→Prop}
structure Sch (st:aa) (n0:Nat) (v:Int) (l:List AT) (B:Nat) (f:Option Nat) (M:Nat):Prop where
 b:st[B]?=some (.cells .rw [i64 v,osl f 6 l.length,.map M])
 o:bD .rw st f 6 l.length (atC l)
 m:st[M]?=some (.map .rw (fS 0 ((l.map iW).map (·.nm))) (List.range l.length) l.length)
 nb:n0≤B
 nm:n0≤M
 nf:∀ o,f=some o→n0≤o
 ne:0<l.length∨f=none
 pw:(l.map (·.nm)).Pairwise ltB
theorem yW {c:UInt8} {s p q:Tx} {r:List Tx} (h:splitB c s=p::q::r):og c s=.tup [.str p,.str (s.drop (p.length+1)),.bool true]:=by unfold og;rw[h]
theorem yX {c:UInt8} {s p:Tx} (h:splitB c s=[p]):og c s=.tup [.str s,.str [],.bool false]:=by unfold og;rw[h]
theorem Hx {l:List AT} {a:AT}:atC (l++[a])=atC l++aC a:=by
 unfold atC
 rw[List.map_append,uu]
 simp[fx,uy]
theorem yY {s:Tx} {a:AT} (h:eJ s=some a):a.nm.length≤s.length:=by
 unfold eJ at h
 split at h
 ·rename_i w0 w1 w2 r e
  split at h
  ·cases h
  ·split at h
   ·cases h
   ·split at h
    ·cases h
     exact hU w1 (by rw[e];simp)
    ·cases h
 ·cases h
theorem Hy {v:Int} {l:List Row} (h:mkW v l=0):iB [] l=0∧l.length≤16:=by
 unfold mkW at h
 split at h
 ·omega
 split at h
 ·omega
 ·exact ⟨h,by omega⟩
theorem Bj {s:Tx} {q:LV} (h:AtQ s q):∃ cs ok,cs.length=6∧cs.all LV.one=true∧q=.tup [.agg cs,.bool ok]:=by
 unfold AtQ at h
 split at h
 ·rename_i a _
  exact ⟨aC a,true,rfl,rfl,h⟩
 ·obtain ⟨nm,tv,tnil,m,o,hh,n,ht,rfl⟩:=h
  exact ⟨_,false,rfl,wH ht,rfl⟩
theorem Bk {st0:aa} {v:Int} (hv:¬ (v<0∨1000<v)) (res:List AT ⊕ Int × Int)
  (hK1:∀ l B f M st,res=.inl l→Fr st0 st (fun _=>False)→Sch st st0.length v l B f M→R (.tup [.ptr B 0,i64 0,i64 0]) st)
  (hK2:∀ n e st,res=.inr (n,e)→Fr st0 st (fun _=>False)→R (.tup [.nilp,i64 n,i64 e]) st) :
  ∀ (k:Nat) (ps:List Tx) (rest:Tx) (l:List AT) (n B:Nat) (f:Option Nat) (M:Nat) (st:aa),ps.length≤k→splitB 10 rest=ps→rest.length≤2 ^ 20→n+k≤2 ^ 30→l.length≤16→iB [] (l.map iW)=0→(∀ a ∈ l,a.nm.length≤2 ^ 32)→dc l n ps=res→
   Fr st0 st (fun _=>False)→Sch st st0.length v l B f M→vI (.str rest) (i64 v) (.ptr B 0) (i64 0) (i64 n) R st:=by
 intro k
 induction k with
 | zero=>
  intro ps rest l n B f M st hk hs
  have:=cA (c:=10) (s:=rest)
  rw[hs] at this
  exact absurd (List.eq_nil_of_length_eq_zero (by omega)) this
 | succ k ih=>
  intro ps rest l n B f M st hk hs hr hn hl hw hnm hp hfr hS
  refine FZ _ _ _ _ _ ?_
  have e0:((0:Int)==0)=true:=rfl
  simp only[Au,ae,aW,e0,ab,ah,ca,kQ]
  by_cases hre:rest=[]
  ·subst hre
   have hps:ps=[[]]:=by rw[← hs];rfl
   subst hps
   simp only[dc,if_true] at hp
   have e1:(!(([]:Tx)==[]))=false:=rfl
   have e2:((0:Int) != 0)=false:=rfl
   simp only[e1,af,bz,e2,ab]
   exact hK1 l B f M st hp.symm hfr hS
  ·have e1:(!(rest==[]))=true:=by simp[hre]
   simp only[e1,ah]
   refine (KP rest (by omega)).call ?_
   have put:∀ cs:List LV,cs.length=6→cs.all LV.one=true→stV (st++[aq.cells .rw [LV.str [],LV.nilp,LV.bool false,LV.bool false,LV.bool false,LV.bool false]]) 6 (.ptr st.length 0) (.agg cs)=some (st++[.cells .rw cs]):=fun cs h1 h2=>by
    rw[sY au rfl h1 h2];simp
   have fr1:∀ y,Fr st0 (st++[y]) (fun _=>False):=fun y=>hfr.trans Fr.app fun _ _ h=>h
   match ps,hs with
   | [],hs=>exact absurd hs cA
   | [p],hs=>
    have hps:=oh hs
    subst hps
    simp only[dc,hre,if_false] at hp
    rw[yX hs]
    simp only[aw,List.getElem?_cons_zero,List.getElem?_cons_succ,ab]
    refine (Ht (s:=p) (by omega)).call fun q hq=>?_
    obtain ⟨cs,ok,h1,h2,rfl⟩:=Bj hq
    simp only[aw,List.getElem?_cons_zero,List.getElem?_cons_succ,ab,bQ,put cs h1 h2,az,ag,aZ,Bool.not_false,ah]
    exact hK2 n 4 _ hp.symm (fr1 _)
   | p::q::r,hs=>
    have hnx:=nh hs
    have hpl:=hU p (by rw[hs];simp)
    rw[yW hs]
    simp only[aw,List.getElem?_cons_zero,List.getElem?_cons_succ,ab]
    refine (Ht (s:=p) (by omega)).call fun w hq=>?_
    simp only[dc] at hp
    cases hpa:eJ p with
    | none=>
     rw[hpa] at hp
     unfold AtQ at hq
     rw[hpa] at hq
     obtain ⟨nm,tv,tnil,m,o,hh,nn,ht,rfl⟩:=hq
     simp only[aw,List.getElem?_cons_zero,List.getElem?_cons_succ,ab,bQ,put _ rfl (wH ht),az,ag,aZ,Bool.not_true,Bool.not_false,af,ah]
     exact hK2 n 4 _ hp.symm (fr1 _)
    | some a=>
     rw[hpa] at hp
     unfold AtQ at hq
     rw[hpa] at hq
     simp only at hq hp
     subst hq
     have hB1:∀ y,(st++[y])[B]?=some (.cells .rw [i64 v,osl f 6 l.length,.map M]):=fun y=>by rw[List.getElem?_append_left (bM hS.b)];exact hS.b
     have hlB:∀ y,ld1 (st++[y]) (.ptr B 1)=some (osl f 6 l.length):=fun y=>by rw[aU (hB1 y)];rfl
     have g6:ldA (st++[aq.cells .rw (aC a)]) (.ptr st.length 0) 6=some (aV a):=ld6 au rfl
     have ef:ao (fun i=>some (i*6,6)) (List.replicate 1 [LV.str [],LV.nilp,LV.bool false,LV.bool false,LV.bool false,LV.bool false]).flatten [(0,aV a)]=some (aC a):=rfl
     have ho1:=hS.o.fr (st':=st++[.cells .rw (aC a)]) (S:=fun _=>False) Fr.app (fun _ _ h=>h)
     obtain ⟨st2,f2,q1,q2,q3,q4⟩:=lW ho1 (new:=aC a) rfl rfl (by omega) (b:=32)
     have hlB2:ld1 ((st++[aq.cells .rw (aC a)])++[aq.cells .rw (aC a)]) (.ptr B 1)=some (osl f 6 l.length):=by
      rw[aU (l:=[i64 v,osl f 6 l.length,.map M]) (m:=.rw) (by rw[List.getElem?_append_left (by simp;have:=bM hS.b;omega)];exact hB1 _)];rfl
     simp only[aw,List.getElem?_cons_zero,List.getElem?_cons_succ,ab,bQ,put _ wG sW,az,ag,aZ,Bool.not_true,af,aF,av,Nat.zero_add,hlB,g6,ef,bw,hlB2,true_and,q1]
     have hfr2:Fr st0 st2 (fun _=>False):=(fr1 _).trans q3 fun j hj h=>by have:=hS.nf j h;omega
     have hlen:((l++[a]).map iW).length=l.length+1:=by simp
     have hnm':∀ x ∈ l++[a],x.nm.length≤2 ^ 32:=fun x hx=>by
      rcases List.mem_append.1 hx with h|h
      ·exact hnm x h
      ·simp at h;subst h;have:=yY hpa;omega
     have hmore:=Hw (a:=a) hv hl hw
     rw[← Hx,← hlen] at q2
     rw[← hlen]
     refine uw (fun x hx=>?_) (by rw[hlen];omega) q2 (.inl (by rw[hlen];omega)) (fun e st3 he hme hfr3=>?_) fun st3 B3 M3 f3 hme hfr3 hb3 hm3 hf3 hne3 g1 g2 g3 g4=>?_
     ·obtain ⟨y,hy,rfl⟩:=List.mem_map.1 hx
      exact Mu (hnm' y hy)
     ·rw[hmore] at hme
      rw[hme,if_neg he] at hp
      simp only[aw,List.getElem?_cons_zero,List.getElem?_cons_succ,ab]
      refine F5 _ _ _ _ _ ?_
      have he':(e != 0)=true:=by simpa using he
      simp only[Av,ae,bz,he',ab,ah]
      exact hK2 n e st3 hp.symm (hfr2.trans hfr3 fun _ _ h=>h)
     ·have hz:=Hy hme
      rw[hmore] at hme
      rw[if_pos hme] at hp
      simp only[aw,List.getElem?_cons_zero,List.getElem?_cons_succ,ab]
      refine F5 _ _ _ _ _ ?_
      have he':((0:Int) != 0)=false:=rfl
      simp only[Av,ae,bz,he',ab,af,aH,aI (show n<2 ^ 40 by omega)]
      have hl2:=hfr2.len
      rw[hlen] at g1 g2 g3
      refine ih (q::r) (rest.drop (p.length+1)) (l++[a]) (n+1) B3 f3 M3 st3 (by simp at hk ⊢;omega) hnx (by simp;omega) (by omega) (by have:=hz.2;simp at this ⊢;omega) hz.1 hnm' hp (hfr2.trans hfr3 fun _ _ h=>h) ⟨?_,?_,?_,by omega,by omega,fun o ho=>by have:=hf3 o ho;omega,?_,?_⟩
      ·simpa using g1
      ·simpa[atC] using g2
      ·simpa using g3
      ·rcases hne3 with h|h
       ·exact .inl (by simp)
       ·exact .inr h
      ·have e:((l++[a]).map iW).map (·.nm)=(l++[a]).map (·.nm):=by rw[List.map_map];rfl
       rw[← e];exact g4
end
section
variable {st st':aa} {R:LV→aa→Prop}
theorem Mv {n0:Nat} {v:Int} {l:List AT} {B:Nat} {f:Option Nat} {M:Nat} (h:Sch st n0 v l B f M):dp (fa n0 st) (sV ⟨v,l⟩) (.ptr B 0):=by
 refine .inl ⟨B,.rw,[i64 v,osl f 6 l.length,.map M],rfl,by rw[fW h.nb];exact h.b,rfl,Nat.le_refl _,?_⟩
 refine ⟨_,_,rfl,rfl,_,_,rfl,dZ (h.o.fa h.nf) rfl (bA _ jF),_,_,rfl,?_,rfl⟩
 refine .inl ⟨M,.rw,_,_,_,_,rfl,by rw[fW h.nm];exact h.m,rfl,List.Perm.refl _,?_,yU,?_⟩
 ·have:=gv (ss:=l.map (·.nm)) (seen:=[]) (cJ h.pw) (by simp)
  rw[List.map_map] at this
  show (cK (l.map fun a=>.str a.nm) []).isSome=true
  rw[show (l.map fun a=>LV.str a.nm)=l.map (LV.str ∘ fun x=>x.nm) from rfl,this]
  rfl
 ·rw[yV]
  exact bA _ ng
theorem yZ (g:GlS st) {s:Tx} (hs:s.length≤2 ^ 20) (h1:∀ S,eN s=.inl S→R (.tup [sV S,i64 0,i64 0]) st) (h2:∀ n e,eN s=.inr (n,e)→R (.tup [.nilp,i64 n,i64 e]) st) :
  ax Tryz.prog 21 [.str s] st R:=by
 refine ax.FB ?_
 refine c21 _ ?_
 have bad:∀ n e,eN s=.inr (n,e)→∀ st2,Fr st st2 (fun _=>False)→∃ v,Fr st st2 (fun _=>False)∧dp (fa st.length st2) v (.tup [.nilp,i64 n,i64 e])∧v.plain=true∧R v st:=fun n e h st2 hf=>⟨_,hf,bj _ rfl,rfl,h2 n e h⟩
 have hl:¬ ((s.length:Int) > 1048576):=by omega
 simp only[w21,a7,ab,ae,cx,hl,decide_false,af]
 refine (KP s (by omega)).call ?_
 match hsp:splitB 10 s with
 | []=>exact absurd hsp cA
 | [p]=>
  have hps:=oh hsp
  subst hps
  have he:eN p=.inr (1,4):=by unfold eN;rw[hsp]
  rw[yX hsp]
  simp only[aw,List.getElem?_cons_zero,List.getElem?_cons_succ,ab]
  refine ux g (by omega) (fun n _=>?_) fun _ n=>?_
  all_goals
   simp only[aw,List.getElem?_cons_zero,List.getElem?_cons_succ,ab,aZ,Bool.not_false,ah]
   exact bad 1 4 he _ Fr.refl
 | p::q::r=>
  have hnx:=nh hsp
  have hpl:=hU p (by rw[hsp];simp)
  have hcl:=eo (c:=10) (s:=s)
  have hcc:s.count 10≤s.length:=List.count_le_length
  rw[hsp] at hcl
  have he:eN s=match wI p with
   | none=>.inr (1,4)
   | some v=>if v<0∨1000<v then .inr (1,2) else match dc [] 2 (q::r) with
    | .inl l=>.inl ⟨v,l⟩
    | .inr e=>.inr e:=by unfold eN;rw[hsp];try rfl
  rw[yW hsp]
  simp only[aw,List.getElem?_cons_zero,List.getElem?_cons_succ,ab]
  refine ux g (by omega) (fun v hv=>?_) fun hv n=>?_
  ·rw[hv] at he
   simp only at he
   simp only[aw,List.getElem?_cons_zero,List.getElem?_cons_succ,ab,aZ,Bool.not_true,af]
   refine uw (v:=v) (l:=[]) (f:=none) (fun _ h=>by simp at h) (by simp) bD.nil (.inr rfl) (fun e st3 hne hme hfr=>?_) fun st3 B M f hme hfr hB hM hf hne g1 g2 g3 g4=>?_
   ·simp only[aw,List.getElem?_cons_zero,List.getElem?_cons_succ,ab]
    have hme':v<0∨1000<v:=by
     refine Classical.byContradiction fun h=>hne ?_
     rw[← hme]
     unfold mkW
     rw[if_neg h];rfl
    have e2:e=2:=by rw[← hme];unfold mkW;rw[if_pos hme']
    subst e2
    rw[if_pos hme'] at he
    refine FZ _ _ _ _ _ ?_
    have q1:((2:Int)==0)=false:=rfl
    have q2:((2:Int) != 0)=true:=rfl
    simp only[Au,ae,aW,bz,q1,q2,ab,af,ah]
    exact bad 1 2 he _ hfr
   ·have hv0:¬ (v<0∨1000<v):=by
     intro h
     unfold mkW at hme
     rw[if_pos h] at hme
     omega
    rw[if_neg hv0] at he
    simp only[aw,List.getElem?_cons_zero,List.getElem?_cons_succ,ab]
    refine Bk (st0:=st) hv0 (dc [] 2 (q::r)) (fun l B' f' M' st4 hres hfr4 hS4=>?_) (fun n e st4 hres hfr4=>?_) (q::r).length (q::r) (s.drop (p.length+1)) [] 2 B f M st3 (Nat.le_refl _) hnx (by simp;omega) (by simp at hcl ⊢;omega) (by simp) rfl (by simp) rfl hfr ⟨?_,?_,?_,hB,hM,hf,?_,?_⟩
    ·rw[hres] at he
     exact ⟨.tup [sV ⟨v,l⟩,i64 0,i64 0],hfr4,⟨_,rfl,_,_,rfl,Mv hS4,_,_,rfl,rfl,_,_,rfl,rfl,rfl⟩,by simp only[LV.plain,LV.aB,et];rfl,h1 _ he⟩
    ·rw[hres] at he
     exact bad n e he _ hfr4
    ·exact g1
    ·exact g2
    ·exact g3
    ·exact hne
    ·exact g4
  ·rw[hv] at he
   simp only[aw,List.getElem?_cons_zero,List.getElem?_cons_succ,ab,aZ,Bool.not_true,Bool.not_false,af,ah]
   exact bad 1 4 he _ Fr.refl
end
end Go.Proofs.YtknegckgmklnhaaGreatDoor
