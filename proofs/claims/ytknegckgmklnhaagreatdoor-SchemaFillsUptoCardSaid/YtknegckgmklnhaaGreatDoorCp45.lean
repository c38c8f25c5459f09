/- The clean machine, part 45: parts of slices that own their object; slices that grow out of an empty literal. -/
import Derived.Test.YtknegckgmklnhaaGreatDoorVaV6
namespace Go.CP
theorem zc {f:Option Nat} {sz n k:Nat} (hsz:0<sz) (hk:k≤n) (hn:f=none→n=0) :
  ∃ y,(∀ st,aN st sz (osl f sz n) none (some k) none=some y)∧∀ {m0:Md} {st:aa} {cs:List LV},bD m0 st f sz n cs→dC st sz y=some (k,cs.take (k*sz)):=by
 cases f with
 | none=>
  obtain rfl:=hn rfl
  obtain rfl:k=0:=by omega
  refine ⟨.nils,fun st=>rfl,fun {m0 st cs} h=>?_⟩
  simp[dC]
 | some o=>
  refine ⟨.sl o 0 k (.rest sz),fun st=>?_,fun {m0 st cs} h=>?_⟩
  ·simp[osl,aN,py,lJ,hk,hsz]
  ·obtain ⟨rest,h2⟩:=h.2
   have hl:=h.1
   have hle:k*sz≤n*sz:=Nat.mul_le_mul_right _ hk
   simp only[dC,h2]
   rw[if_pos (by simp;omega),List.drop_zero,List.take_append_of_le_length (by omega)]
theorem sj {f:Option Nat} {sz n k:Nat} (hsz:0<sz) (hk:k≤n) (hn:f=none→n=0) :
  ∃ y,(∀ st,aN st sz (osl f sz n) (some k) none none=some y)∧∀ {m0:Md} {st:aa} {cs:List LV},bD m0 st f sz n cs→dC st sz y=some (n-k,cs.drop (k*sz)):=by
 cases f with
 | none=>
  obtain rfl:=hn rfl
  obtain rfl:k=0:=by omega
  refine ⟨.nils,fun st=>rfl,fun {m0 st cs} h=>?_⟩
  have:cs=[]:=by have:=h.1;simp at this;exact this
  simp[dC,this]
 | some o=>
  rcases Nat.eq_zero_or_pos k with rfl|h0
  ·refine ⟨.sl o 0 n (.rest sz),fun st=>?_,fun {m0 st cs} h=>?_⟩
   ·simp[osl,aN,py,lJ,hsz]
   ·obtain ⟨rest,h2⟩:=h.2
    have hl:=h.1
    simp only[dC,h2]
    rw[if_pos (by simp;omega),List.drop_zero,List.take_append_of_le_length (by omega),List.take_of_length_le (by omega)]
    simp
  rcases Nat.lt_or_ge k n with hlt|hge
  ·refine ⟨.sl o (0+k*sz) (n-k) (.rest sz),fun st=>?_,fun {m0 st cs} h=>?_⟩
   ·have h1:¬ k=0:=by omega
    simp[osl,aN,py,lJ,hsz,hk,hlt,h1]
   ·obtain ⟨rest,h2⟩:=h.2
    have hl:=h.1
    have e1:k*sz+(n-k)*sz=n*sz:=by rw[← Nat.add_mul];congr 1;omega
    simp only[dC,h2]
    rw[if_pos (by simp;omega),Nat.zero_add,List.drop_append_of_le_length (by omega),List.take_append_of_le_length (by simp;omega),List.take_of_length_le (by simp;omega)]
  ·refine ⟨.emp,fun st=>?_,fun {m0 st cs} h=>?_⟩
   ·have h1:¬ k=0:=by omega
    have h2:¬ k<n:=by omega
    simp[osl,aN,py,lJ,hsz,hk,h1,h2]
   ·have hl:=h.1
    have e1:n-k=0:=by omega
    rw[e1,List.drop_eq_nil_of_le (by rw[hl];exact Nat.mul_le_mul_right _ hge)];rfl
theorem BU {k:Nat} {F:Option Nat→Option Nat→Option Nat→Option LV}:ob3 none (some (.int .i64 (k:Int))) none F=F none (some k) none:=by
 simp[ob3,eO]
theorem BV {k:Nat} {F:Option Nat→Option Nat→Option Nat→Option LV}:ob3 (some (.int .i64 (k:Int))) none none F=F (some k) none none:=by
 simp[ob3,eO]
def Gr (st:aa) (a:Nat) (A:LV) (sz n:Nat) (cs:List LV):Prop:=
 (n=0∧cs=[]∧A=.sl a 0 0 (.ex 0)∧st[a]?=some (.cells .rw []))∨(A=osl (some a) sz n∧bD .rw st (some a) sz n cs)
theorem Gr.lt {st:aa} {a:Nat} {A:LV} {sz n:Nat} {cs:List LV} (h:Gr st a A sz n cs):a<st.length:=by
 rcases h with ⟨_,_,_,h⟩ | ⟨_,h⟩
 ·exact bK h
 ·exact h.lt
theorem Gr.fr {st st':aa} {a:Nat} {A:LV} {sz n:Nat} {cs:List LV} (h:Gr st a A sz n cs) {S:Nat→Prop} (hf:Fr st st' S) (hs:¬ S a):Gr st' a A sz n cs:=by
 rcases h with ⟨h1,h2,h3,h⟩ | ⟨h1,h⟩
 ·exact .inl ⟨h1,h2,h3,hf.get h hs⟩
 ·exact .inr ⟨h1,h.fr hf (by rintro o ⟨⟩;exact hs)⟩
theorem Gr.own {st:aa} {a:Nat} {A:LV} {sz n:Nat} {cs:List LV} (h:Gr st a A sz n cs) (hn:0<n):A=osl (some a) sz n∧bD .rw st (some a) sz n cs:=by
 rcases h with ⟨h1,_⟩ | h
 ·omega
 ·exact h
theorem Gr.new {st:aa} {sz:Nat}:Gr (st++[.cells .rw []]) st.length (.sl st.length 0 0 (.ex 0)) sz 0 []:=.inl ⟨rfl,rfl,rfl,by simp⟩
theorem Gr.append {st:aa} {a:Nat} {A:LV} {sz n bytes:Nat} {cs new:List LV} {x:LV} {k:Nat} (h:Gr st a A sz n cs) (hx:dC st sz x=some (k,new)) (hn:new.length=k*sz) (h1:new.all LV.one=true)
  (hr:ee (n+k) bytes=true) :
  ∃ st2 A2 a2,ak st sz bytes .rw A x=some (A2,st2)∧Gr st2 a2 A2 sz (n+k) (cs++new)∧Fr st st2 (fun j=>j=a)∧(a2=a∨st.length≤a2):=by
 rcases Nat.eq_zero_or_pos k with rfl|hk
 ·have:new=[]:=by simpa using hn
  subst this
  refine ⟨st,A,a,?_,by simpa using h,Fr.refl,.inl rfl⟩
  rcases h with ⟨_,_,rfl,_⟩ | ⟨rfl,_⟩<;>simp[ak,hx,osl]
 ·rcases h with ⟨rfl,rfl,rfl,ha⟩ | ⟨rfl,ho⟩
  ·refine ⟨st++[.cells .rw ([]++new)],.sl st.length 0 (0+k) (.rest sz),st.length,?_,.inr ⟨rfl,?_,[],by simp⟩,Fr.app,.inr (Nat.le_refl _)⟩
   ·have hk0:¬ k=0:=by omega
    have hk1:¬ 0+k≤0:=by omega
    simp only[ak,hx,ha,hk0,if_false,hk1]
    rw[if_pos ⟨hr,by simp⟩];simp
   ·simp[hn]
  ·obtain ⟨st2,f2,e1,e2,e3,e4,_⟩:=ho.append (bytes:=bytes) hx hk hn h1 hr
   cases f2 with
   | none=>have:=e2.2;simp only at this;omega
   | some o2=>
    refine ⟨st2,_,o2,e1,.inr ⟨rfl,e2⟩,e3.mono fun j _ hj=>(Option.some.inj hj).symm,?_⟩
    rcases e4 o2 rfl with e|e
    ·exact .inl (Option.some.inj e).symm
    ·exact .inr e
end Go.CP
