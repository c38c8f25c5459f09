/- Parts of the proof. -/
import Derived.Test.YtknegckgmklnhaaGreatDoorVaC
import Derived.Test.YtknegckgmklnhaaGreatDoorVaR
namespace Go.CP
theorem C2 {f:Option Nat} {sz n k:Nat} (hsz:0<sz) (hk:k≤n) (hn:f=none→n=0) :
  ∃ y,(∀ st,aO st sz (osl f sz n) none (some k) none=some y)∧∀ {m0:Md} {st:aa} {cs:List LV},bD m0 st f sz n cs→dJ st sz y=some (k,cs.take (k*sz)):=by
 cases f with
 | none=>
  obtain rfl:=hn rfl
  obtain rfl:k=0:=by omega
  refine ⟨.nils,fun st=>rfl,fun {m0 st cs} h=>?_⟩
  simp[dJ]
 | some o=>
  refine ⟨.sl o 0 k (.rest sz),fun st=>?_,fun {m0 st cs} h=>?_⟩
  ·simp[osl,aO,qu,mB,hk,hsz]
  ·obtain ⟨rest,h2⟩:=h.2
   have hl:=h.1
   have hle:k*sz≤n*sz:=Nat.mul_le_mul_right _ hk
   simp only[dJ,h2]
   rw[if_pos (by simp;omega),List.drop_zero,List.take_append_of_le_length (by omega)]
theorem uh {f:Option Nat} {sz n k:Nat} (hsz:0<sz) (hk:k≤n) (hn:f=none→n=0) :
  ∃ y,(∀ st,aO st sz (osl f sz n) (some k) none none=some y)∧∀ {m0:Md} {st:aa} {cs:List LV},bD m0 st f sz n cs→dJ st sz y=some (n-k,cs.drop (k*sz)):=by
 cases f with
 | none=>
  obtain rfl:=hn rfl
  obtain rfl:k=0:=by omega
  refine ⟨.nils,fun st=>rfl,fun {m0 st cs} h=>?_⟩
  have:cs=[]:=by have:=h.1;simp at this;exact this
  simp[dJ,this]
 | some o=>
  rcases Nat.eq_zero_or_pos k with rfl|h0
  ·refine ⟨.sl o 0 n (.rest sz),fun st=>?_,fun {m0 st cs} h=>?_⟩
   ·simp[osl,aO,qu,mB,hsz]
   ·obtain ⟨rest,h2⟩:=h.2
    have hl:=h.1
    simp only[dJ,h2]
    rw[if_pos (by simp;omega),List.drop_zero,List.take_append_of_le_length (by omega),List.take_of_length_le (by omega)]
    simp
  rcases Nat.lt_or_ge k n with hlt|hge
  ·refine ⟨.sl o (0+k*sz) (n-k) (.rest sz),fun st=>?_,fun {m0 st cs} h=>?_⟩
   ·have h1:¬ k=0:=by omega
    simp[osl,aO,qu,mB,hsz,hk,hlt,h1]
   ·obtain ⟨rest,h2⟩:=h.2
    have hl:=h.1
    have e1:k*sz+(n-k)*sz=n*sz:=by rw[← Nat.add_mul];congr 1;omega
    simp only[dJ,h2]
    rw[if_pos (by simp;omega),Nat.zero_add,List.drop_append_of_le_length (by omega),List.take_append_of_le_length (by simp;omega),List.take_of_length_le (by simp;omega)]
  ·refine ⟨.emp,fun st=>?_,fun {m0 st cs} h=>?_⟩
   ·have h1:¬ k=0:=by omega
    have h2:¬ k<n:=by omega
    simp[osl,aO,qu,mB,hsz,hk,h1,h2]
   ·have hl:=h.1
    have e1:n-k=0:=by omega
    rw[e1,List.drop_eq_nil_of_le (by rw[hl];exact Nat.mul_le_mul_right _ hge)];rfl
theorem GW {k:Nat} {F:Option Nat→Option Nat→Option Nat→Option LV}:ob3 none (some (.int .i64 (k:Int))) none F=F none (some k) none:=by
 simp[ob3,fg]
theorem GX {k:Nat} {F:Option Nat→Option Nat→Option Nat→Option LV}:ob3 (some (.int .i64 (k:Int))) none none F=F (some k) none none:=by
 simp[ob3,fg]
def Gr (st:aa) (a:Nat) (A:LV) (sz n:Nat) (cs:List LV):Prop:=
 (n=0∧cs=[]∧A=.sl a 0 0 (.ex 0)∧st[a]?=some (.cells .rw []))∨(A=osl (some a) sz n∧bD .rw st (some a) sz n cs)
theorem Gr.lt {st:aa} {a:Nat} {A:LV} {sz n:Nat} {cs:List LV} (h:Gr st a A sz n cs):a<st.length:=by
 rcases h with ⟨_,_,_,h⟩ | ⟨_,h⟩
 ·exact bM h
 ·exact h.lt
theorem Gr.fr {st st':aa} {a:Nat} {A:LV} {sz n:Nat} {cs:List LV} (h:Gr st a A sz n cs) {S:Nat→Prop} (hf:Fr st st' S) (hs:¬ S a):Gr st' a A sz n cs:=by
 rcases h with ⟨h1,h2,h3,h⟩ | ⟨h1,h⟩
 ·exact .inl ⟨h1,h2,h3,hf.get h hs⟩
 ·exact .inr ⟨h1,h.fr hf (by rintro o ⟨⟩;exact hs)⟩
theorem Gr.own {st:aa} {a:Nat} {A:LV} {sz n:Nat} {cs:List LV} (h:Gr st a A sz n cs) (hn:0<n):A=osl (some a) sz n∧bD .rw st (some a) sz n cs:=by
 rcases h with ⟨h1,_⟩ | h
 ·omega
 ·exact h
theorem Gr.new {st:aa} {sz:Nat}:Gr (st++[.cells .rw []]) st.length (.sl st.length 0 0 (.ex 0)) sz 0 []:=.inl ⟨rfl,rfl,rfl,by simp⟩
theorem Gr.append {st:aa} {a:Nat} {A:LV} {sz n bytes:Nat} {cs new:List LV} {x:LV} {k:Nat} (h:Gr st a A sz n cs) (hx:dJ st sz x=some (k,new)) (hn:new.length=k*sz) (h1:new.all LV.one=true)
  (hr:dX (n+k) bytes=true) :
  ∃ st2 A2 a2,ar st sz bytes .rw A x=some (A2,st2)∧Gr st2 a2 A2 sz (n+k) (cs++new)∧Fr st st2 (fun j=>j=a)∧(a2=a∨st.length≤a2):=by
 rcases Nat.eq_zero_or_pos k with rfl|hk
 ·have:new=[]:=by simpa using hn
  subst this
  refine ⟨st,A,a,?_,by simpa using h,Fr.refl,.inl rfl⟩
  rcases h with ⟨_,_,rfl,_⟩ | ⟨rfl,_⟩<;>simp[ar,hx,osl]
 ·rcases h with ⟨rfl,rfl,rfl,ha⟩ | ⟨rfl,ho⟩
  ·refine ⟨st++[.cells .rw ([]++new)],.sl st.length 0 (0+k) (.rest sz),st.length,?_,.inr ⟨rfl,?_,[],by simp⟩,Fr.app,.inr (Nat.le_refl _)⟩
   ·have hk0:¬ k=0:=by omega
    have hk1:¬ 0+k≤0:=by omega
    simp only[ar,hx,ha,hk0,if_false,hk1]
    rw[if_pos ⟨hr,by simp⟩];simp
   ·simp[hn]
  ·obtain ⟨st2,f2,e1,e2,e3,e4,_⟩:=ho.append (bytes:=bytes) hx hk hn h1 hr
   cases f2 with
   | none=>have:=e2.2;simp only at this;omega
   | some o2=>
    refine ⟨st2,_,o2,e1,.inr ⟨rfl,e2⟩,e3.mono fun j _ hj=>(Option.some.inj hj).symm,?_⟩
    rcases e4 o2 rfl with e|e
    ·exact .inl (Option.some.inj e).symm
    ·exact .inr e
end Go.CP
namespace Go.Proofs.YtknegckgmklnhaaGreatDoor
open Go Go.CP
set_option maxRecDepth 100000
def T27 (x1 x2 x3 x4 x5 x6 x7:LV) (R:LV→aa→Prop) (g:LV) (st:aa):Prop:=
 bd (ad 5 x5) fun v43=>bd (ld1 st v43) fun v44=>bd (ob3 none (some x7) none fun l h m=>aO st 7 v44 l h m) fun v45=>bd (ad 5 x1) fun v46=>bd (ld1 st v46) fun v47=>bd (aR 7 v47
 x6) fun v48=>bd (ldA st v48 7) fun v49=>bd2 (aP st 0 (ao (fun i=>some (i*7,7)) (List.replicate 0 [i64 0,LV.bool false,i64 0,i64 0,
 LV.str [],LV.nils,LV.nils]).flatten [])) fun v50 st51=>ldA st51 v48 7=some v49∧ld1 st51 v46=some v47∧(ob3 none (some x7) none fun l h m=>aO st51 7 v44 l h m)=some v45∧ld1 st51
 v43=some v44∧bd2 (ar st51 7 96 Md.rw v50 v45) fun v52 st53=>ldA st53 v48 7=some v49∧ld1 st53 v46=some v47∧ax Tryz.prog 27 [v49] st53 fun v54 st55=>bd2 (aP st55 1 (ao
 (fun i=>some (i*7,7)) (List.replicate 1 [i64 0,LV.bool false,i64 0,i64 0,LV.str [],LV.nils,LV.nils]).flatten [(0,v54)])) fun v56 st57=>bd2
 (ar st57 7 96 Md.rw v52 v56) fun v58 st59=>bd (ad 6 x5) fun v60=>bd (ld1 st59 v60) fun v61=>bd (ob3 (some x7) none none fun l h m=>aO st59 1 v61 l h m) fun v62=>bd2 (ar
 st59 1 16 Md.rw g v62) fun v63 st64=>bd (ad 6 x5) fun v65=>bd2 (lmk (stV st64 1 v65 v63)) fun _v66 st67=>bd (ad 5 x5) fun v68=>bd (ld1 st67 v68) fun v69=>bd (ob3 (some x7) none none
 fun l h m=>aO st67 7 v69 l h m) fun v70=>bd2 (ar st67 7 96 Md.rw v58 v70) fun v71 st72=>bd (ad 5 x5) fun v73=>bd2 (lmk (stV st72 1 v73 v71)) fun _v74 st75=>bd (ak BinOp.add x6
 (i64 1)) fun v76=>lr x1 x2 x3 x4 x5 v76 x7 R st75
def I27 (x1 x2 x3 x4 x5 x6 x7:LV) (R:LV→aa→Prop) (st:aa):Prop:=
 bd (ad 6 x5) fun v28=>bd (ld1 st v28) fun v29=>bd (ob3 none (some x7) none fun l h m=>aO st 1 v29 l h m) fun v30=>bd (ad 6 x1) fun v31=>bd (ld1 st v31) fun v32=>bd (aR 1 v32
 x6) fun v33=>bd (ld1 st v33) fun v34=>(bd2 (aP st 1 (ao (fun i=>some (i*1,1)) (List.replicate 1 [LV.str []]).flatten [(0,v34)])) fun v35 st36=>(ob3 none (some x7) none fun l h m=>
 aO st36 1 v29 l h m)=some v30∧ld1 st36 v28=some v29∧bd2 (aP st36 0 (ao (fun i=>some (i*1,1)) (List.replicate 0 [LV.str []]).flatten [])) fun v37 st38=>ld1 st38 v33=some v34
 ∧ ld1 st38 v31=some v32∧(ob3 none (some x7) none fun l h m=>aO st38 1 v29 l h m)=some v30∧ld1 st38 v28=some v29∧bd2 (ar st38 1 16 Md.rw v37 v30) fun v39 st40=>ld1 st40 v33 =
 some v34∧ld1 st40 v31=some v32∧bd2 (ar st40 1 16 Md.rw v39 v35) fun v41 st42=>T27 x1 x2 x3 x4 x5 x6 x7 R v41 st42)∧bd2 (aP st 0 (ao (fun i=>some (i*1,1)) (List.replicate 0
 [LV.str []]).flatten [])) fun v77 st78=>ld1 st78 v33=some v34∧ld1 st78 v31=some v32∧(ob3 none (some x7) none fun l h m=>aO st78 1 v29 l h m)=some v30∧ld1 st78 v28=some v29∧
 (bd2 (aP st78 1 (ao (fun i=>some (i*1,1)) (List.replicate 1 [LV.str []]).flatten [(0,v34)])) fun v79 st80=>(ob3 none (some x7) none fun l h m=>aO st80 1 v29 l h m)=some v30∧
 ld1 st80 v28=some v29∧bd2 (ar st80 1 16 Md.rw v77 v30) fun v81 st82=>ld1 st82 v33=some v34∧ld1 st82 v31=some v32∧bd2 (ar st82 1 16 Md.rw v81 v79) fun v83 st84=>T27 x1 x2 x3
 x4 x5 x6 x7 R v83 st84)∧bd2 (ar st78 1 16 Md.rw v77 v30) fun v119 st120=>ld1 st120 v33=some v34∧ld1 st120 v31=some v32∧bd2 (aP st120 1 (ao (fun i=>some (i*1,1))
 (List.replicate 1 [LV.str []]).flatten [(0,v34)])) fun v121 st122=>(ob3 none (some x7) none fun l h m=>aO st122 1 v29 l h m)=some v30∧ld1 st122 v28=some v29∧bd2 (ar st122 1 16
 Md.rw v119 v121) fun v123 st124=>T27 x1 x2 x3 x4 x5 x6 x7 R v123 st124
def wq (x1 x2 x3 x4 x5 x6 x7:LV) (R:LV→aa→Prop) (st:aa):Prop:=
 bd (ad 6 x5) fun v0=>bd (ld1 st v0) fun v1=>bd (bo v1) fun v2=>bd (ak BinOp.lss x7 v2) fun v3=>al v3 (bd (ad 6 x5) fun v4=>bd (ld1 st v4) fun v5=>bd (aR 1 v5 x7) fun v6=>
 bd (ld1 st v6) fun v7=>bd (ad 6 x1) fun v8=>bd (ld1 st v8) fun v9=>bd (aR 1 v9 x6) fun v10=>bd (ld1 st v10) fun v11=>bd (bG BinOp.lss v7 v11) fun v12=>al v12 (bd (ak BinOp.add
 x7 (i64 1)) fun v13=>yJ x1 x2 x3 x4 x5 x6 v13 R st) (bd (ad 6 x5) fun v14=>bd (ld1 st v14) fun v15=>bd (bo v15) fun v16=>bd (ak BinOp.lss x7 v16) fun v17=>al v17
 (bd (ad 6 x5) fun v18=>bd (ld1 st v18) fun v19=>bd (aR 1 v19 x7) fun v20=>bd (ld1 st v20) fun v21=>bd (ad 6 x1) fun v22=>bd (ld1 st v22) fun v23=>bd (aR 1 v23 x6) fun v24=>bd
 (ld1 st v24) fun v25=>bd (bG BinOp.eql v21 v25) fun v26=>al v26 (bd (ak BinOp.add x6 (i64 1)) fun v27=>lr x1 x2 x3 x4 x5 v27 x7 R st) (I27 x1 x2 x3 x4 x5 x6 x7 R st))
 (I27 x1 x2 x3 x4 x5 x6 x7 R st))) (bd (ad 6 x5) fun v290=>bd (ld1 st v290) fun v291=>bd (bo v291) fun v292=>bd (ak BinOp.lss x7 v292) fun v293=>al v293 (bd (ad 6 x5) fun v294=>
 bd (ld1 st v294) fun v295=>bd (aR 1 v295 x7) fun v296=>bd (ld1 st v296) fun v297=>bd (ad 6 x1) fun v298=>bd (ld1 st v298) fun v299=>bd (aR 1 v299 x6) fun v300=>bd (ld1 st v300) fun
 v301=>bd (bG BinOp.eql v297 v301) fun v302=>al v302 (bd (ak BinOp.add x6 (i64 1)) fun v303=>lr x1 x2 x3 x4 x5 v303 x7 R st) (I27 x1 x2 x3 x4 x5 x6 x7 R st)) (I27 x1 x2
 x3 x4 x5 x6 x7 R st))
theorem ui (x1 x2 x3 x4 x5 x6 x7:LV) (R:LV→aa→Prop) (st:aa):wq x1 x2 x3 x4 x5 x6 x7 R st=GU x1 x2 x3 x4 x5 x6 x7 R st:=by kernel_rfl
def sM (x:Int):Int:=min (max x (-9007199254740992)) 9007199254740992
def pos (es:List (List UInt8 × T)) (k:List UInt8):Nat:=(es.takeWhile fun e=>Op.bytesLess e.1 k).length
def ins (es:List (List UInt8 × T)) (k:List UInt8) (t:T):List (List UInt8 × T):=
 if (es[pos es k]?).map (·.1)=some k then es else es.take (pos es k)++(k,t)::es.drop (pos es k)
def fw (l:List (List UInt8 × T)):List (List UInt8 × T):=l.foldl (fun es e=>ins es e.1 e.2) []
mutual
def cln:RV→T
 | .mk k b n m s l ks=>
  if k=1 then .unknown else if k=2 then .bool b else if k=3 then .int n else if k=4 then .point (sM n) (sM m) else if k=5 then .text s
  else if k=6 then .list (GY l) else if k=7 then .map (fw (ks.zip (GY l))) else .null
def GY:List RV→List T
 | []=>[]
 | r::rs=>cln r::GY rs
end
theorem C3:∀ {l:List RV},GY l=l.map cln
 | []=>rfl
 | r::rs=>by simp[GY,C3 (l:=rs)]
mutual
def rT:T→RV
 | .null=>.mk 0 false 0 0 [] [] []
 | .unknown=>.mk 1 false 0 0 [] [] []
 | .bool b=>.mk 2 b 0 0 [] [] []
 | .int n=>.mk 3 false n 0 [] [] []
 | .point a b=>.mk 4 false a b [] [] []
 | .text s=>.mk 5 false 0 0 s [] []
 | .list l=>.mk 6 false 0 0 [] (rTs l) []
 | .map es=>.mk 7 false 0 0 [] (rTm es) (es.map (·.1))
def rTs:List T→List RV
 | []=>[]
 | t::ts=>rT t::rTs ts
def rTm:List (List UInt8 × T)→List RV
 | []=>[]
 | e::es=>rT e.2::rTm es
end
theorem A6:∀ {l:List T},rTs l=l.map rT
 | []=>rfl
 | r::rs=>by simp[rTs,A6 (l:=rs)]
theorem A8:∀ {l:List (List UInt8 × T)},rTm l=l.map fun e=>rT e.2
 | []=>rfl
 | r::rs=>by simp[rTm,A8 (l:=rs)]
theorem C4 {a b:List RV}:rcs (a++b)=rcs a++rcs b:=by simp[wc]
theorem nX:∀ {l:List RV} {n:Nat},(rcs l).take (n*7)=rcs (l.take n)
 | [],n=>by simp[rcs]
 | r::rs,0=>by simp[rcs]
 | r::rs,n+1=>by
  rw[rcs,List.take_succ_cons,rcs,show (n+1)*7=(rc r).length+n*7 by rw[jd];omega,List.take_length_add_append,nX]
theorem nY:∀ {l:List RV} {n:Nat},(rcs l).drop (n*7)=rcs (l.drop n)
 | [],n=>by simp[rcs]
 | r::rs,0=>by simp
 | r::rs,n+1=>by
  rw[rcs,List.drop_succ_cons,show (n+1)*7=(rc r).length+n*7 by rw[jd];omega,List.drop_length_add_append,nY]
theorem A9 {r:RV}:(rc r).all LV.one=true:=by rw[nP];rfl
theorem wu:∀ {l:List RV},(rcs l).all LV.one=true
 | []=>rfl
 | r::rs=>by rw[rcs,List.all_append,A9,wu];rfl
abbrev z7:List LV:=[.int .i64 0,.bool false,.int .i64 0,.int .i64 0,.str [],.nils,.nils]
theorem KK {x:RV}:ao (fun i=>some (i*7,7)) (List.replicate 1 z7).flatten [(0,vR x)]=some (rc x):=by cases x;rfl
theorem GZ {st:aa} {o:Nat} {l:List LV} (h:st[o]?=some (.cells .rw l)) (hl:l.length=7):ldA st (.ptr o 0) 7=some (.agg l):=by
 rw[ck h (by omega)]
 congr 2
 rw[List.drop_zero,List.take_of_length_le (by omega)]
theorem G0 {st:aa} {o:Nat} {l vs:List LV} (h:st[o]?=some (.cells .rw l)) (hl:l.length=7) (hv:vs.length=7) (h1:vs.all LV.one=true):stV st 7 (.ptr o 0) (.agg vs)=some (st.set o (.cells .rw vs)):=by
 have h:=eA (k:=0) (n:=7) h (by omega) h1 hv
 refine h.trans ?_
 congr 3
 simp only[bU,List.take_zero,List.nil_append,Nat.zero_add]
 rw[List.drop_eq_nil_of_le (by omega),List.append_nil]
theorem wv {f:Option Nat} {sz n:Nat}:(osl f sz n).one=true:=by cases f<;>rfl
theorem wx {st:aa} {o sz:Nat} {cs:List LV} (ho:st[o]?=some (.cells .rw cs)) (h:cs.length=1*sz):dJ st sz (.sl o 0 1 (.ex 1))=some (1,cs):=by
 simp only[dJ,ho]
 rw[if_pos (by omega),List.drop_zero,List.take_of_length_le (by omega)]
theorem wy {st:aa} {sz:Nat} {cs:List LV} (h:cs.length=1*sz):dJ (st++[.cells .rw cs]) sz (.sl st.length 0 1 (.ex 1))=some (1,cs):=wx au h
theorem G1 {r:RV} (hr:r.ok) (hrec:∀ x ∈ r.l,Pu Tryz.prog 27 [vR x] (vR (rT (cln x)))) {R:LV→aa→Prop} {o1 o2 o3:Nat} (h12:o1≠o2) (h13:o1≠o3) (h23:o2≠o3) {x5 x6 x7:LV} {z:List LV} (hz:z.length=7)
  (hR:∀ v s,dp s (vR (.mk 6 false 0 0 [] (r.l.map fun x=>rT (cln x)) [])) v→R v s) :
  ∀ (d i:Nat) (f:Option Nat) (st:aa),i+d=r.l.length→dK st o1 r→st[o2]?=some (.cells .rw z)→st[o3]?=some (.cells .rw [i64 6,.bool false,i64 0,i64 0,.str [],osl f 7 i,.nils])→
   bD .rw st f 7 i (rcs ((r.l.take i).map fun x=>rT (cln x)))→(∀ o,f=some o→o≠o1∧o≠o2∧o≠o3)→CZ (.ptr o1 0) (.ptr o2 0) (.ptr o3 0) (i64 i) x5 x6 x7 R st:=by
 intro d
 induction d with
 | zero=>
  intro i f st hi hb h2 h3 ho hf
  apply KH
  have:¬ ((i:Int)<r.l.length):=by omega
  have hi':i=r.l.length:=by omega
  have e1:=GZ h3 rfl
  have e2:=G0 (vs:=[i64 6,.bool false,i64 0,i64 0,.str [],osl f 7 i,.nils]) h2 hz rfl (by cases f<;>rfl)
  have e3:=GZ (st:=st.set o2 (.cells .rw [i64 6,.bool false,i64 0,i64 0,.str [],osl f 7 i,.nils])) (bx h2) rfl
  simp only[C0,av,Nat.zero_add,ab,hb.l,bn,ae,aA,aM,e1,e2,az,ag,e3]
  refine ⟨fun h=>absurd h this,fun _=>hR _ _ ?_⟩
  have ho':=ho.fr (st':=st.set o2 (.cells .rw [i64 6,.bool false,i64 0,i64 0,.str [],osl f 7 i,.nils])) (S:=fun j=>j=o2) (Fr.set rfl) (fun o e=>(hf o e).2.1)
  rw[List.take_of_length_le (by omega)] at ho'
  have hd:=dZ ho' rfl (bA _ lR)
  subst hi'
  refine ⟨_,rfl,_,_,rfl,rfl,_,_,rfl,rfl,_,_,rfl,rfl,_,_,rfl,rfl,_,_,rfl,rfl,_,_,rfl,?_,_,_,rfl,.inr (.inr ⟨.inr rfl,rfl,rfl⟩),rfl⟩
  rw[List.length_map];exact hd
 | succ d ih=>
  intro i f st hi hb h2 h3 ho hf
  apply KH
  have hlt:i<r.l.length:=by omega
  have hx:r.l[i]?=some r.l[i]:=List.getElem?_eq_getElem hlt
  have hp:=hrec _ (List.getElem_mem hlt)
  generalize r.l[i]=x at hx hp
  have e1:aR 7 (rL r.l) (i64 i)=some (.iptr (rcs r.l) (i*7)):=bW hlt
  have e2:ld1 st (.ptr o3 5)=some (osl f 7 i):=by rw[aU h3];rfl
  have hbig:=(RV.we hr).1
  have e2':ld1 (st++[.cells .rw (rc (rT (cln x)))]) (.ptr o3 5)=some (osl f 7 i):=by rw[aU (bH h3)];rfl
  have ho1:=ho.fr (st':=st++[.cells .rw (rc (rT (cln x)))]) (S:=fun _=>False) Fr.app (fun _ _ h=>h)
  obtain ⟨st2,f2,g1,g2,g3,g4,-⟩:=ho1.append (x:=.sl st.length 0 1 (.ex 1)) (k:=1) (new:=rc (rT (cln x))) (bytes:=96) (wy (by rw[jd])) (by omega) (by rw[jd]) A9 (cL (by unfold big at hbig;omega) (by omega))
  have hlt1:=bM (show st[o1]?=some _ from hb)
  have hlt2:=bM h2
  have hlt3:=bM h3
  have nf:∀ o,f=some o→¬ (o=o1∨o=o2∨o=o3):=fun o e h=>by have:=hf o e;rcases h with h|h|h<;>simp_all
  have kept:∀ {j:Nat} {y:aq},st[j]?=some y→(j=o1∨j=o2∨j=o3)→st2[j]?=some y:=fun {j y} hy hj=>g3.get (bH hy) (fun e=>nf j e hj)
  have k3:=kept h3 (.inr (.inr rfl))
  have e4:stV st2 1 (.ptr o3 5) (osl f2 7 (i+1))=some (st2.set o3 (.cells .rw [i64 6,.bool false,i64 0,i64 0,.str [],osl f2 7 (i+1),.nils])):=by
   rw[dz k3 (by simp) wv];rfl
  simp only[C0,av,Nat.zero_add,ab,hb.l,bn,ae,aA,aM,e1,lS hx,e2]
  refine ⟨fun _=>hp.call ⟨e2,?_⟩,fun h=>absurd (by omega:(i:Int)<r.l.length) h⟩
  rw[KK]
  simp only[bw,ag,e2',g1,true_and,ab,e4,az,aH,aI (show i<2 ^ 40 by unfold big at hbig;omega)]
  have hf2:∀ o,f2=some o→o≠o1∧o≠o2∧o≠o3:=fun o e=>by
   rcases g4 o e with h|h
   ·exact hf o h
   ·simp at h;omega
  refine ih (i+1) f2 _ (by omega) ?_ ?_ ?_ ?_ hf2
  ·exact (bq (Ne.symm h13)).trans (kept hb (.inl rfl))
  ·exact (bq (Ne.symm h23)).trans (kept h2 (.inr (.inl rfl)))
  ·exact bx k3
  ·have e5:(r.l.take (i+1)).map (fun x=>rT (cln x))=(r.l.take i).map (fun x=>rT (cln x))++[rT (cln x)]:=by
    rw[List.take_add_one,hx];simp
   rw[e5,C4,show rcs [rT (cln x)]=rc (rT (cln x)) by simp[rcs]]
   exact g2.fr (S:=fun j=>j=o3) (Fr.set rfl) (fun o e=>(hf2 o e).2.2)
structure yK (st:aa) (r:RV) (o1 o2 o5:Nat) (z:List LV) (fL fK:Option Nat) (es:List (List UInt8 × T)):Prop where
 b:dK st o1 r
 h2:st[o2]?=some (.cells .rw z)
 h5:st[o5]?=some (.cells .rw [i64 7,.bool false,i64 0,i64 0,.str [],osl fL 7 es.length,osl fK 1 es.length])
 oL:bD .rw st fL 7 es.length (rcs (es.map fun e=>rT e.2))
 oK:bD .rw st fK 1 es.length (es.map fun e=>.str e.1)
 nL:∀ o,fL=some o→o≠o1∧o≠o2∧o≠o5
 nK:∀ o,fK=some o→o≠o1∧o≠o2∧o≠o5
abbrev Ext (st st':aa):Prop:=Fr st st' (fun _=>False)
theorem Ext.more {st s s':aa} (h:Ext st s) (y:aq) (e:s'=s++[y]):Ext st s':=by subst e;exact h.trans Fr.app fun _ _ h=>h
theorem Ext.late {st s s':aa} {a:Nat} (h:Ext st s) (h':Fr s s' (fun j=>j=a)) (ha:st.length≤a):Ext st s':=h.trans h' fun j hj e=>by omega
theorem Ext.own {st s:aa} {f:Option Nat} {sz n:Nat} {cs:List LV} (h:Ext st s) (ho:bD .rw st f sz n cs):bD .rw s f sz n cs:=ho.fr h fun _ _ k=>k
theorem Ext.get {st s:aa} {o:Nat} {y:aq} (h:Ext st s) (ho:st[o]?=some y):s[o]?=some y:=Fr.get h ho fun k=>k
theorem nZ {st:aa} {f:Option Nat} {sz n:Nat} {cs:List LV} (h:bD .rw st f sz n cs):f=none→n=0:=fun e=>by subst e;exact h.2
theorem yL {l:List (List UInt8 × T)}:(l.map fun e=>LV.str e.1).all LV.one=true:=by
 rw[List.all_eq_true];intro x hx;obtain ⟨e,_,rfl⟩:=List.mem_map.1 hx;rfl
theorem t27 {st0:aa} {r:RV} {o1 o2 o5:Nat} {z:List LV} {fL fK:Option Nat} {es:List (List UInt8 × T)} (hI:yK st0 r o1 o2 o5 z fL fK es) (h15:o1≠o5) (h25:o2≠o5) {i:Nat} {x:RV} (hx:r.l[i]?=some x) (hl:r.l.length≤big)
  (hp:Pu Tryz.prog 27 [vR x] (vR (rT (cln x)))) {k:List UInt8} {p:Nat} (hpl:p≤es.length) (hb:es.length≤big) {st:aa} {g:LV} {a:Nat} (hE:Ext st0 st) (ha:st0.length≤a)
  (hg:Gr st a g 1 (p+1) ((es.map fun e=>LV.str e.1).take (p*1)++[.str k])) {x3 x4:LV} {R:LV→aa→Prop}
  (next:∀ st' fL' fK' x7,yK st' r o1 o2 o5 z fL' fK' (es.take p++(k,cln x)::es.drop p)→lr (.ptr o1 0) (.ptr o2 0) x3 x4 (.ptr o5 0) (i64 (i+1:Nat)) x7 R st') :
  T27 (.ptr o1 0) (.ptr o2 0) x3 x4 (.ptr o5 0) (i64 i) (i64 p) R g st:=by
 have hlt:=(List.getElem?_eq_some_iff.1 hx).1
 have n1:=bM (show st0[o1]?=_ from hI.b)
 have n2:=bM hI.h2
 have n5:=bM hI.h5
 have hal:=hg.lt
 have hst:=hE.len
 obtain ⟨y1,r1,q1⟩:=C2 (f:=fL) (sz:=7) (n:=es.length) (k:=p) (by omega) hpl (nZ hI.oL)
 obtain ⟨y2,r2,q2⟩:=uh (f:=fK) (sz:=1) (n:=es.length) (k:=p) (by omega) hpl (nZ hI.oK)
 obtain ⟨y3,r3,q3⟩:=uh (f:=fL) (sz:=7) (n:=es.length) (k:=p) (by omega) hpl (nZ hI.oL)
 have e1:aR 7 (rL r.l) (i64 i)=some (.iptr (rcs r.l) (i*7)):=bW hlt
 -- the values ahead
 have E1:Ext st0 (st++[.cells .rw []]):=hE.more _ rfl
 have l1:(st++[aq.cells .rw []]).length=st.length+1:=by simp
 have rm:∀ {j b:Nat},j≤es.length+2→b≤256→dX j b=true:=fun {j b} h h'=>cL (by unfold big at hb;omega) h'
 obtain ⟨s2,A2,b2,a1,a2,a3,a4⟩:=(Gr.new (st:=st) (sz:=7)).append (bytes:=96) (q1 (E1.own hI.oL)) (by rw[nX,CT];simp;omega) (by rw[nX];exact wu) (rm (by omega) (by omega))
 have E2:Ext st0 s2:=E1.late a3 (by omega)
 have l2:=a3.len
 have hb2:=a2.lt
 -- the new value
 have G3:=a2.fr (st':=s2++[.cells .rw (rc (rT (cln x)))]) (S:=fun _=>False) Fr.app (fun h=>h)
 have E3:Ext st0 (s2++[.cells .rw (rc (rT (cln x)))]):=E2.more _ rfl
 have l3:(s2++[aq.cells .rw (rc (rT (cln x)))]).length=s2.length+1:=by simp
 obtain ⟨s4,A4,b4,c1,c2,c3,c4⟩:=G3.append (bytes:=96) (wy (st:=s2) (sz:=7) (cs:=rc (rT (cln x))) (by rw[jd])) (by rw[jd]) A9 (rm (by omega) (by omega))
 have E4:Ext st0 s4:=E3.late c3 (by omega)
 have l4:=c3.len
 have hb4:=c2.lt
 -- the keys behind
 have g1:Gr s4 a g 1 (p+1) _:=(((hg.fr (S:=fun _=>False) Fr.app (fun h=>h)).fr a3 (by omega)).fr (S:=fun _=>False) (Fr.app (y:=.cells .rw (rc (rT (cln x))))) (fun h=>h)).fr c3 (by omega)
 obtain ⟨s5,A5,a5,d1,d2,d3,d4⟩:=g1.append (bytes:=16) (q2 (E4.own hI.oK)) (by simp) (by rw[List.all_eq_true];intro x hx;exact List.all_eq_true.1 yL x (List.mem_of_mem_drop hx)) (rm (by omega) (by omega))
 have E5:Ext st0 s5:=E4.late d3 (by omega)
 have l5:=d3.len
 have ha5:=d2.lt
 obtain ⟨w1,w2⟩:=d2.own (by omega)
 subst w1
 have g4:Gr s5 b4 A4 7 _ _:=c2.fr d3 (by omega)
 have k5:=E5.get hI.h5
 have f1:stV s5 1 (.ptr o5 6) (osl (some a5) 1 (p+1+(es.length-p)))=some (s5.set o5 (.cells .rw [i64 7,.bool false,i64 0,i64 0,.str [],osl fL 7 es.length,osl (some a5) 1 (p+1+(es.length-p))])):=by
  rw[dz k5 (by simp) wv];rfl
 have F6:Fr s5 (s5.set o5 (.cells .rw [i64 7,.bool false,i64 0,i64 0,.str [],osl fL 7 es.length,osl (some a5) 1 (p+1+(es.length-p))])) (fun j=>j=o5):=Fr.set rfl
 have k6:=bx (y:=aq.cells .rw [i64 7,.bool false,i64 0,i64 0,.str [],osl fL 7 es.length,osl (some a5) 1 (p+1+(es.length-p))]) k5
 have l6:=F6.len
 generalize s5.set o5 _=s6 at f1 F6 k6 l6
 have g5:=g4.fr F6 (by omega)
 have o6:=(E5.own hI.oL).fr F6 (fun o e=>(hI.nL o e).2.2)
 obtain ⟨s7,A7,b7,t1,t2,t3,t4⟩:=g5.append (bytes:=96) (q3 o6) (by rw[nY,CT];simp) (by rw[nY];exact wu) (rm (by omega) (by omega))
 have l7:=t3.len
 have hb7:=t2.lt
 obtain ⟨w3,w4⟩:=t2.own (by omega)
 subst w3
 have k7:=t3.get k6 (by omega)
 have f2:stV s7 1 (.ptr o5 5) (osl (some b7) 7 (0+p+1+(es.length-p)))=some (s7.set o5 (.cells .rw [i64 7,.bool false,i64 0,i64 0,.str [],osl (some b7) 7 (0+p+1+(es.length-p)),osl (some a5) 1 (p+1+(es.length-p))])):=by
  rw[dz k7 (by simp) wv];rfl
 have F8:Fr s7 (s7.set o5 (.cells .rw [i64 7,.bool false,i64 0,i64 0,.str [],osl (some b7) 7 (0+p+1+(es.length-p)),osl (some a5) 1 (p+1+(es.length-p))])) (fun j=>j=o5):=Fr.set rfl
 have k8:=bx (y:=aq.cells .rw [i64 7,.bool false,i64 0,i64 0,.str [],osl (some b7) 7 (0+p+1+(es.length-p)),osl (some a5) 1 (p+1+(es.length-p))]) k7
 generalize s7.set o5 _=s8 at f2 F8 k8
 rw[Nat.zero_add] at f2
 have v5:∀ {s:aa},Ext st0 s→ld1 s (.ptr o5 5)=some (osl fL 7 es.length):=fun h=>by rw[aU (h.get hI.h5)];rfl
 have v6:∀ {s:aa},Ext st0 s→ld1 s (.ptr o5 6)=some (osl fK 1 es.length):=fun h=>by rw[aU (h.get hI.h5)];rfl
 have v15:∀ {s:aa},Ext st0 s→ld1 s (.ptr o1 5)=some (rL r.l):=fun h=>dK.l (h.get hI.b)
 have v65:ld1 s6 (.ptr o5 5)=some (osl fL 7 es.length):=by rw[aU k6];rfl
 have ef:∀ {z:List LV},ao (fun i=>some (i*7,7)) (List.replicate 0 z).flatten []=some []:=rfl
 simp only[T27,av,Nat.zero_add,ab,v5 hE,GW,r1,v15 hE,e1,lS hx,ef,bw,ag,true_and,v15 E1,v5 E1,a1,v15 E2]
 refine hp.call ?_
 rw[KK]
 simp only[bw,ag,c1,Nat.zero_add,ab,v6 E4,GX,r2,d1,f1,az,v65,r3,t1,f2,ae,aH,aI (show i<2 ^ 40 by unfold big at hl;omega)]
 have en:(es.take p++(k,cln x)::es.drop p).length=es.length+1:=by simp;omega
 have m1:0+p+1+(es.length-p)=es.length+1:=by omega
 have m2:p+1+(es.length-p)=es.length+1:=by omega
 rw[m1] at k8 w4
 rw[m2] at k8 w2
 have hb7':b7≠o5:=by omega
 refine next s8 (some b7) (some a5) _ ⟨?_,?_,by rw[en];exact k8,?_,?_,?_,?_⟩
 ·exact F8.get (t3.get (F6.get (E5.get hI.b) h15) (by omega)) h15
 ·exact F8.get (t3.get (F6.get (E5.get hI.h2) h25) (by omega)) h25
 ·rw[en]
  refine bD.fr ?_ F8 (by rintro o ⟨⟩;exact hb7')
  have:rcs ((es.take p++(k,cln x)::es.drop p).map fun e=>rT e.2)=([]++(rcs (es.map fun e=>rT e.2)).take (p*7)++rc (rT (cln x)))++(rcs (es.map fun e=>rT e.2)).drop (p*7):=by
   rw[nX,nY,List.map_append,List.map_cons,C4,rcs,List.map_take,List.map_drop]
   simp
  rw[this];exact w4
 ·rw[en]
  have w2':=((w2.fr F6 (by rintro o ⟨⟩;omega)).fr t3 (by rintro o ⟨⟩;omega)).fr F8 (by rintro o ⟨⟩;omega)
  have:((es.take p++(k,cln x)::es.drop p).map fun e=>LV.str e.1)=((es.map fun e=>LV.str e.1).take (p*1)++[.str k])++(es.map fun e=>LV.str e.1).drop (p*1):=by
   rw[Nat.mul_one,List.map_append,List.map_cons,List.map_take,List.map_drop];simp
  rw[this];exact w2'
 ·rintro o ⟨⟩;omega
 ·rintro o ⟨⟩;omega
theorem i27 {st:aa} {r:RV} {o1 o2 o5:Nat} {z:List LV} {fL fK:Option Nat} {es:List (List UInt8 × T)} (hI:yK st r o1 o2 o5 z fL fK es) (h15:o1≠o5) (h25:o2≠o5) {i:Nat} {x:RV} (hx:r.l[i]?=some x) (hl:r.l.length≤big)
  (hp:Pu Tryz.prog 27 [vR x] (vR (rT (cln x)))) {k:List UInt8} (hk:r.ks[i]?=some k) {p:Nat} (hpl:p≤es.length) (hb:es.length≤big) {x3 x4:LV} {R:LV→aa→Prop}
  (next:∀ st' fL' fK' x7,yK st' r o1 o2 o5 z fL' fK' (es.take p++(k,cln x)::es.drop p)→lr (.ptr o1 0) (.ptr o2 0) x3 x4 (.ptr o5 0) (i64 (i+1:Nat)) x7 R st') :
  I27 (.ptr o1 0) (.ptr o2 0) x3 x4 (.ptr o5 0) (i64 i) (i64 p) R st:=by
 have hlt:=(List.getElem?_eq_some_iff.1 hk).1
 obtain ⟨y1,r1,q1⟩:=C2 (f:=fK) (sz:=1) (n:=es.length) (k:=p) (by omega) hpl (nZ hI.oK)
 have e1:aR 1 (sI r.ks) (i64 i)=some (.iptr (r.ks.map .str) (i*1)):=bW hlt
 have hks:(r.ks.map LV.str)[i*1]?=some (.str k):=by simp[hk]
 have v6:∀ {s:aa},Ext st s→ld1 s (.ptr o5 6)=some (osl fK 1 es.length):=fun h=>by rw[aU (h.get hI.h5)];rfl
 have v16:∀ {s:aa},Ext st s→ld1 s (.ptr o1 6)=some (sI r.ks):=fun h=>dK.ks (h.get hI.b)
 have rm:∀ {j:Nat},j≤es.length+2→dX j 16=true:=fun {j} h=>cL (by unfold big at hb;omega) (by omega)
 have ef:∀ {z:List LV},ao (fun i=>some (i*1,1)) (List.replicate 0 z).flatten []=some []:=rfl
 have ek:ao (fun i=>some (i*1,1)) (List.replicate 1 [LV.str []]).flatten [(0,.str k)]=some [.str k]:=rfl
 have ln:((es.map fun e=>LV.str e.1).take (p*1)).length=p*1:=by simp;omega
 have on:((es.map fun e=>LV.str e.1).take (p*1)).all LV.one=true:=by rw[List.all_eq_true];intro x hx;exact List.all_eq_true.1 yL x (List.mem_of_mem_take hx)
 have R0:Ext st st:=Fr.refl
 have la:∀ {s:aa} {y:aq},(s++[y]).length=s.length+1:=by simp
 simp only[I27,av,Nat.zero_add,ab,v6 R0,GW,r1,v16 R0,e1,bF,hks,ek,ef,bw,ag,true_and]
 refine ⟨?_,?_⟩
 ·have E1:Ext st (st++[.cells .rw [.str k]]):=R0.more _ rfl
  have E2:Ext st (st++[.cells .rw [.str k]]++[.cells .rw []]):=E1.more _ rfl
  obtain ⟨s3,A3,a3,c1,c2,c3,c4⟩:=(Gr.new (st:=st++[.cells .rw [.str k]]) (sz:=1)).append (bytes:=16) (q1 (E2.own hI.oK)) ln on (rm (by omega))
  have g3:s3[st.length]?=some (.cells .rw [.str k]):=c3.get (bH au) (by simp)
  have E3:Ext st s3:=E2.late c3 (by simp)
  obtain ⟨s4,A4,a4,d1,d2,d3,d4⟩:=c2.append (bytes:=16) (wx (sz:=1) g3 rfl) rfl rfl (rm (by omega))
  simp only[v6 E1,v16 E2,v6 E2,true_and,c1,ag,v16 E3,d1]
  have hc3:=c3.len
  simp only[la] at hc3
  have hc4:st.length≤a3:=by rcases c4 with h|h<;>(try simp only[la] at h)<;>omega
  refine t27 hI h15 h25 hx hl hp hpl hb (E3.late d3 hc4) (a:=a4) (by rcases d4 with h|h<;>omega) ?_ next
  rw[show p+1=0+p+1 by omega];simpa using d2
 have E1:Ext st (st++[.cells .rw []]):=R0.more _ rfl
 simp only[v16 E1,v6 E1,true_and]
 refine ⟨?_,?_⟩
 ·have E2:Ext st (st++[.cells .rw []]++[.cells .rw [.str k]]):=E1.more _ rfl
  obtain ⟨s3,A3,a3,c1,c2,c3,c4⟩:=((Gr.new (st:=st) (sz:=1)).fr (st':=st++[.cells .rw []]++[.cells .rw [.str k]]) (S:=fun _=>False) Fr.app (fun h=>h)).append (bytes:=16) (q1 (E2.own hI.oK)) ln on (rm (by omega))
  have g3:s3[(st++[aq.cells .rw []]).length]?=some (.cells .rw [.str k]):=c3.get au (by simp)
  have E3:Ext st s3:=E2.late c3 (by simp)
  obtain ⟨s4,A4,a4,d1,d2,d3,d4⟩:=c2.append (bytes:=16) (wx (sz:=1) g3 rfl) rfl rfl (rm (by omega))
  simp only[v6 E2,true_and,c1,ag,v16 E3,d1]
  have hc3:=c3.len
  simp only[la] at hc3
  have hc4:st.length≤a3:=by rcases c4 with h|h<;>(try simp only[la] at h)<;>omega
  refine t27 hI h15 h25 hx hl hp hpl hb (E3.late d3 hc4) (a:=a4) (by rcases d4 with h|h<;>omega) ?_ next
  rw[show p+1=0+p+1 by omega];simpa using d2
 ·obtain ⟨s3,A3,a3,c1,c2,c3,c4⟩:=(Gr.new (st:=st) (sz:=1)).append (bytes:=16) (q1 (E1.own hI.oK)) ln on (rm (by omega))
  have E3:Ext st s3:=E1.late c3 (by simp)
  have E4:Ext st (s3++[.cells .rw [.str k]]):=E3.more _ rfl
  obtain ⟨s4,A4,a4,d1,d2,d3,d4⟩:=(c2.fr (st':=s3++[.cells .rw [.str k]]) (S:=fun _=>False) Fr.app (fun h=>h)).append (bytes:=16) (wx (sz:=1) (o:=s3.length) au rfl) rfl rfl (rm (by omega))
  simp only[v6 E4,true_and,c1,ag,v16 E3,d1]
  have hc3:=c3.len
  simp only[la] at hc3
  have hc4:st.length≤a3:=by rcases c4 with h|h<;>(try simp only[la] at h)<;>omega
  refine t27 hI h15 h25 hx hl hp hpl hb (E4.late d3 hc4) (a:=a4) (by rcases d4 with h|h<;>(try simp only[la] at h)<;>omega) ?_ next
  rw[show p+1=0+p+1 by omega];simpa using d2
theorem oa {x y:List UInt8}:tp .lss x y=some (.bool (Op.bytesLess x y)):=rfl
theorem G2 {es:List (List UInt8 × T)} {k:List UInt8}:pos es k≤es.length:=by
 unfold pos
 exact (List.takeWhile_sublist _).length_le
theorem jg {α:Type} {q:α→Bool}:∀ {l:List α} {j:Nat} {x:α},j<(l.takeWhile q).length→l[j]?=some x→q x=true
 | [],j,x,h,_=>by simp at h
 | a::l,j,x,h,hx=>by
  by_cases ha:q a=true
  ·rw[List.takeWhile_cons_of_pos ha] at h
   cases j with
   | zero=>simp at hx;subst hx;exact ha
   | succ j=>exact jg (l:=l) (by simpa using h) (by simpa using hx)
  ·rw[List.takeWhile_cons_of_neg ha] at h;simp at h
theorem iA {α:Type} {q:α→Bool}:∀ {l:List α} {x:α},l[(l.takeWhile q).length]?=some x→q x=false
 | [],x,hx=>by simp at hx
 | a::l,x,hx=>by
  by_cases ha:q a=true
  ·rw[List.takeWhile_cons_of_pos ha] at hx
   exact iA (l:=l) (by simpa using hx)
  ·rw[List.takeWhile_cons_of_neg ha] at hx
   simp at hx;subst hx;simpa using ha
theorem N6 {st:aa} {r:RV} {o1 o2 o5:Nat} {z:List LV} {fL fK:Option Nat} {es:List (List UInt8 × T)} (hI:yK st r o1 o2 o5 z fL fK es) (h15:o1≠o5) (h25:o2≠o5) {i:Nat} {x:RV} (hx:r.l[i]?=some x) (hl:r.l.length≤big)
  (hp:Pu Tryz.prog 27 [vR x] (vR (rT (cln x)))) {k:List UInt8} (hk:r.ks[i]?=some k) (hb:es.length≤big) {x3 x4:LV} {R:LV→aa→Prop}
  (next:∀ st' fL' fK' x7,yK st' r o1 o2 o5 z fL' fK' (ins es k (cln x))→lr (.ptr o1 0) (.ptr o2 0) x3 x4 (.ptr o5 0) (i64 (i+1:Nat)) x7 R st') :
  ∀ (d j:Nat),j+d=pos es k→yJ (.ptr o1 0) (.ptr o2 0) x3 x4 (.ptr o5 0) (i64 i) (i64 j) R st:=by
 have hlt:=(List.getElem?_eq_some_iff.1 hk).1
 have hlt':=(List.getElem?_eq_some_iff.1 hx).1
 have hpl:=G2 (es:=es) (k:=k)
 have e1:aR 1 (sI r.ks) (i64 i)=some (.iptr (r.ks.map .str) (i*1)):=bW hlt
 have hks:(r.ks.map LV.str)[i*1]?=some (.str k):=by simp[hk]
 have v6:ld1 st (.ptr o5 6)=some (osl fK 1 es.length):=by rw[aU hI.h5];rfl
 have v16:ld1 st (.ptr o1 6)=some (sI r.ks):=dK.ks hI.b
 have at_:∀ {j:Nat} {e:List UInt8 × T},es[j]?=some e→∃ o,aR 1 (osl fK 1 es.length) (i64 j)=some (.ptr o (j*1))∧ld1 st (.ptr o (j*1))=some (.str e.1):=by
  intro j e hj
  have hj':=(List.getElem?_eq_some_iff.1 hj).1
  obtain ⟨o,rfl,h1⟩:=hI.oK.ix (i:=j) (kk:=.i64) (by omega) (by omega)
  refine ⟨o,by simpa using h1,hI.oK.ld ?_⟩
  simp[hj]
 intro d
 induction d with
 | zero=>
  intro j hj
  have hj':j=pos es k:=by omega
  apply KJ
  rw[← ui]
  rcases Nat.lt_or_ge j es.length with hlen|hlen
  ·obtain ⟨e,hje⟩:∃ e,es[j]?=some e:=⟨_,List.getElem?_eq_getElem hlen⟩
   obtain ⟨o,g1,g2⟩:=at_ hje
   have hst:Op.bytesLess e.1 k=false:=iA (q:=fun e:List UInt8 × T=>Op.bytesLess e.1 k) (l:=es) (x:=e) (by rw[hj'] at hje;exact hje)
   have c1:((j:Int)<es.length):=by omega
   simp only[wq,av,Nat.zero_add,ab,v6,hI.oK.bo,ae,aA,c1,decide_true,ah,g1,g2,v16,e1,bF,hks,ca,oa,hst,af,du]
   rw[bN]
   refine ⟨fun h=>?_,fun h=>?_⟩
   ·have he:e.1=k:=by simpa using h
    simp only[aH,ab,aI (show i<2 ^ 40 by unfold big at hl;omega)]
    refine next _ fL fK _ ?_
    unfold ins
    rw[if_pos (by rw[← hj',hje];simp[he])]
    exact hI
   ·have he:e.1≠k:=by simpa using h
    refine i27 hI h15 h25 hx hl hp hk (by omega) hb fun st' fL' fK' x7 h=>next st' fL' fK' x7 ?_
    unfold ins
    rw[if_neg (by rw[← hj',hje];simp[he]),← hj']
    exact h
  ·have c1:¬ ((j:Int)<es.length):=by omega
   simp only[wq,av,Nat.zero_add,ab,v6,hI.oK.bo,ae,aA,c1,decide_false,af]
   refine i27 hI h15 h25 hx hl hp hk (by omega) hb fun st' fL' fK' x7 h=>next st' fL' fK' x7 ?_
   unfold ins
   rw[if_neg (by rw[← hj',List.getElem?_eq_none (by omega)];simp),← hj']
   exact h
 | succ d ih=>
  intro j hj
  have hlen:j<es.length:=by omega
  obtain ⟨e,hje⟩:∃ e,es[j]?=some e:=⟨_,List.getElem?_eq_getElem hlen⟩
  obtain ⟨o,g1,g2⟩:=at_ hje
  have hst:Op.bytesLess e.1 k=true:=jg (q:=fun e:List UInt8 × T=>Op.bytesLess e.1 k) (l:=es) (j:=j) (by show j<pos es k;omega) hje
  have c1:((j:Int)<es.length):=by omega
  apply KJ
  rw[← ui]
  simp only[wq,av,Nat.zero_add,ab,v6,hI.oK.bo,ae,aA,c1,decide_true,ah,g1,g2,v16,e1,bF,hks,ca,oa,hst,aH,aI (show j<2 ^ 40 by unfold big at hb;omega)]
  exact ih (j+1) (by omega)
end Go.Proofs.YtknegckgmklnhaaGreatDoor
