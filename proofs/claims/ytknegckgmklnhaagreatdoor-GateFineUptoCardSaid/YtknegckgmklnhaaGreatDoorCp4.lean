/- Parts of the proof. -/
import Derived.Test.YtknegckgmklnhaaGreatDoorCp3
import Derived.Laws.StructEq
import Derived.ChangeKeysEq
namespace Go.CP
inductive Cls where
 | A|L|W|C|N|no
 deriving DecidableEq
def oQ (P:Program) (t:TypeId):Bool:=match P.underlying t with
 | some (.map _ _)=>true
 | _=>false
def oS (P:Program) (t:TypeId):Bool:=match P.underlying t with
 | some .string=>true
 | _=>false
def xc (P:Program) (t:TypeId):Bool:=match P.underlying t with
 | some (.slice _)=>true
 | _=>false
def DE (P:Program) (t:TypeId):Bool:=match P.underlying t with
 | some .unsafePointer=>true
 | _=>false
def DF (P:Program) (t:TypeId):Option TypeId:=match P.underlying t with
 | some (.pointer e)=>some e
 | _=>none
def cls (P:Program):Op→Cls
 | .move _ | .assign _ | .pick .. | .nilCheck _ | .binOp .. | .unOp .. | .makeInterface .. | .makeFunc .. | .field .. | .fieldAddr ..
 | .indexAddr .. | .index .. | .extract .. | .typeAssert .. | .build ..=>.A
 | .slice ty _ _ _ _=>if xc P ty then .L else .A
 | .convert src dst _=>if oS P src&&xc P dst||xc P src&&xc P dst then .W else if xc P src&&oS P dst||DE P src||DE P dst then .L else .A
 | .load .. | .lookup .. | .entry ..=>.L
 | .call c=>match c.callee with
  | .builtin .len=>if oQ P (c.argTypes.getD 0 0) then .L else .A
  | .builtin .cap | .builtin .max | .builtin .min | .builtin .unsafeSliceData | .builtin .complex | .builtin .real | .builtin .imag=>.A
  | .builtin .unsafeString=>.W
  | .builtin .append | .builtin .clear | .builtin .copy | .builtin .delete=>.W
  | .value _=>.C
  | _=>.no
 | .alloc _ | .box .. | .buildSlice .. | .store .. | .makeMap .. | .makeSlice .. | .mapUpdate .. | .insert .. | .mapEntry .. | .entryStore .. | .range ..=>.W
 | .next ..=>.N
 | _=>.no
def BV (a b:LV):Option LV:=match a,b with
 | .int k x,.int _ y=>some (.int k (if y > x then y else x))
 | _,_=>none
def xd (a b:LV):Option LV:=match a,b with
 | .int k x,.int _ y=>some (.int k (if y<x then y else x))
 | _,_=>none
def nj (f:LV→LV→Option LV):LV→List LV→Option LV
 | x,[]=>some x
 | x,y::ys=>match f x y with
  | some z=>nj f z ys
  | none=>none
def gI:List LV→Option LV
 | []=>none
 | x::xs=>nj BV x xs
def ke:List LV→Option LV
 | []=>none
 | x::xs=>nj xd x xs
def evo (t:List LV):Option Operand→Option (Option LV)
 | none=>some none
 | some x=>match ev t x with
  | some v=>some (some v)
  | none=>none
def fC (P:Program) (t:List LV):Op→Option LV
 | .move x | .assign x=>ev t x
 | .pick c a b=>match ev t c,ev t a,ev t b with
  | some c,some a,some b=>tH c a b
  | _,_,_=>none
 | .nilCheck x=>match ev t x with
  | some v=>aj v
  | none=>none
 | .binOp op ty x y _=>match ev t x,ev t y with
  | some a,some b=>KY P op ty (kr x||kr y) a b
  | _,_=>none
 | .unOp op _ x=>match ev t x with
  | some v=>lun op v
  | none=>none
 | .convert s d x=>match ev t x with
  | some v=>E0 P s d v
  | none=>none
 | .makeInterface ty x=>match ev t x with
  | some v=>mG P ty v
  | none=>none
 | .makeFunc fn xs ys=>match evs t xs.toList,evs t ys.toList with
  | some a,some b=>some (.fn fn a b)
  | _,_=>none
 | .field ty x f=>match ev t x with
  | some v=>zr P ty v f
  | none=>none
 | .fieldAddr ty x f=>match ev t x with
  | some v=>mD P ty v f
  | none=>none
 | .indexAddr ty x i=>match ev t x,ev t i with
  | some v,some j=>mF P ty v j
  | _,_=>none
 | .index ty x i=>match ev t x,ev t i with
  | some v,some j=>zt P ty v j
  | _,_=>none
 | .slice ty x l h m=>match ev t x,evo t l,evo t h,evo t m with
  | some v,some l,some h,some m=>ob3 l h m fun l h m=>ku P ty v l h m
  | _,_,_,_=>none
 | .extract x i=>match ev t x with
  | some v=>ai v i
  | none=>none
 | .typeAssert x _ a ok=>match ev t x with
  | some v=>uU P v a ok
  | none=>none
 | .build ty parts=>match evp t parts.toList with
  | some ps=>zq P ty ps
  | none=>none
 | .call c=>match c.callee,evs t c.args.toList with
  | .builtin .len,some [x]=>if 0<c.argTypes.size∧oQ P (c.argTypes.getD 0 0)=false then Iq P [] (c.argTypes.getD 0 0) x else none
  | .builtin .cap,some [x]=>if 0<c.argTypes.size then K2 P (c.argTypes.getD 0 0) x else none
  | .builtin .max,some xs=>gI xs
  | .builtin .min,some xs=>ke xs
  | .builtin .unsafeSliceData,some [x]=>uV x
  | .builtin .complex,some [x,y]=>BU x y
  | .builtin .real,some [x]=>Ka x
  | .builtin .imag,some [x]=>Kb x
  | _,_=>none
 | _=>none
def eT (st:aa) (x:LV):Option LV:=match x with
 | .nils=>some (.str [])
 | .sl _ _ _ _=>match dJ st 1 x with
  | some (_,cs)=>match bytesOf cs with
   | some s=>some (.str s)
   | none=>none
  | none=>none
 | _=>none
def q9 (P:Program) (t:TypeId):Bool:=match P.underlying t with
 | some (.slice e)=>(match P.underlying e with|some (.int .u8)=>true|_=>false)
 | _=>false
def fh (P:Program) (t:TypeId):Nat:=match P.info? t with
 | some i=>i.bytes
 | none=>0
def kj (P:Program) (t:List LV) (st:aa):Op→Option LV
 | .load ty x=>match ev t x with
  | some v=>qV P st ty v
  | none=>none
 | .lookup ty x k ok=>match ev t x,ev t k with
  | some m,some k=>uQ P st ty m k ok
  | _,_=>none
 | .entry x=>match ev t x with
  | some v=>oM st v
  | none=>none
 | .convert s d x=>match ev t x with
  | some v=>if q9 P s&&oS P d then eT st v
   else if DE P d then (match DF P s with|some e=>if known P e=true∧szT P e≠0 then KZ st v else none|none=>none)
   else if DE P s then (match DF P d with|some e=>if known P e=true∧szT P e≠0 then K0 st e (szT P e) v else none|none=>none)
   else none
  | none=>none
 | .slice ty x l h m=>match ev t x,evo t l,evo t h,evo t m with
  | some v,some l,some h,some m=>ob3 l h m fun l h m=>uP P st ty v l h m
  | _,_,_,_=>none
 | .call c=>match c.callee,evs t c.args.toList with
  | .builtin .len,some [x]=>if 0<c.argTypes.size then Iq P st (c.argTypes.getD 0 0) x else none
  | _,_=>none
 | _=>none
def ma (P:Program) (t:TypeId):Option TypeId:=match P.underlying t with
 | some (.slice e)=>if qZ P e then some e else none
 | _=>none
def zv (P:Program) (t:TypeId):Bool:=match P.underlying t with
 | some (.int _)=>true
 | _=>false
def lmk (o:Option aa):Option (LV × aa):=match o with
 | some s=>some (aK,s)
 | none=>none
def jG (bytes:Nat) (z:List LV) (st:aa) (l c:LV):Option (LV × aa):=match l,c with
 | .int .i64 l,.int .i64 c=>if 0≤l∧l≤c∧c*bytes≤2 ^ 47∧c≤2 ^ 47 then
   some (.sl st.length 0 l.toNat (.ex c.toNat),st++[.cells .rw (List.replicate c.toNat z).flatten]) else none
 | _,_=>none
def Kd (P:Program) (e:TypeId):Bool:=match P.underlying e with
 | some (.struct fs)=>match fs[0]? with
  | some f=>match P.underlying f.type with
   | some (.pointer u)=>u==e
   | _=>false
  | none=>false
 | _=>false
def mH (P:Program) (e:TypeId) (st:aa) (l:List LV):LV × aa:=if Kd P e then J5 (.bt e) st l else Ip st l
def Ir (P:Program) (e:TypeId):Md:=match P.underlying e with
 | some (.int .u8)=>.bt e
 | _=>.rw
def ra (st:aa) (x:LV):Option (LV × aa):=match x with
 | .sl o _ _ _=>match st[o]? with
  | some (.cells m l)=>if m.w=true then some (x,st.set o (.cells .ro l)) else none
  | _=>none
 | _=>none
def gN (P:Program) (t:List LV) (st:aa):Op→Option (LV × aa)
 | .alloc e=>match gd P e with
  | some z=>some (mH P e st z.cells)
  | none=>none
 | .box _ x=>match ev t x with
  | some v=>b8 st v
  | none=>none
 | .buildSlice ty n parts=>match evp t parts.toList with
  | some ps=>aP st n (kv P ty n ps)
  | none=>none
 | .store ty a x=>match ev t a,ev t x with
  | some p,some v=>lmk (zm P st ty p v)
  | _,_=>none
 | .makeMap _ none=>some (BQ st)
 | .makeSlice ty l c=>match ev t l,ev t c,ma P ty with
  | some l,some c,some e=>match gd P e with
   | some z=>jG (fh P e) z.cells st l c
   | none=>none
  | _,_,_=>none
 | .mapUpdate ty m k x=>match ev t m,ev t k,ev t x with
  | some m,some k,some v=>lmk (qC P st ty m k v)
  | _,_,_=>none
 | .insert ty m k x=>match ev t m,ev t k,ev t x with
  | some m,some k,some v=>lmk (qC P st ty m k v)
  | _,_,_=>none
 | .mapEntry ty m k=>match ev t m,ev t k with
  | some m,some k=>oI P st ty m k
  | _,_=>none
 | .entryStore _ m s x=>match ev t m,ev t s,ev t x with
  | some m,some s,some v=>lmk (gU st m s v)
  | _,_,_=>none
 | .range ty x=>match ev t x with
  | some x=>oJ P st ty x
  | none=>none
 | .next it false=>match ev t it with
  | some it=>l9 st it
  | none=>none
 | .convert s d x=>match ev t x with
  | some v=>if oS P s&&q9 P d then tF st v else if (s==d)&&q9 P d then ra st v else none
  | none=>none
 | .call c=>match c.callee,evs t c.args.toList with
  | .builtin .append,some [s,x]=>match ma P (c.argTypes.getD 0 0) with
   | some e=>if 1<c.argTypes.size∧zv P (c.argTypes.getD 1 0)=false∧(P.underlying (c.argTypes.getD 1 0)).isSome=true∧0<szT P e∧0<fh P e then ar st (szT P e) (fh P e) (Ir P e) s x else none
   | none=>none
  | .builtin .clear,some [x]=>if 0<c.argTypes.size then match ma P (c.argTypes.getD 0 0) with
   | some e=>match gd P e with
    | some z=>lmk (zp st z.cells x)
    | none=>none
   | none=>none
   else none
  | .builtin .copy,some [d,x]=>if 0<c.argTypes.size then match ma P (c.argTypes.getD 0 0) with
   | some e=>EV st (szT P e) d x
   | none=>none
   else none
  | .builtin .unsafeString,some [p,n]=>if 0<c.argTypes.size then (match DF P (c.argTypes.getD 0 0) with|some u=>if known P u=true∧szT P u=1 then EZ st u p n else none|none=>none) else none
  | .builtin .delete,some [m,k]=>if 0<c.argTypes.size then lmk (uS P st (c.argTypes.getD 0 0) m k) else none
  | _,_=>none
 | _=>none
def oT (f:LV) (xs:List LV):Option (FuncId × List LV):=match f with
 | .fn (.func g) first captured=>some (g,first++xs++captured)
 | _=>none
def gO (t:List LV) (c:Call):Option (FuncId × List LV):=match c.callee with
 | .value f=>match ev t f,evs t c.args.toList with
  | some v,some xs=>oT v xs
  | _,_=>none
 | _=>none
def cw (P:Program) (f:FuncId):Prop:=∃ fn c,P.funcs[f]?=some fn∧fn.body=some c∧(fn.name == "runtime.NumGoroutine")=false
def xe (w0:World) (R:LV→aa→Prop) (β:Lay) (e:Ending) (w':World):Prop:=
 ∃ β' r st' v,R r st'∧e=.returned v∧Rp β' r v∧Rel w0 β' st' w'∧β.le β'
def zw (P:Program) (f:FuncId) (xs:List LV) (st:aa) (R:LV→aa→Prop):Prop:=
 ∀ w0 β w vs,Rel w0 β st w→Rps β xs vs→∃ u w',(callFunc f ⟨vs⟩).run P w=.ok (.value u) w'∧∃ β' r st',R r st'∧Rp β' r u∧Rel w0 β' st' w'∧β.le β'
def ax (P:Program) (f:FuncId) (xs:List LV) (st:aa) (R:LV→aa→Prop):Prop:=
 (cw P f∧∀ w0 β w vs,Rel w0 β st w→Rps β xs vs→Calls P f ⟨vs⟩ w (xe w0 R β))∨zw P f xs st R
inductive LX where
 | normal
 | exit (id:Nat)
 | ret
def bV (t:List LV) (dst:Option Tmp) (v:LV):List LV:=match dst with
 | some d=>t.set d v
 | none=>t
def gh (P:Program) (o:Oper) (t:List LV) (st:aa) (K:LV→aa→Prop):Prop:=match cls P o.op with
 | .A=>bd (fC P t o.op) fun v=>K v st
 | .L=>bd (kj P t st o.op) fun v=>K v st
 | .W=>bd2 (gN P t st o.op) K
 | .C=>match o.op with
  | .call c=>bd2 (gO t c) fun f xs=>ax P f xs st K
  | _=>False
 | .N=>match o.op with
  | .next it false=>bd (ev t it) fun x=>kx st x K
  | _=>False
 | .no=>False
def force:List LV→(List LV→Prop)→Prop
 | [],K=>K []
 | a::l,K=>force l fun l'=>K (a::l')
theorem force_eq:∀ {l:List LV} {K:List LV→Prop},force l K=K l
 | [],_=>rfl
 | _::l,_=>by simp only[force];exact force_eq (l:=l)
def guarded (ops:Array Oper) (j:Nat):Bool:=match ops[j]? with
 | some o=>o.guard.isSome
 | none=>false
def dE (ops:Array Oper) (i:Nat):Bool:=guarded ops i&&ops.toList.any fun o=>match o.guard with
 | some (j,_)=>j==i
 | none=>false
def cg (P:Program) (ops:Array Oper):List Nat→(List LV→aa→Prop)→List LV→aa→Prop
 | [],K,t,st=>K t st
 | i::rest,K,t,st=>match ops[i]? with
  | none=>cg P ops rest K t st
  | some o=>match o.guard with
   | none=>gh P o t st fun v st'=>cr (dE ops i) v fun v=>force (bV t o.dst v) fun t=>cg P ops rest K t st'
   | some (j,want)=>match (ops[j]?).bind (·.dst) with
    | none=>False
    | some d=>Dy (guarded ops j) (t.getD d aK)
      (match want with
       | true=>gh P o (t.set d (.bool true)) st fun v st'=>cr (dE ops i) v fun v=>force (bV (t.set d (.bool true)) o.dst v) fun t=>cg P ops rest K t st'
       | false=>force (bV (t.set d (.bool true)) o.dst aK) fun t=>cg P ops rest K t st)
      (match want with
       | true=>force (bV (t.set d (.bool false)) o.dst aK) fun t=>cg P ops rest K t st
       | false=>gh P o (t.set d (.bool false)) st fun v st'=>cr (dE ops i) v fun v=>force (bV (t.set d (.bool false)) o.dst v) fun t=>cg P ops rest K t st')
      (force (bV t o.dst aK) fun t=>cg P ops rest K t st)
section
variable {β:Lay} {P:Program} {w:World}
theorem Rp.undef:Rp β aK undef:=⟨[],rfl,rfl⟩
theorem rb {v:Value} {x:LV} (h:Dz v=some x):Rp β x v:=by
 unfold Dz at h
 split at h<;>simp at h<;>subst h<;>simp[Rp]
theorem mI:∀ {vs:List Value} {xs:List LV},DA vs=some xs→Rps β xs vs
 | [],xs,h=>by simp[DA] at h;subst h;rfl
 | v::vs,xs,h=>by
  simp only[DA] at h
  split at h
  ·rename_i x xs' h1 h2
   simp at h;subst h
   exact ⟨v,vs,rfl,rb h1,mI h2⟩
  ·simp at h
theorem dP {v:Value} {x:LV} (h:ofV v=some x):Rp β x v:=by
 unfold ofV at h
 split at h
 ·rename_i cs
  simp at h;obtain ⟨y,hy,rfl⟩:=h
  exact ⟨cs.toList,rfl,mI hy⟩
 ·rename_i cs
  simp at h;obtain ⟨y,hy,rfl⟩:=h
  exact ⟨cs.toList,rfl,mI hy⟩
 ·exact rb h
theorem Rps.getD {l:List LV} {vs:List Value} (h:Rps β l vs) (i:Nat):Rp β (l.getD i aK) (vs.getD i undef):=by
 rcases Nat.lt_or_ge i l.length with k|k
 ·obtain ⟨u,hu,r⟩:=h.get (List.getElem?_eq_getElem k)
  simp only[List.getD_eq_getElem?_getD,hu,List.getElem?_eq_getElem k,Option.getD_some];exact r
 ·have:vs.length≤i:=by rw[h.length];exact k
  simp only[List.getD_eq_getElem?_getD,List.getElem?_eq_none k,List.getElem?_eq_none this,Option.getD_none];exact Rp.undef
theorem aY {t:List LV} {a:Act} {x:Operand} {v:LV} (ht:Rps β t a.tmps.toList) (h:ev t x=some v):Rp β v (a.eval x):=by
 cases x with
 | tmp i=>
  simp only[ev,Option.some.injEq] at h;subst h
  have:=ht.getD i
  simpa[Act.eval,Array.getD_eq_getD_getElem?,List.getD_eq_getElem?_getD] using this
 | const c=>exact dP h
 | global g=>simp only[ev,Option.some.injEq] at h;subst h;rfl
 | func f=>simp only[ev,Option.some.injEq] at h;subst h;exact ⟨[],[],rfl,rfl,rfl⟩
theorem ew {t:List LV} {a:Act} (ht:Rps β t a.tmps.toList):∀ {xs:List Operand} {vs:List LV},evs t xs=some vs→Rps β vs (xs.map a.eval)
 | [],vs,h=>by simp[evs] at h;subst h;rfl
 | x::xs,vs,h=>by
  simp only[evs] at h
  split at h
  ·rename_i v vs' h1 h2
   simp at h;subst h
   exact ⟨_,_,rfl,aY ht h1,ew ht h2⟩
  ·simp at h
theorem oU {t:List LV} {a:Act} (ht:Rps β t a.tmps.toList):∀ {xs:List (Nat × Operand)} {vs:List (Nat × LV)},evp t xs=some vs→
  vs.map (·.1)=xs.map (·.1)∧Rps β (vs.map (·.2)) (xs.map fun x=>a.eval x.2)
 | [],vs,h=>by simp[evp] at h;subst h;exact ⟨rfl,rfl⟩
 | (i,x)::xs,vs,h=>by
  simp only[evp] at h
  split at h
  ·rename_i v vs' h1 h2
   simp at h;subst h
   obtain ⟨h3,h4⟩:=oU ht h2
   exact ⟨by simp[h3],_,_,rfl,aY ht h1,h4⟩
  ·simp at h
theorem DG {t:List LV} {a:Act} (ht:Rps β t a.tmps.toList) {x:Option Operand} {v:Option LV} (h:evo t x=some v) :
  (v=none∧x.map a.eval=none)∨∃ y u,v=some y∧x.map a.eval=some u∧Rp β y u:=by
 cases x with
 | none=>simp[evo] at h;subst h;exact .inl ⟨rfl,rfl⟩
 | some x=>
  simp only[evo] at h
  split at h
  ·rename_i y hy
   simp at h;subst h
   exact .inr ⟨y,_,rfl,rfl,aY ht hy⟩
  ·simp at h
theorem mJ {t:TypeId} (h:known P t=true):∃ i,P.info? t=some i:=by
 unfold known at h
 cases hi:P.info? t with
 | none=>simp[hi] at h
 | some i=>exact ⟨i,rfl⟩
theorem DH {t:TypeId} (h:known P t=true):∃ d,P.underlying t=some d:=by
 unfold known at h
 cases hi:P.underlying t with
 | none=>simp[hi] at h
 | some i=>exact ⟨i,rfl⟩
theorem run_sizeOf' {t:TypeId} (h:known P t=true):(sizeOf t).run P w=.ok (szT P t) w:=by
 obtain ⟨i,hi⟩:=mJ h
 simp[sizeOf,typeInfo,hi,szT]
theorem run_isAgg' {t:TypeId} (h:known P t=true):(isAgg t).run P w=.ok (oH P t) w:=by
 obtain ⟨d,hd⟩:=DH h
 cases d<;>simp[isAgg,underlying,hd,oH,ET]
theorem aJ {t:TypeId} {d:TypeDesc} (h:P.underlying t=some d):(underlying t).run P w=.ok d w:=by
 simp[underlying,h]
theorem fi {t:TypeId} {z:LV} (h:gd P t=some z):∃ u,(zeroValue t).run P w=.ok u w∧ofV u=some z∧(∃ i,P.info? t=some i∧i.zero=some u):=by
 unfold gd at h
 cases hi:P.info? t with
 | none=>simp[hi] at h
 | some i=>
  simp only[hi] at h
  cases hz:i.zero with
  | none=>simp[hz] at h
  | some u=>simp only[hz] at h;exact ⟨u,by simp[zeroValue,typeInfo,hi,hz],h,i,rfl,hz⟩
theorem toList_mk' (l:List UInt8):(⟨⟨l⟩⟩:ByteArray).toList=l:=by
 rw[ByteArray.toList_eq]
theorem xf (a b:List UInt8):((⟨⟨a⟩⟩:ByteArray)==(⟨⟨b⟩⟩:ByteArray))=(a==b):=by
 rw[beq_toListBytes,toList_mk',toList_mk']
theorem zx {op:BinOp} {k:IntKind} {x y:Int} {v:LV} (hne:op≠.shl∧op≠.shr) (ty:TypeId) (h:lint op k x y=some v) :
  ∃ u,(Go.binOp op ty (.int k x) (.int k y)).run P w=.ok u w∧Rp β v u:=by
 obtain ⟨h1,h2⟩:=hne
 cases op<;>simp only[lint,Option.some.injEq,reduceCtorEq,ne_eq] at h h1 h2
 case quo=>
  split at h
  ·simp at h
  ·rename_i h3
   simp only[Option.some.injEq] at h;subst h
   exact ⟨_,by simp only[Go.binOp,ne_eq,not_true_eq_false,↓reduceIte,Op.intDiv,h3];rfl,rfl⟩
 case rem=>
  split at h
  ·simp at h
  ·rename_i h3
   simp only[Option.some.injEq] at h;subst h
   exact ⟨_,by simp only[Go.binOp,ne_eq,not_true_eq_false,↓reduceIte,Op.intDiv,h3];rfl,rfl⟩
 all_goals
  subst h
  exact ⟨_,by simp only[Go.binOp,ne_eq,not_true_eq_false,↓reduceIte];rfl,rfl⟩
theorem zy {op:BinOp} {x y:List UInt8} {v:LV} (ty:TypeId) (h:tp op x y=some v) :
  ∃ u,(Go.binOp op ty (.string ⟨⟨x⟩⟩) (.string ⟨⟨y⟩⟩)).run P w=.ok u w∧Rp β v u:=by
 have happ:(⟨⟨x⟩⟩:ByteArray)++(⟨⟨y⟩⟩:ByteArray)=⟨⟨x++y⟩⟩:=by
  apply ByteArray.ext
  rw[ByteArray.data_append]
  simp
 cases op<;>simp only[tp,Option.some.injEq,reduceCtorEq] at h
 case add=>
  split at h
  ·simp at h
  ·rename_i h3
   simp at h;subst h
   refine ⟨_,?_,rfl⟩
   simp only[Go.binOp,Op.stringOp,happ]
   rw[if_neg (show ¬ (((⟨⟨x⟩⟩:ByteArray).size+(⟨⟨y⟩⟩:ByteArray).size:Nat):Int) > IntKind.i64.max from h3)];rfl
 all_goals
  subst h
  exact ⟨_,rfl,by simp only[Rp,toList_mk']⟩
end
section
variable {β:Lay} {P:Program} {w:World}
theorem fD {t:TypeId} {cs:List LV} {vs:List Value} {off:Nat} {v:LV} (hcs:Rps β cs vs) (h:ni P t cs off=some v) :
  ∃ u,(part t ⟨vs⟩ off).run P w=.ok u w∧Rp β v u:=by
 unfold ni at h
 split at h
 ·rename_i hk
  split at h
  ·rename_i ha
   simp only[Option.some.injEq] at h;subst h
   refine ⟨.agg ⟨(vs.drop off).take (szT P t)⟩,?_,_,rfl,(hcs.drop off).take _⟩
   simp only[part,Sem.run_bind,run_isAgg' hk,Result.andThen_ok,ha,if_true,run_sizeOf' hk,Sem.run_pure]
   congr 1
   simp only[Value.agg.injEq]
   apply Array.ext'
   simp[List.extract]
  ·rename_i ha
   obtain ⟨u,hu,r⟩:=hcs.get h
   refine ⟨u,?_,r⟩
   simp only[part,Sem.run_bind,run_isAgg' hk,Result.andThen_ok]
   simp[ha,hu]
 ·simp at h
theorem pN {t:TypeId} {fs:Array Field} (h:P.underlying t=some (.struct fs)):P.fieldsOf t=fs:=by
 simp[Program.fieldsOf,h]
section
variable {t e:TypeId} {D:Nat}
theorem nk {ms:Array (String × TypeId)} (ht:P.underlying t=some (.interface ms)):(Op.equalIn (D+1) t .nilIface .nilIface).run P w=.ok true w:=by
 simp only[Op.equalIn,Sem.run_bind,aJ ht,Result.andThen_ok];rfl
theorem mc {ms:Array (String × TypeId)} {u:TypeId} {v:Value} (ht:P.underlying t=some (.interface ms)):(Op.equalIn (D+1) t .nilIface (.iface u v)).run P w=.ok false w:=by
 simp only[Op.equalIn,Sem.run_bind,aJ ht,Result.andThen_ok];rfl
theorem me {ms:Array (String × TypeId)} {u:TypeId} {v:Value} (ht:P.underlying t=some (.interface ms)):(Op.equalIn (D+1) t (.iface u v) .nilIface).run P w=.ok false w:=by
 simp only[Op.equalIn,Sem.run_bind,aJ ht,Result.andThen_ok];rfl
theorem ji {ms:Array (String × TypeId)} {a b:TypeId} {u v:Value} (ht:P.underlying t=some (.interface ms)) (hne:a≠b) :
  (Op.equalIn (D+1) t (.iface a u) (.iface b v)).run P w=.ok false w:=by
 simp only[Op.equalIn,Sem.run_bind,aJ ht,Result.andThen_ok]
 rw[if_pos hne];rfl
theorem jj {ms:Array (String × TypeId)} {a:TypeId} {u v:Value} {i:TypeInfo} (ht:P.underlying t=some (.interface ms)) (hi:P.info? a=some i) (hc:i.comparable=true) :
  (Op.equalIn (D+1) t (.iface a u) (.iface a v)).run P w=(Op.equalIn D a u v).run P w:=by
 rw[Op.equalIn]
 simp only[Sem.run_bind,aJ ht,Result.andThen_ok,ne_eq,not_true_eq_false,↓reduceIte,typeInfo,run_program,hi,Sem.run_pure,hc,Bool.not_true,Bool.false_eq_true]
theorem uW {k k0:FloatKind} {a b c d:Nat} (ht:P.underlying t=some (.complex k0)) :
  (Op.equalIn (D+1) t (.complex k a b) (.complex k c d)).run P w=.ok (Op.floatEq k a c&&Op.floatEq k b d) w:=by
 rw[Op.equalIn]
 simp only[Sem.run_bind,aJ ht,Result.andThen_ok,↓reduceIte,Sem.run_pure]
end
mutual
theorem fE:∀ (d:Nat) {t:TypeId} {x y:LV} {u v:Value} {r:Bool},leq P d t x y=some r→Rp β x u→Rp β y v→
  ∀ D,d≤D→(Op.equalIn D t u v).run P w=.ok r w
 | 0,_,_,_,_,_,_,h,_,_,_,_=>by simp[leq] at h
 | d+1,t,x,y,u,v,r,h,hx,hy,D,hD=>by
  obtain ⟨D,rfl⟩:∃ E,D=E+1:=⟨D-1,by omega⟩
  unfold leq at h
  split at h
  ·rename_i ht;simp only[Rp] at hx hy;subst hx;subst hy;simp only[Option.some.injEq] at h;subst h
   exact run_equalIn_bool w D t _ _ ht
  ·rename_i ht;simp only[Rp] at hx hy;subst hx;subst hy
   split at h
   ·rename_i hk;subst hk;simp only[Option.some.injEq] at h;subst h
    exact run_equalIn_int w D t _ _ _ _ ht
   ·simp at h
  ·rename_i ht;simp only[Rp] at hx hy;subst hx;subst hy;simp only[Option.some.injEq] at h;subst h
   rw[run_equalIn_string w D t _ _ ht,toList_mk',toList_mk']
  ·rename_i ht;simp only[Rp] at hx hy;subst hx;subst hy;simp only[Option.some.injEq] at h;subst h
   exact nk ht
  ·rename_i ht;obtain ⟨_,rfl,_⟩:=hy;simp only[Rp] at hx;subst hx;simp only[Option.some.injEq] at h;subst h
   exact mc ht
  ·rename_i ht;obtain ⟨_,rfl,_⟩:=hx;simp only[Rp] at hy;subst hy;simp only[Option.some.injEq] at h;subst h
   exact me ht
  ·rename_i tx vx ty vy ht;obtain ⟨u',rfl,hu'⟩:=hx;obtain ⟨v',rfl,hv'⟩:=hy
   split at h
   ·rename_i hne;simp only[Option.some.injEq] at h;subst h
    exact ji ht hne
   ·rename_i hne
    simp only[ne_eq,Decidable.not_not] at hne;subst hne
    split at h
    ·rename_i i hi
     split at h
     ·rename_i hc
      rw[jj ht hi hc]
      exact fE d h hu' hv' D (by omega)
     ·simp at h
    ·simp at h
  ·rename_i fs xs ys ht;obtain ⟨us,rfl,hus⟩:=hx;obtain ⟨vs,rfl,hvs⟩:=hy
   split at h
   ·simp at h
   ·rename_i hp
    rw[run_equalIn_struct w D t _ _ (by rw[pN ht];exact ht) (by simpa using hp),pN ht]
    exact mL d h hus hvs D (by omega)
  ·rename_i n e xs ys ht;obtain ⟨us,rfl,hus⟩:=hx;obtain ⟨vs,rfl,hvs⟩:=hy
   split at h
   ·rename_i hk
    obtain ⟨i,hi⟩:=mJ hk
    rw[run_equalIn_array w D _ _ ht hi,List.range_eq_range']
    have hc:P.cellsOf e=szT P e:=by simp[Program.cellsOf,szT,hi]
    rw[hc]
    exact rf d h hus hvs D (by omega)
   ·simp at h
  ·rename_i ht;simp only[Rp] at hx hy;subst hx;subst hy
   split at h
   ·rename_i hk;subst hk;simp only[Option.some.injEq] at h;subst h
    exact uW ht
   ·simp at h
  ·simp at h
theorem mL:∀ (d:Nat) {xs ys:List LV} {us vs:List Value} {fs:List Field} {r:Bool},zo P d xs ys fs=some r→Rps β xs us→Rps β ys vs→
  ∀ D,d≤D→(Op.eqFields D ⟨us⟩ ⟨vs⟩ fs).run P w=.ok r w
 | 0,_,_,_,_,_,_,h,_,_,_,_=>by simp[zo] at h
 | d+1,xs,ys,us,vs,[],r,h,hx,hy,D,hD=>by
  simp[zo] at h;subst h;simp[Op.eqFields]
 | d+1,xs,ys,us,vs,f::fs,r,h,hx,hy,D,hD=>by
  simp only[zo] at h
  simp only[Op.eqFields]
  split at h
  ·rename_i hn
   rw[if_pos hn]
   split at h
   ·rename_i a b h1 h2
    obtain ⟨u,r1,s1⟩:=fD (w:=w) hx h1
    obtain ⟨v,r2,s2⟩:=fD (w:=w) hy h2
    simp only[Sem.run_bind,r1,r2,Result.andThen_ok]
    split at h
    ·rename_i h3
     rw[fE d h3 s1 s2 D (by omega)]
     simpa using mL d h hx hy D (by omega)
    ·rename_i h3
     simp only[Option.some.injEq] at h;subst h
     rw[fE d h3 s1 s2 D (by omega)]
     simp
    ·simp at h
   ·simp at h
  ·rename_i hn
   rw[if_neg hn]
   exact mL d h hx hy D (by omega)
theorem rf:∀ (d:Nat) {e:TypeId} {xs ys:List LV} {us vs:List Value} {n i:Nat} {r:Bool},DB P d e xs ys n i=some r→Rps β xs us→Rps β ys vs→
  ∀ D,d≤D→(Op.eqItems D e (szT P e) ⟨us⟩ ⟨vs⟩ (List.range' i n)).run P w=.ok r w
 | 0,_,_,_,_,_,_,_,_,h,_,_,_,_=>by simp[DB] at h
 | d+1,e,xs,ys,us,vs,0,i,r,h,hx,hy,D,hD=>by
  simp[DB] at h;subst h;simp[Op.eqItems]
 | d+1,e,xs,ys,us,vs,n+1,i,r,h,hx,hy,D,hD=>by
  simp only[DB] at h
  simp only[List.range'_succ,Op.eqItems]
  split at h
  ·rename_i a b h1 h2
   obtain ⟨u,r1,s1⟩:=fD (w:=w) hx h1
   obtain ⟨v,r2,s2⟩:=fD (w:=w) hy h2
   simp only[Sem.run_bind,r1,r2,Result.andThen_ok]
   split at h
   ·rename_i h3
    rw[fE d h3 s1 s2 D (by omega)]
    simpa using rf d h hx hy D (by omega)
   ·rename_i h3
    simp only[Option.some.injEq] at h;subst h
    rw[fE d h3 s1 s2 D (by omega)]
    simp
   ·simp at h
  ·simp at h
end
end
end Go.CP
