/- Parts of the proof. -/
import Derived.Test.YtknegckgmklnhaaGreatDoorCp3
import Derived.Laws.StructEq
import Derived.ChangeKeysEq
namespace Go.CP
inductive Cls where
 | A|L|W|C|N|no
 deriving DecidableEq
def kY (P:Program) (t:TypeId):Bool:=match P.underlying t with
 | some (.map _ _)=>true
 | _=>false
def kZ (P:Program) (t:TypeId):Bool:=match P.underlying t with
 | some .string=>true
 | _=>false
def qO (P:Program) (t:TypeId):Bool:=match P.underlying t with
 | some (.slice _)=>true
 | _=>false
def vn (P:Program) (t:TypeId):Bool:=match P.underlying t with
 | some .unsafePointer=>true
 | _=>false
def vo (P:Program) (t:TypeId):Option TypeId:=match P.underlying t with
 | some (.pointer e)=>some e
 | _=>none
def cls (P:Program):Op→Cls
 | .move _ | .assign _ | .pick .. | .nilCheck _ | .binOp .. | .unOp .. | .makeInterface .. | .makeFunc .. | .field .. | .fieldAddr ..
 | .indexAddr .. | .index .. | .extract .. | .typeAssert .. | .build ..=>.A
 | .slice ty _ _ _ _=>if qO P ty then .L else .A
 | .convert src dst _=>if kZ P src&&qO P dst||qO P src&&qO P dst then .W else if qO P src&&kZ P dst||vn P src||vn P dst then .L else .A
 | .load .. | .lookup .. | .entry ..=>.L
 | .call c=>match c.callee with
  | .builtin .len=>if kY P (c.argTypes.getD 0 0) then .L else .A
  | .builtin .cap | .builtin .max | .builtin .min | .builtin .unsafeSliceData | .builtin .complex | .builtin .real | .builtin .imag=>.A
  | .builtin .unsafeString=>.W
  | .builtin .append | .builtin .clear | .builtin .copy | .builtin .delete=>.W
  | .value _=>.C
  | _=>.no
 | .alloc _ | .box .. | .buildSlice .. | .store .. | .makeMap .. | .makeSlice .. | .mapUpdate .. | .insert .. | .mapEntry .. | .entryStore .. | .range ..=>.W
 | .next ..=>.N
 | _=>.no
def uj (a b:LV):Option LV:=match a,b with
 | .int k x,.int _ y=>some (.int k (if y > x then y else x))
 | _,_=>none
def uk (a b:LV):Option LV:=match a,b with
 | .int k x,.int _ y=>some (.int k (if y<x then y else x))
 | _,_=>none
def lJ (f:LV→LV→Option LV):LV→List LV→Option LV
 | x,[]=>some x
 | x,y::ys=>match f x y with
  | some z=>lJ f z ys
  | none=>none
def gh:List LV→Option LV
 | []=>none
 | x::xs=>lJ uj x xs
def oN:List LV→Option LV
 | []=>none
 | x::xs=>lJ uk x xs
def evo (t:List LV):Option Operand→Option (Option LV)
 | none=>some none
 | some x=>match ev t x with
  | some v=>some (some v)
  | none=>none
def dQ (P:Program) (t:List LV):Op→Option LV
 | .move x | .assign x=>ev t x
 | .pick c a b=>match ev t c,ev t a,ev t b with
  | some c,some a,some b=>oM c a b
  | _,_,_=>none
 | .nilCheck x=>match ev t x with
  | some v=>de v
  | none=>none
 | .binOp op ty x y _=>match ev t x,ev t y with
  | some a,some b=>Ae P op ty (hP x||hP y) a b
  | _,_=>none
 | .unOp op _ x=>match ev t x with
  | some v=>lun op v
  | none=>none
 | .convert s d x=>match ev t x with
  | some v=>wH P s d v
  | none=>none
 | .makeInterface ty x=>match ev t x with
  | some v=>jv P ty v
  | none=>none
 | .makeFunc fn xs ys=>match evs t xs.toList,evs t ys.toList with
  | some a,some b=>some (.fn fn a b)
  | _,_=>none
 | .field ty x f=>match ev t x with
  | some v=>sQ P ty v f
  | none=>none
 | .fieldAddr ty x f=>match ev t x with
  | some v=>jt P ty v f
  | none=>none
 | .indexAddr ty x i=>match ev t x,ev t i with
  | some v,some j=>ju P ty v j
  | _,_=>none
 | .index ty x i=>match ev t x,ev t i with
  | some v,some j=>sR P ty v j
  | _,_=>none
 | .slice ty x l h m=>match ev t x,evo t l,evo t h,evo t m with
  | some v,some l,some h,some m=>ob3 l h m fun l h m=>hZ P ty v l h m
  | _,_,_,_=>none
 | .extract x i=>match ev t x with
  | some v=>ah v i
  | none=>none
 | .typeAssert x _ a ok=>match ev t x with
  | some v=>iM P v a ok
  | none=>none
 | .build ty parts=>match evp t parts.toList with
  | some ps=>sP P ty ps
  | none=>none
 | .call c=>match c.callee,evs t c.args.toList with
  | .builtin .len,some [x]=>if 0<c.argTypes.size∧kY P (c.argTypes.getD 0 0)=false then yz P [] (c.argTypes.getD 0 0) x else none
  | .builtin .cap,some [x]=>if 0<c.argTypes.size then Ah P (c.argTypes.getD 0 0) x else none
  | .builtin .max,some xs=>gh xs
  | .builtin .min,some xs=>oN xs
  | .builtin .unsafeSliceData,some [x]=>pH x
  | .builtin .complex,some [x,y]=>uh x y
  | .builtin .real,some [x]=>zF x
  | .builtin .imag,some [x]=>zG x
  | _,_=>none
 | _=>none
def iO (st:aa) (x:LV):Option LV:=match x with
 | .nils=>some (.str [])
 | .sl _ _ _ _=>match fT st 1 x with
  | some (_,cs)=>match bytesOf cs with
   | some s=>some (.str s)
   | none=>none
  | none=>none
 | _=>none
def mX (P:Program) (t:TypeId):Bool:=match P.underlying t with
 | some (.slice e)=>(match P.underlying e with|some (.int .u8)=>true|_=>false)
 | _=>false
def dV (P:Program) (t:TypeId):Nat:=match P.info? t with
 | some i=>i.bytes
 | none=>0
def gi (P:Program) (t:List LV) (st:aa):Op→Option LV
 | .load ty x=>match ev t x with
  | some v=>mS P st ty v
  | none=>none
 | .lookup ty x k ok=>match ev t x,ev t k with
  | some m,some k=>pE P st ty m k ok
  | _,_=>none
 | .entry x=>match ev t x with
  | some v=>kU st v
  | none=>none
 | .convert s d x=>match ev t x with
  | some v=>if mX P s&&kZ P d then iO st v
   else if vn P d then (match vo P s with|some e=>if known P e=true∧szT P e≠0 then Af st v else none|none=>none)
   else if vn P s then (match vo P d with|some e=>if known P e=true∧szT P e≠0 then Ag st e (szT P e) v else none|none=>none)
   else none
  | none=>none
 | .slice ty x l h m=>match ev t x,evo t l,evo t h,evo t m with
  | some v,some l,some h,some m=>ob3 l h m fun l h m=>pD P st ty v l h m
  | _,_,_,_=>none
 | .call c=>match c.callee,evs t c.args.toList with
  | .builtin .len,some [x]=>if 0<c.argTypes.size then yz P st (c.argTypes.getD 0 0) x else none
  | _,_=>none
 | _=>none
def jd (P:Program) (t:TypeId):Option TypeId:=match P.underlying t with
 | some (.slice e)=>if mV P e then some e else none
 | _=>none
def sS (P:Program) (t:TypeId):Bool:=match P.underlying t with
 | some (.int _)=>true
 | _=>false
def lmk (o:Option aa):Option (LV × aa):=match o with
 | some s=>some (af,s)
 | none=>none
def pI (bytes:Nat) (z:List LV) (st:aa) (l c:LV):Option (LV × aa):=match l,c with
 | .int .i64 l,.int .i64 c=>if 0≤l∧l≤c∧c*bytes≤2 ^ 47∧c≤2 ^ 47 then
   some (.sl st.length 0 l.toNat (.ex c.toNat),st++[.cells .rw (List.replicate c.toNat z).flatten]) else none
 | _,_=>none
def zJ (P:Program) (e:TypeId):Bool:=match P.underlying e with
 | some (.struct fs)=>match fs[0]? with
  | some f=>match P.underlying f.type with
   | some (.pointer u)=>u==e
   | _=>false
  | none=>false
 | _=>false
def jx (P:Program) (e:TypeId) (st:aa) (l:List LV):LV × aa:=if zJ P e then zy (.bt e) st l else yy st l
def yA (P:Program) (e:TypeId):Md:=match P.underlying e with
 | some (.int .u8)=>.bt e
 | _=>.rw
def mY (st:aa) (x:LV):Option (LV × aa):=match x with
 | .sl o _ _ _=>match st[o]? with
  | some (.cells m l)=>if m.w=true then some (x,st.set o (.cells .ro l)) else none
  | _=>none
 | _=>none
def eP (P:Program) (t:List LV) (st:aa):Op→Option (LV × aa)
 | .alloc e=>match eu P e with
  | some z=>some (jx P e st z.cells)
  | none=>none
 | .box _ x=>match ev t x with
  | some v=>cy st v
  | none=>none
 | .buildSlice ty n parts=>match evp t parts.toList with
  | some ps=>eO st n (ia P ty n ps)
  | none=>none
 | .store ty a x=>match ev t a,ev t x with
  | some p,some v=>lmk (sJ P st ty p v)
  | _,_=>none
 | .makeMap _ none=>some (ub st)
 | .makeSlice ty l c=>match ev t l,ev t c,jd P ty with
  | some l,some c,some e=>match eu P e with
   | some z=>pI (dV P e) z.cells st l c
   | none=>none
  | _,_,_=>none
 | .mapUpdate ty m k x=>match ev t m,ev t k,ev t x with
  | some m,some k,some v=>lmk (mu P st ty m k v)
  | _,_,_=>none
 | .insert ty m k x=>match ev t m,ev t k,ev t x with
  | some m,some k,some v=>lmk (mu P st ty m k v)
  | _,_,_=>none
 | .mapEntry ty m k=>match ev t m,ev t k with
  | some m,some k=>kR P st ty m k
  | _,_=>none
 | .entryStore _ m s x=>match ev t m,ev t s,ev t x with
  | some m,some s,some v=>lmk (kS st m s v)
  | _,_,_=>none
 | .range ty x=>match ev t x with
  | some x=>kT P st ty x
  | none=>none
 | .next it false=>match ev t it with
  | some it=>jc st it
  | none=>none
 | .convert s d x=>match ev t x with
  | some v=>if kZ P s&&mX P d then oJ st v else if (s==d)&&mX P d then mY st v else none
  | none=>none
 | .call c=>match c.callee,evs t c.args.toList with
  | .builtin .append,some [s,x]=>match jd P (c.argTypes.getD 0 0) with
   | some e=>if 1<c.argTypes.size∧sS P (c.argTypes.getD 1 0)=false∧(P.underlying (c.argTypes.getD 1 0)).isSome=true∧0<szT P e∧0<dV P e then a6 st (szT P e) (dV P e) (yA P e) s x else none
   | none=>none
  | .builtin .clear,some [x]=>if 0<c.argTypes.size then match jd P (c.argTypes.getD 0 0) with
   | some e=>match eu P e with
    | some z=>lmk (sO st z.cells x)
    | none=>none
   | none=>none
   else none
  | .builtin .copy,some [d,x]=>if 0<c.argTypes.size then match jd P (c.argTypes.getD 0 0) with
   | some e=>wz st (szT P e) d x
   | none=>none
   else none
  | .builtin .unsafeString,some [p,n]=>if 0<c.argTypes.size then (match vo P (c.argTypes.getD 0 0) with|some u=>if known P u=true∧szT P u=1 then wF st u p n else none|none=>none) else none
  | .builtin .delete,some [m,k]=>if 0<c.argTypes.size then lmk (pG P st (c.argTypes.getD 0 0) m k) else none
  | _,_=>none
 | _=>none
def jO (f:LV) (xs:List LV):Option (FuncId × List LV):=match f with
 | .fn (.func g) first captured=>some (g,first++xs++captured)
 | _=>none
def dD (t:List LV) (c:Call):Option (FuncId × List LV):=match c.callee with
 | .value f=>match ev t f,evs t c.args.toList with
  | some v,some xs=>jO v xs
  | _,_=>none
 | _=>none
def b5 (P:Program) (f:FuncId):Prop:=∃ fn c,P.funcs[f]?=some fn∧fn.body=some c∧(fn.name == "runtime.NumGoroutine")=false
def mj (w0:World) (R:LV→aa→Prop) (β:Lay) (e:Ending) (w':World):Prop:=
 ∃ β' r st' v,R r st'∧e=.returned v∧Rp β' r v∧Rel w0 β' st' w'∧β.le β'
def pJ (P:Program) (f:FuncId) (xs:List LV) (st:aa) (R:LV→aa→Prop):Prop:=
 ∀ w0 β w vs,Rel w0 β st w→Rps β xs vs→∃ u w',(callFunc f ⟨vs⟩).run P w=.ok (.value u) w'∧∃ β' r st',R r st'∧Rp β' r u∧Rel w0 β' st' w'∧β.le β'
def ak (P:Program) (f:FuncId) (xs:List LV) (st:aa) (R:LV→aa→Prop):Prop:=
 (b5 P f∧∀ w0 β w vs,Rel w0 β st w→Rps β xs vs→Calls P f ⟨vs⟩ w (mj w0 R β))∨pJ P f xs st R
inductive LX where
 | normal
 | exit (id:Nat)
 | ret
def CD:LX→Exit→Prop
 | .normal,.normal=>True
 | .exit i,.exit j=>i=j
 | .ret,.ret=>True
 | _,_=>False
def qP (w0:World) (Q:LX→List LV→aa→Prop) (β:Lay) (e:Exit) (a:Act) (w:World):Prop:=
 ∃ β' x t st,Q x t st∧CD x e∧Rps β' t a.tmps.toList∧a.defers=[]∧Rel w0 β' st w∧β.le β'
def LW (P:Program) (c:Code) (Q:LX→List LV→aa→Prop) (t:List LV) (st:aa):Prop:=
 ∀ w0 β w a,Rel w0 β st w→Rps β t a.tmps.toList→a.defers=[]→c.wp P (qP w0 Q β) a w
def Ak (P:Program) (c:Code) (Q:Exit→Act→World→Prop) (a:Act) (w:World):Prop:=
 ∀ (b:Frame) (k:List Item) (cs:List Frame),∃ e a' w',Q e a' w'∧Arrives P (lone (b.at a (.code c::.inLoop c::k)) cs w) b k cs e a' w'
def wI (P:Program) (c:Code) (Q:LX→List LV→aa→Prop) (t:List LV) (st:aa):Prop:=
 ∀ w0 β w a,Rel w0 β st w→Rps β t a.tmps.toList→a.defers=[]→Ak P c (qP w0 Q β) a w
def aW (t:List LV) (dst:Option Tmp) (v:LV):List LV:=match dst with
 | some d=>t.set d v
 | none=>t
def cZ (P:Program) (o:Oper) (t:List LV) (st:aa) (K:LV→aa→Prop):Prop:=match cls P o.op with
 | .A=>bd (dQ P t o.op) fun v=>K v st
 | .L=>bd (gi P t st o.op) fun v=>K v st
 | .W=>bd2 (eP P t st o.op) K
 | .C=>match o.op with
  | .call c=>bd2 (dD t c) fun f xs=>ak P f xs st K
  | _=>False
 | .N=>match o.op with
  | .next it false=>bd (ev t it) fun x=>fU st x K
  | _=>False
 | .no=>False
def force:List LV→(List LV→Prop)→Prop
 | [],K=>K []
 | a::l,K=>force l fun l'=>K (a::l')
theorem force_eq:∀ {l:List LV} {K:List LV→Prop},force l K=K l
 | [],_=>rfl
 | _::l,_=>by simp only[force];exact force_eq (l:=l)
def guarded (ops:Array Oper) (j:Nat):Bool:=match ops[j]? with
 | some o=>o.guard.isSome
 | none=>false
def bV (ops:Array Oper) (i:Nat):Bool:=guarded ops i&&ops.toList.any fun o=>match o.guard with
 | some (j,_)=>j==i
 | none=>false
def bw (P:Program) (ops:Array Oper):List Nat→(List LV→aa→Prop)→List LV→aa→Prop
 | [],K,t,st=>K t st
 | i::rest,K,t,st=>match ops[i]? with
  | none=>bw P ops rest K t st
  | some o=>match o.guard with
   | none=>cZ P o t st fun v st'=>bo (bV ops i) v fun v=>force (aW t o.dst v) fun t=>bw P ops rest K t st'
   | some (j,want)=>match (ops[j]?).bind (·.dst) with
    | none=>False
    | some d=>qJ (guarded ops j) (t.getD d af)
      (match want with
       | true=>cZ P o (t.set d (.bool true)) st fun v st'=>bo (bV ops i) v fun v=>force (aW (t.set d (.bool true)) o.dst v) fun t=>bw P ops rest K t st'
       | false=>force (aW (t.set d (.bool true)) o.dst af) fun t=>bw P ops rest K t st)
      (match want with
       | true=>force (aW (t.set d (.bool false)) o.dst af) fun t=>bw P ops rest K t st
       | false=>cZ P o (t.set d (.bool false)) st fun v st'=>bo (bV ops i) v fun v=>force (aW (t.set d (.bool false)) o.dst v) fun t=>bw P ops rest K t st')
      (force (aW t o.dst af) fun t=>bw P ops rest K t st)
section
variable {β:Lay} {P:Program} {w:World}
theorem Rp.undef:Rp β af undef:=⟨[],rfl,rfl⟩
theorem mZ {v:Value} {x:LV} (h:vi v=some x):Rp β x v:=by
 unfold vi at h
 split at h<;>simp at h<;>subst h<;>simp[Rp]
theorem jy:∀ {vs:List Value} {xs:List LV},vk vs=some xs→Rps β xs vs
 | [],xs,h=>by simp[vk] at h;subst h;rfl
 | v::vs,xs,h=>by
  simp only[vk] at h
  split at h
  ·rename_i x xs' h1 h2
   simp at h;subst h
   exact ⟨v,vs,rfl,mZ h1,jy h2⟩
  ·simp at h
theorem cR {v:Value} {x:LV} (h:ofV v=some x):Rp β x v:=by
 unfold ofV at h
 split at h
 ·rename_i cs
  simp at h;obtain ⟨y,hy,rfl⟩:=h
  exact ⟨cs.toList,rfl,jy hy⟩
 ·rename_i cs
  simp at h;obtain ⟨y,hy,rfl⟩:=h
  exact ⟨cs.toList,rfl,jy hy⟩
 ·exact mZ h
theorem Rps.getD {l:List LV} {vs:List Value} (h:Rps β l vs) (i:Nat):Rp β (l.getD i af) (vs.getD i undef):=by
 rcases Nat.lt_or_ge i l.length with k|k
 ·obtain ⟨u,hu,r⟩:=h.get (ba k)
  simp only[List.getD_eq_getElem?_getD,hu,ba k,Option.getD_some];exact r
 ·have:vs.length≤i:=by rw[h.length];exact k
  simp only[List.getD_eq_getElem?_getD,List.getElem?_eq_none k,List.getElem?_eq_none this,Option.getD_none];exact Rp.undef
theorem au {t:List LV} {a:Act} {x:Operand} {v:LV} (ht:Rps β t a.tmps.toList) (h:ev t x=some v):Rp β v (a.eval x):=by
 cases x with
 | tmp i=>
  simp only[ev,ao] at h;subst h
  have:=ht.getD i
  simpa[Act.eval,Array.getD_eq_getD_getElem?,List.getD_eq_getElem?_getD] using this
 | const c=>exact cR h
 | global g=>simp only[ev,ao] at h;subst h;rfl
 | func f=>simp only[ev,ao] at h;subst h;exact ⟨[],[],rfl,rfl,rfl⟩
theorem cS {t:List LV} {a:Act} (ht:Rps β t a.tmps.toList):∀ {xs:List Operand} {vs:List LV},evs t xs=some vs→Rps β vs (xs.map a.eval)
 | [],vs,h=>by simp[evs] at h;subst h;rfl
 | x::xs,vs,h=>by
  simp only[evs] at h
  split at h
  ·rename_i v vs' h1 h2
   simp at h;subst h
   exact ⟨_,_,rfl,au ht h1,cS ht h2⟩
  ·simp at h
theorem k9 {t:List LV} {a:Act} (ht:Rps β t a.tmps.toList):∀ {xs:List (Nat × Operand)} {vs:List (Nat × LV)},evp t xs=some vs→
  vs.map (·.1)=xs.map (·.1)∧Rps β (vs.map (·.2)) (xs.map fun x=>a.eval x.2)
 | [],vs,h=>by simp[evp] at h;subst h;exact ⟨rfl,rfl⟩
 | (i,x)::xs,vs,h=>by
  simp only[evp] at h
  split at h
  ·rename_i v vs' h1 h2
   simp at h;subst h
   obtain ⟨h3,h4⟩:=k9 ht h2
   exact ⟨by simp[h3],_,_,rfl,au ht h1,h4⟩
  ·simp at h
theorem vp {t:List LV} {a:Act} (ht:Rps β t a.tmps.toList) {x:Option Operand} {v:Option LV} (h:evo t x=some v) :
  (v=none∧x.map a.eval=none)∨∃ y u,v=some y∧x.map a.eval=some u∧Rp β y u:=by
 cases x with
 | none=>simp[evo] at h;subst h;exact .inl ⟨rfl,rfl⟩
 | some x=>
  simp only[evo] at h
  split at h
  ·rename_i y hy
   simp at h;subst h
   exact .inr ⟨y,_,rfl,rfl,au ht hy⟩
  ·simp at h
theorem jz {t:TypeId} (h:known P t=true):∃ i,P.info? t=some i:=by
 unfold known at h
 cases hi:P.info? t with
 | none=>simp[hi] at h
 | some i=>exact ⟨i,rfl⟩
theorem vq {t:TypeId} (h:known P t=true):∃ d,P.underlying t=some d:=by
 unfold known at h
 cases hi:P.underlying t with
 | none=>simp[hi] at h
 | some i=>exact ⟨i,rfl⟩
theorem run_sizeOf' {t:TypeId} (h:known P t=true):(sizeOf t).run P w=.ok (szT P t) w:=by
 obtain ⟨i,hi⟩:=jz h
 simp[sizeOf,typeInfo,hi,szT]
theorem run_isAgg' {t:TypeId} (h:known P t=true):(isAgg t).run P w=.ok (kP P t) w:=by
 obtain ⟨d,hd⟩:=vq h
 cases d<;>simp[isAgg,underlying,hd,kP,wy]
theorem ai {t:TypeId} {d:TypeDesc} (h:P.underlying t=some d):(underlying t).run P w=.ok d w:=by
 simp[underlying,h]
theorem dW {t:TypeId} {z:LV} (h:eu P t=some z):∃ u,(zeroValue t).run P w=.ok u w∧ofV u=some z∧(∃ i,P.info? t=some i∧i.zero=some u):=by
 unfold eu at h
 cases hi:P.info? t with
 | none=>simp[hi] at h
 | some i=>
  simp only[hi] at h
  cases hz:i.zero with
  | none=>simp[hz] at h
  | some u=>simp only[hz] at h;exact ⟨u,by simp[zeroValue,typeInfo,hi,hz],h,i,rfl,hz⟩
theorem toList_mk' (l:List UInt8):(⟨⟨l⟩⟩:ByteArray).toList=l:=by
 rw[ByteArray.toList_eq]
theorem qQ (a b:List UInt8):((⟨⟨a⟩⟩:ByteArray)==(⟨⟨b⟩⟩:ByteArray))=(a==b):=by
 rw[beq_toListBytes,toList_mk',toList_mk']
theorem sT {op:BinOp} {k:IntKind} {x y:Int} {v:LV} (hne:op≠.shl∧op≠.shr) (ty:TypeId) (h:lint op k x y=some v) :
  ∃ u,(Go.binOp op ty (.int k x) (.int k y)).run P w=.ok u w∧Rp β v u:=by
 obtain ⟨h1,h2⟩:=hne
 cases op<;>simp only[lint,ao,reduceCtorEq,ne_eq] at h h1 h2
 case quo=>
  split at h
  ·simp at h
  ·rename_i h3
   simp only[ao] at h;subst h
   exact ⟨_,by simp only[Go.binOp,ne_eq,not_true_eq_false,↓reduceIte,Op.intDiv,h3];rfl,rfl⟩
 case rem=>
  split at h
  ·simp at h
  ·rename_i h3
   simp only[ao] at h;subst h
   exact ⟨_,by simp only[Go.binOp,ne_eq,not_true_eq_false,↓reduceIte,Op.intDiv,h3];rfl,rfl⟩
 all_goals
  subst h
  exact ⟨_,by simp only[Go.binOp,ne_eq,not_true_eq_false,↓reduceIte];rfl,rfl⟩
theorem sU {op:BinOp} {x y:List UInt8} {v:LV} (ty:TypeId) (h:sM op x y=some v) :
  ∃ u,(Go.binOp op ty (.string ⟨⟨x⟩⟩) (.string ⟨⟨y⟩⟩)).run P w=.ok u w∧Rp β v u:=by
 have happ:(⟨⟨x⟩⟩:ByteArray)++(⟨⟨y⟩⟩:ByteArray)=⟨⟨x++y⟩⟩:=by
  apply ByteArray.ext
  rw[ByteArray.data_append]
  simp
 cases op<;>simp only[sM,ao,reduceCtorEq] at h
 case add=>
  split at h
  ·simp at h
  ·rename_i h3
   simp at h;subst h
   refine ⟨_,?_,rfl⟩
   simp only[Go.binOp,Op.stringOp,happ]
   rw[if_neg (show ¬ (((⟨⟨x⟩⟩:ByteArray).size+(⟨⟨y⟩⟩:ByteArray).size:Nat):Int) > IntKind.i64.max from h3)];rfl
 all_goals
  subst h
  exact ⟨_,rfl,by simp only[Rp,toList_mk']⟩
end
section
variable {β:Lay} {P:Program} {w:World}
theorem eA {t:TypeId} {cs:List LV} {vs:List Value} {off:Nat} {v:LV} (hcs:Rps β cs vs) (h:jL P t cs off=some v) :
  ∃ u,(part t ⟨vs⟩ off).run P w=.ok u w∧Rp β v u:=by
 unfold jL at h
 split at h
 ·rename_i hk
  split at h
  ·rename_i ha
   simp only[ao] at h;subst h
   refine ⟨.agg ⟨(vs.drop off).take (szT P t)⟩,?_,_,rfl,(hcs.drop off).take _⟩
   simp only[part,ae,run_isAgg' hk,ab,ha,if_true,run_sizeOf' hk,an]
   congr 1
   simp only[Value.agg.injEq]
   apply Array.ext'
   simp[List.extract]
  ·rename_i ha
   obtain ⟨u,hu,r⟩:=hcs.get h
   refine ⟨u,?_,r⟩
   simp only[part,ae,run_isAgg' hk,ab]
   simp[ha,hu]
 ·simp at h
theorem lK {t:TypeId} {fs:Array Field} (h:P.underlying t=some (.struct fs)):P.fieldsOf t=fs:=by
 simp[Program.fieldsOf,h]
section
variable {t e:TypeId} {D:Nat}
theorem jP {ms:Array (String × TypeId)} (ht:P.underlying t=some (.interface ms)):(Op.equalIn (D+1) t .nilIface .nilIface).run P w=.ok true w:=by
 simp only[Op.equalIn,ae,ai ht,ab];rfl
theorem je {ms:Array (String × TypeId)} {u:TypeId} {v:Value} (ht:P.underlying t=some (.interface ms)):(Op.equalIn (D+1) t .nilIface (.iface u v)).run P w=.ok false w:=by
 simp only[Op.equalIn,ae,ai ht,ab];rfl
theorem jf {ms:Array (String × TypeId)} {u:TypeId} {v:Value} (ht:P.underlying t=some (.interface ms)):(Op.equalIn (D+1) t (.iface u v) .nilIface).run P w=.ok false w:=by
 simp only[Op.equalIn,ae,ai ht,ab];rfl
theorem gj {ms:Array (String × TypeId)} {a b:TypeId} {u v:Value} (ht:P.underlying t=some (.interface ms)) (hne:a≠b) :
  (Op.equalIn (D+1) t (.iface a u) (.iface b v)).run P w=.ok false w:=by
 simp only[Op.equalIn,ae,ai ht,ab]
 rw[if_pos hne];rfl
theorem gm {ms:Array (String × TypeId)} {a:TypeId} {u v:Value} {i:TypeInfo} (ht:P.underlying t=some (.interface ms)) (hi:P.info? a=some i) (hc:i.comparable=true) :
  (Op.equalIn (D+1) t (.iface a u) (.iface a v)).run P w=(Op.equalIn D a u v).run P w:=by
 rw[Op.equalIn]
 simp only[ae,ai ht,ab,ne_eq,not_true_eq_false,↓reduceIte,typeInfo,run_program,hi,an,hc,dU,Bool.false_eq_true]
theorem pK {k k0:FloatKind} {a b c d:Nat} (ht:P.underlying t=some (.complex k0)) :
  (Op.equalIn (D+1) t (.complex k a b) (.complex k c d)).run P w=.ok (Op.floatEq k a c&&Op.floatEq k b d) w:=by
 rw[Op.equalIn]
 simp only[ae,ai ht,ab,↓reduceIte,an]
end
mutual
theorem eB:∀ (d:Nat) {t:TypeId} {x y:LV} {u v:Value} {r:Bool},leq P d t x y=some r→Rp β x u→Rp β y v→
  ∀ D,d≤D→(Op.equalIn D t u v).run P w=.ok r w
 | 0,_,_,_,_,_,_,h,_,_,_,_=>by simp[leq] at h
 | d+1,t,x,y,u,v,r,h,hx,hy,D,hD=>by
  obtain ⟨D,rfl⟩:∃ E,D=E+1:=⟨D-1,by omega⟩
  unfold leq at h
  split at h
  ·rename_i ht;simp only[Rp] at hx hy;subst hx;subst hy;simp only[ao] at h;subst h
   exact run_equalIn_bool w D t _ _ ht
  ·rename_i ht;simp only[Rp] at hx hy;subst hx;subst hy
   split at h
   ·rename_i hk;subst hk;simp only[ao] at h;subst h
    exact run_equalIn_int w D t _ _ _ _ ht
   ·simp at h
  ·rename_i ht;simp only[Rp] at hx hy;subst hx;subst hy;simp only[ao] at h;subst h
   rw[run_equalIn_string w D t _ _ ht,toList_mk',toList_mk']
  ·rename_i ht;simp only[Rp] at hx hy;subst hx;subst hy;simp only[ao] at h;subst h
   exact jP ht
  ·rename_i ht;obtain ⟨_,rfl,_⟩:=hy;simp only[Rp] at hx;subst hx;simp only[ao] at h;subst h
   exact je ht
  ·rename_i ht;obtain ⟨_,rfl,_⟩:=hx;simp only[Rp] at hy;subst hy;simp only[ao] at h;subst h
   exact jf ht
  ·rename_i tx vx ty vy ht;obtain ⟨u',rfl,hu'⟩:=hx;obtain ⟨v',rfl,hv'⟩:=hy
   split at h
   ·rename_i hne;simp only[ao] at h;subst h
    exact gj ht hne
   ·rename_i hne
    simp only[ne_eq,Decidable.not_not] at hne;subst hne
    split at h
    ·rename_i i hi
     split at h
     ·rename_i hc
      rw[gm ht hi hc]
      exact eB d h hu' hv' D (by omega)
     ·simp at h
    ·simp at h
  ·rename_i fs xs ys ht;obtain ⟨us,rfl,hus⟩:=hx;obtain ⟨vs,rfl,hvs⟩:=hy
   split at h
   ·simp at h
   ·rename_i hp
    rw[run_equalIn_struct w D t _ _ (by rw[lK ht];exact ht) (by simpa using hp),lK ht]
    exact jA d h hus hvs D (by omega)
  ·rename_i n e xs ys ht;obtain ⟨us,rfl,hus⟩:=hx;obtain ⟨vs,rfl,hvs⟩:=hy
   split at h
   ·rename_i hk
    obtain ⟨i,hi⟩:=jz hk
    rw[run_equalIn_array w D _ _ ht hi,List.range_eq_range']
    have hc:P.cellsOf e=szT P e:=by simp[Program.cellsOf,szT,hi]
    rw[hc]
    exact na d h hus hvs D (by omega)
   ·simp at h
  ·rename_i ht;simp only[Rp] at hx hy;subst hx;subst hy
   split at h
   ·rename_i hk;subst hk;simp only[ao] at h;subst h
    exact pK ht
   ·simp at h
  ·simp at h
theorem jA:∀ (d:Nat) {xs ys:List LV} {us vs:List Value} {fs:List Field} {r:Bool},sN P d xs ys fs=some r→Rps β xs us→Rps β ys vs→
  ∀ D,d≤D→(Op.eqFields D ⟨us⟩ ⟨vs⟩ fs).run P w=.ok r w
 | 0,_,_,_,_,_,_,h,_,_,_,_=>by simp[sN] at h
 | d+1,xs,ys,us,vs,[],r,h,hx,hy,D,hD=>by
  simp[sN] at h;subst h;simp[Op.eqFields]
 | d+1,xs,ys,us,vs,f::fs,r,h,hx,hy,D,hD=>by
  simp only[sN] at h
  simp only[Op.eqFields]
  split at h
  ·rename_i hn
   rw[if_pos hn]
   split at h
   ·rename_i a b h1 h2
    obtain ⟨u,r1,s1⟩:=eA (w:=w) hx h1
    obtain ⟨v,r2,s2⟩:=eA (w:=w) hy h2
    simp only[ae,r1,r2,ab]
    split at h
    ·rename_i h3
     rw[eB d h3 s1 s2 D (by omega)]
     simpa using jA d h hx hy D (by omega)
    ·rename_i h3
     simp only[ao] at h;subst h
     rw[eB d h3 s1 s2 D (by omega)]
     simp
    ·simp at h
   ·simp at h
  ·rename_i hn
   rw[if_neg hn]
   exact jA d h hx hy D (by omega)
theorem na:∀ (d:Nat) {e:TypeId} {xs ys:List LV} {us vs:List Value} {n i:Nat} {r:Bool},vl P d e xs ys n i=some r→Rps β xs us→Rps β ys vs→
  ∀ D,d≤D→(Op.eqItems D e (szT P e) ⟨us⟩ ⟨vs⟩ (List.range' i n)).run P w=.ok r w
 | 0,_,_,_,_,_,_,_,_,h,_,_,_,_=>by simp[vl] at h
 | d+1,e,xs,ys,us,vs,0,i,r,h,hx,hy,D,hD=>by
  simp[vl] at h;subst h;simp[Op.eqItems]
 | d+1,e,xs,ys,us,vs,n+1,i,r,h,hx,hy,D,hD=>by
  simp only[vl] at h
  simp only[List.range'_succ,Op.eqItems]
  split at h
  ·rename_i a b h1 h2
   obtain ⟨u,r1,s1⟩:=eA (w:=w) hx h1
   obtain ⟨v,r2,s2⟩:=eA (w:=w) hy h2
   simp only[ae,r1,r2,ab]
   split at h
   ·rename_i h3
    rw[eB d h3 s1 s2 D (by omega)]
    simpa using na d h hx hy D (by omega)
   ·rename_i h3
    simp only[ao] at h;subst h
    rw[eB d h3 s1 s2 D (by omega)]
    simp
   ·simp at h
  ·simp at h
end
end
end Go.CP
