/- Parts of the proof. -/
import Derived.Test.YtknegckgmklnhaaGreatDoorCp1
namespace Go.CP
def bd {α:Type} (o:Option α) (K:α→Prop):Prop:=match o with
 | some v=>K v
 | none=>False
def bd2 {α β:Type} (o:Option (α × β)) (K:α→β→Prop):Prop:=match o with
 | some (a,b)=>K a b
 | none=>False
def aL (v:LV) (p q:Prop):Prop:=match v with
 | .bool true=>p
 | .bool false=>q
 | _=>False
def vh (v:LV) (p q s:Prop):Prop:=match v with
 | .bool true=>p
 | .bool false=>q
 | .tup []=>s
 | _=>False
def qJ (g:Bool) (v:LV) (p q s:Prop):Prop:=match g with
 | false=>aL v p q
 | true=>vh v p q s
theorem fu {g:Bool} {v:LV} {p q s:Prop} (h:qJ g v p q s):(v=.bool true∧p)∨(v=.bool false∧q)∨(v=.tup []∧s):=by
 unfold qJ at h
 split at h
 ·unfold aL at h
  split at h
  ·exact .inl ⟨rfl,h⟩
  ·exact .inr (.inl ⟨rfl,h⟩)
  ·exact h.elim
 ·unfold vh at h
  split at h
  ·exact .inl ⟨rfl,h⟩
  ·exact .inr (.inl ⟨rfl,h⟩)
  ·exact .inr (.inr ⟨rfl,h⟩)
  ·exact h.elim
def bo (b:Bool) (v:LV) (K:LV→Prop):Prop:=match b with
 | false=>K v
 | true=>aL v (K (.bool true)) (K (.bool false))
theorem cx {b:Bool} {v:LV} {K:LV→Prop} (h:bo b v K):K v:=by
 unfold bo at h
 split at h
 ·exact h
 ·unfold aL at h
  split at h
  ·exact h
  ·exact h
  ·exact h.elim
def vi:Value→Option LV
 | .bool b=>some (.bool b)
 | .int k n=>some (.int k n)
 | .float k n=>some (.flt k n)
 | .complex k a b=>some (.cplx k a b)
 | .string s=>some (.str s.data.toList)
 | .pointer none=>some .nilp
 | .slice none 0 0=>some .nils
 | .map none=>some .nilm
 | .nilFunc=>some .nilf
 | .nilIface=>some .nili
 | _=>none
def vk:List Value→Option (List LV)
 | []=>some []
 | v::vs=>match vi v,vk vs with
  | some x,some xs=>some (x::xs)
  | _,_=>none
def ofV:Value→Option LV
 | .agg cs=>(vk cs.toList).map .agg
 | .tuple cs=>(vk cs.toList).map .tup
 | v=>vi v
def af:LV:=.tup []
def ev (t:List LV):Operand→Option LV
 | .tmp i=>some (t.getD i af)
 | .const v=>ofV v
 | .global g=>some (.dY g 0)
 | .func f=>some (.fn (.func f) [] [])
def evs (t:List LV):List Operand→Option (List LV)
 | []=>some []
 | x::xs=>match ev t x,evs t xs with
  | some v,some vs=>some (v::vs)
  | _,_=>none
def fI:aa→Nat→Option (List LV)
 | [],_=>none
 | .cells (.gl g' _) l::r,g=>if g=g' then some l else fI r g
 | _::r,g=>fI r g
def ld1 (st:aa) (p:LV):Option LV:=match p with
 | .ptr o k=>match st[o]? with
  | some (.cells _ l)=>l[k]?
  | _=>none
 | .dY g k=>match fI st g with
  | some l=>l[k]?
  | none=>none
 | .iptr cs k=>cs[k]?
 | _=>none
def ldA (st:aa) (p:LV) (n:Nat):Option LV:=match p with
 | .ptr o k=>match st[o]? with
  | some (.cells _ l)=>if k+n≤l.length then some (.agg ((l.drop k).take n)) else none
  | _=>none
 | .dY g k=>match fI st g with
  | some l=>if k+n≤l.length then some (.agg ((l.drop k).take n)) else none
  | none=>none
 | .iptr cs k=>if k+n≤cs.length then some (.agg ((cs.drop k).take n)) else none
 | _=>none
def st1 (st:aa) (p v:LV):Option aa:=match p with
 | .ptr o k=>match st[o]? with
  | some (.cells m l)=>if k<l.length∧v.one=true∧m.w=true then some (st.set o (.cells m (l.set k v))) else none
  | _=>none
 | _=>none
def bu (l:List LV) (k:Nat) (vs:List LV):List LV:=l.take k++vs++l.drop (k+vs.length)
def stA (st:aa) (p:LV) (vs:List LV):Option aa:=match p with
 | .ptr o k=>match st[o]? with
  | some (.cells m l)=>if k+vs.length≤l.length∧vs.all LV.one=true∧m.w=true then some (st.set o (.cells m (bu l k vs))) else none
  | _=>none
 | _=>none
def wy:TypeDesc→Bool
 | .struct _ | .array _ _=>true
 | _=>false
def kP (P:Program) (t:TypeId):Bool:=match P.underlying t with
 | some d=>wy d
 | none=>false
def szT (P:Program) (t:TypeId):Nat:=match P.info? t with
 | some i=>i.size
 | none=>0
def known (P:Program) (t:TypeId):Bool:=(P.info? t).isSome&&(P.underlying t).isSome
def mS (P:Program) (st:aa) (t:TypeId) (p:LV):Option LV:=
 if known P t then (if kP P t then ldA st p (szT P t) else ld1 st p) else none
def stV (st:aa) (n:Nat) (p v:LV):Option aa:=
 if v.cells.length=n∧v.ok=true then (match v with | .agg cs=>stA st p cs|v=>st1 st p v) else none
def sJ (P:Program) (st:aa) (t:TypeId) (p v:LV):Option aa:=if known P t then stV st (szT P t) p v else none
def eu (P:Program) (t:TypeId):Option LV:=match P.info? t with
 | some i=>match i.zero with
  | some v=>ofV v
  | none=>none
 | none=>none
def nw (st:aa) (l:List LV) (K:LV→aa→Prop):Prop:=K (.ptr st.length 0) (st++[.cells .rw l])
def zx (st:aa) (K:LV→aa→Prop):Prop:=K (.map st.length) (st++[.map .rw [] [] 0])
def yy (st:aa) (l:List LV):LV × aa:=(.ptr st.length 0,st++[.cells .rw l])
def nwM (m:Md) (st:aa) (l:List LV) (K:LV→aa→Prop):Prop:=K (.ptr st.length 0) (st++[.cells m l])
def zy (m:Md) (st:aa) (l:List LV):LV × aa:=(.ptr st.length 0,st++[.cells m l])
def ub (st:aa):LV × aa:=(.map st.length,st++[.map .rw [] [] 0])
def cy (st:aa) (v:LV):Option (LV × aa):=if v.ok=true then some (yy st v.cells) else none
def eO (st:aa) (n:Nat) (cs:Option (List LV)):Option (LV × aa):=match cs with
 | some cs=>some (.sl st.length 0 n (.ex n),st++[.cells .rw cs])
 | none=>none
def oJ (st:aa) (v:LV):Option (LV × aa):=match v with
 | .str s=>some (.sl st.length 0 s.length (.rest 1),st++[.cells .rw (s.map fun b=>.int .u8 b.toNat)])
 | _=>none
def lint (op:BinOp) (k:IntKind) (x y:Int):Option LV:=match op with
 | .add=>some (.int k (k.wrap (x+y)))
 | .sub=>some (.int k (k.wrap (x-y)))
 | .mul=>some (.int k (k.wrap (x*y)))
 | .quo=>if y=0 then none else some (.int k (k.wrap (x.tdiv y)))
 | .rem=>if y=0 then none else some (.int k (x.tmod y))
 | .eql=>some (.bool (x==y))
 | .neq=>some (.bool (x != y))
 | .lss=>some (.bool (x<y))
 | .leq=>some (.bool (x≤y))
 | .gtr=>some (.bool (x > y))
 | .geq=>some (.bool (x≥y))
 | .and=>some (.int k (k.wrap (BitVec.ofInt k.bits x &&& BitVec.ofInt k.bits y).toNat))
 | .or=>some (.int k (k.wrap (BitVec.ofInt k.bits x ||| BitVec.ofInt k.bits y).toNat))
 | .xor=>some (.int k (k.wrap (BitVec.ofInt k.bits x ^^^ BitVec.ofInt k.bits y).toNat))
 | _=>none
def sK (op:BinOp) (k:IntKind) (x y:Int):Option LV:=if y<0 then none else match op with
 | .shl=>some (.int k (k.wrap (x*2 ^ min y.toNat k.bits)))
 | .shr=>some (.int k (x.fdiv (2 ^ min y.toNat k.bits)))
 | _=>none
def sM (op:BinOp) (x y:List UInt8):Option LV:=match op with
 | .add=>if ((x.length+y.length:Nat):Int) > IntKind.i64.max then none else some (.str (x++y))
 | .eql=>some (.bool (x==y))
 | .neq=>some (.bool (!(x==y)))
 | .lss=>some (.bool (Op.bytesLess x y))
 | .leq=>some (.bool (Op.bytesLess x y||x==y))
 | .gtr=>some (.bool !(Op.bytesLess x y||x==y))
 | .geq=>some (.bool (!Op.bytesLess x y))
 | _=>none
def jL (P:Program) (t:TypeId) (cs:List LV) (off:Nat):Option LV:=
 if known P t then (if kP P t then some (.agg ((cs.drop off).take (szT P t))) else cs[off]?) else none
mutual
def leq (P:Program):Nat→TypeId→LV→LV→Option Bool
 | 0,_,_,_=>none
 | d+1,t,x,y=>match P.underlying t,x,y with
  | some .bool,.bool a,.bool b=>some (a==b)
  | some (.int _),.int k a,.int k' b=>if k=k' then some (a==b) else none
  | some .string,.str a,.str b=>some (a==b)
  | some (.interface _),.nili,.nili=>some true
  | some (.interface _),.nili,.iface _ _=>some false
  | some (.interface _),.iface _ _,.nili=>some false
  | some (.interface _),.iface tx vx,.iface ty vy=>if tx≠ty then some false else match P.info? tx with
   | some i=>if i.comparable then leq P d tx vx vy else none
   | none=>none
  | some (.struct fs),.agg xs,.agg ys=>if P.stoodInHeld t then none else sN P d xs ys fs.toList
  | some (.array n e),.agg xs,.agg ys=>if known P e then vl P d e xs ys n 0 else none
  | some (.complex _),.cplx k a b,.cplx k' a' b'=>if k=k' then some (Op.floatEq k a a' && Op.floatEq k b b') else none
  | _,_,_=>none
def sN (P:Program):Nat→List LV→List LV→List Field→Option Bool
 | 0,_,_,_=>none
 | _+1,_,_,[]=>some true
 | d+1,xs,ys,f::fs=>if f.name ≠ "_" then match jL P f.type xs f.offset,jL P f.type ys f.offset with
   | some a,some b=>match leq P d f.type a b with
    | some true=>sN P d xs ys fs
    | some false=>some false
    | none=>none
   | _,_=>none
  else sN P d xs ys fs
def vl (P:Program):Nat→TypeId→List LV→List LV→Nat→Nat→Option Bool
 | 0,_,_,_,_,_=>none
 | _+1,_,_,_,0,_=>some true
 | d+1,e,xs,ys,n+1,i=>match jL P e xs (i*szT P e),jL P e ys (i*szT P e) with
   | some a,some b=>match leq P d e a b with
    | some true=>vl P d e xs ys n (i+1)
    | some false=>some false
    | none=>none
   | _,_=>none
end
def iL:Nat:=64
def hP:Operand→Bool
 | .const _=>true
 | _=>false
def aU (op:BinOp) (a b:LV):Option LV:=match a,b with
 | .int k a,.int k' b=>if k=k' then lint op k a b else none
 | _,_=>none
def pB (op:BinOp) (a b:LV):Option LV:=match a,b with
 | .int k a,.int _ b=>sK op k a b
 | _,_=>none
def pC (op:BinOp) (a b:LV):Option LV:=match a,b with
 | .str a,.str b=>sM op a b
 | _,_=>none
def mT (op:BinOp) (r:Bool):Option LV:=match op with
 | .eql=>some (.bool r)
 | .neq=>some (.bool (!r))
 | _=>none
def eqB (op:BinOp) (r:Option Bool):Option LV:=r.bind (mT op)
def zA (op:BinOp) (a b:LV):Option LV:=match a,b with
 | .bool a,.bool b=>mT op (a==b)
 | _,_=>none
def jM (kn:Bool) (a b:LV):Option Bool:=match a,b with
 | .nilp,.nilp=>some true
 | .nilp,.ptr _ _=>some false
 | .ptr _ _,.nilp=>some false
 | .ptr o k,.ptr o' k'=>if kn=true∧o=o'∧k=k' then some true else none
 | .nilp,.iptr _ _=>some false
 | .iptr _ _,.nilp=>some false
 | _,_=>none
def qK (a b:LV):Option Bool:=match a,b with
 | .nils,.nils=>some true
 | .nils,.sl _ _ _ _=>some false
 | .nils,.emp=>some false
 | .sl _ _ _ _,.nils=>some false
 | .emp,.nils=>some false
 | .nils,.isl _ len _=>if 0<len then some false else none
 | .isl _ len _,.nils=>if 0<len then some false else none
 | _,_=>none
def uc (a b:LV):Option Bool:=match a,b with
 | .nilm,.nilm=>some true
 | .nilm,.map _=>some false
 | .map _,.nilm=>some false
 | .nilm,.imap _ _=>some false
 | .imap _ _,.nilm=>some false
 | _,_=>none
def BF (a b:LV):Option Bool:=match a,b with
 | .nilf,.nilf=>some true
 | .nilf,.fn _ _ _=>some false
 | .fn _ _ _,.nilf=>some false
 | _,_=>none
def mi (nn:Bool) (e:TypeId→LV→LV→Option Bool) (a b:LV):Option Bool:=match a,b with
 | .nili,.nili=>if nn then some true else none
 | .nili,.iface _ _=>some false
 | .iface _ _,.nili=>some false
 | .iface tx vx,.iface ty vy=>if tx≠ty then some false else e tx vx vy
 | _,_=>none
def ud (e:LV→LV→Option Bool) (a b:LV):Option Bool:=match a,b with
 | .agg xs,.agg ys=>e (.agg xs) (.agg ys)
 | _,_=>none
def e9 (P:Program) (t:TypeId) (x y:LV):Option Bool:=match P.info? t with
 | some i=>if i.comparable then leq P iL t x y else none
 | none=>none
def Ae (P:Program) (op:BinOp) (t:TypeId) (c:Bool) (a b:LV):Option LV:=match op with
 | .shl=>pB .shl a b
 | .shr=>pB .shr a b
 | op=>match P.underlying t with
  | some (.int _)=>aU op a b
  | some .string=>pC op a b
  | some .bool=>zA op a b
  | some (.pointer e)=>eqB op (jM (known P e) a b)
  | some (.slice _)=>eqB op (qK a b)
  | some (.map _ _)=>eqB op (uc a b)
  | some (.func _ _ _)=>eqB op (BF a b)
  | some (.interface ms)=>eqB op (mi (c||ms.isEmpty) (e9 P) a b)
  | some (.struct _)=>if P.eqGuardType P.depth t then none else eqB op (ud (leq P iL t) a b)
  | some (.array _ _)=>if P.eqGuardType P.depth t then none else eqB op (ud (leq P iL t) a b)
  | _=>none
def lun (op:UnOp) (a:LV):Option LV:=match op,a with
 | .neg,.int k n=>some (.int k (k.wrap (0-n)))
 | .not,.bool b=>some (.bool (!b))
 | _,_=>none
def hU:Option LV→Option (Option Nat)
 | none=>some none
 | some (.int _ n)=>if 0≤n then some (some n.toNat) else none
 | _=>none
def ob3 (l h m:Option LV) (F:Option Nat→Option Nat→Option Nat→Option LV):Option LV:=match hU l,hU h,hU m with
 | some l,some h,some m=>F l h m
 | _,_,_=>none
def kQ (sz:Nat) (o k len:Nat) (ci:cK) (l h m:Option Nat):Option LV:=
 let lo:=l.getD 0
 let hi:=h.getD len
 match m with
 | some m=>match ci with
  | .ex c=>if lo≤hi∧hi≤m∧m≤c∧h.isSome=true then some (.sl o (if m=lo then k else k+lo*sz) (hi-lo) (.ex (m-lo))) else none
  | .rest _=>if lo≤hi∧hi≤m∧m≤len∧h.isSome=true then some (.sl o (if m=lo then k else k+lo*sz) (hi-lo) (.ex (m-lo))) else none
 | none=>match ci with
  | .ex c=>if lo≤hi∧hi≤c then some (.sl o (if c=lo then k else k+lo*sz) (hi-lo) (.ex (c-lo))) else none
  | .rest s=>if s=sz∧0<sz∧lo≤hi∧hi≤len then (if lo=0 then some (.sl o k hi (.rest s)) else if lo<hi then some (.sl o (k+lo*sz) (hi-lo) (.rest s)) else some .emp) else none
def zB (x:LV) (l h m:Option Nat):Option LV:=match x,m with
 | .str s,none=>if l.getD 0≤h.getD s.length∧h.getD s.length≤s.length then some (.str ((s.drop (l.getD 0)).take (h.getD s.length-l.getD 0))) else none
 | _,_=>none
def mU (sz:Nat) (x:LV) (l h m:Option Nat):Option LV:=match x with
 | .sl o k len ci=>kQ sz o k len ci l h m
 | .nils=>if l.getD 0=0∧h.getD 0=0∧m.getD 0=0∧(m.isSome=true→h.isSome=true) then some .nils else none
 | .emp=>if l.getD 0=0∧h.getD 0=0∧m=none then some .emp else none
 | .isl cs len _=>if cs.length=len*sz∧l.getD 0≤h.getD len∧h.getD len≤m.getD len∧m.getD len≤len∧(m.isSome=true→h.isSome=true) then
   some (.isl ((cs.drop (l.getD 0*sz)).take ((h.getD len-l.getD 0)*sz)) (h.getD len-l.getD 0) (m.map fun m=>m-l.getD 0)) else none
 | _=>none
def zC (n sz:Nat) (x:LV) (l h m:Option Nat):Option LV:=match x with
 | .ptr o k=>if l.getD 0≤h.getD n∧h.getD n≤m.getD n∧m.getD n≤n∧(m.isSome=true→h.isSome=true) then
   some (.sl o (if m.getD n=l.getD 0 then k else k+l.getD 0*sz) (h.getD n-l.getD 0) (.ex (m.getD n-l.getD 0))) else none
 | _=>none
def hZ (P:Program) (t:TypeId) (x:LV) (l h m:Option Nat):Option LV:=match P.underlying t with
 | some .string=>zB x l h m
 | some (.slice e)=>if known P e then mU (szT P e) x l h m else none
 | some (.array n e)=>if known P e then zC n (szT P e) x l h m else none
 | _=>none
def cq (st:aa) (sz:Nat) (x:LV) (l h m:Option Nat):Option LV:=match x,h with
 | .sl o k len (.rest s),some hi=>if hi≤len then mU sz (.sl o k len (.rest s)) l (some hi) m else match st[o]? with
  | some (.cells _ c)=>if s=sz∧0<sz∧k+hi*sz≤c.length then mU sz (.sl o k hi (.rest s)) l (some hi) m else none
  | _=>none
 | x,h=>mU sz x l h m
def pD (P:Program) (st:aa) (t:TypeId) (x:LV) (l h m:Option Nat):Option LV:=match P.underlying t with
 | some (.slice e)=>if known P e then cq st (szT P e) x l h m else none
 | _=>none
def fT (st:aa) (sz:Nat):LV→Option (Nat × List LV)
 | .nils=>some (0,[])
 | .emp=>some (0,[])
 | .str s=>if sz=1 then some (s.length,s.map fun b=>.int .u8 b.toNat) else none
 | .sl o k len _=>match st[o]? with
  | some (.cells _ l)=>if k+len*sz≤l.length then some (len,(l.drop k).take (len*sz)) else none
  | _=>none
 | .isl cs len _=>if cs.length=len*sz then some (len,cs) else none
 | _=>none
def dn (n bytes:Nat):Bool:=n*bytes≤2 ^ 47&&n≤2 ^ 47
def ez (m m0:Md) (k:Nat):Md:=if m=m0∧k=0 then m else .rw
def a6 (st:aa) (sz bytes:Nat) (m0:Md) (s x:LV):Option (LV × aa):=match fT st sz x with
 | none=>none
 | some (n,new)=>match s with
  | .nils=>if n=0 then some (.nils,st) else if dn n bytes then some (.sl st.length 0 n (.rest sz),st++[.cells m0 new]) else none
  | .emp=>if n=0 then some (.emp,st) else none
  | .sl o k len ci=>if n=0 then some (.sl o k len ci,st) else match st[o]? with
   | some (.cells m l)=>match ci with
    | .ex c=>if len+n≤c then
       (if m.w=true∧k+(len+n)*sz≤l.length∧new.all LV.one=true then some (.sl o k (len+n) (.ex c),st.set o (.cells m (bu l (k+len*sz) new))) else none)
      else if dn (len+n) bytes∧k+len*sz≤l.length then some (.sl st.length 0 (len+n) (.rest sz),st++[.cells m0 ((l.drop k).take (len*sz)++new)]) else none
    | .rest s=>if s=sz∧m.w=true∧new.all LV.one=true then
       (if k+(len+n)*sz≤l.length then some (.sl o k (len+n) (.rest s),st.set o (.cells m (bu l (k+len*sz) new)))
        else if dn (len+n) bytes∧k+len*sz≤l.length then some (.sl st.length 0 (len+n) (.rest sz),st.set o .dead++[.cells (ez m m0 k) ((l.drop k).take (len*sz)++new)]) else none)
      else none
   | _=>none
  | _=>none
def sO (st:aa) (zero:List LV) (x:LV):Option aa:=match x with
 | .nils | .emp | .sl _ _ 0 _=>some st
 | .sl o k len _=>match st[o]? with
  | some (.cells m l)=>if k+len*zero.length≤l.length∧zero.all LV.one=true∧m.w=true then some (st.set o (.cells m (bu l k (List.replicate len zero).flatten))) else none
  | _=>none
 | _=>none
def wz (st:aa) (sz:Nat) (d x:LV):Option (LV × aa):=match fT st sz x with
 | none=>none
 | some (n,cs)=>match d with
  | .nils | .emp=>some (.int .i64 0,st)
  | .sl o k len _=>match st[o]? with
   | some (.cells m l)=>if k+len*sz≤l.length∧cs.all LV.one=true∧m.w=true then some (.int .i64 (min n len:Nat),st.set o (.cells m (bu l k (cs.take (min n len*sz))))) else none
   | _=>none
  | _=>none
def aV (place:Nat→Option (Nat × Nat)) (cells:List LV):List (Nat × LV)→Option (List LV)
 | []=>some cells
 | (i,v)::rest=>match place i with
  | none=>none
  | some (off,size)=>if v.cells.length=size∧off+size≤cells.length∧v.ok=true then aV place (bu cells off v.cells) rest else none
def evp (t:List LV):List (Nat × Operand)→Option (List (Nat × LV))
 | []=>some []
 | (i,x)::xs=>match ev t x,evp t xs with
  | some v,some vs=>some ((i,v)::vs)
  | _,_=>none
def bG (o:Option (List LV)):Option LV:=o.map .agg
def aQ (l:List (Nat × Nat)) (i:Nat):Option (Nat × Nat):=l[i]?
def mr (P:Program) (fs:Array Field):List (Nat × Nat):=fs.toList.map fun f=>(f.offset,szT P f.type)
def sP (P:Program) (t:TypeId) (parts:List (Nat × LV)):Option LV:=match eu P t,P.underlying t with
 | some z,some (.struct fs)=>if fs.toList.all (fun f=>known P f.type) then bG (aV (aQ (mr P fs)) z.cells parts) else none
 | some z,some (.array _ e)=>if known P e then bG (aV (fun i=>some (i*szT P e,szT P e)) z.cells parts) else none
 | _,_=>none
def mV (P:Program) (e:TypeId):Bool:=known P e&&(match eu P e with
 | some z=>z.cells.length==szT P e&&z.cells.all LV.one
 | none=>false)
def ia (P:Program) (t:TypeId) (len:Nat) (parts:List (Nat × LV)):Option (List LV):=match P.underlying t with
 | some (.slice e)=>if len*szT P e≤2 ^ 24∧mV P e=true then match eu P e with
   | some z=>aV (fun i=>some (i*szT P e,szT P e)) (List.replicate len z.cells).flatten parts
   | none=>none
  else none
 | _=>none
def fJ:LV→LV→Option Bool
 | .str a,.str b=>some (a==b)
 | .int k a,.int k' b=>if k=k' then some (a==b) else none
 | _,_=>none
def cY (k:LV):List (LV × LV)→Option (Option LV)
 | []=>some none
 | e::es=>match fJ k e.1 with
  | some true=>some (some e.2)
  | some false=>cY k es
  | none=>none
def ow (k v:LV):List (LV × LV)→Option (List (LV × LV))
 | []=>some [(k,v)]
 | e::es=>match fJ k e.1 with
  | some true=>some ((k,v)::es)
  | some false=>(ow k v es).map (e::·)
  | none=>none
def wB (k:LV):List (LV × LV)→Option (List (LV × LV))
 | []=>some []
 | e::es=>match fJ k e.1 with
  | some true=>some es
  | some false=>(wB k es).map (e::·)
  | none=>none
def keyOf:TypeDesc→Option Bool
 | .string=>some true
 | .int _=>some false
 | _=>none
def plainKey (s:Bool):LV→Bool
 | .str _=>s
 | .int _ _=>!s
 | _=>false
def mapOf (st:aa) (m:LV):Option (List (LV × LV)):=match m with
 | .nilm=>some []
 | .map o=>match st[o]? with
  | some (.map _ es _ _)=>some es
  | _=>none
 | _=>none
def cA:List LV→List (List UInt8)→Option (List (List UInt8))
 | [],_=>some []
 | .str s::ks,seen=>if s ∈ seen then none else (cA ks (s::seen)).map (s::·)
 | _,_=>none
def ue (s:Bool) (z:Option LV) (ks vs:List LV) (k:LV) (ok:Bool):Option LV:=if s=true∧plainKey true k=true∧(cA ks []).isSome=true∧ks.length=vs.length then
  match cY k (ks.zip vs),z with
  | some (some v),_=>some (if ok then .tup [v,.bool true] else v)
  | some none,some z=>some (if ok then .tup [z,.bool false] else z)
  | _,_=>none
 else none
def uf (st:aa) (s:Bool) (z:Option LV) (m k:LV) (ok:Bool):Option LV:=if plainKey s k then
  match mapOf st m with
  | some es=>match cY k es,z with
   | some (some v),_=>some (if ok then .tup [v,.bool true] else v)
   | some none,some z=>some (if ok then .tup [z,.bool false] else z)
   | _,_=>none
  | none=>none
 else none
def jb (st:aa) (s:Bool) (z:Option LV) (m k:LV) (ok:Bool):Option LV:=match m with
 | .imap ks vs=>ue s z ks vs k ok
 | m=>uf st s z m k ok
def qL (P:Program) (t:TypeId):Option Bool:=match P.underlying t with
 | some d=>keyOf d
 | none=>none
def pE (P:Program) (st:aa) (t:TypeId) (m k:LV) (ok:Bool):Option LV:=match P.underlying t with
 | some (.map kt e)=>match qL P kt with
  | some s=>jb st s (eu P e) m k ok
  | none=>none
 | _=>none
def pF (k:LV):List (LV × LV)→Nat
 | []=>0
 | e::es=>match fJ k e.1 with
  | some true=>0
  | _=>pF k es+1
def jN (es es':List (LV × LV)) (bs:List Nat) (n:Nat):al:=
 if es'.length=es.length then .map .rw es' bs n else .map .rw es' (bs++[n]) (n+1)
def ox (st:aa) (s:Bool) (m k v:LV):Option aa:=if plainKey s k then match m with
  | .map o=>match st[o]? with
   | some (.map .rw es bs n)=>match ow k v es with
    | some es'=>some (st.set o (jN es es' bs n))
    | none=>none
   | _=>none
  | _=>none
 else none
def mu (P:Program) (st:aa) (t:TypeId) (m k v:LV):Option aa:=match P.underlying t with
 | some (.map kt _)=>match qL P kt with
  | some s=>ox st s m k v
  | none=>none
 | _=>none
def BG (st:aa) (s:Bool) (m k:LV):Option aa:=if plainKey s k then match m with
  | .map o=>match st[o]? with
   | some (.map .rw es bs n)=>match wB k es with
    | some es'=>some (st.set o (.map .rw es' (if es'.length=es.length then bs else bs.eraseIdx (pF k es)) n))
    | none=>none
   | _=>none
  | _=>none
 else none
def pG (P:Program) (st:aa) (t:TypeId) (m k:LV):Option aa:=match P.underlying t with
 | some (.map kt _)=>match qL P kt with
  | some s=>BG st s m k
  | none=>none
 | _=>none
def wC (st:aa) (s:Bool) (z:Option LV) (m k:LV):Option (LV × aa):=if plainKey s k then match m with
  | .map o=>match st[o]? with
   | some (.map .rw es bs n)=>match cY k es with
    | some (some v)=>(match bs[pF k es]? with
     | some b=>some (.tup [v,.int .i64 b],st)
     | none=>none)
    | some none=>(match z with
     | some z=>some (.tup [z,.int .i64 n],st.set o (.map .rw (es++[(k,z)]) (bs++[n]) (n+1)))
     | none=>none)
    | none=>none
   | _=>none
  | _=>none
 else none
def kR (P:Program) (st:aa) (t:TypeId) (m k:LV):Option (LV × aa):=match P.underlying t with
 | some (.map kt e)=>match qL P kt with
  | some s=>wC st s (eu P e) m k
  | none=>none
 | _=>none
def wD (b:Int):List Nat→Option Nat
 | []=>none
 | x::xs=>if (x:Int)=b then some 0 else (wD b xs).map (· + 1)
def kS (st:aa) (m s v:LV):Option aa:=match m,s with
 | .map o,.int _ b=>match st[o]? with
  | some (.map .rw es bs n)=>match wD b bs with
   | some i=>match es[i]? with
    | some e=>some (st.set o (.map .rw (es.set i (e.1,v)) bs n))
    | none=>none
   | none=>none
  | _=>none
 | _,_=>none
def kT (P:Program) (st:aa) (t:TypeId) (x:LV):Option (LV × aa):=match P.underlying t with
 | some (.map _ _)=>match x with
  | .nilm=>some (.ptr st.length 0,st++[.iter none 0 [] 0])
  | .map o=>match st[o]? with
   | some (.map _ _ _ n)=>some (.ptr st.length 0,st++[.iter (some o) n [] n])
   | _=>none
  | .imap ks vs=>if ks.length=vs.length then some (.ptr st.length 0,st++[.fiter none (ks.zip vs)]) else none
  | _=>none
 | _=>none
def lI (seen:List Nat):List (LV × LV)→List Nat→List ((LV × LV) × Nat)
 | e::es,b::bs=>if seen.contains b then lI seen es bs else (e,b)::lI seen es bs
 | _,_=>[]
def jc (st:aa) (it:LV):Option (LV × aa):=match it with
 | .ptr r 0=>match st[r]? with
  | some (.iter none _ _ _)=>some (.tup [.bool false],st)
  | some (.fiter _ [])=>some (.tup [.bool false],st)
  | some (.fiter _ [e])=>some (.tup [.bool true,e.1,e.2],st.set r (.fiter (some e) []))
  | some (.iter (some o) since seen last)=>match st[o]? with
   | some (.map _ es bs n)=>if seen.isEmpty||es.isEmpty||bs.any (fun b=>Nat.blt b last) then match lI seen es bs with
     | []=>some (.tup [.bool false],st)
     | [(e,b)]=>if b<since then some (.tup [.bool true,e.1,e.2],st.set r (.iter (some o) since (seen++[b]) n)) else none
     | _=>none
    else none
   | _=>none
  | _=>none
 | _=>none
def fa {α:Type}:List α→List (α × List α)
 | []=>[]
 | x::xs=>(x,xs)::(fa xs).map fun p=>(p.1,x::p.2)
def cJ (st:aa) (it:LV):Option (List (LV × aa)):=match it with
 | .ptr r 0=>match st[r]? with
  | some (.iter none _ _ _)=>some [(.tup [.bool false],st)]
  | some (.fiter _ [])=>some [(.tup [.bool false],st)]
  | some (.fiter _ (x::xs))=>some ((fa (x::xs)).map fun p=>(.tup [.bool true,p.1.1,p.1.2],st.set r (.fiter (some p.1) p.2)))
  | some (.iter (some o) since seen last)=>match st[o]? with
   | some (.map _ es bs n)=>if seen.isEmpty||es.isEmpty||bs.any (fun b=>Nat.blt b last) then match lI seen es bs with
     | []=>some [(.tup [.bool false],st)]
     | x::l=>if (x::l).all (fun x=>decide (x.2<since))=true then some ((x::l).map fun x=>(.tup [.bool true,x.1.1,x.1.2],st.set r (.iter (some o) since (seen++[x.2]) n))) else none
    else none
   | _=>none
  | _=>none
 | _=>none
def wE (K:LV→aa→Prop):List (LV × aa)→Prop
 | []=>True
 | p::l=>K p.1 p.2∧wE K l
theorem qM {K:LV→aa→Prop}:∀ {l:List (LV × aa)},wE K l→∀ p ∈ l,K p.1 p.2
 | _::_,h,p,hp=>by
  rcases List.mem_cons.1 hp with rfl|hp
  ·exact h.1
  ·exact qM h.2 p hp
theorem ug {K:LV→aa→Prop}:∀ {l:List (LV × aa)},(∀ p ∈ l,K p.1 p.2)→wE K l
 | [],_=>trivial
 | _::_,h=>⟨h _ (by simp),ug fun p hp=>h p (by simp[hp])⟩
def fU (st:aa) (it:LV) (K:LV→aa→Prop):Prop:=bd (cJ st it) fun l=>wE K l
def kU (st:aa) (it:LV):Option LV:=match it with
 | .ptr r 0=>match st[r]? with
  | some (.fiter (some c) _)=>some (.tup [c.1,c.2])
  | some (.iter (some o) _ seen last)=>match seen.getLast?,st[o]? with
   | some b,some (.map _ es bs n)=>if n=last then (match wD b bs with
     | some i=>(match es[i]? with
      | some e=>some (.tup [e.1,e.2])
      | none=>none)
     | none=>none) else none
   | _,_=>none
  | _=>none
 | _=>none
def asI (f:TypeId→Option Bool) (z:Option LV) (x:LV) (ok:Bool):Option LV:=match x with
 | .iface t v=>match f t with
  | some true=>some (if ok then .tup [.iface t v,.bool true] else .iface t v)
  | some false=>if ok then z.map fun z=>.tup [z,.bool false] else none
  | none=>none
 | .nili=>if ok then z.map fun z=>.tup [z,.bool false] else none
 | _=>none
def asC (t:TypeId) (z:Option LV) (x:LV) (ok:Bool):Option LV:=match x with
 | .iface u v=>if u=t then some (if ok then .tup [v,.bool true] else v) else if ok then z.map fun z=>.tup [z,.bool false] else none
 | .nili=>if ok then z.map fun z=>.tup [z,.bool false] else none
 | _=>none
def hasAll (P:Program) (want:Array (String × TypeId)) (t:TypeId):Option Bool:=match P.info? t with
 | some i=>some (Instr.missingMethod want i.methods).isNone
 | none=>none
def iM (P:Program) (x:LV) (asserted:TypeId) (ok:Bool):Option LV:=match P.underlying asserted with
 | some (.interface want)=>asI (hasAll P want) (eu P asserted) x ok
 | some _=>asC asserted (eu P asserted) x ok
 | none=>none
def mW (x:LV):Option LV:=match x with
 | .str s=>some (.int .i64 s.length)
 | _=>none
def bg (x:LV):Option LV:=match x with
 | .nils | .emp=>some (.int .i64 0)
 | .sl _ _ n _=>some (.int .i64 n)
 | .isl _ n _=>some (.int .i64 n)
 | _=>none
def kW (st:aa) (x:LV):Option LV:=match x with
 | .nilm=>some (.int .i64 0)
 | .map o=>match st[o]? with
  | some (.map _ es _ _)=>some (.int .i64 es.length)
  | _=>none
 | .imap ks _=>some (.int .i64 ks.length)
 | _=>none
def yz (P:Program) (st:aa) (t:TypeId) (x:LV):Option LV:=match P.underlying t with
 | some .string=>mW x
 | some (.array n _)=>some (.int .i64 n)
 | some (.pointer a)=>match P.underlying a with
  | some (.array n _)=>some (.int .i64 n)
  | _=>none
 | some (.slice _)=>bg x
 | some (.map _ _)=>kW st x
 | _=>none
def pH (x:LV):Option LV:=match x with
 | .nils=>some .nilp
 | .sl o k _ (.ex c)=>if c=0 then none else some (.ptr o k)
 | .sl o k len (.rest _)=>if len=0 then none else some (.ptr o k)
 | _=>none
def bytesOf:List LV→Option (List UInt8)
 | []=>some []
 | .int .u8 n::r=>match bytesOf r with
  | some s=>some (UInt8.ofNat n.toNat::s)
  | none=>none
 | _=>none
def wF (st:aa) (u:TypeId) (p n:LV):Option (LV × aa):=match p,n with
 | .nilp,.int _ n=>if n=0 then some (.str [],st) else none
 | .ptr o k,.int _ n=>if n=0 then some (.str [],st) else if 0<n∧n≤2 ^ 47 then match st[o]? with
   | some (.cells (.bt e) l)=>if e=u∧k+n.toNat≤l.length then match bytesOf ((l.drop k).take n.toNat) with
     | some s=>some (.str s,st.set o (.cells .ro l))
     | none=>none
    else none
   | _=>none
  else none
 | _,_=>none
def Af (st:aa) (x:LV):Option LV:=match x with
 | .nilp=>some .nilp
 | .ptr o k=>match st[o]? with
  | some (.cells (.bt _) l)=>if k<l.length then some (.ptr o k) else none
  | _=>none
 | _=>none
def Ag (st:aa) (u:TypeId) (sz:Nat) (x:LV):Option LV:=match x with
 | .nilp=>some .nilp
 | .ptr o 0=>match st[o]? with
  | some (.cells (.bt e) l)=>if e=u∧sz≤l.length then some (.ptr o 0) else none
  | _=>none
 | _=>none
def zD (x:LV):Option LV:=match x with
 | .nils=>some (.int .i64 0)
 | .sl _ _ _ (.ex c)=>some (.int .i64 c)
 | _=>none
def Ah (P:Program) (t:TypeId) (x:LV):Option LV:=match P.underlying t with
 | some (.slice _)=>zD x
 | _=>none
def wG (k:IntKind) (x:LV):Option LV:=match x with
 | .int _ n=>some (.int k (k.wrap n))
 | _=>none
def zE (x:LV):Option LV:=match x with
 | .str s=>some (.str s)
 | _=>none
def vm (k:FloatKind) (x:LV):Option LV:=match x with
 | .int _ n=>some (.flt k (k.nearest n))
 | _=>none
def BH (k:IntKind) (x:LV):Option LV:=match x with
 | .flt s b=>match (s.decode b).toInt .zero with
  | some n=>if k.min≤n∧n≤k.max then some (.int k n) else none
  | none=>none
 | _=>none
def uh (x y:LV):Option LV:=match x,y with
 | .flt k a,.flt k' b=>if k=k' then some (.cplx k a b) else none
 | _,_=>none
def zF (x:LV):Option LV:=match x with
 | .cplx k a _=>some (.flt k a)
 | _=>none
def zG (x:LV):Option LV:=match x with
 | .cplx k _ b=>some (.flt k b)
 | _=>none
def wH (P:Program) (src dst:TypeId) (x:LV):Option LV:=match P.underlying src,P.underlying dst with
 | some (.int _),some (.int k)=>wG k x
 | some (.int _),some (.float k)=>vm k x
 | some (.float _),some (.int k)=>BH k x
 | some .string,some .string=>zE x
 | _,_=>none
def aK (off:Nat) (x:LV):Option LV:=match x with
 | .ptr o k=>some (.ptr o (k+off))
 | .dY g k=>some (.dY g (k+off))
 | .iptr cs k=>some (.iptr cs (k+off))
 | _=>none
def jt (P:Program) (s:TypeId) (x:LV) (f:Nat):Option LV:=match P.underlying s with
 | some (.struct fs)=>match fs[f]? with
  | some f=>if known P f.type=true∧szT P f.type≠0 then aK f.offset x else none
  | none=>none
 | _=>none
def Ai (off n:Nat) (x:LV):Option LV:=match x with
 | .agg cs=>some (.agg ((cs.drop off).take n))
 | _=>none
def Aj (off:Nat) (x:LV):Option LV:=match x with
 | .agg cs=>cs[off]?
 | _=>none
def kX (P:Program) (t:TypeId) (x:LV) (off:Nat):Option LV:=
 if known P t then (if kP P t then Ai off (szT P t) x else Aj off x) else none
def sQ (P:Program) (t:TypeId) (x:LV) (f:Nat):Option LV:=match P.underlying t with
 | some (.struct fs)=>match fs[f]? with
  | some f=>kX P f.type x f.offset
  | none=>none
 | _=>none
def zH (n sz:Nat) (x i:LV):Option LV:=match x,i with
 | .ptr o k,.int _ i=>if 0≤i∧i<n then some (.ptr o (k+i.toNat*sz)) else none
 | .dY g k,.int _ i=>if 0≤i∧i<n then some (.dY g (k+i.toNat*sz)) else none
 | _,_=>none
def bF (sz:Nat) (x i:LV):Option LV:=match x,i with
 | .sl o k len _,.int _ i=>if 0≤i∧i<len then some (.ptr o (k+i.toNat*sz)) else none
 | .isl cs len _,.int _ i=>if 0≤i∧i<len then some (.iptr cs (i.toNat*sz)) else none
 | _,_=>none
def zI (x i:LV):Option LV:=match x,i with
 | .str s,.int _ i=>if 0≤i then (match s[i.toNat]? with|some b=>some (.int .u8 b.toNat) | none=>none) else none
 | _,_=>none
def ui (n:Nat) (g:LV→Nat→Option LV) (x i:LV):Option LV:=match i with
 | .int _ i=>if 0≤i∧i<n then g x i.toNat else none
 | _=>none
def ju (P:Program) (t:TypeId) (x i:LV):Option LV:=match P.underlying t with
 | some (.array n e)=>if known P e then zH n (szT P e) x i else none
 | some (.slice e)=>if known P e then bF (szT P e) x i else none
 | _=>none
def sR (P:Program) (t:TypeId) (x i:LV):Option LV:=match P.underlying t with
 | some (.array n e)=>if known P e then (if kP P e then ui n (fun x j=>Ai (j*szT P e) (szT P e) x) x i else ui n (fun x j=>Aj (j*szT P e) x) x i) else none
 | some .string=>zI x i
 | _=>none
def de (x:LV):Option LV:=match x with
 | .ptr o k=>some (.ptr o k)
 | .iface t v=>some (.iface t v)
 | .fn (.func f) xs ys=>some (.fn (.func f) xs ys)
 | .dY g k=>some (.dY g k)
 | .iptr cs k=>some (.iptr cs k)
 | _=>none
def qN (P:Program) (t:TypeId):Bool:=match P.underlying t with
 | some (.interface _)=>true
 | _=>false
def jv (P:Program) (t:TypeId) (x:LV):Option LV:=if (P.underlying t).isSome && !qN P t then some (.iface t x) else none
def oM (c a b:LV):Option LV:=match c with
 | .bool c=>some (cond c a b)
 | _=>none
def ah (x:LV) (i:Nat):Option LV:=match x with
 | .tup vs=>vs[i]?
 | _=>none
end Go.CP
