/- SchemaFills: the law's loop. -/
import Derived.Test.YtknegckgmklnhaaGreatDoorVbO8
import Derived.Test.YtknegckgmklnhaaGreatDoorVaS
import Derived.Test.YtknegckgmklnhaaGreatDoorRows
import Derived.Test.YtknegckgmklnhaaGreatDoorVaC3
import Derived.Test.YtknegckgmklnhaaGreatDoorVaV6
import Derived.Test.YtknegckgmklnhaaGreatDoorCp37
import Derived.Test.YtknegckgmklnhaaGreatDoorVbN3
namespace Go.Proofs.YtknegckgmklnhaaGreatDoor
open Go Go.CP
set_option maxRecDepth 100000
open Classical in
theorem wx {a b:T} (h:a=b):decide (a=b)=true:=decide_eq_true h
theorem zp:∀ {l:List AT} {i:Nat} {a:AT},l[i]?=some a→(bCs l)[i*10]?=some (.str a.nm)
 | b::l,0,a,h=>by
  simp only[List.getElem?_cons_zero,Option.some.injEq] at h
  subst h;rfl
 | b::l,i+1,a,h=>by
  simp only[List.getElem?_cons_succ] at h
  rw[bCs,show (i+1)*10=(bC b).length+i*10 by rw[rq];omega,List.getElem?_append_right (by omega),Nat.add_sub_cancel_left]
  exact zp h
theorem T.uj {v:T} {k:Tx} (h:v.ok):(dA v k).ok:=by
 unfold dA
 cases hf:v.at k with
 | none=>simp[T.ok]
 | some w=>
  cases v<;>simp only[T.at] at hf<;>try (simp at hf;done)
  exact T.iU h w (List.mem_map.2 ⟨(k,w),T.mO hf,rfl⟩)
structure LSt (st:aa) (A B C:Nat) (n:Int) (l:List AT) (v x:T):Prop where
 a:st[A]?=some (.cells .rw [i64 n,.isl (bCs l) l.length none])
 b:st[B]?=some (.cells .rw [lvT v])
 c:st[C]?=some (.cells .rw [lvT x])
section
variable {R:LV→aa→Prop} {st:aa}
theorem LSt.app {A B C:Nat} {n:Int} {l:List AT} {v x:T} {y:av} (h:LSt st A B C n l v x):LSt (st++[y]) A B C n l v x:=
 ⟨by rw[List.getElem?_append_left (bK h.a)];exact h.a,by rw[List.getElem?_append_left (bK h.b)];exact h.b,by rw[List.getElem?_append_left (bK h.c)];exact h.c⟩
theorem gX {o:Nat} {v:T} (h:st[o]?=some (.cells .rw [lvT v])):ldA st (.ptr o 0) 1=some (vT v):=by rw[cA h (by simp)];rfl
theorem Ea {S:ST} (hS:S.ok) {n:Int} {A B C:Nat} {v x:T} (hv:v.ok) (hx:x.ok) (hat:∀ a ∈ S.l,(x.at a.nm).isSome=true∧((dA v a.nm).kind≠0→dA v a.nm=dA x a.nm))
  (hfix:(eW S.l x).2=0) (hfill:dR S.l x=x) (hR:∀ st,R (.bool true) st) :
  ∀ (d i:Nat) (st:aa),i+d=S.l.length→LSt st A B C n S.l v x→P9_14 (sV S) (.ptr A 0) (.ptr B 0) (.ptr C 0) (i64 i) R st:=by
 intro d
 have g1:∀ {st:aa},LSt st A B C n S.l v x→ld1 st (.ptr A 1)=some (.isl (bCs S.l) S.l.length none):=fun h=>by rw[aZ h.a];rfl
 induction d with
 | zero=>
  intro i st hi h
  refine p9_14 _ _ _ _ _ ?_
  have c1:¬ ((i:Int)<S.l.length):=by omega
  simp only[w9_14,ar,Nat.zero_add,ab,g1 h,bh,ae,aA,c1,decide_false,af,gX h.c]
  refine (CI hS hx).call ?_
  rw[if_pos hfix,hfix,hfill]
  have e0:((0:Int)==0)=true:=rfl
  have h':=h.app (y:=.cells .rw [lvT x])
  simp only[ax,List.getElem?_cons_zero,List.getElem?_cons_succ,ab,bV,cU,ay,ag,ae,aR,e0,ai,gX h'.c,gX (v:=x) (au (st:=st))]
  refine (tV _ x x (Nat.lt_succ_self _) hx hx).call ?_
  rw[wx rfl]
  exact hR _
 | succ d ih=>
  intro i st hi h
  refine p9_14 _ _ _ _ _ ?_
  have hlt:i<S.l.length:=by omega
  have h16:=hS.len
  have c1:((i:Int)<S.l.length):=by omega
  have e1:aW 10 (.isl (bCs S.l) S.l.length none) (i64 i)=some (.iptr (bCs S.l) (i*10)):=ca hlt
  have hxa:S.l[i]?=some S.l[i]:=List.getElem?_eq_getElem hlt
  have hma:=List.getElem_mem hlt
  generalize S.l[i]=a at hxa hma
  obtain ⟨h2,h3⟩:=hat a hma
  have hg:=zp hxa
  have hw1:=aI (show i<2 ^ 40 by omega)
  have hav:(dA v a.nm).ok:=T.uj hv
  have hax:(dA x a.nm).ok:=T.uj hx
  have next:∀ (L L':Nat) (st:aa),LSt st A B C n S.l v x→st[L]?=some (.cells .rw [lvT (dA v a.nm)])→st[L']?=some (.cells .rw [lvT (dA x a.nm)])→
    P9_18 (sV S) (.ptr A 0) (.ptr B 0) (.ptr C 0) (i64 i) (.ptr L 0) (.ptr L' 0) (.bool (x.at a.nm).isSome) R st:=by
   intro L L' st h k1 k2
   refine p9_18 _ _ _ _ _ _ _ _ ?_
   have ek:((dA v a.nm).kind != 0)=decide ((dA v a.nm).kind≠0):=by by_cases h:(dA v a.nm).kind=0<;>simp[h]
   simp only[w9_18,h2,bx,ab,Bool.not_true,af,gX k1]
   refine (jv _).call ?_
   simp only[ae,bE,ek,ab,aL,gX k1,gX k2]
   refine ⟨fun hk=>?_,fun _=>?_⟩
   ·refine (tV _ (dA v a.nm) (dA x a.nm) (Nat.lt_succ_self _) hav hax).call ?_
    rw[wx (h3 hk)]
    simp only[bx,ab,Bool.not_true,af,aH,hw1]
    exact ih (i+1) st (by omega) h
   ·simp only[aH,hw1,ab]
    exact ih (i+1) st (by omega) h
  have mid:∀ (L:Nat) (st:aa),LSt st A B C n S.l v x→st[L]?=some (.cells .rw [lvT (dA v a.nm)])→P9_17 (sV S) (.ptr A 0) (.ptr B 0) (.ptr C 0) (i64 i) (.ptr L 0) R st:=by
   intro L st h k
   refine p9_17 _ _ _ _ _ _ ?_
   have h':=h.app (y:=.cells .rw [.nili])
   simp only[w9_17,gX h.c,ar,Nat.zero_add,ab,g1 h,e1,bR,Nat.add_zero,bB,hg,bV,g1 h',gX h'.c,true_and]
   have kp:∀ y:av,(st++[y])[L]?=some (.cells .rw [lvT (dA v a.nm)]):=fun y=>by rw[List.getElem?_append_left (bK k)];exact k
   refine ⟨?_,?_⟩
   ·refine (qQ hx a.nm).call ?_
    rw[lg]
    simp only[ax,List.getElem?_cons_zero,List.getElem?_cons_succ,ab,cU,ay,ag]
    exact next L st.length _ h.app (kp _) au
   ·refine (qQ hx a.nm).call ?_
    rw[lg]
    simp only[ax,List.getElem?_cons_zero,List.getElem?_cons_succ,ab,cU,ay,ag,g1 h',gX h'.c,true_and]
    exact next L st.length _ h.app (kp _) au
  have h':=h.app (y:=.cells .rw [.nili])
  simp only[w9_14,gX h.b,ar,Nat.zero_add,ab,g1 h,bh,ae,aA,c1,decide_true,ai,e1,bR,Nat.add_zero,bB,hg,bV,g1 h',gX h'.b,true_and]
  refine ⟨?_,?_⟩
  ·refine (qQ hv a.nm).call ?_
   rw[lg]
   simp only[ax,List.getElem?_cons_zero,List.getElem?_cons_succ,ab,cU,ay,ag]
   exact mid st.length _ h.app au
  ·refine (qQ hv a.nm).call ?_
   rw[lg]
   simp only[ax,List.getElem?_cons_zero,List.getElem?_cons_succ,ab,cU,ay,ag,g1 h',gX h'.b,true_and]
   exact mid st.length _ h.app au
end
end Go.Proofs.YtknegckgmklnhaaGreatDoor
namespace Go.Proofs.YtknegckgmklnhaaGreatDoor
open Go Go.CP Go.ChangeShapes
set_option maxRecDepth 100000
theorem G8:Tryz.prog.cellsOf 49=7:=by kernel_rfl
theorem ce3:Tryz.prog.cellsOf 3=1:=by kernel_rfl
theorem ce4:Tryz.prog.cellsOf 4=1:=by kernel_rfl
theorem ce9:Tryz.prog.cellsOf 9=1:=by kernel_rfl
theorem Hh:Tryz.prog.cellsOf 47=1:=by kernel_rfl
theorem Hi:Tryz.prog.cellsOf 26=1:=by kernel_rfl
section
variable {H:Type}
theorem C6 {d:DataW H}:1≤Rows.uptoBulk d:=by
 cases d with
 | lit l=>cases l<;>simp[Rows.uptoBulk]
 | _=>simp[Rows.uptoBulk]
theorem rr:∀ {l:List (DataW H)},l.length≤Rows.uptoBulkAll l
 | []=>by simp
 | x::r=>by have:=rr (l:=r);have:=C6 (d:=x);simp only[Rows.uptoBulkAll,List.length_cons];omega
theorem yo {n:Nat} {xs:List LV} {d:DataW H} (h:b6 Tryz.prog n 3 xs d):∃ k:Int,xs=[i64 k]∧-9223372036854775808≤k∧k<9223372036854775808:=by
 cases n with
 | zero=>exact h.elim
 | succ n=>
  unfold b6 at h
  rw[Tryz.underlying3] at h
  obtain ⟨m,rfl,hw⟩:=h
  have h1:IntKind.min .i64 = -9223372036854775808:=rfl
  have h2:IntKind.max .i64=9223372036854775807:=rfl
  simp only[Lit.wf,Bool.and_eq_true,decide_eq_true_eq,h1,h2] at hw
  exact ⟨m,rfl,hw.1,by omega⟩
theorem Eb {n:Nat} {xs:List LV} {d:DataW H} (h:b6 Tryz.prog n 4 xs d):∃ b,xs=[.bool b]:=by
 cases n with
 | zero=>exact h.elim
 | succ n=>unfold b6 at h;rw[Tryz.underlying4] at h;exact h
theorem yp {n:Nat} {xs:List LV} {d:DataW H} (h:b6 Tryz.prog n 9 xs d):∃ s:List UInt8,xs=[.str s]∧s.length≤Rows.uptoBulk d:=by
 cases n with
 | zero=>exact h.elim
 | succ n=>
  unfold b6 at h;rw[Tryz.underlying9] at h
  obtain ⟨s,rfl,_,rfl⟩:=h
  exact ⟨s,rfl,by simp[Rows.uptoBulk]⟩
theorem wy {n N:Nat}:∀ {rows:List (List LV)} {elems:List (DataW H)},elems.length=rows.length→(∀ (i:Nat) (r:List LV) (di:DataW H),rows[i]?=some r→elems[i]?=some di→r.length=1∧b6 Tryz.prog n 9 r di)→
  Rows.uptoBulkAll elems≤N→∃ l:List (List UInt8),rows.flatten=l.map .str∧l.length=rows.length∧∀ x ∈ l,x.length≤N
 | [],_,_,_,_=>⟨[],rfl,rfl,fun _ h=>(by cases h)⟩
 | r::rows,[],h,_,_=>by simp at h
 | r::rows,d::elems,h,hr,hb=>by
  simp only[Rows.uptoBulkAll] at hb
  obtain ⟨s,rfl,hs⟩:=yp (hr 0 r d rfl rfl).2
  obtain ⟨l,h1,h2,h3⟩:=wy (n:=n) (N:=N) (rows:=rows) (elems:=elems) (by simpa using h) (fun i r di a b=>hr (i+1) r di (by simpa using a) (by simpa using b)) (by omega)
  refine ⟨s::l,by simp[h1],by simp[h2],fun x hx=>?_⟩
  rcases List.mem_cons.1 hx with rfl|hx
  ·omega
  ·exact h3 x hx
theorem Ec {n:Nat} {xs:List LV} {d:DataW H} (h:b6 Tryz.prog n 26 xs d):∃ l:List (List UInt8),xs=[sI l]∧l.length≤Rows.uptoBulk d∧∀ x ∈ l,x.length≤Rows.uptoBulk d:=by
 cases n with
 | zero=>exact h.elim
 | succ n=>
  unfold b6 at h;rw[Tryz.underlying26] at h
  obtain ⟨rows,elems,rfl,hl,hd,hr⟩:=h
  rcases hd with rfl|⟨rest,rfl⟩
  ·exact ⟨[],rfl,by simp,fun _ h=>(by cases h)⟩
  ·rw[ce9] at hr
   obtain ⟨l,h1,h2,h3⟩:=wy hl hr (Nat.le_refl _)
   have h4:=rr (l:=elems)
   refine ⟨l,by rw[h1,← h2],by simp only[Rows.uptoBulk];omega,fun x hx=>?_⟩
   have:=h3 x hx
   simp only[Rows.uptoBulk];omega
theorem zq {n N:Nat} (ih:∀ {xs:List LV} {d:DataW H},b6 Tryz.prog n 49 xs d→Rows.uptoBulk d≤N→∃ r,xs=rc r∧r.ok):∀ {rows:List (List LV)} {elems:List (DataW H)},elems.length=rows.length→
  (∀ (i:Nat) (r:List LV) (di:DataW H),rows[i]?=some r→elems[i]?=some di→r.length=7∧b6 Tryz.prog n 49 r di)→Rows.uptoBulkAll elems≤N→∃ l:List RV,rows.flatten=rcs l∧l.length=rows.length∧∀ x ∈ l,x.ok
 | [],_,_,_,_=>⟨[],rfl,rfl,fun _ h=>(by cases h)⟩
 | r::rows,[],h,_,_=>by simp at h
 | r::rows,d::elems,h,hr,hb=>by
  simp only[Rows.uptoBulkAll] at hb
  obtain ⟨s,rfl,hs⟩:=ih (hr 0 r d rfl rfl).2 (by omega)
  obtain ⟨l,h1,h2,h3⟩:=zq ih (rows:=rows) (elems:=elems) (by simpa using h) (fun i r di a b=>hr (i+1) r di (by simpa using a) (by simpa using b)) (by omega)
  refine ⟨s::l,by simp[h1,rcs],by simp[h2],fun x hx=>?_⟩
  rcases List.mem_cons.1 hx with rfl|hx
  ·exact hs
  ·exact h3 x hx
theorem wz {N:Nat} (hN:N≤big):∀ (n:Nat) {xs:List LV} {d:DataW H},b6 Tryz.prog n 49 xs d→Rows.uptoBulk d≤N→∃ r,xs=rc r∧r.ok
 | 0,_,_,h,_=>h.elim
 | n+1,xs,d,h,hb=>by
  unfold b6 at h;rw[Tryz.underlying49] at h
  obtain ⟨hlen,parts,rfl,hp,hf⟩:=h
  rw[G8] at hlen
  simp only[Rows.uptoBulk] at hb
  obtain ⟨x0,x1,x2,x3,x4,x5,x6,rfl⟩:∃ x0 x1 x2 x3 x4 x5 x6,xs=[x0,x1,x2,x3,x4,x5,x6]:=by
   match xs,hlen with
   | [x0,x1,x2,x3,x4,x5,x6],_=>exact ⟨x0,x1,x2,x3,x4,x5,x6,rfl⟩
  obtain ⟨p0,p1,p2,p3,p4,p5,p6,rfl⟩:∃ x0 x1 x2 x3 x4 x5 x6,parts=[x0,x1,x2,x3,x4,x5,x6]:=by
   match parts,hp with
   | [x0,x1,x2,x3,x4,x5,x6],_=>exact ⟨x0,x1,x2,x3,x4,x5,x6,rfl⟩
  simp only[Rows.uptoBulkAll] at hb
  have f0:b6 Tryz.prog n 3 (([x0,x1,x2,x3,x4,x5,x6].drop 0).take (Tryz.prog.cellsOf 3)) p0:=hf 0 _ _ rfl rfl
  have f1:b6 Tryz.prog n 4 (([x0,x1,x2,x3,x4,x5,x6].drop 1).take (Tryz.prog.cellsOf 4)) p1:=hf 1 _ _ rfl rfl
  have f2:b6 Tryz.prog n 3 (([x0,x1,x2,x3,x4,x5,x6].drop 2).take (Tryz.prog.cellsOf 3)) p2:=hf 2 _ _ rfl rfl
  have f3:b6 Tryz.prog n 3 (([x0,x1,x2,x3,x4,x5,x6].drop 3).take (Tryz.prog.cellsOf 3)) p3:=hf 3 _ _ rfl rfl
  have f4:b6 Tryz.prog n 9 (([x0,x1,x2,x3,x4,x5,x6].drop 4).take (Tryz.prog.cellsOf 9)) p4:=hf 4 _ _ rfl rfl
  have f5:b6 Tryz.prog n 47 (([x0,x1,x2,x3,x4,x5,x6].drop 5).take (Tryz.prog.cellsOf 47)) p5:=hf 5 _ _ rfl rfl
  have f6:b6 Tryz.prog n 26 (([x0,x1,x2,x3,x4,x5,x6].drop 6).take (Tryz.prog.cellsOf 26)) p6:=hf 6 _ _ rfl rfl
  rw[ce3] at f0 f2 f3
  rw[ce4] at f1
  rw[ce9] at f4
  rw[Hh] at f5
  rw[Hi] at f6
  simp only[List.drop_zero,List.drop_succ_cons,List.take_succ_cons,List.take_zero] at f0 f1 f2 f3 f4 f5 f6
  obtain ⟨k,e0,k0⟩:=yo f0
  obtain ⟨b,e1⟩:=Eb f1
  obtain ⟨a,e2,k2⟩:=yo f2
  obtain ⟨m,e3,k3⟩:=yo f3
  obtain ⟨s,e4,k4⟩:=yp f4
  obtain ⟨ks,e6,k6,k7⟩:=Ec f6
  cases n with
  | zero=>exact f0.elim
  | succ n=>
   unfold b6 at f5;rw[Tryz.underlying47] at f5
   obtain ⟨rows,elems,e5,hl,hd,hr⟩:=f5
   rw[G8] at hr
   obtain ⟨l,h1,h2,h3⟩:∃ l:List RV,rows.flatten=rcs l∧l.length=rows.length∧(∀ x ∈ l,x.ok)∧l.length≤N:=by
    rcases hd with rfl|⟨rest,rfl⟩
    ·exact ⟨[],rfl,rfl,(fun _ h=>by cases h),by simp⟩
    ·simp only[Rows.uptoBulk] at hb
     obtain ⟨l,g1,g2,g3⟩:=zq (n:=n) (N:=N) (fun a b=>wz hN n a b) hl hr (by omega)
     have:=rr (l:=elems)
     exact ⟨l,g1,g2,g3,by omega⟩
   simp only[List.cons.injEq,and_true] at e0 e1 e2 e3 e4 e5 e6
   subst e0 e1 e2 e3 e4 e5 e6
   refine ⟨.mk k b a m s l ks,by rw[rc,← h1,← h2],⟨k0,k2,k3⟩,by omega,by omega,⟨by omega,fun x hx=>by have:=k7 x hx;omega⟩,RV.jt.2 h3.1⟩
end
theorem C7 {es:List (List UInt8 × T)} {k:List UInt8} {t:T} {q:List UInt8 × T→Prop} (h:∀ e ∈ es,q e) (hk:q (k,t)):∀ e ∈ ins es k t,q e:=by
 unfold ins
 split
 ·exact h
 ·intro e he
  rcases List.mem_append.1 he with he|he
  ·exact h e (List.mem_of_mem_take he)
  ·rcases List.mem_cons.1 he with rfl|he
   ·exact hk
   ·exact h e (List.mem_of_mem_drop he)
theorem C8 {es:List (List UInt8 × T)} {k:List UInt8} {t:T} (h:(es.map (·.1)).Pairwise ltB):((ins es k t).map (·.1)).Pairwise ltB:=by
 unfold ins
 split
 ·exact h
 rename_i hne
 have hsp:es=es.take (pos es k)++es.drop (pos es k):=(List.take_append_drop _ _).symm
 rw[List.map_append,List.map_cons,List.pairwise_append]
 rw[hsp,List.map_append,List.pairwise_append] at h
 obtain ⟨h1,h2,h3⟩:=h
 have lo:∀ a ∈ (es.take (pos es k)).map (·.1),ltB a k:=by
  intro a ha
  obtain ⟨e,he,rfl⟩:=List.mem_map.1 ha
  obtain ⟨j,hj⟩:=List.getElem?_of_mem he
  rw[List.getElem?_take] at hj
  split at hj
  ·rename_i hlt
   exact iH (q:=fun e:List UInt8 × T=>Op.bytesLess e.1 k) hlt hj
  ·cases hj
 have hi:∀ a ∈ (es.drop (pos es k)).map (·.1),ltB k a:=by
  intro a ha
  cases hd:es.drop (pos es k) with
  | nil=>rw[hd] at ha;simp at ha
  | cons e rest=>
   have he:es[pos es k]?=some e:=by
    have:(es.drop (pos es k))[0]?=some e:=by rw[hd];rfl
    rw[List.getElem?_drop] at this;simpa using this
   have hs:Op.bytesLess e.1 k=false:=gY (q:=fun e:List UInt8 × T=>Op.bytesLess e.1 k) he
   have hke:ltB k e.1:=by
    rcases hb:Op.bytesLess k e.1 with _|_
    ·exact absurd (by rw[he];exact congrArg some (qK hs hb)) hne
    ·exact hb
   rw[hd] at ha h2
   simp only[List.map_cons,List.mem_cons] at ha
   rcases ha with rfl|ha
   ·exact hke
   ·simp only[List.map_cons,List.pairwise_cons] at h2
    exact iT hke (h2.1 a ha)
 refine ⟨h1,List.pairwise_cons.2 ⟨hi,h2⟩,fun a ha b hb=>?_⟩
 rcases List.mem_cons.1 hb with rfl|hb
 ·exact lo a ha
 ·exact h3 a ha b hb
theorem AL {l:List (List UInt8 × T)} {q:List UInt8 × T→Prop} (h:∀ e ∈ l,q e):(∀ e ∈ eY l,q e)∧((eY l).map (·.1)).Pairwise ltB:=by
 have go:∀ (l es:List (List UInt8 × T)),(∀ e ∈ l,q e)→(∀ e ∈ es,q e)→(es.map (·.1)).Pairwise ltB→(∀ e ∈ l.foldl (fun es e=>ins es e.1 e.2) es,q e)∧((l.foldl (fun es e=>ins es e.1 e.2) es).map (·.1)).Pairwise ltB:=by
  intro l
  induction l with
  | nil=>intro es _ h2 h3;exact ⟨h2,h3⟩
  | cons e l ih=>
   intro es h1 h2 h3
   exact ih _ (fun x hx=>h1 x (List.mem_cons_of_mem _ hx)) (C7 h2 (h1 e (by simp))) (C8 h3)
 exact go l [] h (by simp) (by simp)
theorem wA {x:Int} : -9007199254740992≤q7 x∧q7 x≤9007199254740992:=by
 unfold q7;omega
theorem Gf:∀ {r:RV},r.ok→(cln r).ok:=fun {r}=>by
 refine RV.ind (p:=fun r=>r.ok→(cln r).ok) ?_ _ r (Nat.lt_succ_self _)
 intro r ih hr
 have hl:=RV.tH hr
 have hk:=RV.GQ hr
 have hn : -9223372036854775808≤r.n∧r.n<9223372036854775808:=by cases r;exact hr.1.2.1
 have hs:r.s.length≤big:=by cases r;exact hr.2.1
 rw[B2]
 split
 ·trivial
 split
 ·trivial
 split
 ·exact hn
 split
 ·exact ⟨wA,wA⟩
 split
 ·exact hs
 split
 ·refine ⟨by simpa using hl.1,T.jt.2 fun t ht=>?_⟩
  obtain ⟨x,hx,rfl⟩:=List.mem_map.1 ht
  exact ih x hx (hl.2 x hx)
 split
 ·have h:=AL (l:=r.ks.zip (r.l.map cln)) (q:=fun e=>e.1.length≤big∧e.2.ok) (by
   intro e he
   obtain ⟨k,t⟩:=e
   have h1:=(List.of_mem_zip he).1
   have h2:=(List.of_mem_zip he).2
   obtain ⟨x,hx,rfl⟩:=List.mem_map.1 h2
   exact ⟨hk.2 k h1,ih x hx (hl.2 x hx)⟩)
  refine ⟨?_,T.kS.2 h.1,h.2⟩
  have:=q8 (l:=r.ks.zip (r.l.map cln))
  simp at this;omega
 ·trivial
end Go.Proofs.YtknegckgmklnhaaGreatDoor
namespace Go.Proofs.YtknegckgmklnhaaGreatDoor
open Go Go.CP Go.RowKit Go.Maps Go.Sort Go.Shelf
set_option maxRecDepth 100000
def Gg:List (FuncId × vc):=[(242,.same),(263,.indexByte),(270,.count),(288,.clone),(245,.noZero 5)]
theorem Ed:∀ p ∈ Gg,Er Tryz.prog p.1 p.2:=by
 intro p hp
 simp only[Gg,List.mem_cons,List.not_mem_nil,or_false] at hp
 rcases hp with rfl|rfl|rfl|rfl|rfl
 ·exact ⟨Tryz.f242,Tryz.func242,by kernel_rfl,by kernel_rfl,by kernel_rfl,(by kernel_rfl:Extern.find Tryz.f242=some Extern.AbiNoEscape.same)⟩
 ·exact ⟨Tryz.f263,Tryz.func263,by kernel_rfl,by kernel_rfl,by kernel_rfl,(by kernel_rfl:Extern.find Tryz.f263=some Extern.BytealgIndexByte.indexByte)⟩
 ·exact ⟨Tryz.f270,Tryz.func270,by kernel_rfl,by kernel_rfl,by kernel_rfl,(by kernel_rfl:Extern.find Tryz.f270=some Extern.BytealgCount.count)⟩
 ·exact ⟨Tryz.f288,Tryz.func288,by kernel_rfl,by kernel_rfl,by kernel_rfl,(by kernel_rfl:Extern.find Tryz.f288=some Extern.MapsClone.clone)⟩
 ·exact ⟨Tryz.f245,Tryz.func245,by kernel_rfl,by kernel_rfl,by kernel_rfl,Tryz.f245.params,78,(by kernel_rfl:Extern.find Tryz.f245=some (Extern.BytealgMakeNoZero.makeNoZero Tryz.f245.params #[78])),Tryz.underlying78⟩
def yq (k:List UInt8):List (List UInt8)→List (List UInt8)
 | []=>[k]
 | a::l=>match Op.bytesLess k a with
  | true=>k::a::l
  | false=>a::yq k l
def oG:List (List UInt8)→List (List UInt8)
 | []=>[]
 | k::l=>yq k (oG l)
theorem oH {k:List UInt8}:∀ {l:List (List UInt8)},(yq k l).Perm (k::l)
 | []=>.refl _
 | a::l=>by
  unfold yq
  split
  ·exact .refl _
  ·exact ((oH (l:=l)).cons a).trans (.swap k a l)
theorem kH:∀ {l:List (List UInt8)},(oG l).Perm l
 | []=>.refl _
 | k::_=>oH.trans (kH.cons k)
theorem sP {k:List UInt8}:∀ {l:List (List UInt8)},l.Pairwise ltB→k ∉ l→(yq k l).Pairwise ltB
 | [],_,_=>by simp[yq]
 | a::l,h,hk=>by
  rw[List.pairwise_cons] at h
  simp only[List.mem_cons,not_or] at hk
  unfold yq
  split
  ·rename_i hlt
   exact List.pairwise_cons.2 ⟨fun b hb=>by
    rcases List.mem_cons.1 hb with rfl|hb
    ·exact hlt
    ·exact iT hlt (h.1 b hb),List.pairwise_cons.2 h⟩
  ·rename_i hlt
   refine List.pairwise_cons.2 ⟨fun b hb=>?_,sP h.2 hk.2⟩
   rcases List.mem_cons.1 (oH.mem_iff.1 hb) with rfl|hb
   ·rcases hc:Op.bytesLess a b with _|_
    ·exact absurd (qK hlt hc) hk.1
    ·exact hc
   ·exact h.1 b hb
theorem px:∀ {l:List (List UInt8)},l.Nodup→(oG l).Pairwise ltB
 | [],_=>by simp[oG]
 | k::l,h=>by
  rw[List.nodup_cons] at h
  exact sP (px h.2) (fun hc=>h.1 (kH.mem_iff.1 hc))
theorem AM {l:List (List UInt8)} (h:l.Nodup):l.mergeSort leB=oG l:=by
 rw[← mergeSort_of_perm (kH (l:=l)),r8 (px h)]
def zr (k:List UInt8):List (List UInt8)→Bool
 | []=>true
 | a::l=>match decide (k=a) with
  | true=>false
  | false=>zr k l
def okK:List (List UInt8)→Bool
 | []=>true
 | k::l=>match zr k l with
  | true=>(match Nat.ble k.length big with
   | true=>okK l
   | false=>false)
  | false=>false
theorem wB {k:List UInt8}:∀ {l:List (List UInt8)},zr k l=true→k ∉ l
 | [],_=>by simp
 | a::l,h=>by
  unfold zr at h
  split at h
  ·cases h
  ·rename_i e
   simp only[List.mem_cons,not_or]
   exact ⟨of_decide_eq_false e,wB h⟩
theorem C9:∀ {l:List (List UInt8)},okK l=true→l.Nodup∧∀ s ∈ l,s.length≤big
 | [],_=>by simp
 | k::l,h=>by
  unfold okK at h
  split at h
  ·rename_i e
   split at h
   ·rename_i e2
    obtain ⟨h1,h2⟩:=C9 h
    refine ⟨List.nodup_cons.2 ⟨wB e,h1⟩,fun s hs=>?_⟩
    rcases List.mem_cons.1 hs with rfl|hs
    ·exact Nat.le_of_ble_eq_true e2
    ·exact h2 s hs
   ·cases h
  ·cases h
def ER (x:LV) (st:aa):Option (LV × aa):=match x with
 | .map o=>some (.fn (.func 166) [] [.ptr st.length 0],st++[.cells (.bt 173) [.map o]])
 | .nilm=>some (.fn (.func 166) [] [.ptr st.length 0],st++[.cells (.bt 173) [.nilm]])
 | _=>none
def ES (o:Nat) (st:aa):Option (LV × aa):=match st[o]? with
 | some (.cells (.bt t) [x])=>match Nat.beq t 173 with
  | true=>(match x with
   | .nilm=>some (.nils,st)
   | .map om=>(match st[om]? with
    | some (.map _ es _ _)=>(match iA es with
     | some ks=>(match okK ks with
      | true=>(match Nat.ble ks.length big with
       | true=>(match ks with
        | []=>some (.nils,st)
        | k::l=>some (.sl st.length 0 (k::l).length (.rest 1),st++[.cells .rw ((oG (k::l)).map .str)]))
       | false=>none)
      | false=>none)
     | none=>none)
    | _=>none)
   | _=>none)
  | false=>none
 | _=>none
def Da:Ora:=fun f xs st=>match Nat.beq f 116 with
 | true=>(match xs with
  | [x]=>ER x st
  | _=>none)
 | false=>match Nat.beq f 115 with
  | true=>(match xs with
   | [.fn (.func g) [] [.ptr o k]]=>(match Nat.beq g 166 with
    | true=>(match Nat.beq k 0 with
     | true=>ES o st
     | false=>none)
    | false=>none)
   | _=>none)
  | false=>Fa Gg f xs st
theorem Db:lA Tryz.prog Da:=by
 intro f xs st v st' h K hK
 unfold Da at h
 split at h
 ·rename_i e
  obtain rfl:=Nat.eq_of_beq_eq_true e
  split at h
  ·unfold ER at h
   split at h
   ·cases h
    exact oc (M:=173) call116 fF (.inr ⟨_,rfl⟩) hK
   ·cases h
    exact oc (M:=173) call116 fF (.inl rfl) hK
   ·cases h
  ·cases h
 ·split at h
  ·rename_i e
   obtain rfl:=Nat.eq_of_beq_eq_true e
   split at h
   ·split at h
    ·rename_i e1
     obtain rfl:=Nat.eq_of_beq_eq_true e1
     split at h
     ·rename_i e2
      obtain rfl:=Nat.eq_of_beq_eq_true e2
      unfold ES at h
      split at h
      ·rename_i o t x ho
       split at h
       ·rename_i e3
        obtain rfl:=Nat.eq_of_beq_eq_true e3
        split at h
        ·cases h
         exact qD (K:=9) call115 ey r9 ho hK
        ·split at h
         ·rename_i om m es bs n hom
          split at h
          ·rename_i ks hks
           split at h
           ·rename_i hok
            obtain ⟨k1,k2⟩:=C9 hok
            split at h
            ·rename_i hlen
             have hlen':=Nat.le_of_ble_eq_true hlen
             have l1:∀ s ∈ ks,s.length≤maxLen:=fun s hs=>by have:=k2 s hs;unfold big at this;unfold maxLen;omega
             refine vh (K:=9) (by kernel_rfl) call115 ey vD ho hom hks k1 l1 (by unfold big at hlen';unfold maxLen;omega) (by unfold big at hlen';omega) (fun e0=>?_) (fun e0=>?_)
             ·subst e0;cases h;exact hK
             ·rw[AM k1]
              split at h
              ·exact absurd rfl e0
              ·cases h;exact hK
            ·cases h
           ·cases h
          ·cases h
         ·cases h
        ·cases h
       ·cases h
      ·cases h
     ·cases h
    ·cases h
   ·cases h
  ·exact Dk Ed _ _ _ _ _ h K hK
end Go.Proofs.YtknegckgmklnhaaGreatDoor
namespace Go.Proofs.YtknegckgmklnhaaGreatDoor
open Go Go.CP
set_option maxRecDepth 100000
theorem wC:(lD Tryz.prog [116,115] Da 100000 60 false 17 [] []).map (·.1)=some (.bool true):=by kernel_rfl
theorem zt {st:aa} {R:LV→aa→Prop} (h:R (.bool true) st):aw Tryz.prog 17 [] st R:=tA aK Db wC rfl rfl h
theorem Dc {S:ST} (hS:S.ok) {v:T} (hv:v.ok):(dR S.l v).ok:=by
 unfold dR
 simp only[T.ok]
 refine ⟨by have:=hS.len;unfold big dc;rw[List.length_map];omega,T.kS.2 fun e he=>?_,?_⟩
 ·obtain ⟨a,ha,rfl⟩:=List.mem_map.1 he
  refine ⟨by have:=lf (hS.nm a ha);show a.nm.length≤big;unfold big;omega,?_⟩
  show (eX v a).ok
  unfold eX
  split
  ·simp[T.ok]
  ·exact T.uj hv
 ·rw[oz];exact hS.rise
theorem Ee {S:ST} (hS:S.ok) {v:T} {a:AT} (ha:a ∈ S.l):((dR S.l v).at a.nm).isSome=true∧((dA v a.nm).kind≠0→dA v a.nm=dA (dR S.l v) a.nm):=by
 have e:=ot (v:=v) hS.rise ha
 refine ⟨by rw[e];rfl,fun hk=>?_⟩
 have e2:dA (dR S.l v) a.nm=eX v a:=by unfold dA;rw[e];rfl
 rw[e2]
 unfold eX
 rw[decide_eq_false hk]
 simp
section
variable {st:aa}
theorem AN (g:GlS st) {s:Tx} {r:RV} (hr:r.ok):w9 (.str s) (vR r) (fun v _=>v=.bool true) st:=by
 obtain ⟨n,hg⟩:=BJ hr
 have hb:eh (st++[av.cells .rw (rc r)]) st.length r:=au
 simp only[w9,kY,ag,hb.ldA,ab]
 refine hg.call ?_
 simp only[ae,cy,ab,aL]
 refine ⟨fun _=>zt rfl,fun _=>zt ?_⟩
 simp only[bx,ab,Bool.not_true,af]
 have g1:GlS (st++[av.cells .rw (rc r)]):=g.fr (Fr.app (S:=fun _=>False)) id id id
 have hv:=Gf hr
 have boxF:∀ {S:aa},Fr (st++[av.cells .rw (rc r)]) S (fun _=>False)→eh S st.length r:=fun h=>h.get hb id
 have ap:∀ (S:aa) (y:av),Fr (st++[av.cells .rw (rc r)]) S (fun _=>False)→Fr (st++[av.cells .rw (rc r)]) (S++[y]) (fun _=>False):=fun S y h=>h.trans Fr.app fun _ _ h=>h
 refine Hg g1 (fun st2 m0 m1 hm hf=>?_) fun st2 S n hS hf hl=>?_
 ·have pm:stV (st2++[av.cells .rw [i64 0,LV.nils]]) 2 (.ptr st2.length 0) (.agg [m0,m1])=some (st2++[.cells .rw [m0,m1]]):=by
   rw[nB au hm];simp
  have f3:=ap st2 (.cells .rw [m0,m1]) hf
  have c00:decide ((1:Int) > 0)=true:=rfl
  simp only[ax,List.getElem?_cons_zero,List.getElem?_cons_succ,ab,bV,pm,ay,ag,(boxF f3).ldA]
  refine (vW hr).call ?_
  refine (B6 _ _ (Nat.lt_succ_self _) hv).call ?_
  simp only[cU,ay,ag,ae,cy,ab,c00,ai]
 ·have hSok:=yf hS
  have pm:stV (st2++[av.cells .rw [i64 0,LV.nils]]) 2 (.ptr st2.length 0) (bS n S.l)=some (st2++[.cells .rw [i64 n,.isl (bCs S.l) S.l.length none]]):=by
   unfold bS
   rw[nB au rfl];simp
  have f3:=ap st2 (.cells .rw [i64 n,.isl (bCs S.l) S.l.length none]) hf
  have hc17:((1:Int) > 0):=by decide
  have c00:decide ((0:Int) > 0)=false:=rfl
  simp only[ax,List.getElem?_cons_zero,List.getElem?_cons_succ,ab,bV,pm,ay,ag,(boxF f3).ldA]
  refine (vW hr).call ?_
  refine (B6 _ _ (Nat.lt_succ_self _) hv).call ?_
  generalize cln r=v at hv
  simp only[cU,ay,ag,ae,cy,ab,c00,af]
  generalize hS3:st2++[av.cells .rw [i64 n,.isl (bCs S.l) S.l.length none]]=S3
  have hA3:S3[st2.length]?=some (.cells .rw [i64 n,.isl (bCs S.l) S.l.length none]):=by rw[← hS3];exact au
  have gv:ldA (S3++[av.cells .rw [lvT v]]) (.ptr S3.length 0) 1=some (vT v):=gX au
  simp only[gv,ab]
  refine (CI hSok hv).call ?_
  have en:((eW S.l v).2 != 0)=decide ((eW S.l v).2≠0):=by by_cases h:(eW S.l v).2=0<;>simp[h]
  simp only[ax,List.getElem?_cons_zero,List.getElem?_cons_succ,ab,cU,ay,ag,ae,bE,en,aL]
  generalize hS4:S3++[av.cells .rw [lvT v]]=S4
  have hA4:S4[st2.length]?=some (.cells .rw [i64 n,.isl (bCs S.l) S.l.length none]):=by rw[← hS4,List.getElem?_append_left (bK hA3)];exact hA3
  have hB4:S4[S3.length]?=some (.cells .rw [lvT v]):=by rw[← hS4];exact au
  refine ⟨fun hne=>?_,fun he=>?_⟩
  ·rw[if_neg hne]
   rw[gX (v:=.null) au,ab]
   refine (jv _).call ?_
   exact rfl
  ·have he0:(eW S.l v).2=0:=Classical.byContradiction he
   rw[if_pos he0]
   have hx:=Dc hSok hv
   have hlk:(dR S.l v).keys.length=S.l.length:=by
    show ((dc S.l v).map (·.1)).length=_
    rw[oz,List.length_map]
   have gm:ld1 (S4++[av.cells .rw [lvT (dR S.l v)]]) (.ptr st2.length 1)=some (.isl (bCs S.l) S.l.length none):=by
    rw[aZ (m:=.rw) (l:=[i64 n,.isl (bCs S.l) S.l.length none]) (by rw[List.getElem?_append_left (bK hA4)];exact hA4)];rfl
   rw[gX (v:=dR S.l v) au]
   simp only[ab,ar,Nat.zero_add,gm,bh]
   refine (mS hx).call ⟨by trivial,?_⟩
   have c9:(((dR S.l v).keys.length:Int) != (S.l.length:Int))=false:=by rw[hlk];simp
   simp only[bh,ab,ae,bE,c9]
   refine p9_10 _ _ _ _ _ ?_
   simp only[w9_10,af]
   refine Ea (R:=fun r _=>r=.bool true) hSok (n:=n) hv hx (fun a ha=>Ee hSok ha) (by rw[Aq hSok he0]) (Ar hSok) (fun _=>rfl) S.l.length 0 _ (by omega) ⟨?_,?_,au⟩
   ·rw[List.getElem?_append_left (bK hA4)];exact hA4
   ·rw[List.getElem?_append_left (bK hB4)];exact hB4
theorem Hj (g:GlS st) {s:Tx} {r:RV} (hr:r.ok):aw Tryz.prog 9 [.str s,vR r] st fun v _=>v=.bool true:=c9 _ _ (AN g hr)
end
abbrev AO (u u':TypeId):List (Nat × List LV):=[(3,Lib.pow10Tab.map fun z=>.int .u64 z),(1,[.iface u .aM]),(2,[.iface u' .aM])]
theorem Ef {u u':TypeId}:GlS (vf (AO u u')):=⟨by simp[vf,AO],⟨u,rfl⟩,⟨u',rfl⟩⟩
theorem pE {H:Type} {u u':TypeId} {xs:List LV} {ds:List (DataW H)} (h:pN Tryz.prog [9,49] xs ds) (hb:Rows.uptoBulkAll ds≤1048576):aw Tryz.prog 9 xs (vf (AO u u')) fun v _=>v=.bool true:=by
 obtain ⟨x0,_,d0,_,rfl,rfl,⟨n0,cs0,_,a2,a3⟩,x1,_,d1,_,rfl,rfl,⟨n1,cs1,b1,_,b3⟩,rfl,rfl⟩:=h
 have i0:cg Tryz.prog 9=false:=by kernel_rfl
 have i1:cg Tryz.prog 49=true:=by kernel_rfl
 rw[a2 i0] at a3
 obtain ⟨s,e,_⟩:=yp a3
 simp only[List.cons.injEq,and_true] at e
 subst e
 rw[if_pos i1] at b1
 subst b1
 simp only[Rows.uptoBulkAll] at hb
 obtain ⟨r,rfl,hr⟩:=wz (N:=1048576) (by unfold big;omega) n1 b3 (by omega)
 exact Hj Ef hr
end Go.Proofs.YtknegckgmklnhaaGreatDoor
