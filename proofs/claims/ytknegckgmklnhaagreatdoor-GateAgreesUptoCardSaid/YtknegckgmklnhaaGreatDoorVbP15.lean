/- A value agrees with itself, and with a plan in which anything of it is unknown. The arguments read, together, at most 1048576 of bulk; the machine is a program made of this function alone, entered by any caller, with any tape and any clock. -/
import Derived.Test.YtknegckgmklnhaaGreatDoorTie
import Derived.Test.YtknegckgmklnhaaGreatDoorCards
import Derived.Test.YtknegckgmklnhaaGreatDoorVbL15
import Derived.LaidMore
import Derived.Lay
import Derived.Stop.Joined
import Derived.SevenTiedAt
import Derived.Deep.DeepHandedRow
namespace Go.Proofs.YtknegckgmklnhaaGreatDoor.gateAgrees
open Go.ChangeShapes Go.WideShapes Go.ChangeAt Go.WideMaps Go.WideElems Go.RowKit
theorem own:ownKnob Tryz.prog.godebug=none:=by kernel_rfl
theorem w1:Tryz.checked.prog.inits.idxOf? 15=none:=by kernel_rfl
theorem w2 (os:Os):World.variablesZipB Tryz.checked.prog ((World.laidAll Tryz.prog os Rows.gateAgreesUptoRow.laid).forCall (fun _ _=>0) { blocks:=#[],args:=#[.agg #[.int .i64 0,.bool false,.int .i64 0,.int .i64 0,.string .empty,.slice none 0 0,.slice none 0 0],.slice none 0 0] })=true:=by kernel_rfl
theorem w3 (os:Os):List.take ((begin Tryz.checked.prog (fun _ _=>0) default).world.heap.size-Tryz.checked.prog.globals.size)
  (List.drop Tryz.checked.prog.globals.size ((World.laidAll Tryz.prog os Rows.gateAgreesUptoRow.laid).forCall (fun _ _=>0) { blocks:=#[],args:=#[.agg #[.int .i64 0,.bool false,.int .i64 0,.int .i64 0,.string .empty,.slice none 0 0,.slice none 0 0],.slice none 0 0] }).heap.toList)=List.drop Tryz.checked.prog.globals.size (begin Tryz.checked.prog (fun _ _=>0) default).world.heap.toList:=by kernel_rfl
theorem w4 (os:Os):Input.okWideB Tryz.checked.prog ((World.laidAll Tryz.prog os Rows.gateAgreesUptoRow.laid).forCall (fun _ _=>0) { blocks:=#[],args:=#[.agg #[.int .i64 0,.bool false,.int .i64 0,.int .i64 0,.string .empty,.slice none 0 0,.slice none 0 0],.slice none 0 0] }) 15 { blocks:=#[],args:=#[.agg #[.int .i64 0,.bool false,.int .i64 0,.int .i64 0,.string .empty,.slice none 0 0,.slice none 0 0],.slice none 0 0] }=true:=by kernel_rfl
theorem w5 (os:Os) (H:Type) (enc:TypeId × Value→H):∃ places,DataW.whole enc Tryz.checked.prog ((World.laidAll Tryz.prog os Rows.gateAgreesUptoRow.laid).forCall (fun _ _=>0) { blocks:=#[],args:=#[.agg #[.int .i64 0,.bool false,.int .i64 0,.int .i64 0,.string .empty,.slice none 0 0,.slice none 0 0],.slice none 0 0] }).memory Tryz.f15.params.toList Rows.gateAgreesSpec.vars false #[.agg #[.int .i64 0,.bool false,.int .i64 0,.int .i64 0,.string .empty,.slice none 0 0,.slice none 0 0],.slice none 0 0].toList 8=some ([.agg [.lit (.int .i64 0),.lit (.bool false),.lit (.int .i64 0),.lit (.int .i64 0),.lit (.string []),.nil,.nil],.nil],[],places):=⟨[],by kernel_rfl⟩
theorem w6 (os:Os) (H:Type) (enc:TypeId × Value→H):(Rows.OpenSpec.upto Rows.gateAgreesSpec).bare.sizedB enc Tryz.checked.prog Tryz.f15 false ((World.laidAll Tryz.prog os Rows.gateAgreesUptoRow.laid).forCall (fun _ _=>0) { blocks:=#[],args:=#[.agg #[.int .i64 0,.bool false,.int .i64 0,.int .i64 0,.string .empty,.slice none 0 0,.slice none 0 0],.slice none 0 0] }).memory #[.agg #[.int .i64 0,.bool false,.int .i64 0,.int .i64 0,.string .empty,.slice none 0 0,.slice none 0 0],.slice none 0 0] 8=true:=by kernel_rfl
theorem w7:(Rows.gateAgreesUptoRow.laid.all fun x=>x.snd.handleName?.isNone)=true:=by kernel_rfl
theorem w8 (os:Os):World.layFits Tryz.prog (World.holding Tryz.prog os { blocks:=#[],args:=#[] }) Rows.gateAgreesUptoRow.laid []=true:=by kernel_rfl
theorem w9 (os:Os):World.layIfaces Tryz.prog (World.holding Tryz.prog os { blocks:=#[],args:=#[] }) Rows.gateAgreesUptoRow.laid (World.laidAll Tryz.prog os Rows.gateAgreesUptoRow.laid)=true:=by kernel_rfl
theorem w10 (H:Type):∀ k,(Rows.OpenSpec.upto Rows.gateAgreesSpec).cond=some k→k H (([.agg [.lit (.int .i64 0),.lit (.bool false),.lit (.int .i64 0),.lit (.int .i64 0),.lit (.string []),.nil,.nil],.nil]:List (DataW H))++[])=true:=fun k hk=>by cases hk;kernel_rfl
theorem o1:([3,4,9,26,47,49,85,141]:List TypeId).all (CP.okT Tryz.checked.prog [3,4,9,26,47,49,85,141])=true:=by kernel_rfl
theorem o2:Tryz.f15.params.toList.all ([3,4,9,26,47,49,85,141]:List TypeId).contains=true:=by kernel_rfl
theorem o3:laidOutB Tryz.checked.prog=true:=by kernel_rfl
theorem o4:(Tryz.f15.params.toList.all fun t=>Tryz.checked.prog.readableRec t&&decide (t<Tryz.checked.prog.types.size))=true:=by kernel_rfl
theorem o5:Tryz.checked.prog.underlying 4=some TypeDesc.bool:=by kernel_rfl
theorem spec_fn {H:Type}:∀ ds:List (DataW H),ds.length=Tryz.f15.params.toList.length→(Rows.gateAgreesSpec.fn H ds).results=[.lit (.bool true)]∧(Rows.gateAgreesSpec.fn H ds).args=ds∧(Rows.gateAgreesSpec.fn H ds).vars=[]
 | [_,_],_=>⟨rfl,rfl,rfl⟩
 | [],h=>by rw[Tryz.params15] at h;simp at h
 | [_],h=>by rw[Tryz.params15] at h;simp at h
 | _::_::_::_,h=>by rw[Tryz.params15] at h;simp at h
set_option maxRecDepth 100000 in
theorem lifted (os:Os) (started:os.Started) (H:Type) (enc:TypeId × Value→H) (F:Stop.Interp) :
  ReturnsInHanded {} Tryz.checked os 15 .any ((Rows.OpenSpec.upto Rows.gateAgreesSpec).preRow enc Tryz.prog Tryz.f15 Rows.gateAgreesUptoRow.domain false Rows.gateAgreesUptoRow.laid) (((Rows.OpenSpec.upto Rows.gateAgreesSpec).at F).post enc Tryz.prog Tryz.f15 false true false false):=by
 obtain ⟨places,hx⟩:=w5 os H enc
 refine returnsInHanded_of_row (C:=Tryz.checked) (s:=Rows.OpenSpec.upto Rows.gateAgreesSpec) own started w1 Tryz.func15
  ⟨(World.laidAll Tryz.prog os Rows.gateAgreesUptoRow.laid),fun _ _=>0,{ blocks:=#[],args:=#[.agg #[.int .i64 0,.bool false,.int .i64 0,.int .i64 0,.string .empty,.slice none 0 0,.slice none 0 0],.slice none 0 0] },World.laidAll_os _ _ _,World.shaped_of_ZipB (w2 os) (w3 os),(Input.okWide_of_okWideB (base:=0) (w4 os)).1,(Input.okWide_of_okWideB (w4 os)).2,
   OpenSpec.preRow_of_cond 8 hx (by kernel_rfl) (w10 H) (w6 os H enc) (by rw[MakeChecks.laidMetH_plain _ _ _ w7];exact laidMet_laidAll _ (w8 os) (w9 os)),by
   simp only[Assume.holds]
   exact ⟨by simp,by simp,fun _=>Modest.zero,by simp,by simp⟩⟩ ?_
 intro W base args ds gs before hval0 hW _ hcond _ hL _ _
 have hk:Rows.uptoBulkAll (ds++gs)≤1048576:=of_decide_eq_true (hcond _ rfl)
 have hgs:gs=[]:=by
  obtain ⟨p,q,_,hV,_⟩:=hW
  exact (trodVars_none hV).1
 rw[hgs,List.append_nil] at hk
 exact Go.CP.wh [3,4,9,26,47,49,85,141] 4 o1 o2 o3 o4 (by kernel_rfl) o5 (by kernel_rfl) rfl spec_fn Tryz.func15 (by kernel_rfl) (by kernel_rfl)
  (fun j t v a b=>hval0 j t v a b) hW [] (fun _ h=>by cases h) (fun xs ht=>ov (by rw[Tryz.params15] at ht;exact ht) hk)
theorem joined_of {P:Program} {f:FuncId} {fn:Func} {s:ChangeSpec} {c:OpenClaim} (h1:c.wf (OpenSpec.ofChange s)=true) (h2:laidOutB P=true) (h3:mapsRowed P=true)
  (h4:(fn.params.all (P.readableRec ·)&&namedTie P c.named s.vars)=true) (h5:((c.stops==[])&&(P.stops==[])&&(c.knobs==[])&&(P.stopKnobs==[]))=true)
  (h6:(c.inPlace==P.inPlace f)=true) (h7:(c.unfollowed==P.unfollowed f)=true) (h8:(c.recurses==P.recurses f)=true) (h9:(c.named==P.varsNamed f)=true)
  (h10:((c.maps==(fn.params.toList++s.plain.varTypes P).any (P.mapsRec ·))&&(c.ifaces==(fn.params.toList++s.plain.varTypes P).any (P.ifacesRec ·))&&(c.mapsOut==P.mapsAmong fn.resultTypes.toList))=true)
  (h11:((c.loops==(fn.params.toList++s.plain.varTypes P).any (P.loopsFrom ·))&&(c.wideKeys==(fn.params.toList++s.plain.varTypes P++fn.resultTypes.toList).any (P.wideKeysFrom ·)))=true)
  (h12:(s.vars.all (P.varReadable ·)&&fn.resultTypes.all (fun t=>P.readableRec t&&decide (t<P.types.size))&&(c.ifacesOut==fn.resultTypes.toList.any (P.ifacesRec ·))&&(c.loopsOut==fn.resultTypes.toList.any (P.loopsFrom ·)))=true)
  (h13:((c.veiled==(fn.params.toList++s.plain.varTypes P++fn.resultTypes.toList).any (P.veiledRec ·))&&c.veiledFits P fn.params.toList (fn.params.toList++s.plain.varTypes P++fn.resultTypes.toList))=true)
  (h14:((c.plainKeys==P.plainKeys)&&c.shortTexts.isNone&&P.stopsHeard)=true) (h15:(P.mayEnter&&(c.lifted==P.liftsFinal))=true)
  (h16:((P.make==some c.make)&&(c.kinds==(if c.domain.isEmpty then [] else fn.params.toList.map fun t=>match P.underlying t with|some (.int k)=>some k|_=>none))&&(c.pinned==c.pinnedBy))=true) :
  joinedFacts P f fn s c=true:=by
 simp only[Bool.and_eq_true] at h4 h5 h10 h11 h12 h13 h14 h15 h16
 obtain ⟨a1,a2⟩:=h4
 obtain ⟨⟨⟨b1,b2⟩,b3⟩,b4⟩:=h5
 obtain ⟨⟨c1,c2⟩,c3⟩:=h10
 obtain ⟨d1,d2⟩:=h11
 obtain ⟨⟨⟨e1,e2⟩,e3⟩,e4⟩:=h12
 obtain ⟨g1,g2⟩:=h13
 obtain ⟨⟨p1,p2⟩,p3⟩:=h14
 obtain ⟨q1,q2⟩:=h15
 obtain ⟨⟨r1,r2⟩,r3⟩:=h16
 unfold joinedFacts
 rw[h1,h2,h3,a1,a2,b1,b2,b3,b4,h6,h7,h8,h9,c1,c2,c3,d1,d2,e1,e2,e3,e4,g1,g2,p1,p2,p3,q1,q2,r1,r3]
 simp only[Bool.true_and,Bool.and_true]
 exact r2
theorem j1:Rows.gateAgreesUptoRow.wf (OpenSpec.ofChange (Rows.OpenSpec.upto Rows.gateAgreesSpec).bare)=true:=by kernel_rfl
theorem j3:mapsRowed Tryz.prog=true:=by kernel_rfl
theorem j4:(Tryz.f15.params.all (Tryz.prog.readableRec ·)&&namedTie Tryz.prog Rows.gateAgreesUptoRow.named (Rows.OpenSpec.upto Rows.gateAgreesSpec).bare.vars)=true:=by kernel_rfl
theorem j5:((Rows.gateAgreesUptoRow.stops==[])&&(Tryz.prog.stops==[])&&(Rows.gateAgreesUptoRow.knobs==[])&&(Tryz.prog.stopKnobs==[]))=true:=by kernel_rfl
theorem j6:(Rows.gateAgreesUptoRow.inPlace==Tryz.prog.inPlace 15)=true:=by kernel_rfl
theorem j7:(Rows.gateAgreesUptoRow.unfollowed==Tryz.prog.unfollowed 15)=true:=by kernel_rfl
theorem j8:(Rows.gateAgreesUptoRow.recurses==Tryz.prog.recurses 15)=true:=by kernel_rfl
theorem j9:(Rows.gateAgreesUptoRow.named==Tryz.prog.varsNamed 15)=true:=by kernel_rfl
theorem j10:((Rows.gateAgreesUptoRow.maps==(Tryz.f15.params.toList++(Rows.OpenSpec.upto Rows.gateAgreesSpec).bare.plain.varTypes Tryz.prog).any (Tryz.prog.mapsRec ·))&&(Rows.gateAgreesUptoRow.ifaces==(Tryz.f15.params.toList++(Rows.OpenSpec.upto Rows.gateAgreesSpec).bare.plain.varTypes Tryz.prog).any (Tryz.prog.ifacesRec ·))&&(Rows.gateAgreesUptoRow.mapsOut==Tryz.prog.mapsAmong Tryz.f15.resultTypes.toList))=true:=by kernel_rfl
theorem j11:((Rows.gateAgreesUptoRow.loops==(Tryz.f15.params.toList++(Rows.OpenSpec.upto Rows.gateAgreesSpec).bare.plain.varTypes Tryz.prog).any (Tryz.prog.loopsFrom ·))&&(Rows.gateAgreesUptoRow.wideKeys==(Tryz.f15.params.toList++(Rows.OpenSpec.upto Rows.gateAgreesSpec).bare.plain.varTypes Tryz.prog++Tryz.f15.resultTypes.toList).any (Tryz.prog.wideKeysFrom ·)))=true:=by kernel_rfl
theorem j12:((Rows.OpenSpec.upto Rows.gateAgreesSpec).bare.vars.all (Tryz.prog.varReadable ·)&&Tryz.f15.resultTypes.all (fun t=>Tryz.prog.readableRec t&&decide (t<Tryz.prog.types.size))&&(Rows.gateAgreesUptoRow.ifacesOut==Tryz.f15.resultTypes.toList.any (Tryz.prog.ifacesRec ·))&&(Rows.gateAgreesUptoRow.loopsOut==Tryz.f15.resultTypes.toList.any (Tryz.prog.loopsFrom ·)))=true:=by kernel_rfl
theorem j13:((Rows.gateAgreesUptoRow.veiled==(Tryz.f15.params.toList++(Rows.OpenSpec.upto Rows.gateAgreesSpec).bare.plain.varTypes Tryz.prog++Tryz.f15.resultTypes.toList).any (Tryz.prog.veiledRec ·))&&Rows.gateAgreesUptoRow.veiledFits Tryz.prog Tryz.f15.params.toList (Tryz.f15.params.toList++(Rows.OpenSpec.upto Rows.gateAgreesSpec).bare.plain.varTypes Tryz.prog++Tryz.f15.resultTypes.toList))=true:=by kernel_rfl
theorem j14:((Rows.gateAgreesUptoRow.plainKeys==Tryz.prog.plainKeys)&&Rows.gateAgreesUptoRow.shortTexts.isNone&&Tryz.prog.stopsHeard)=true:=by kernel_rfl
theorem j15:(Tryz.prog.mayEnter&&(Rows.gateAgreesUptoRow.lifted==Tryz.prog.liftsFinal))=true:=by kernel_rfl
theorem j16:((Tryz.prog.make==some Rows.gateAgreesUptoRow.make)&&(Rows.gateAgreesUptoRow.kinds==(if Rows.gateAgreesUptoRow.domain.isEmpty then [] else Tryz.f15.params.toList.map fun t=>match Tryz.prog.underlying t with|some (.int k)=>some k|_=>none))&&(Rows.gateAgreesUptoRow.pinned==Rows.gateAgreesUptoRow.pinnedBy))=true:=by kernel_rfl
theorem joined:joinedFacts Tryz.prog 15 Tryz.f15 (Rows.OpenSpec.upto Rows.gateAgreesSpec).bare Rows.gateAgreesUptoRow=true:=joined_of j1 o3 j3 j4 j5 j6 j7 j8 j9 j10 j11 j12 j13 j14 j15 j16
theorem n1:Tryz.prog.funcNamed "flange/flangelaw12.GateAgrees" = some 15:=by kernel_rfl
theorem n2:Tryz.prog.funcNamed Rows.gateAgreesUptoRow.func=some 15:=n1
theorem n3:decide (Func.isInstance Tryz.prog Tryz.f15 Rows.gateAgreesUptoRow.origin Rows.gateAgreesUptoRow.targs)=true:=by kernel_rfl
set_option maxRecDepth 100000 in
theorem over:Rows.gateAgreesUptoRow.holds Tryz.pinned (Rows.OpenSpec.upto Rows.gateAgreesSpec) :=
 OpenClaim.holds_of_cond 15 Tryz.f15 rfl rfl rfl rfl rfl rfl rfl ⟨rfl,rfl,rfl,rfl,rfl⟩ rfl rfl rfl rfl rfl n2 Tryz.func15 joined
  (of_decide_eq_true n3) (by unfold Func.isWrapper;first | (rw[if_pos (by decide +kernel)];kernel_rfl) | (rw[if_neg (by decide +kernel)];exact ⟨rfl,rfl⟩))
  (fun os started H enc _ F=>by rw[OpenClaim.pre_eq_preRow];exact lifted os started H enc F)
theorem q1:OpenClaim.wfByText (Rows.OpenSpec.upto Rows.gateAgreesSpec) Rows.gateAgreesUptoRow=true:=by kernel_rfl
theorem q2:Tryz.prog.mainIs=some ((true, "a9afbdc8a2156cbca6a030309c3a6475bb911e123e85df2307ae5ffe5b16be5f").fst,(true, "a9afbdc8a2156cbca6a030309c3a6475bb911e123e85df2307ae5ffe5b16be5f").snd.toList):=by kernel_rfl
theorem q3:true=Tryz.prog.looks []:=by kernel_rfl
theorem q4:(Tryz.f15.params.toList.all fun u=>!Tryz.prog.wantsStandIn u)=true:=by kernel_rfl
theorem goes_none {P:Program} {c:OpenClaim} (h:P.funcs.any Func.goes=false) (hs:c.start=.entering):false=c.goesBy P:=by
 have hg:∀ f,P.goes f=false:=by
  intro f
  unfold Program.goes
  have h1:∀ g:FuncId,((P.funcs[g]?).any Func.goes)=false:=by
   intro g
   cases hg:P.funcs[g]? with
   | none=>rfl
   | some fn =>
    rw[Array.any_eq_false] at h
    obtain ⟨hi,e⟩:=Array.getElem?_eq_some_iff.1 hg
    have:=h g hi
    rw[e] at this
    simpa using this
  simp[h,h1]
 unfold OpenClaim.goesBy Program.goesAt Program.goesFrom
 rw[hs]
 cases P.funcNamed c.func with
 | none=>rfl
 | some f=>simp[hg f]
theorem q5:false=Rows.gateAgreesUptoRow.goesBy Tryz.prog:=goes_none (by kernel_rfl) rfl
/-- The statement: the tied card, where what is read is of bulk at most 1048576. -/
theorem proved:Rows.GateAgreesUptoCardSaid :=
 Claim7.holds_tied_plain_at .later [] [.data,.data,.data,.data,.sentinel,.sentinel,.pinned] true (true, "a9afbdc8a2156cbca6a030309c3a6475bb911e123e85df2307ae5ffe5b16be5f") true
  over (fun _ h=>by cases h) q1 (fun _ h=>by cases h) gateAgreesUpto_row_tie rfl ⟨rfl,rfl⟩ q2 rfl
  (fun f fn hf hfn=>by
   obtain rfl:f=15:=Option.some.inj (n1.symm.trans hf) |>.symm
   obtain rfl:fn=Tryz.f15:=(Option.some.inj (Tryz.func15.symm.trans hfn)).symm
   exact ⟨q3,fun j t ht=>by
    have hm:t ∈ Tryz.f15.params.toList:=by simpa using Array.mem_of_getElem? ht
    exact (show Tryz.prog.wantsStandIn t=false by simpa using List.all_eq_true.1 q4 t hm)⟩)
  q5
#print axioms proved
end Go.Proofs.YtknegckgmklnhaaGreatDoor.gateAgrees
