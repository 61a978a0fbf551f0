/- ResizeText: for every input the law returns true, and each argument reads behind the call as it read Wa7; the package's variables hold at first what the program's text lays. -/
import Derived.Test.YtehhfakcnbnipaaGreatDoorTie
import Derived.LaidLaws
import Derived.SevenTiedAt
import Derived.Test.YtehhfakcnbnipaaGreatDoorI7
import Derived.Test.YtehhfakcnbnipaaGreatDoorJf16Text
import Derived.Test.YtehhfakcnbnipaaGreatDoorJg16Text
namespace Go.Proofs.YtehhfakcnbnipaaGreatDoor.resizeText
open Go Go.ChangeShapes Go.WideShapes Go.ChangeAt Go.RowKit Go.Joins Go.Vc Go.Ar
set_option linter.unusedVariables false
theorem own:ownKnob Tryz.prog.godebug=none:=by kernel_rfl
theorem laidOut:laidOutB Tryz.prog=true:=by kernel_rfl
theorem g0:Tryz.prog.globalNamed "freehold/space.unmapped" = some 0 := by kernel_rfl
theorem t0:(Tryz.prog.globals[0]?).map (·.type)=some 245:=by kernel_rfl
theorem g1:Tryz.prog.globalNamed "freehold/space.clean" = some 2 := by kernel_rfl
theorem t1:(Tryz.prog.globals[2]?).map (·.type)=some 245:=by kernel_rfl
theorem g2:Tryz.prog.globalNamed "freehold/space.dirty" = some 1 := by kernel_rfl
theorem t2:(Tryz.prog.globals[1]?).map (·.type)=some 245:=by kernel_rfl
theorem gl_of {W:World}(h:laidMet Tryz.prog Rows.resizeTextRow.laid W):Gl W.heap∧Gd W.heap:=by
  obtain⟨ps,⟨g0',t0',cs0,fuel0,p0,q0,hg0,ht0,hvar0,hd0,⟨g1',t1',cs1,fuel1,p1,q1,hg1,ht1,hvar1,hd1,⟨g2',t2',cs2,fuel2,p2,q2,hg2,ht2,hvar2,hd2,_,_⟩,_⟩,_⟩,_⟩:=h;obtain rfl:=Option.some.inj (g0.symm.trans hg0);obtain rfl:=Option.some.inj (t0.symm.trans ht0);have e0:=WaS Tryz.underlying245 (by kernel_rfl) (by kernel_rfl) Tryz.underlying4 Tryz.underlying4 hd0;subst e0;obtain rfl:=Option.some.inj (g1.symm.trans hg1);obtain rfl:=Option.some.inj (t1.symm.trans ht1);have e1:=WaS Tryz.underlying245 (by kernel_rfl) (by kernel_rfl) Tryz.underlying4 Tryz.underlying4 hd1;subst e1;obtain rfl:=Option.some.inj (g2.symm.trans hg2);obtain rfl:=Option.some.inj (t2.symm.trans ht2);have e2:=WaS Tryz.underlying245 (by kernel_rfl) (by kernel_rfl) Tryz.underlying4 Tryz.underlying4 hd2;subst e2;exact⟨⟨H4 (World.var?_cell hg1 hvar1 0),H4 (World.var?_cell hg1 hvar1 1),H4 (World.var?_cell hg0 hvar0 0),H4 (World.var?_cell hg0 hvar0 1)⟩,⟨H4 (World.var?_cell hg2 hvar2 0),H4 (World.var?_cell hg2 hvar2 1)⟩⟩
def cells0:Array Value := #[.bool false,.bool false]
def cells1:Array Value := #[.bool true,.bool false]
def cells2:Array Value := #[.bool true,.bool true]
def args0:Array Value := #[.agg #[.int .i64 0,.int .i64 0,.int .i64 0,.int .i64 0,.int .i64 0,.int .i64 0],.slice none 0 0,.slice none 0 0,.string (ByteArray.mk #[])]
def putCells (cs:Array Value)(o:Obj):Obj:=match o with
  | .cells _ t frozen=>.cells cs t frozen
  | o=>o
noncomputable def laidWorld (os:Os):World:=
  {World.holding Tryz.prog os ⟨#[],#[],[]⟩with heap:=((((World.holding Tryz.prog os ⟨#[],#[],[]⟩).heap.modify 0 (putCells cells0)).modify 2 (putCells cells1)).modify 1 (putCells cells2))}
theorem row0 (os:Os):((laidWorld os).forCall (λ_ _=>0) ⟨#[],args0,[]⟩).memory.heap[0]?=some (.cells cells0 245 (0,0)):=by kernel_rfl
theorem row1 (os:Os):((laidWorld os).forCall (λ_ _=>0) ⟨#[],args0,[]⟩).memory.heap[2]?=some (.cells cells1 245 (0,0)):=by kernel_rfl
theorem row2 (os:Os):((laidWorld os).forCall (λ_ _=>0) ⟨#[],args0,[]⟩).memory.heap[1]?=some (.cells cells2 245 (0,0)):=by kernel_rfl
theorem laid0 (os:Os):laidMet Tryz.prog Rows.resizeTextRow.laid ((laidWorld os).forCall (λ_ _=>0) ⟨#[],args0,[]⟩).memory:=
  ⟨_,⟨0,245,cells0,8,[],_,by kernel_rfl,by kernel_rfl,by kernel_rfl,by kernel_rfl,⟨2,245,cells1,8,[],_,by kernel_rfl,by kernel_rfl,by kernel_rfl,by kernel_rfl,⟨1,245,cells2,8,[],[],by kernel_rfl,by kernel_rfl,by kernel_rfl,by kernel_rfl,rfl,rfl⟩,rfl⟩,rfl⟩,by decide,λb off h=>by
    have h':MemPlace.cell b off∈[MemPlace.cell 0 0,.cell 0 1,.cell 2 0,.cell 2 1,.cell 1 0,.cell 1 1]:=h;simp at h';rcases h' with⟨rfl,rfl⟩|⟨rfl,rfl⟩|⟨rfl,rfl⟩|⟨rfl,rfl⟩|⟨rfl,rfl⟩|⟨rfl,rfl⟩
    · exact⟨⟨_,_,row0 os⟩,λu v hc=>by simp only[World.cell?,row0 os]at hc;simp[cells0]at hc⟩
    · exact⟨⟨_,_,row0 os⟩,λu v hc=>by simp only[World.cell?,row0 os]at hc;simp[cells0]at hc⟩
    · exact⟨⟨_,_,row1 os⟩,λu v hc=>by simp only[World.cell?,row1 os]at hc;simp[cells1]at hc⟩
    · exact⟨⟨_,_,row1 os⟩,λu v hc=>by simp only[World.cell?,row1 os]at hc;simp[cells1]at hc⟩
    · exact⟨⟨_,_,row2 os⟩,λu v hc=>by simp only[World.cell?,row2 os]at hc;simp[cells2]at hc⟩
    · exact⟨⟨_,_,row2 os⟩,λu v hc=>by simp only[World.cell?,row2 os]at hc;simp[cells2]at hc⟩⟩
set_option maxRecDepth 100000 in
theorem lifted (os:Os)(started:os.Started)(H:Type)(enc:TypeId×Value→H) :
    ReturnsInHanded {} Tryz.checked os 4 .any (λw args=>(Rows.resizeTextSpec.pre enc Tryz.prog Tryz.f4 Rows.resizeTextRow.domain false w args∧laidMet Tryz.prog Rows.resizeTextRow.laid w)∧sizedMet enc Tryz.prog Tryz.f4 (OpenSpec.ofChange Rows.resizeTextSpec) false w args)
      (Rows.resizeTextSpec.post enc Tryz.prog Tryz.f4 false true false false):=by
  refine returnsInHanded_of_change_and (C:=Tryz.checked) (X:=λw _=>laidMet Tryz.prog Rows.resizeTextRow.laid w) (λ_ _ _ hh h=>h.of_heap hh) own started (by kernel_rfl) Tryz.func4
    (ChangeSpec.witness_at (enc:=enc) (C:=Tryz.checked) (os:=os) (X:=λw _=>laidMet Tryz.prog Rows.resizeTextRow.laid w) false (laidWorld os) args0 8 rfl (by kernel_rfl) (by kernel_rfl) (by kernel_rfl) (by kernel_rfl) (by kernel_rfl) (laid0 os)) ?_
  intro W base args ds gs Wa7 hval0 hW hcnd _ hL _;have hval:∀(j:Nat) t v,Tryz.f4.params[j]?=some t→args[j]?=some v→Value.okWide Tryz.prog W .any base t v:=hval0;have hW':=hW;obtain⟨p,q,hA0,hV,rfl,hfz,hnd⟩:=hW;have hA:DataW.TrodAll enc Tryz.prog W 0 (λ_=>true) true Tryz.f4.params.toList args.toList ds p:=hA0;rw[Tryz.params4]at hA hval;obtain⟨v0,vs0,d0,ds0,p0,q0,hargs,rfl,rfl,h0,r0⟩:=trodAll_cons hA;obtain⟨v1,vs1,d1,ds1,p1,q1,rfl,rfl,rfl,h1,r1⟩:=trodAll_cons r0;obtain⟨v2,vs2,d2,ds2,p2,q2,rfl,rfl,rfl,h2,r2⟩:=trodAll_cons r1;obtain⟨v3,vs3,d3,ds3,p3,q3,rfl,rfl,rfl,h3,r3⟩:=trodAll_cons r2;obtain⟨rfl,rfl,rfl⟩:=trodAll_nil r3;obtain rfl:args = #[v0,v1,v2,v3]:=by cases args;simp_all
  obtain⟨rfl,rfl⟩:=trodVars_none hV;have k0:=h0;have lt0:∀x∈p0,x.block<W.heap.size:=by obtain⟨m,hm⟩:=k0;exact DataW.trod_lt m _ _ _ hm
  obtain⟨x0_0,x0_1,x0_2,x0_3,x0_4,x0_5,rfl⟩:=Wgo Tryz.underlying46 (by kernel_rfl) ⟨by kernel_rfl,by kernel_rfl,by kernel_rfl,by kernel_rfl⟩ Tryz.underlying3 Tryz.underlying26 (by kernel_rfl) Tryz.underlying3 Tryz.underlying3 Tryz.underlying3 Tryz.underlying3 Tryz.underlying3 (hval 0 46 v0 rfl rfl) h0;have k1:=h1;have lt1:∀x∈p1,x.block<W.heap.size:=by obtain⟨m,hm⟩:=k1;exact DataW.trod_lt m _ _ _ hm
  obtain⟨a1,len1,cap1,rfl⟩:=okWide_slice Tryz.underlying47 (hval 1 47 v1 rfl rfl);obtain⟨ds1d,D1⟩:=Wbc Tryz.underlying47 Tryz.underlying54 (by kernel_rfl) (by kernel_rfl) Tryz.underlying3 Tryz.underlying3 Tryz.underlying3 Tryz.underlying3 Tryz.underlying3 Tryz.underlying3 Tryz.underlying3 Tryz.underlying9 h1;have k2:=h2;have lt2:∀x∈p2,x.block<W.heap.size:=by obtain⟨m,hm⟩:=k2;exact DataW.trod_lt m _ _ _ hm
  obtain⟨a2,len2,cap2,rfl⟩:=okWide_slice Tryz.underlying47 (hval 2 47 v2 rfl rfl);obtain⟨ds2d,D2⟩:=Wbc Tryz.underlying47 Tryz.underlying54 (by kernel_rfl) (by kernel_rfl) Tryz.underlying3 Tryz.underlying3 Tryz.underlying3 Tryz.underlying3 Tryz.underlying3 Tryz.underlying3 Tryz.underlying3 Tryz.underlying9 h2;have k3:=h3;have lt3:∀x∈p3,x.block<W.heap.size:=by obtain⟨m,hm⟩:=k3;exact DataW.trod_lt m _ _ _ hm
  obtain⟨s3,rfl⟩:=okWide_string Tryz.underlying9 (hval 3 9 v3 rfl rfl);clear hA0 hval0;refine(WkT (Whl (gl_of hL).1 (gl_of hL).2 _ _ _ _ _ _ D1 D2 _ λσ' e=>⟨rfl,e⟩)).mono λe W' ⟨he,bel⟩=>?_;subst he;exact⟨_,rfl,_,_,_,[],_,[],hW',trodAll_mk1 (shut_bool Tryz.underlying4 _),(trodAll_cons_mk (Below.trod laidOut (by kernel_rfl) (zCA (by kernel_rfl)) k0 bel lt0) (trodAll_cons_mk (Below.trod laidOut (by kernel_rfl) (zCA (by kernel_rfl)) k1 bel lt1) (trodAll_cons_mk (Below.trod laidOut (by kernel_rfl) (zCA (by kernel_rfl)) k2 bel lt2) (trodAll_cons_mk (Below.trod laidOut (by kernel_rfl) (zCA (by kernel_rfl)) k3 bel lt3) trodAll_mk0)))),rfl,bel.frame _,λh=>by cases h⟩
theorem over:Rows.resizeTextRow.holds Tryz.pinned (OpenSpec.ofChange Rows.resizeTextSpec):=
  OpenClaim.holds_of_wide 4 Tryz.f4 rfl rfl rfl rfl rfl rfl rfl ⟨rfl,rfl,rfl,rfl,rfl⟩ rfl rfl rfl rfl rfl (by kernel_rfl) Tryz.func4 closed
    (zCA (by kernel_rfl)) (by unfold Func.isWrapper;first | (rw[zB (by decide +kernel)];kernel_rfl) | (rw[zA (by decide +kernel)];exact⟨rfl,rfl⟩))
    (λos started H enc _=>lifted os started H enc)
/-- The tied card. -/
theorem card:Rows.ResizeTextCardSaid:=
  Claim7.holds_tied_plain_at .later [] [.data,.data,.data] true (true, "63850df2994f27f5a3ace9533e86eca3b31972c4f358253999b72d13bbff30fd") true
    over (λ_ h=>by cases h) d1 (λ_ h=>by cases h) resizeText_row_tie rfl ⟨rfl,rfl⟩ d2 rfl
    (λf fn hf hfn=>by
      obtain rfl:f=4:=Option.some.inj ((show Tryz.prog.funcNamed "freehold/freeholdlaw16.ResizeText" = some 4 by kernel_rfl).symm.trans hf) |>.symm
      obtain rfl:fn=Tryz.f4:=(Option.some.inj (Tryz.func4.symm.trans hfn)).symm;exact⟨d3,λj t ht=>by
        rw[Tryz.params4]at ht;have hm:t∈[46,47,47,9]:=by simpa using zFO ht
        exact(show Tryz.prog.wantsStandIn t=false by simpa using zu.1 d4 t hm)⟩)
    d5
#print axioms card
end Go.Proofs.YtehhfakcnbnipaaGreatDoor.resizeText
