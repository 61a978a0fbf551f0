/- StatsBound: for every input the law returns true, and each argument reads behind the call as it read GG; the package's variables hold at first what the program's text lays. -/
import Derived.Test.YtkabjcanamcbeaaGreatDoorTie
import Derived.LaidLaws
import Derived.SevenTiedAt
import Derived.Test.YtkabjcanamcbeaaGreatDoorI7
import Derived.Test.YtkabjcanamcbeaaGreatDoorJf22Bound
import Derived.Test.YtkabjcanamcbeaaGreatDoorJg22Bound
namespace Go.Proofs.YtkabjcanamcbeaaGreatDoor.statsBound
open Go Go.ChangeShapes Go.WideShapes Go.ChangeAt Go.RowKit Go.Joins Go.Vc Go.Ar
set_option linter.unusedVariables false
theorem own:ownKnob Tryz.prog.godebug=none:=by kernel_rfl
theorem laidOut:laidOutB Tryz.prog=true:=by kernel_rfl
theorem g0:Tryz.prog.globalNamed "freehold/space.unmapped" = some 0 := by kernel_rfl
theorem t0:(Tryz.prog.globals[0]?).map (·.type)=some 160:=by kernel_rfl
theorem g1:Tryz.prog.globalNamed "freehold/space.clean" = some 2 := by kernel_rfl
theorem t1:(Tryz.prog.globals[2]?).map (·.type)=some 160:=by kernel_rfl
theorem gl_of {W:World}(h:laidMet Tryz.prog Rows.statsBoundRow.laid W):Gl W.heap:=by
  obtain⟨ps,⟨g0',t0',cs0,fuel0,p0,q0,hg0,ht0,hvar0,hd0,⟨g1',t1',cs1,fuel1,p1,q1,hg1,ht1,hvar1,hd1,_,_⟩,_⟩,_⟩:=h;obtain rfl:=Option.some.inj (g0.symm.trans hg0);obtain rfl:=Option.some.inj (t0.symm.trans ht0);have e0:=WbL Tryz.underlying160 (by kernel_rfl) (by kernel_rfl) Tryz.underlying4 Tryz.underlying4 hd0;subst e0;obtain rfl:=Option.some.inj (g1.symm.trans hg1);obtain rfl:=Option.some.inj (t1.symm.trans ht1);have e1:=WbL Tryz.underlying160 (by kernel_rfl) (by kernel_rfl) Tryz.underlying4 Tryz.underlying4 hd1;subst e1;exact⟨WaT (World.var?_cell hg1 hvar1 0),WaT (World.var?_cell hg1 hvar1 1),WaT (World.var?_cell hg0 hvar0 0),WaT (World.var?_cell hg0 hvar0 1)⟩
def cells0:Array Value := #[.bool false,.bool false]
def cells1:Array Value := #[.bool true,.bool false]
def args0:Array Value := #[.int .i64 0,.int .i64 0,.int .i64 0]
def putCells (cs:Array Value)(o:Obj):Obj:=match o with
  | .cells _ t frozen=>.cells cs t frozen
  | o=>o
noncomputable def laidWorld (os:Os):World:=
  {World.holding Tryz.prog os ⟨#[],#[],[]⟩with heap:=(((World.holding Tryz.prog os ⟨#[],#[],[]⟩).heap.modify 0 (putCells cells0)).modify 2 (putCells cells1))}
theorem row0 (os:Os):((laidWorld os).forCall (λ_ _=>0) ⟨#[],args0,[]⟩).memory.heap[0]?=some (.cells cells0 160 (0,0)):=by kernel_rfl
theorem row1 (os:Os):((laidWorld os).forCall (λ_ _=>0) ⟨#[],args0,[]⟩).memory.heap[2]?=some (.cells cells1 160 (0,0)):=by kernel_rfl
theorem laid0 (os:Os):laidMet Tryz.prog Rows.statsBoundRow.laid ((laidWorld os).forCall (λ_ _=>0) ⟨#[],args0,[]⟩).memory:=
  ⟨_,⟨0,160,cells0,8,[],_,by kernel_rfl,by kernel_rfl,by kernel_rfl,by kernel_rfl,⟨2,160,cells1,8,[],[],by kernel_rfl,by kernel_rfl,by kernel_rfl,by kernel_rfl,rfl,rfl⟩,rfl⟩,by decide,λb off h=>by
    have h':MemPlace.cell b off∈[MemPlace.cell 0 0,.cell 0 1,.cell 2 0,.cell 2 1]:=h;simp at h';rcases h' with⟨rfl,rfl⟩|⟨rfl,rfl⟩|⟨rfl,rfl⟩|⟨rfl,rfl⟩
    · exact⟨⟨_,_,row0 os⟩,λu v hc=>by simp only[World.cell?,row0 os]at hc;simp[cells0]at hc⟩
    · exact⟨⟨_,_,row0 os⟩,λu v hc=>by simp only[World.cell?,row0 os]at hc;simp[cells0]at hc⟩
    · exact⟨⟨_,_,row1 os⟩,λu v hc=>by simp only[World.cell?,row1 os]at hc;simp[cells1]at hc⟩
    · exact⟨⟨_,_,row1 os⟩,λu v hc=>by simp only[World.cell?,row1 os]at hc;simp[cells1]at hc⟩⟩
set_option maxRecDepth 100000 in
theorem lifted (os:Os)(started:os.Started)(H:Type)(enc:TypeId×Value→H) :
    ReturnsInHanded {} Tryz.checked os 4 .any (λw args=>(Rows.statsBoundSpec.pre enc Tryz.prog Tryz.f4 Rows.statsBoundRow.domain false w args∧laidMet Tryz.prog Rows.statsBoundRow.laid w)∧sizedMet enc Tryz.prog Tryz.f4 (OpenSpec.ofChange Rows.statsBoundSpec) false w args)
      (Rows.statsBoundSpec.post enc Tryz.prog Tryz.f4 false true false false):=by
  refine returnsInHanded_of_change_and (C:=Tryz.checked) (X:=λw _=>laidMet Tryz.prog Rows.statsBoundRow.laid w) (λ_ _ _ hh h=>h.of_heap hh) own started (by kernel_rfl) Tryz.func4
    (ChangeSpec.witness_at (enc:=enc) (C:=Tryz.checked) (os:=os) (X:=λw _=>laidMet Tryz.prog Rows.statsBoundRow.laid w) false (laidWorld os) args0 8 rfl (by kernel_rfl) (by kernel_rfl) (by kernel_rfl) (by kernel_rfl) (by kernel_rfl) (laid0 os)) ?_
  intro W base args ds gs GG hval0 hW hcnd _ hL _;have hval:∀(j:Nat) t v,Tryz.f4.params[j]?=some t→args[j]?=some v→Value.okWide Tryz.prog W .any base t v:=hval0;have hW':=hW;obtain⟨p,q,hA0,hV,rfl,hfz,hnd⟩:=hW;have hA:DataW.TrodAll enc Tryz.prog W 0 (λ_=>true) true Tryz.f4.params.toList args.toList ds p:=hA0;rw[Tryz.params4]at hA hval;obtain⟨v0,vs0,d0,ds0,p0,q0,hargs,rfl,rfl,h0,r0⟩:=trodAll_cons hA;obtain⟨v1,vs1,d1,ds1,p1,q1,rfl,rfl,rfl,h1,r1⟩:=trodAll_cons r0;obtain⟨v2,vs2,d2,ds2,p2,q2,rfl,rfl,rfl,h2,r2⟩:=trodAll_cons r1;obtain⟨rfl,rfl,rfl⟩:=trodAll_nil r2;obtain rfl:args = #[v0,v1,v2]:=by cases args;simp_all
  obtain⟨rfl,rfl⟩:=trodVars_none hV;obtain⟨a0,rfl,rfl,rfl,w0⟩:=open_int Tryz.underlying3 (hval 0 3 v0 rfl rfl) h0;obtain⟨a1,rfl,rfl,rfl,w1⟩:=open_int Tryz.underlying3 (hval 1 3 v1 rfl rfl) h1;obtain⟨a2,rfl,rfl,rfl,w2⟩:=open_int Tryz.underlying3 (hval 2 3 v2 rfl rfl) h2;clear hA0 hval0;refine(WhF (WdZ (gl_of hL) ⟨Nat.lt_trans (by decide) (ZB (gl_of hL).c0)⟩ _ _ _ λσ' e=>⟨rfl,e⟩)).mono λe W' ⟨he,bel⟩=>?_;subst he;exact⟨_,rfl,_,_,_,[],_,[],hW',trodAll_mk1 (shut_bool Tryz.underlying4 _),(trodAll_cons_mk (shut_int Tryz.underlying3 w0) (trodAll_cons_mk (shut_int Tryz.underlying3 w1) (trodAll_cons_mk (shut_int Tryz.underlying3 w2) trodAll_mk0))),rfl,bel.frame _,λh=>by cases h⟩
theorem over:Rows.statsBoundRow.holds Tryz.pinned (OpenSpec.ofChange Rows.statsBoundSpec):=
  OpenClaim.holds_of_wide 4 Tryz.f4 rfl rfl rfl rfl rfl rfl rfl ⟨rfl,rfl,rfl,rfl,rfl⟩ rfl rfl rfl rfl rfl (by kernel_rfl) Tryz.func4 closed
    (zAS (by kernel_rfl)) (by unfold Func.isWrapper;first | (rw[zB (by decide +kernel)];kernel_rfl) | (rw[zA (by decide +kernel)];exact⟨rfl,rfl⟩))
    (λos started H enc _=>lifted os started H enc)
/-- The tied card. -/
theorem card:Rows.StatsBoundCardSaid:=
  Claim7.holds_tied_plain_at .later [] [.data,.data] true (true, "bcc9e8b7dc334d64fd9589acf3106db236224a15116b22b02a6c6f4ea0cf32f3") true
    over (λ_ h=>by cases h) d1 (λ_ h=>by cases h) statsBound_row_tie rfl ⟨rfl,rfl⟩ d2 rfl
    (λf fn hf hfn=>by
      obtain rfl:f=4:=Option.some.inj ((show Tryz.prog.funcNamed "freehold/freeholdlaw22.StatsBound" = some 4 by kernel_rfl).symm.trans hf) |>.symm
      obtain rfl:fn=Tryz.f4:=(Option.some.inj (Tryz.func4.symm.trans hfn)).symm;exact⟨d3,λj t ht=>by
        rw[Tryz.params4]at ht;have hm:t∈[3,3,3]:=by simpa using zFO ht
        exact(show Tryz.prog.wantsStandIn t=false by simpa using zw.1 d4 t hm)⟩)
    d5
#print axioms card
end Go.Proofs.YtkabjcanamcbeaaGreatDoor.statsBound
