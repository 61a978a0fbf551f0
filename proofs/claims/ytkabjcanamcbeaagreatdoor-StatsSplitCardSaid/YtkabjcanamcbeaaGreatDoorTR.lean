import Derived.Test.YtkabjcanamcbeaaGreatDoorTie
import Derived.LaidLaws
import Derived.SevenTiedAt
import Derived.Test.YtkabjcanamcbeaaGreatDoorT8
import Derived.Test.YtkabjcanamcbeaaGreatDoorJf22Split
import Derived.Test.YtkabjcanamcbeaaGreatDoorJg22Split
namespace Go.Proofs.YtkabjcanamcbeaaGreatDoor.statsSplit
open Go Go.ChangeShapes Go.WideShapes Go.ChangeAt Go.RowKit Go.Joins Go.Vc Go.Ar
set_option linter.unusedVariables false
theorem own:ownKnob Tryz.prog.godebug=none:=by kernel_rfl
theorem laidOut:laidOutB Tryz.prog=true:=by kernel_rfl
theorem g0:Tryz.prog.globalNamed "freehold/space.unmapped" = some 0 := by kernel_rfl
theorem t0:(Tryz.prog.globals[0]?).map (·.type)=some 160:=by kernel_rfl
theorem g1:Tryz.prog.globalNamed "freehold/space.clean" = some 2 := by kernel_rfl
theorem t1:(Tryz.prog.globals[2]?).map (·.type)=some 160:=by kernel_rfl
theorem g2:Tryz.prog.globalNamed "freehold/space.dirty" = some 1 := by kernel_rfl
theorem t2:(Tryz.prog.globals[1]?).map (·.type)=some 160:=by kernel_rfl
theorem sR {W:World}(h:laidMet Tryz.prog Rows.statsSplitRow.laid W):Gl W.heap∧Gc W.heap:=by
  obtain⟨ps,⟨g0',t0',cs0,fuel0,p0,q0,hg0,ht0,hvar0,hd0,⟨g1',t1',cs1,fuel1,p1,q1,hg1,ht1,hvar1,hd1,⟨g2',t2',cs2,fuel2,p2,q2,hg2,ht2,hvar2,hd2,_,_⟩,_⟩,_⟩,_⟩:=h;obtain rfl:=Option.some.inj (g0.symm.trans hg0);obtain rfl:=Option.some.inj (t0.symm.trans ht0);have e0:=Ce Tryz.underlying160 (by kernel_rfl) (by kernel_rfl) Tryz.underlying4 Tryz.underlying4 hd0;subst e0;obtain rfl:=Option.some.inj (g1.symm.trans hg1);obtain rfl:=Option.some.inj (t1.symm.trans ht1);have e1:=Ce Tryz.underlying160 (by kernel_rfl) (by kernel_rfl) Tryz.underlying4 Tryz.underlying4 hd1;subst e1;obtain rfl:=Option.some.inj (g2.symm.trans hg2);obtain rfl:=Option.some.inj (t2.symm.trans ht2);have e2:=Ce Tryz.underlying160 (by kernel_rfl) (by kernel_rfl) Tryz.underlying4 Tryz.underlying4 hd2;subst e2;exact⟨⟨GL (World.var?_cell hg1 hvar1 0),GL (World.var?_cell hg1 hvar1 1),GL (World.var?_cell hg0 hvar0 0),GL (World.var?_cell hg0 hvar0 1)⟩,⟨GL (World.var?_cell hg2 hvar2 0),GL (World.var?_cell hg2 hvar2 1)⟩⟩
def ko:Array Value := #[.bool false,.bool false]
def kI:Array Value := #[.bool true,.bool false]
def kN:Array Value := #[.bool true,.bool true]
def mK:Array Value := #[.agg #[.int .i64 0,.int .i64 0,.int .i64 0,.int .i64 0,.int .i64 0,.int .i64 0],.slice none 0 0]
def putCells (cs:Array Value)(o:Obj):Obj:=match o with
  | .cells _ t frozen=>.cells cs t frozen
  | o=>o
noncomputable def ig (os:Os):World:=
  {World.holding Tryz.prog os ⟨#[],#[],[]⟩with heap:=((((World.holding Tryz.prog os ⟨#[],#[],[]⟩).heap.modify 0 (putCells ko)).modify 2 (putCells kI)).modify 1 (putCells kN))}
theorem rh (os:Os):((ig os).forCall (λ_ _=>0) ⟨#[],mK,[]⟩).memory.heap[0]?=some (.cells ko 160 (0,0)):=by kernel_rfl
theorem r9 (os:Os):((ig os).forCall (λ_ _=>0) ⟨#[],mK,[]⟩).memory.heap[2]?=some (.cells kI 160 (0,0)):=by kernel_rfl
theorem rq (os:Os):((ig os).forCall (λ_ _=>0) ⟨#[],mK,[]⟩).memory.heap[1]?=some (.cells kN 160 (0,0)):=by kernel_rfl
theorem xq (os:Os):laidMet Tryz.prog Rows.statsSplitRow.laid ((ig os).forCall (λ_ _=>0) ⟨#[],mK,[]⟩).memory:=
  ⟨_,⟨0,160,ko,8,[],_,by kernel_rfl,by kernel_rfl,by kernel_rfl,by kernel_rfl,⟨2,160,kI,8,[],_,by kernel_rfl,by kernel_rfl,by kernel_rfl,by kernel_rfl,⟨1,160,kN,8,[],[],by kernel_rfl,by kernel_rfl,by kernel_rfl,by kernel_rfl,rfl,rfl⟩,rfl⟩,rfl⟩,by decide,λb off h=>by
    have h':MemPlace.cell b off∈[MemPlace.cell 0 0,.cell 0 1,.cell 2 0,.cell 2 1,.cell 1 0,.cell 1 1]:=h;simp at h';rcases h' with⟨rfl,rfl⟩|⟨rfl,rfl⟩|⟨rfl,rfl⟩|⟨rfl,rfl⟩|⟨rfl,rfl⟩|⟨rfl,rfl⟩
    · exact⟨⟨_,_,rh os⟩,λu v hc=>by simp only[World.cell?,rh os]at hc;simp[ko]at hc⟩
    · exact⟨⟨_,_,rh os⟩,λu v hc=>by simp only[World.cell?,rh os]at hc;simp[ko]at hc⟩
    · exact⟨⟨_,_,r9 os⟩,λu v hc=>by simp only[World.cell?,r9 os]at hc;simp[kI]at hc⟩
    · exact⟨⟨_,_,r9 os⟩,λu v hc=>by simp only[World.cell?,r9 os]at hc;simp[kI]at hc⟩
    · exact⟨⟨_,_,rq os⟩,λu v hc=>by simp only[World.cell?,rq os]at hc;simp[kN]at hc⟩
    · exact⟨⟨_,_,rq os⟩,λu v hc=>by simp only[World.cell?,rq os]at hc;simp[kN]at hc⟩⟩
set_option maxRecDepth 100000 in
theorem lifted (os:Os)(started:os.Started)(H:Type)(enc:TypeId×Value→H) :
    ReturnsInHanded {} Tryz.checked os 12 .any (λw args=>(Rows.statsSplitSpec.pre enc Tryz.prog Tryz.f12 Rows.statsSplitRow.domain false w args∧laidMet Tryz.prog Rows.statsSplitRow.laid w)∧sizedMet enc Tryz.prog Tryz.f12 (OpenSpec.ofChange Rows.statsSplitSpec) false w args)
      (Rows.statsSplitSpec.post enc Tryz.prog Tryz.f12 false true false false):=by
  refine returnsInHanded_of_change_and (C:=Tryz.checked) (X:=λw _=>laidMet Tryz.prog Rows.statsSplitRow.laid w) (λ_ _ _ hh h=>h.of_heap hh) own started (by kernel_rfl) Tryz.func12
    (ChangeSpec.witness_at (enc:=enc) (C:=Tryz.checked) (os:=os) (X:=λw _=>laidMet Tryz.prog Rows.statsSplitRow.laid w) false (ig os) mK 8 rfl (by kernel_rfl) (by kernel_rfl) (by kernel_rfl) (by kernel_rfl) (by kernel_rfl) (xq os)) ?_
  intro W base args ds gs wX hval0 hW hcnd _ hL _;have hval:∀(j:Nat) t v,Tryz.f12.params[j]?=some t→args[j]?=some v→Value.okWide Tryz.prog W .any base t v:=hval0;have hW':=hW;obtain⟨p,q,hA0,hV,rfl,hfz,hnd⟩:=hW;have hA:DataW.TrodAll enc Tryz.prog W 0 (λ_=>true) true Tryz.f12.params.toList args.toList ds p:=hA0;rw[Tryz.params12]at hA hval;obtain⟨v0,vs0,d0,ds0,p0,q0,hargs,rfl,rfl,h0,r0⟩:=trodAll_cons hA;obtain⟨v1,vs1,d1,ds1,p1,q1,rfl,rfl,rfl,h1,r1⟩:=trodAll_cons r0;obtain⟨rfl,rfl,rfl⟩:=trodAll_nil r1;obtain rfl:args = #[v0,v1]:=by cases args;simp_all
  obtain⟨rfl,rfl⟩:=trodVars_none hV;have k0:=h0;have lt0:∀x∈p0,x.block<W.heap.size:=by obtain⟨m,hm⟩:=k0;exact DataW.trod_lt m _ _ _ hm
  obtain⟨x0_0,x0_1,x0_2,x0_3,x0_4,x0_5,rfl⟩:=WgZ Tryz.underlying65 (by kernel_rfl) ⟨by kernel_rfl,by kernel_rfl,by kernel_rfl,by kernel_rfl⟩ Tryz.underlying3 Tryz.underlying40 (by kernel_rfl) Tryz.underlying3 Tryz.underlying3 Tryz.underlying3 Tryz.underlying3 Tryz.underlying3 (hval 0 65 v0 rfl rfl) h0;have k1:=h1;have lt1:∀x∈p1,x.block<W.heap.size:=by obtain⟨m,hm⟩:=k1;exact DataW.trod_lt m _ _ _ hm
  obtain⟨a1,len1,cap1,rfl⟩:=okWide_slice Tryz.underlying66 (hval 1 66 v1 rfl rfl);obtain⟨ds1d,D1⟩:=T4 Tryz.underlying66 Tryz.underlying87 (by kernel_rfl) (by kernel_rfl) Tryz.underlying3 Tryz.underlying3 Tryz.underlying3 Tryz.underlying3 Tryz.underlying3 Tryz.underlying3 Tryz.underlying3 Tryz.underlying9 h1;clear hA0 hval0;refine(θ (P0 (sR hL).1 (sR hL).2 _ _ _ _ _ _ D1 λσ' e=>⟨rfl,e⟩)).mono λe W' ⟨he,bel⟩=>?_;subst he;exact⟨_,rfl,_,_,_,[],_,[],hW',trodAll_mk1 (shut_bool Tryz.underlying4 _),(trodAll_cons_mk (Below.trod laidOut (by kernel_rfl) (ot (by kernel_rfl)) k0 bel lt0) (trodAll_cons_mk (Below.trod laidOut (by kernel_rfl) (ot (by kernel_rfl)) k1 bel lt1) trodAll_mk0)),rfl,bel.frame _,λh=>by cases h⟩
theorem over:Rows.statsSplitRow.holds Tryz.pinned (OpenSpec.ofChange Rows.statsSplitSpec):=
  OpenClaim.holds_of_wide 12 Tryz.f12 rfl rfl rfl rfl rfl rfl rfl ⟨rfl,rfl,rfl,rfl,rfl⟩ rfl rfl rfl rfl rfl (by kernel_rfl) Tryz.func12 closed
    (ot (by kernel_rfl)) (by unfold Func.isWrapper;first | (rw[zB (by decide +kernel)];kernel_rfl) | (rw[zA (by decide +kernel)];exact⟨rfl,rfl⟩))
    (λos started H enc _=>lifted os started H enc)
/-- The tied card. -/
theorem card:Rows.StatsSplitCardSaid:=
  Claim7.holds_tied_plain_at .later [] [.data,.data,.data] true (true, "bcc9e8b7dc334d64fd9589acf3106db236224a15116b22b02a6c6f4ea0cf32f3") true
    over (λ_ h=>by cases h) d1 (λ_ h=>by cases h) statsSplit_row_tie rfl ⟨rfl,rfl⟩ d2 rfl
    (λf fn hf hfn=>by
      obtain rfl:f=12:=Option.some.inj ((show Tryz.prog.funcNamed "freehold/freeholdlaw22.StatsSplit" = some 12 by kernel_rfl).symm.trans hf) |>.symm
      obtain rfl:fn=Tryz.f12:=(Option.some.inj (Tryz.func12.symm.trans hfn)).symm;exact⟨d3,λj t ht=>by
        rw[Tryz.params12]at ht;have hm:t∈[65,66]:=by simpa using Cu ht
        exact(show Tryz.prog.wantsStandIn t=false by simpa using kR.1 d4 t hm)⟩)
    d5
#print axioms card
end Go.Proofs.YtkabjcanamcbeaaGreatDoor.statsSplit
