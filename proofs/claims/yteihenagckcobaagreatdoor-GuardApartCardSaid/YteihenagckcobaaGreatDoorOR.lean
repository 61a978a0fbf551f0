import Derived.Test.YteihenagckcobaaGreatDoorTie
import Derived.LaidLaws
import Derived.SevenTiedAt
import Derived.Test.YteihenagckcobaaGreatDoorO8
import Derived.Test.YteihenagckcobaaGreatDoorJf12Apart
import Derived.Test.YteihenagckcobaaGreatDoorJg12Apart
namespace Go.Proofs.YteihenagckcobaaGreatDoor.guardApart
open Go Go.ChangeShapes Go.WideShapes Go.ChangeAt Go.RowKit Go.Joins Go.Vc Go.Ar
set_option linter.unusedVariables false
theorem own:ownKnob Tryz.prog.godebug=none:=by kernel_rfl
theorem laidOut:laidOutB Tryz.prog=true:=by kernel_rfl
theorem g0:Tryz.prog.globalNamed "freehold/space.unmapped" = some 0 := by kernel_rfl
theorem t0:(Tryz.prog.globals[0]?).map (·.type)=some 161:=by kernel_rfl
theorem g1:Tryz.prog.globalNamed "freehold/space.clean" = some 2 := by kernel_rfl
theorem t1:(Tryz.prog.globals[2]?).map (·.type)=some 161:=by kernel_rfl
theorem g2:Tryz.prog.globalNamed "freehold/space.dirty" = some 1 := by kernel_rfl
theorem t2:(Tryz.prog.globals[1]?).map (·.type)=some 161:=by kernel_rfl
theorem qV {W:World}(h:laidMet Tryz.prog Rows.guardApartRow.laid W):Gl W.heap∧Gc W.heap:=by
  obtain⟨ps,⟨g0',t0',cs0,fuel0,p0,q0,hg0,ht0,hvar0,hd0,⟨g1',t1',cs1,fuel1,p1,q1,hg1,ht1,hvar1,hd1,⟨g2',t2',cs2,fuel2,p2,q2,hg2,ht2,hvar2,hd2,_,_⟩,_⟩,_⟩,_⟩:=h;obtain rfl:=Option.some.inj (g0.symm.trans hg0);obtain rfl:=Option.some.inj (t0.symm.trans ht0);have e0:=G4 Tryz.underlying161 (by kernel_rfl) (by kernel_rfl) Tryz.underlying4 Tryz.underlying4 hd0;subst e0;obtain rfl:=Option.some.inj (g1.symm.trans hg1);obtain rfl:=Option.some.inj (t1.symm.trans ht1);have e1:=G4 Tryz.underlying161 (by kernel_rfl) (by kernel_rfl) Tryz.underlying4 Tryz.underlying4 hd1;subst e1;obtain rfl:=Option.some.inj (g2.symm.trans hg2);obtain rfl:=Option.some.inj (t2.symm.trans ht2);have e2:=G4 Tryz.underlying161 (by kernel_rfl) (by kernel_rfl) Tryz.underlying4 Tryz.underlying4 hd2;subst e2;exact⟨⟨Hi (World.var?_cell hg1 hvar1 0),Hi (World.var?_cell hg1 hvar1 1),Hi (World.var?_cell hg0 hvar0 0),Hi (World.var?_cell hg0 hvar0 1)⟩,⟨Hi (World.var?_cell hg2 hvar2 0),Hi (World.var?_cell hg2 hvar2 1)⟩⟩
def jS:Array Value := #[.bool false,.bool false]
def jO:Array Value := #[.bool true,.bool false]
def jN:Array Value := #[.bool true,.bool true]
def lR:Array Value := #[.agg #[.int .i64 0,.int .i64 0,.int .i64 0,.int .i64 0,.int .i64 0,.int .i64 0],.slice none 0 0]
def putCells (cs:Array Value)(o:Obj):Obj:=match o with
  | .cells _ t frozen=>.cells cs t frozen
  | o=>o
noncomputable def gQ (os:Os):World:=
  {World.holding Tryz.prog os ⟨#[],#[],[]⟩with heap:=((((World.holding Tryz.prog os ⟨#[],#[],[]⟩).heap.modify 0 (putCells jS)).modify 2 (putCells jO)).modify 1 (putCells jN))}
theorem qs (os:Os):((gQ os).forCall (λ_ _=>0) ⟨#[],lR,[]⟩).memory.heap[0]?=some (.cells jS 161 (0,0)):=by kernel_rfl
theorem qE (os:Os):((gQ os).forCall (λ_ _=>0) ⟨#[],lR,[]⟩).memory.heap[2]?=some (.cells jO 161 (0,0)):=by kernel_rfl
theorem qu (os:Os):((gQ os).forCall (λ_ _=>0) ⟨#[],lR,[]⟩).memory.heap[1]?=some (.cells jN 161 (0,0)):=by kernel_rfl
theorem uS (os:Os):laidMet Tryz.prog Rows.guardApartRow.laid ((gQ os).forCall (λ_ _=>0) ⟨#[],lR,[]⟩).memory:=
  ⟨_,⟨0,161,jS,8,[],_,by kernel_rfl,by kernel_rfl,by kernel_rfl,by kernel_rfl,⟨2,161,jO,8,[],_,by kernel_rfl,by kernel_rfl,by kernel_rfl,by kernel_rfl,⟨1,161,jN,8,[],[],by kernel_rfl,by kernel_rfl,by kernel_rfl,by kernel_rfl,rfl,rfl⟩,rfl⟩,rfl⟩,by decide,λb off h=>by
    have h':MemPlace.cell b off∈[MemPlace.cell 0 0,.cell 0 1,.cell 2 0,.cell 2 1,.cell 1 0,.cell 1 1]:=h;simp at h';rcases h' with⟨rfl,rfl⟩|⟨rfl,rfl⟩|⟨rfl,rfl⟩|⟨rfl,rfl⟩|⟨rfl,rfl⟩|⟨rfl,rfl⟩
    · exact⟨⟨_,_,qs os⟩,λu v hc=>by simp only[World.cell?,qs os]at hc;simp[jS]at hc⟩
    · exact⟨⟨_,_,qs os⟩,λu v hc=>by simp only[World.cell?,qs os]at hc;simp[jS]at hc⟩
    · exact⟨⟨_,_,qE os⟩,λu v hc=>by simp only[World.cell?,qE os]at hc;simp[jO]at hc⟩
    · exact⟨⟨_,_,qE os⟩,λu v hc=>by simp only[World.cell?,qE os]at hc;simp[jO]at hc⟩
    · exact⟨⟨_,_,qu os⟩,λu v hc=>by simp only[World.cell?,qu os]at hc;simp[jN]at hc⟩
    · exact⟨⟨_,_,qu os⟩,λu v hc=>by simp only[World.cell?,qu os]at hc;simp[jN]at hc⟩⟩
set_option maxRecDepth 100000 in
theorem lifted (os:Os)(started:os.Started)(H:Type)(enc:TypeId×Value→H) :
    ReturnsInHanded {} Tryz.checked os 6 .any (λw args=>(Rows.guardApartSpec.pre enc Tryz.prog Tryz.f6 Rows.guardApartRow.domain false w args∧laidMet Tryz.prog Rows.guardApartRow.laid w)∧sizedMet enc Tryz.prog Tryz.f6 (OpenSpec.ofChange Rows.guardApartSpec) false w args)
      (Rows.guardApartSpec.post enc Tryz.prog Tryz.f6 false true false false):=by
  refine returnsInHanded_of_change_and (C:=Tryz.checked) (X:=λw _=>laidMet Tryz.prog Rows.guardApartRow.laid w) (λ_ _ _ hh h=>h.of_heap hh) own started (by kernel_rfl) Tryz.func6
    (ChangeSpec.witness_at (enc:=enc) (C:=Tryz.checked) (os:=os) (X:=λw _=>laidMet Tryz.prog Rows.guardApartRow.laid w) false (gQ os) lR 8 rfl (by kernel_rfl) (by kernel_rfl) (by kernel_rfl) (by kernel_rfl) (by kernel_rfl) (uS os)) ?_
  intro W base args ds gs wA hval0 hW hcnd _ hL _;have hval:∀(j:Nat) t v,Tryz.f6.params[j]?=some t→args[j]?=some v→Value.okWide Tryz.prog W .any base t v:=hval0;have hW':=hW;obtain⟨p,q,hA0,hV,rfl,hfz,hnd⟩:=hW;have hA:DataW.TrodAll enc Tryz.prog W 0 (λ_=>true) true Tryz.f6.params.toList args.toList ds p:=hA0;rw[Tryz.params6]at hA hval;obtain⟨v0,vs0,d0,ds0,p0,q0,hargs,rfl,rfl,h0,r0⟩:=trodAll_cons hA;obtain⟨v1,vs1,d1,ds1,p1,q1,rfl,rfl,rfl,h1,r1⟩:=trodAll_cons r0;obtain⟨rfl,rfl,rfl⟩:=trodAll_nil r1;obtain rfl:args = #[v0,v1]:=by cases args;simp_all
  obtain⟨rfl,rfl⟩:=trodVars_none hV;have k0:=h0;have lt0:∀x∈p0,x.block<W.heap.size:=by obtain⟨m,hm⟩:=k0;exact DataW.trod_lt m _ _ _ hm
  obtain⟨x0_0,x0_1,x0_2,x0_3,x0_4,x0_5,rfl⟩:=Mw Tryz.underlying25 (by kernel_rfl) ⟨by kernel_rfl,by kernel_rfl,by kernel_rfl,by kernel_rfl⟩ Tryz.underlying3 Tryz.underlying23 (by kernel_rfl) Tryz.underlying3 Tryz.underlying3 Tryz.underlying3 Tryz.underlying3 Tryz.underlying3 (hval 0 25 v0 rfl rfl) h0;have k1:=h1;have lt1:∀x∈p1,x.block<W.heap.size:=by obtain⟨m,hm⟩:=k1;exact DataW.trod_lt m _ _ _ hm
  obtain⟨a1,len1,cap1,rfl⟩:=okWide_slice Tryz.underlying26 (hval 1 26 v1 rfl rfl);obtain⟨ds1d,D1⟩:=RA Tryz.underlying26 Tryz.underlying44 (by kernel_rfl) (by kernel_rfl) Tryz.underlying3 Tryz.underlying3 Tryz.underlying3 Tryz.underlying3 Tryz.underlying3 Tryz.underlying3 Tryz.underlying3 Tryz.underlying9 h1;clear hA0 hval0;refine(Nb (MP (qV hL).1 (qV hL).2 _ _ _ _ _ _ D1 λσ' e=>⟨rfl,e⟩)).mono λe W' ⟨he,bel⟩=>?_;subst he;exact⟨_,rfl,_,_,_,[],_,[],hW',trodAll_mk1 (shut_bool Tryz.underlying4 _),(trodAll_cons_mk (Below.trod laidOut (by kernel_rfl) (sL (by kernel_rfl)) k0 bel lt0) (trodAll_cons_mk (Below.trod laidOut (by kernel_rfl) (sL (by kernel_rfl)) k1 bel lt1) trodAll_mk0)),rfl,bel.frame _,λh=>by cases h⟩
theorem over:Rows.guardApartRow.holds Tryz.pinned (OpenSpec.ofChange Rows.guardApartSpec):=
  OpenClaim.holds_of_wide 6 Tryz.f6 rfl rfl rfl rfl rfl rfl rfl ⟨rfl,rfl,rfl,rfl,rfl⟩ rfl rfl rfl rfl rfl (by kernel_rfl) Tryz.func6 closed
    (sL (by kernel_rfl)) (by unfold Func.isWrapper;first | (rw[zC (by decide +kernel)];kernel_rfl) | (rw[zB (by decide +kernel)];exact⟨rfl,rfl⟩))
    (λos started H enc _=>lifted os started H enc)
/-- The tied card. -/
theorem card:Rows.GuardApartCardSaid:=
  Claim7.holds_tied_plain_at .later [] [.data,.data,.data] true (true, "e04df451af9ec8b4d45784807a5c68b35ff228befb979974037502efef3f57d0") true
    over (λ_ h=>by cases h) d1 (λ_ h=>by cases h) guardApart_row_tie rfl ⟨rfl,rfl⟩ d2 rfl
    (λf fn hf hfn=>by
      obtain rfl:f=6:=Option.some.inj ((show Tryz.prog.funcNamed "freehold/freeholdlaw12.GuardApart" = some 6 by kernel_rfl).symm.trans hf) |>.symm
      obtain rfl:fn=Tryz.f6:=(Option.some.inj (Tryz.func6.symm.trans hfn)).symm;exact⟨d3,λj t ht=>by
        rw[Tryz.params6]at ht;have hm:t∈[25,26]:=by simpa using xI ht
        exact(show Tryz.prog.wantsStandIn t=false by simpa using j6.1 d4 t hm)⟩)
    d5
#print axioms card
end Go.Proofs.YteihenagckcobaaGreatDoor.guardApart
