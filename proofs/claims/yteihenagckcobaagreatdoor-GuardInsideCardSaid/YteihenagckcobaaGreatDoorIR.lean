import Derived.Test.YteihenagckcobaaGreatDoorTie
import Derived.LaidLaws
import Derived.SevenTiedAt
import Derived.Test.YteihenagckcobaaGreatDoorI8
import Derived.Test.YteihenagckcobaaGreatDoorJf12Inside
import Derived.Test.YteihenagckcobaaGreatDoorJg12Inside
namespace Go.Proofs.YteihenagckcobaaGreatDoor.guardInside
open Go Go.ChangeShapes Go.WideShapes Go.ChangeAt Go.RowKit Go.Joins Go.Vc Go.Ar
set_option linter.unusedVariables false
theorem own:ownKnob Tryz.prog.godebug=none:=by kernel_rfl
theorem laidOut:laidOutB Tryz.prog=true:=by kernel_rfl
theorem g0:Tryz.prog.globalNamed "freehold/space.unmapped" = some 0 := by kernel_rfl
theorem t0:(Tryz.prog.globals[0]?).map (·.type)=some 161:=by kernel_rfl
theorem g1:Tryz.prog.globalNamed "freehold/space.clean" = some 2 := by kernel_rfl
theorem t1:(Tryz.prog.globals[2]?).map (·.type)=some 161:=by kernel_rfl
theorem g2:Tryz.prog.globalNamed "freehold/space.dirty" = some 1 := by kernel_rfl
theorem t2:(Tryz.prog.globals[1]?).map (·.type)=some 161:=by kernel_rfl
theorem rQ {W:World}(h:laidMet Tryz.prog Rows.guardInsideRow.laid W):Gl W.heap∧Gc W.heap:=by
  obtain⟨ps,⟨g0',t0',cs0,fuel0,p0,q0,hg0,ht0,hvar0,hd0,⟨g1',t1',cs1,fuel1,p1,q1,hg1,ht1,hvar1,hd1,⟨g2',t2',cs2,fuel2,p2,q2,hg2,ht2,hvar2,hd2,_,_⟩,_⟩,_⟩,_⟩:=h;obtain rfl:=Option.some.inj (g0.symm.trans hg0);obtain rfl:=Option.some.inj (t0.symm.trans ht0);have e0:=BW Tryz.underlying161 (by kernel_rfl) (by kernel_rfl) Tryz.underlying4 Tryz.underlying4 hd0;subst e0;obtain rfl:=Option.some.inj (g1.symm.trans hg1);obtain rfl:=Option.some.inj (t1.symm.trans ht1);have e1:=BW Tryz.underlying161 (by kernel_rfl) (by kernel_rfl) Tryz.underlying4 Tryz.underlying4 hd1;subst e1;obtain rfl:=Option.some.inj (g2.symm.trans hg2);obtain rfl:=Option.some.inj (t2.symm.trans ht2);have e2:=BW Tryz.underlying161 (by kernel_rfl) (by kernel_rfl) Tryz.underlying4 Tryz.underlying4 hd2;subst e2;exact⟨⟨Hb (World.var?_cell hg1 hvar1 0),Hb (World.var?_cell hg1 hvar1 1),Hb (World.var?_cell hg0 hvar0 0),Hb (World.var?_cell hg0 hvar0 1)⟩,⟨Hb (World.var?_cell hg2 hvar2 0),Hb (World.var?_cell hg2 hvar2 1)⟩⟩
def jL:Array Value := #[.bool false,.bool false]
def jO:Array Value := #[.bool true,.bool false]
def jR:Array Value := #[.bool true,.bool true]
def lb:Array Value := #[.agg #[.int .i64 0,.int .i64 0,.int .i64 0,.int .i64 0,.int .i64 0,.int .i64 0],.slice none 0 0]
def putCells (cs:Array Value)(o:Obj):Obj:=match o with
  | .cells _ t frozen=>.cells cs t frozen
  | o=>o
noncomputable def gL (os:Os):World:=
  {World.holding Tryz.prog os ⟨#[],#[],[]⟩with heap:=((((World.holding Tryz.prog os ⟨#[],#[],[]⟩).heap.modify 0 (putCells jL)).modify 2 (putCells jO)).modify 1 (putCells jR))}
theorem qh (os:Os):((gL os).forCall (λ_ _=>0) ⟨#[],lb,[]⟩).memory.heap[0]?=some (.cells jL 161 (0,0)):=by kernel_rfl
theorem qu (os:Os):((gL os).forCall (λ_ _=>0) ⟨#[],lb,[]⟩).memory.heap[2]?=some (.cells jO 161 (0,0)):=by kernel_rfl
theorem qF (os:Os):((gL os).forCall (λ_ _=>0) ⟨#[],lb,[]⟩).memory.heap[1]?=some (.cells jR 161 (0,0)):=by kernel_rfl
theorem wT (os:Os):laidMet Tryz.prog Rows.guardInsideRow.laid ((gL os).forCall (λ_ _=>0) ⟨#[],lb,[]⟩).memory:=
  ⟨_,⟨0,161,jL,8,[],_,by kernel_rfl,by kernel_rfl,by kernel_rfl,by kernel_rfl,⟨2,161,jO,8,[],_,by kernel_rfl,by kernel_rfl,by kernel_rfl,by kernel_rfl,⟨1,161,jR,8,[],[],by kernel_rfl,by kernel_rfl,by kernel_rfl,by kernel_rfl,rfl,rfl⟩,rfl⟩,rfl⟩,by decide,λb off h=>by
    have h':MemPlace.cell b off∈[MemPlace.cell 0 0,.cell 0 1,.cell 2 0,.cell 2 1,.cell 1 0,.cell 1 1]:=h;simp at h';rcases h' with⟨rfl,rfl⟩|⟨rfl,rfl⟩|⟨rfl,rfl⟩|⟨rfl,rfl⟩|⟨rfl,rfl⟩|⟨rfl,rfl⟩
    · exact⟨⟨_,_,qh os⟩,λu v hc=>by simp only[World.cell?,qh os]at hc;simp[jL]at hc⟩
    · exact⟨⟨_,_,qh os⟩,λu v hc=>by simp only[World.cell?,qh os]at hc;simp[jL]at hc⟩
    · exact⟨⟨_,_,qu os⟩,λu v hc=>by simp only[World.cell?,qu os]at hc;simp[jO]at hc⟩
    · exact⟨⟨_,_,qu os⟩,λu v hc=>by simp only[World.cell?,qu os]at hc;simp[jO]at hc⟩
    · exact⟨⟨_,_,qF os⟩,λu v hc=>by simp only[World.cell?,qF os]at hc;simp[jR]at hc⟩
    · exact⟨⟨_,_,qF os⟩,λu v hc=>by simp only[World.cell?,qF os]at hc;simp[jR]at hc⟩⟩
set_option maxRecDepth 100000 in
theorem lifted (os:Os)(started:os.Started)(H:Type)(enc:TypeId×Value→H) :
    ReturnsInHanded {} Tryz.checked os 4 .any (λw args=>(Rows.guardInsideSpec.pre enc Tryz.prog Tryz.f4 Rows.guardInsideRow.domain false w args∧laidMet Tryz.prog Rows.guardInsideRow.laid w)∧sizedMet enc Tryz.prog Tryz.f4 (OpenSpec.ofChange Rows.guardInsideSpec) false w args)
      (Rows.guardInsideSpec.post enc Tryz.prog Tryz.f4 false true false false):=by
  refine returnsInHanded_of_change_and (C:=Tryz.checked) (X:=λw _=>laidMet Tryz.prog Rows.guardInsideRow.laid w) (λ_ _ _ hh h=>h.of_heap hh) own started (by kernel_rfl) Tryz.func4
    (ChangeSpec.witness_at (enc:=enc) (C:=Tryz.checked) (os:=os) (X:=λw _=>laidMet Tryz.prog Rows.guardInsideRow.laid w) false (gL os) lb 8 rfl (by kernel_rfl) (by kernel_rfl) (by kernel_rfl) (by kernel_rfl) (by kernel_rfl) (wT os)) ?_
  intro W base args ds gs uW hval0 hW hcnd _ hL _;have hval:∀(j:Nat) t v,Tryz.f4.params[j]?=some t→args[j]?=some v→Value.okWide Tryz.prog W .any base t v:=hval0;have hW':=hW;obtain⟨p,q,hA0,hV,rfl,hfz,hnd⟩:=hW;have hA:DataW.TrodAll enc Tryz.prog W 0 (λ_=>true) true Tryz.f4.params.toList args.toList ds p:=hA0;rw[Tryz.params4]at hA hval;obtain⟨v0,vs0,d0,ds0,p0,q0,hargs,rfl,rfl,h0,r0⟩:=trodAll_cons hA;obtain⟨v1,vs1,d1,ds1,p1,q1,rfl,rfl,rfl,h1,r1⟩:=trodAll_cons r0;obtain⟨rfl,rfl,rfl⟩:=trodAll_nil r1;obtain rfl:args = #[v0,v1]:=by cases args;simp_all
  obtain⟨rfl,rfl⟩:=trodVars_none hV;have k0:=h0;have lt0:∀x∈p0,x.block<W.heap.size:=by obtain⟨m,hm⟩:=k0;exact DataW.trod_lt m _ _ _ hm
  obtain⟨x0_0,x0_1,x0_2,x0_3,x0_4,x0_5,rfl⟩:=IH Tryz.underlying25 (by kernel_rfl) ⟨by kernel_rfl,by kernel_rfl,by kernel_rfl,by kernel_rfl⟩ Tryz.underlying3 Tryz.underlying23 (by kernel_rfl) Tryz.underlying3 Tryz.underlying3 Tryz.underlying3 Tryz.underlying3 Tryz.underlying3 (hval 0 25 v0 rfl rfl) h0;have k1:=h1;have lt1:∀x∈p1,x.block<W.heap.size:=by obtain⟨m,hm⟩:=k1;exact DataW.trod_lt m _ _ _ hm
  obtain⟨a1,len1,cap1,rfl⟩:=okWide_slice Tryz.underlying26 (hval 1 26 v1 rfl rfl);obtain⟨ds1d,D1⟩:=Ol Tryz.underlying26 Tryz.underlying44 (by kernel_rfl) (by kernel_rfl) Tryz.underlying3 Tryz.underlying3 Tryz.underlying3 Tryz.underlying3 Tryz.underlying3 Tryz.underlying3 Tryz.underlying3 Tryz.underlying9 h1;clear hA0 hval0;refine(P9 (Ii (rQ hL).1 (rQ hL).2 _ _ _ _ _ _ D1 λσ' e=>⟨rfl,e⟩)).mono λe W' ⟨he,bel⟩=>?_;subst he;exact⟨_,rfl,_,_,_,[],_,[],hW',trodAll_mk1 (shut_bool Tryz.underlying4 _),(trodAll_cons_mk (Below.trod laidOut (by kernel_rfl) (sG (by kernel_rfl)) k0 bel lt0) (trodAll_cons_mk (Below.trod laidOut (by kernel_rfl) (sG (by kernel_rfl)) k1 bel lt1) trodAll_mk0)),rfl,bel.frame _,λh=>by cases h⟩
theorem over:Rows.guardInsideRow.holds Tryz.pinned (OpenSpec.ofChange Rows.guardInsideSpec):=
  OpenClaim.holds_of_wide 4 Tryz.f4 rfl rfl rfl rfl rfl rfl rfl ⟨rfl,rfl,rfl,rfl,rfl⟩ rfl rfl rfl rfl rfl (by kernel_rfl) Tryz.func4 closed
    (sG (by kernel_rfl)) (by unfold Func.isWrapper;first | (rw[zC (by decide +kernel)];kernel_rfl) | (rw[zB (by decide +kernel)];exact⟨rfl,rfl⟩))
    (λos started H enc _=>lifted os started H enc)
/-- The tied card. -/
theorem card:Rows.GuardInsideCardSaid:=
  Claim7.holds_tied_plain_at .later [] [.data,.data,.data] true (true, "e04df451af9ec8b4d45784807a5c68b35ff228befb979974037502efef3f57d0") true
    over (λ_ h=>by cases h) d1 (λ_ h=>by cases h) guardInside_row_tie rfl ⟨rfl,rfl⟩ d2 rfl
    (λf fn hf hfn=>by
      obtain rfl:f=4:=Option.some.inj ((show Tryz.prog.funcNamed "freehold/freeholdlaw12.GuardInside" = some 4 by kernel_rfl).symm.trans hf) |>.symm
      obtain rfl:fn=Tryz.f4:=(Option.some.inj (Tryz.func4.symm.trans hfn)).symm;exact⟨d3,λj t ht=>by
        rw[Tryz.params4]at ht;have hm:t∈[25,26]:=by simpa using yv ht
        exact(show Tryz.prog.wantsStandIn t=false by simpa using j8.1 d4 t hm)⟩)
    d5
#print axioms card
end Go.Proofs.YteihenagckcobaaGreatDoor.guardInside
