import Derived.Test.YtkabjcanamcbeaaGreatDoorTie
import Derived.LaidLaws
import Derived.SevenTiedAt
import Derived.Test.YtkabjcanamcbeaaGreatDoorL8
import Derived.Test.YtkabjcanamcbeaaGreatDoorJf22All
import Derived.Test.YtkabjcanamcbeaaGreatDoorJg22All
namespace Go.Proofs.YtkabjcanamcbeaaGreatDoor.statsAll
open Go Go.ChangeShapes Go.WideShapes Go.ChangeAt Go.RowKit Go.Joins Go.Vc Go.Ar
set_option linter.unusedVariables false
theorem own:ownKnob Tryz.prog.godebug=none:=by kernel_rfl
theorem laidOut:laidOutB Tryz.prog=true:=by kernel_rfl
theorem g0:Tryz.prog.globalNamed "freehold/space.unmapped" = some 0 := by kernel_rfl
theorem t0:(Tryz.prog.globals[0]?).map (·.type)=some 160:=by kernel_rfl
theorem g1:Tryz.prog.globalNamed "freehold/space.clean" = some 2 := by kernel_rfl
theorem t1:(Tryz.prog.globals[2]?).map (·.type)=some 160:=by kernel_rfl
theorem g2:Tryz.prog.globalNamed "freehold/space.dirty" = some 1 := by kernel_rfl
theorem t2:(Tryz.prog.globals[1]?).map (·.type)=some 160:=by kernel_rfl
theorem vP {W:World}(h:laidMet Tryz.prog Rows.statsAllRow.laid W):Gl W.heap∧Gc W.heap:=by
  obtain⟨ps,⟨g0',t0',cs0,fuel0,p0,q0,hg0,ht0,hvar0,hd0,⟨g1',t1',cs1,fuel1,p1,q1,hg1,ht1,hvar1,hd1,⟨g2',t2',cs2,fuel2,p2,q2,hg2,ht2,hvar2,hd2,_,_⟩,_⟩,_⟩,_⟩:=h;obtain rfl:=Option.some.inj (g0.symm.trans hg0);obtain rfl:=Option.some.inj (t0.symm.trans ht0);have e0:=IP Tryz.underlying160 (by kernel_rfl) (by kernel_rfl) Tryz.underlying4 Tryz.underlying4 hd0;subst e0;obtain rfl:=Option.some.inj (g1.symm.trans hg1);obtain rfl:=Option.some.inj (t1.symm.trans ht1);have e1:=IP Tryz.underlying160 (by kernel_rfl) (by kernel_rfl) Tryz.underlying4 Tryz.underlying4 hd1;subst e1;obtain rfl:=Option.some.inj (g2.symm.trans hg2);obtain rfl:=Option.some.inj (t2.symm.trans ht2);have e2:=IP Tryz.underlying160 (by kernel_rfl) (by kernel_rfl) Tryz.underlying4 Tryz.underlying4 hd2;subst e2;exact⟨⟨Gf (World.var?_cell hg1 hvar1 0),Gf (World.var?_cell hg1 hvar1 1),Gf (World.var?_cell hg0 hvar0 0),Gf (World.var?_cell hg0 hvar0 1)⟩,⟨Gf (World.var?_cell hg2 hvar2 0),Gf (World.var?_cell hg2 hvar2 1)⟩⟩
def mL:Array Value := #[.bool false,.bool false]
def mN:Array Value := #[.bool true,.bool false]
def mW:Array Value := #[.bool true,.bool true]
def pS:Array Value := #[.agg #[.int .i64 0,.int .i64 0,.int .i64 0,.int .i64 0,.int .i64 0,.int .i64 0],.slice none 0 0]
def putCells (cs:Array Value)(o:Obj):Obj:=match o with
  | .cells _ t frozen=>.cells cs t frozen
  | o=>o
noncomputable def iC (os:Os):World:=
  {World.holding Tryz.prog os ⟨#[],#[],[]⟩with heap:=((((World.holding Tryz.prog os ⟨#[],#[],[]⟩).heap.modify 0 (putCells mL)).modify 2 (putCells mN)).modify 1 (putCells mW))}
theorem vt (os:Os):((iC os).forCall (λ_ _=>0) ⟨#[],pS,[]⟩).memory.heap[0]?=some (.cells mL 160 (0,0)):=by kernel_rfl
theorem uX (os:Os):((iC os).forCall (λ_ _=>0) ⟨#[],pS,[]⟩).memory.heap[2]?=some (.cells mN 160 (0,0)):=by kernel_rfl
theorem vd (os:Os):((iC os).forCall (λ_ _=>0) ⟨#[],pS,[]⟩).memory.heap[1]?=some (.cells mW 160 (0,0)):=by kernel_rfl
theorem AL (os:Os):laidMet Tryz.prog Rows.statsAllRow.laid ((iC os).forCall (λ_ _=>0) ⟨#[],pS,[]⟩).memory:=
  ⟨_,⟨0,160,mL,8,[],_,by kernel_rfl,by kernel_rfl,by kernel_rfl,by kernel_rfl,⟨2,160,mN,8,[],_,by kernel_rfl,by kernel_rfl,by kernel_rfl,by kernel_rfl,⟨1,160,mW,8,[],[],by kernel_rfl,by kernel_rfl,by kernel_rfl,by kernel_rfl,rfl,rfl⟩,rfl⟩,rfl⟩,by decide,λb off h=>by
    have h':MemPlace.cell b off∈[MemPlace.cell 0 0,.cell 0 1,.cell 2 0,.cell 2 1,.cell 1 0,.cell 1 1]:=h;simp at h';rcases h' with⟨rfl,rfl⟩|⟨rfl,rfl⟩|⟨rfl,rfl⟩|⟨rfl,rfl⟩|⟨rfl,rfl⟩|⟨rfl,rfl⟩
    · exact⟨⟨_,_,vt os⟩,λu v hc=>by simp only[World.cell?,vt os]at hc;simp[mL]at hc⟩
    · exact⟨⟨_,_,vt os⟩,λu v hc=>by simp only[World.cell?,vt os]at hc;simp[mL]at hc⟩
    · exact⟨⟨_,_,uX os⟩,λu v hc=>by simp only[World.cell?,uX os]at hc;simp[mN]at hc⟩
    · exact⟨⟨_,_,uX os⟩,λu v hc=>by simp only[World.cell?,uX os]at hc;simp[mN]at hc⟩
    · exact⟨⟨_,_,vd os⟩,λu v hc=>by simp only[World.cell?,vd os]at hc;simp[mW]at hc⟩
    · exact⟨⟨_,_,vd os⟩,λu v hc=>by simp only[World.cell?,vd os]at hc;simp[mW]at hc⟩⟩
set_option maxRecDepth 100000 in
theorem lifted (os:Os)(started:os.Started)(H:Type)(enc:TypeId×Value→H) :
    ReturnsInHanded {} Tryz.checked os 11 .any (λw args=>(Rows.statsAllSpec.pre enc Tryz.prog Tryz.f11 Rows.statsAllRow.domain false w args∧laidMet Tryz.prog Rows.statsAllRow.laid w)∧sizedMet enc Tryz.prog Tryz.f11 (OpenSpec.ofChange Rows.statsAllSpec) false w args)
      (Rows.statsAllSpec.post enc Tryz.prog Tryz.f11 false true false false):=by
  refine returnsInHanded_of_change_and (C:=Tryz.checked) (X:=λw _=>laidMet Tryz.prog Rows.statsAllRow.laid w) (λ_ _ _ hh h=>h.of_heap hh) own started (by kernel_rfl) Tryz.func11
    (ChangeSpec.witness_at (enc:=enc) (C:=Tryz.checked) (os:=os) (X:=λw _=>laidMet Tryz.prog Rows.statsAllRow.laid w) false (iC os) pS 8 rfl (by kernel_rfl) (by kernel_rfl) (by kernel_rfl) (by kernel_rfl) (by kernel_rfl) (AL os)) ?_
  intro W base args ds gs AT hval0 hW hcnd _ hL _;have hval:∀(j:Nat) t v,Tryz.f11.params[j]?=some t→args[j]?=some v→Value.okWide Tryz.prog W .any base t v:=hval0;have hW':=hW;obtain⟨p,q,hA0,hV,rfl,hfz,hnd⟩:=hW;have hA:DataW.TrodAll enc Tryz.prog W 0 (λ_=>true) true Tryz.f11.params.toList args.toList ds p:=hA0;rw[Tryz.params11]at hA hval;obtain⟨v0,vs0,d0,ds0,p0,q0,hargs,rfl,rfl,h0,r0⟩:=trodAll_cons hA;obtain⟨v1,vs1,d1,ds1,p1,q1,rfl,rfl,rfl,h1,r1⟩:=trodAll_cons r0;obtain⟨rfl,rfl,rfl⟩:=trodAll_nil r1;obtain rfl:args = #[v0,v1]:=by cases args;simp_all
  obtain⟨rfl,rfl⟩:=trodVars_none hV;have k0:=h0;have lt0:∀x∈p0,x.block<W.heap.size:=by obtain⟨m,hm⟩:=k0;exact DataW.trod_lt m _ _ _ hm
  obtain⟨x0_0,x0_1,x0_2,x0_3,x0_4,x0_5,rfl⟩:=WgX Tryz.underlying65 (by kernel_rfl) ⟨by kernel_rfl,by kernel_rfl,by kernel_rfl,by kernel_rfl⟩ Tryz.underlying3 Tryz.underlying40 (by kernel_rfl) Tryz.underlying3 Tryz.underlying3 Tryz.underlying3 Tryz.underlying3 Tryz.underlying3 (hval 0 65 v0 rfl rfl) h0;have k1:=h1;have lt1:∀x∈p1,x.block<W.heap.size:=by obtain⟨m,hm⟩:=k1;exact DataW.trod_lt m _ _ _ hm
  obtain⟨a1,len1,cap1,rfl⟩:=okWide_slice Tryz.underlying66 (hval 1 66 v1 rfl rfl);obtain⟨ds1d,D1⟩:=Tc Tryz.underlying66 Tryz.underlying87 (by kernel_rfl) (by kernel_rfl) Tryz.underlying3 Tryz.underlying3 Tryz.underlying3 Tryz.underlying3 Tryz.underlying3 Tryz.underlying3 Tryz.underlying3 Tryz.underlying9 h1;clear hA0 hval0;refine(Ρ (Wle (vP hL).1 (vP hL).2 _ _ _ _ _ _ D1 λσ' e=>⟨rfl,e⟩)).mono λe W' ⟨he,bel⟩=>?_;subst he;exact⟨_,rfl,_,_,_,[],_,[],hW',trodAll_mk1 (shut_bool Tryz.underlying4 _),(trodAll_cons_mk (Below.trod laidOut (by kernel_rfl) (qs (by kernel_rfl)) k0 bel lt0) (trodAll_cons_mk (Below.trod laidOut (by kernel_rfl) (qs (by kernel_rfl)) k1 bel lt1) trodAll_mk0)),rfl,bel.frame _,λh=>by cases h⟩
theorem over:Rows.statsAllRow.holds Tryz.pinned (OpenSpec.ofChange Rows.statsAllSpec):=
  OpenClaim.holds_of_wide 11 Tryz.f11 rfl rfl rfl rfl rfl rfl rfl ⟨rfl,rfl,rfl,rfl,rfl⟩ rfl rfl rfl rfl rfl (by kernel_rfl) Tryz.func11 closed
    (qs (by kernel_rfl)) (by unfold Func.isWrapper;first | (rw[zB (by decide +kernel)];kernel_rfl) | (rw[zA (by decide +kernel)];exact⟨rfl,rfl⟩))
    (λos started H enc _=>lifted os started H enc)
/-- The tied card. -/
theorem card:Rows.StatsAllCardSaid:=
  Claim7.holds_tied_plain_at .later [] [.data,.data,.data] true (true, "bcc9e8b7dc334d64fd9589acf3106db236224a15116b22b02a6c6f4ea0cf32f3") true
    over (λ_ h=>by cases h) d1 (λ_ h=>by cases h) statsAll_row_tie rfl ⟨rfl,rfl⟩ d2 rfl
    (λf fn hf hfn=>by
      obtain rfl:f=11:=Option.some.inj ((show Tryz.prog.funcNamed "freehold/freeholdlaw22.StatsAll" = some 11 by kernel_rfl).symm.trans hf) |>.symm
      obtain rfl:fn=Tryz.f11:=(Option.some.inj (Tryz.func11.symm.trans hfn)).symm;exact⟨d3,λj t ht=>by
        rw[Tryz.params11]at ht;have hm:t∈[65,66]:=by simpa using Iz ht
        exact(show Tryz.prog.wantsStandIn t=false by simpa using nD.1 d4 t hm)⟩)
    d5
#print axioms card
end Go.Proofs.YtkabjcanamcbeaaGreatDoor.statsAll
