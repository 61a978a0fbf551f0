import Derived.Test.YtoeidadjhkkioaaGreatDoorTie
import Derived.LaidLaws
import Derived.SevenTiedAt
import Derived.Test.YtoeidadjhkkioaaGreatDoorZ8
import Derived.Test.YtoeidadjhkkioaaGreatDoorJf13None
import Derived.Test.YtoeidadjhkkioaaGreatDoorJg13None
namespace Go.Proofs.YtoeidadjhkkioaaGreatDoor.quarantineNone
open Go Go.ChangeShapes Go.WideShapes Go.ChangeAt Go.RowKit Go.Joins Go.Vc Go.Ar
set_option linter.unusedVariables false
theorem own:ownKnob Tryz.prog.godebug=none:=by kernel_rfl
theorem laidOut:laidOutB Tryz.prog=true:=by kernel_rfl
theorem g0:Tryz.prog.globalNamed "freehold/space.unmapped" = some 0 := by kernel_rfl
theorem t0:(Tryz.prog.globals[0]?).map (·.type)=some 181:=by kernel_rfl
theorem g1:Tryz.prog.globalNamed "freehold/space.clean" = some 2 := by kernel_rfl
theorem t1:(Tryz.prog.globals[2]?).map (·.type)=some 181:=by kernel_rfl
theorem g2:Tryz.prog.globalNamed "freehold/space.dirty" = some 1 := by kernel_rfl
theorem t2:(Tryz.prog.globals[1]?).map (·.type)=some 181:=by kernel_rfl
theorem rz {W:World}(h:laidMet Tryz.prog Rows.quarantineNoneRow.laid W):Gl W.heap∧Gc W.heap:=by
  obtain⟨ps,⟨g0',t0',cs0,fuel0,p0,q0,hg0,ht0,hvar0,hd0,⟨g1',t1',cs1,fuel1,p1,q1,hg1,ht1,hvar1,hd1,⟨g2',t2',cs2,fuel2,p2,q2,hg2,ht2,hvar2,hd2,_,_⟩,_⟩,_⟩,_⟩:=h;obtain rfl:=Option.some.inj (g0.symm.trans hg0);obtain rfl:=Option.some.inj (t0.symm.trans ht0);have e0:=Be Tryz.underlying181 (by kernel_rfl) (by kernel_rfl) Tryz.underlying4 Tryz.underlying4 hd0;subst e0;obtain rfl:=Option.some.inj (g1.symm.trans hg1);obtain rfl:=Option.some.inj (t1.symm.trans ht1);have e1:=Be Tryz.underlying181 (by kernel_rfl) (by kernel_rfl) Tryz.underlying4 Tryz.underlying4 hd1;subst e1;obtain rfl:=Option.some.inj (g2.symm.trans hg2);obtain rfl:=Option.some.inj (t2.symm.trans ht2);have e2:=Be Tryz.underlying181 (by kernel_rfl) (by kernel_rfl) Tryz.underlying4 Tryz.underlying4 hd2;subst e2;exact⟨⟨Gb (World.var?_cell hg1 hvar1 0),Gb (World.var?_cell hg1 hvar1 1),Gb (World.var?_cell hg0 hvar0 0),Gb (World.var?_cell hg0 hvar0 1)⟩,⟨Gb (World.var?_cell hg2 hvar2 0),Gb (World.var?_cell hg2 hvar2 1)⟩⟩
def jT:Array Value := #[.bool false,.bool false]
def jN:Array Value := #[.bool true,.bool false]
def j6:Array Value := #[.bool true,.bool true]
def lR:Array Value := #[.int .i64 0,.int .i64 0,.int .i64 0,.bool false]
def putCells (cs:Array Value)(o:Obj):Obj:=match o with
  | .cells _ t frozen=>.cells cs t frozen
  | o=>o
noncomputable def gZ (os:Os):World:=
  {World.holding Tryz.prog os ⟨#[],#[],[]⟩with heap:=((((World.holding Tryz.prog os ⟨#[],#[],[]⟩).heap.modify 0 (putCells jT)).modify 2 (putCells jN)).modify 1 (putCells j6))}
theorem qQ (os:Os):((gZ os).forCall (λ_ _=>0) ⟨#[],lR,[]⟩).memory.heap[0]?=some (.cells jT 181 (0,0)):=by kernel_rfl
theorem qn (os:Os):((gZ os).forCall (λ_ _=>0) ⟨#[],lR,[]⟩).memory.heap[2]?=some (.cells jN 181 (0,0)):=by kernel_rfl
theorem qR (os:Os):((gZ os).forCall (λ_ _=>0) ⟨#[],lR,[]⟩).memory.heap[1]?=some (.cells j6 181 (0,0)):=by kernel_rfl
theorem wY (os:Os):laidMet Tryz.prog Rows.quarantineNoneRow.laid ((gZ os).forCall (λ_ _=>0) ⟨#[],lR,[]⟩).memory:=
  ⟨_,⟨0,181,jT,8,[],_,by kernel_rfl,by kernel_rfl,by kernel_rfl,by kernel_rfl,⟨2,181,jN,8,[],_,by kernel_rfl,by kernel_rfl,by kernel_rfl,by kernel_rfl,⟨1,181,j6,8,[],[],by kernel_rfl,by kernel_rfl,by kernel_rfl,by kernel_rfl,rfl,rfl⟩,rfl⟩,rfl⟩,by decide,λb off h=>by
    have h':MemPlace.cell b off∈[MemPlace.cell 0 0,.cell 0 1,.cell 2 0,.cell 2 1,.cell 1 0,.cell 1 1]:=h;simp at h';rcases h' with⟨rfl,rfl⟩|⟨rfl,rfl⟩|⟨rfl,rfl⟩|⟨rfl,rfl⟩|⟨rfl,rfl⟩|⟨rfl,rfl⟩
    · exact⟨⟨_,_,qQ os⟩,λu v hc=>by simp only[World.cell?,qQ os]at hc;simp[jT]at hc⟩
    · exact⟨⟨_,_,qQ os⟩,λu v hc=>by simp only[World.cell?,qQ os]at hc;simp[jT]at hc⟩
    · exact⟨⟨_,_,qn os⟩,λu v hc=>by simp only[World.cell?,qn os]at hc;simp[jN]at hc⟩
    · exact⟨⟨_,_,qn os⟩,λu v hc=>by simp only[World.cell?,qn os]at hc;simp[jN]at hc⟩
    · exact⟨⟨_,_,qR os⟩,λu v hc=>by simp only[World.cell?,qR os]at hc;simp[j6]at hc⟩
    · exact⟨⟨_,_,qR os⟩,λu v hc=>by simp only[World.cell?,qR os]at hc;simp[j6]at hc⟩⟩
set_option maxRecDepth 100000 in
theorem lifted (os:Os)(started:os.Started)(H:Type)(enc:TypeId×Value→H) :
    ReturnsInHanded {} Tryz.checked os 9 .any (λw args=>(Rows.quarantineNoneSpec.pre enc Tryz.prog Tryz.f9 Rows.quarantineNoneRow.domain false w args∧laidMet Tryz.prog Rows.quarantineNoneRow.laid w)∧sizedMet enc Tryz.prog Tryz.f9 (OpenSpec.ofChange Rows.quarantineNoneSpec) false w args)
      (Rows.quarantineNoneSpec.post enc Tryz.prog Tryz.f9 false true false false):=by
  refine returnsInHanded_of_change_and (C:=Tryz.checked) (X:=λw _=>laidMet Tryz.prog Rows.quarantineNoneRow.laid w) (λ_ _ _ hh h=>h.of_heap hh) own started (by kernel_rfl) Tryz.func9
    (ChangeSpec.witness_at (enc:=enc) (C:=Tryz.checked) (os:=os) (X:=λw _=>laidMet Tryz.prog Rows.quarantineNoneRow.laid w) false (gZ os) lR 8 rfl (by kernel_rfl) (by kernel_rfl) (by kernel_rfl) (by kernel_rfl) (by kernel_rfl) (wY os)) ?_
  intro W base args ds gs xr hval0 hW hcnd _ hL _;have hval:∀(j:Nat) t v,Tryz.f9.params[j]?=some t→args[j]?=some v→Value.okWide Tryz.prog W .any base t v:=hval0;have hW':=hW;obtain⟨p,q,hA0,hV,rfl,hfz,hnd⟩:=hW;have hA:DataW.TrodAll enc Tryz.prog W 0 (λ_=>true) true Tryz.f9.params.toList args.toList ds p:=hA0;rw[Tryz.params9]at hA hval;obtain⟨v0,vs0,d0,ds0,p0,q0,hargs,rfl,rfl,h0,r0⟩:=trodAll_cons hA;obtain⟨v1,vs1,d1,ds1,p1,q1,rfl,rfl,rfl,h1,r1⟩:=trodAll_cons r0;obtain⟨v2,vs2,d2,ds2,p2,q2,rfl,rfl,rfl,h2,r2⟩:=trodAll_cons r1;obtain⟨v3,vs3,d3,ds3,p3,q3,rfl,rfl,rfl,h3,r3⟩:=trodAll_cons r2;obtain⟨rfl,rfl,rfl⟩:=trodAll_nil r3;obtain rfl:args = #[v0,v1,v2,v3]:=by cases args;simp_all
  obtain⟨rfl,rfl⟩:=trodVars_none hV;obtain⟨a0,rfl,rfl,rfl,w0⟩:=open_int Tryz.underlying3 (hval 0 3 v0 rfl rfl) h0;obtain⟨a1,rfl,rfl,rfl,w1⟩:=open_int Tryz.underlying3 (hval 1 3 v1 rfl rfl) h1;obtain⟨a2,rfl,rfl,rfl,w2⟩:=open_int Tryz.underlying3 (hval 2 3 v2 rfl rfl) h2;have k3:=h3;have lt3:∀x∈p3,x.block<W.heap.size:=by obtain⟨m,hm⟩:=k3;exact DataW.trod_lt m _ _ _ hm
  obtain⟨b3,rfl⟩:=okWide_bool Tryz.underlying4 (hval 3 4 v3 rfl rfl);clear hA0 hval0;refine(ND (δ (rz hL).1 (rz hL).2 _ _ _ _ λσ' e=>⟨rfl,e⟩)).mono λe W' ⟨he,bel⟩=>?_;subst he;exact⟨_,rfl,_,_,_,[],_,[],hW',trodAll_mk1 (shut_bool Tryz.underlying4 _),(trodAll_cons_mk (shut_int Tryz.underlying3 w0) (trodAll_cons_mk (shut_int Tryz.underlying3 w1) (trodAll_cons_mk (shut_int Tryz.underlying3 w2) (trodAll_cons_mk (Below.trod laidOut (by kernel_rfl) (uE (by kernel_rfl)) k3 bel lt3) trodAll_mk0)))),rfl,bel.frame _,λh=>by cases h⟩
theorem over:Rows.quarantineNoneRow.holds Tryz.pinned (OpenSpec.ofChange Rows.quarantineNoneSpec):=
  OpenClaim.holds_of_wide 9 Tryz.f9 rfl rfl rfl rfl rfl rfl rfl ⟨rfl,rfl,rfl,rfl,rfl⟩ rfl rfl rfl rfl rfl (by kernel_rfl) Tryz.func9 closed
    (uE (by kernel_rfl)) (by unfold Func.isWrapper;first | (rw[zC (by decide +kernel)];kernel_rfl) | (rw[zB (by decide +kernel)];exact⟨rfl,rfl⟩))
    (λos started H enc _=>lifted os started H enc)
/-- The tied card. -/
theorem card:Rows.QuarantineNoneCardSaid:=
  Claim7.holds_tied_plain_at .later [] [.data,.data,.data] true (true, "bbede97abc681f2a3baaf53806aca2582ddebfc478fe2286f05b172e7aabbc95") true
    over (λ_ h=>by cases h) d1 (λ_ h=>by cases h) quarantineNone_row_tie rfl ⟨rfl,rfl⟩ d2 rfl
    (λf fn hf hfn=>by
      obtain rfl:f=9:=Option.some.inj ((show Tryz.prog.funcNamed "freehold/freeholdlaw13.QuarantineNone" = some 9 by kernel_rfl).symm.trans hf) |>.symm
      obtain rfl:fn=Tryz.f9:=(Option.some.inj (Tryz.func9.symm.trans hfn)).symm;exact⟨d3,λj t ht=>by
        rw[Tryz.params9]at ht;have hm:t∈[3,3,3,4]:=by simpa using yH ht
        exact(show Tryz.prog.wantsStandIn t=false by simpa using kf.1 d4 t hm)⟩)
    d5
#print axioms card
end Go.Proofs.YtoeidadjhkkioaaGreatDoor.quarantineNone
