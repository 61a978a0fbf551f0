import Derived.Test.YtoeidadjhkkioaaGreatDoorTie
import Derived.LaidLaws
import Derived.SevenTiedAt
import Derived.Test.YtoeidadjhkkioaaGreatDoorU8
import Derived.Test.YtoeidadjhkkioaaGreatDoorJf13Used
import Derived.Test.YtoeidadjhkkioaaGreatDoorJg13Used
namespace Go.Proofs.YtoeidadjhkkioaaGreatDoor.quarantineUsed
open Go Go.ChangeShapes Go.WideShapes Go.ChangeAt Go.RowKit Go.Joins Go.Vc Go.Ar
set_option linter.unusedVariables false
theorem own:ownKnob Tryz.prog.godebug=none:=by kernel_rfl
theorem laidOut:laidOutB Tryz.prog=true:=by kernel_rfl
theorem g0:Tryz.prog.globalNamed "freehold/space.unmapped" = some 0 := by kernel_rfl
theorem t0:(Tryz.prog.globals[0]?).map (·.type)=some 181:=by kernel_rfl
theorem g1:Tryz.prog.globalNamed "freehold/space.clean" = some 2 := by kernel_rfl
theorem t1:(Tryz.prog.globals[2]?).map (·.type)=some 181:=by kernel_rfl
theorem g2:Tryz.prog.globalNamed "freehold/space.dirty" = some 1 := by kernel_rfl
theorem t2:(Tryz.prog.globals[1]?).map (·.type)=some 181:=by kernel_rfl
theorem sI {W:World}(h:laidMet Tryz.prog Rows.quarantineUsedRow.laid W):Gl W.heap∧Gc W.heap:=by
  obtain⟨ps,⟨g0',t0',cs0,fuel0,p0,q0,hg0,ht0,hvar0,hd0,⟨g1',t1',cs1,fuel1,p1,q1,hg1,ht1,hvar1,hd1,⟨g2',t2',cs2,fuel2,p2,q2,hg2,ht2,hvar2,hd2,_,_⟩,_⟩,_⟩,_⟩:=h;obtain rfl:=Option.some.inj (g0.symm.trans hg0);obtain rfl:=Option.some.inj (t0.symm.trans ht0);have e0:=Da Tryz.underlying181 (by kernel_rfl) (by kernel_rfl) Tryz.underlying4 Tryz.underlying4 hd0;subst e0;obtain rfl:=Option.some.inj (g1.symm.trans hg1);obtain rfl:=Option.some.inj (t1.symm.trans ht1);have e1:=Da Tryz.underlying181 (by kernel_rfl) (by kernel_rfl) Tryz.underlying4 Tryz.underlying4 hd1;subst e1;obtain rfl:=Option.some.inj (g2.symm.trans hg2);obtain rfl:=Option.some.inj (t2.symm.trans ht2);have e2:=Da Tryz.underlying181 (by kernel_rfl) (by kernel_rfl) Tryz.underlying4 Tryz.underlying4 hd2;subst e2;exact⟨⟨GG (World.var?_cell hg1 hvar1 0),GG (World.var?_cell hg1 hvar1 1),GG (World.var?_cell hg0 hvar0 0),GG (World.var?_cell hg0 hvar0 1)⟩,⟨GG (World.var?_cell hg2 hvar2 0),GG (World.var?_cell hg2 hvar2 1)⟩⟩
def jY:Array Value := #[.bool false,.bool false]
def j8:Array Value := #[.bool true,.bool false]
def kh:Array Value := #[.bool true,.bool true]
def l3:Array Value := #[.agg #[.int .i64 0,.int .i64 0,.int .i64 0,.int .i64 0,.int .i64 0,.int .i64 0],.int .i64 0,.int .i64 0,.slice none 0 0,.int .u8 0,.int .u8 0,.int .i64 0]
def putCells (cs:Array Value)(o:Obj):Obj:=match o with
  | .cells _ t frozen=>.cells cs t frozen
  | o=>o
noncomputable def gU (os:Os):World:=
  {World.holding Tryz.prog os ⟨#[],#[],[]⟩with heap:=((((World.holding Tryz.prog os ⟨#[],#[],[]⟩).heap.modify 0 (putCells jY)).modify 2 (putCells j8)).modify 1 (putCells kh))}
theorem rk (os:Os):((gU os).forCall (λ_ _=>0) ⟨#[],l3,[]⟩).memory.heap[0]?=some (.cells jY 181 (0,0)):=by kernel_rfl
theorem rR (os:Os):((gU os).forCall (λ_ _=>0) ⟨#[],l3,[]⟩).memory.heap[2]?=some (.cells j8 181 (0,0)):=by kernel_rfl
theorem rE (os:Os):((gU os).forCall (λ_ _=>0) ⟨#[],l3,[]⟩).memory.heap[1]?=some (.cells kh 181 (0,0)):=by kernel_rfl
theorem yn (os:Os):laidMet Tryz.prog Rows.quarantineUsedRow.laid ((gU os).forCall (λ_ _=>0) ⟨#[],l3,[]⟩).memory:=
  ⟨_,⟨0,181,jY,8,[],_,by kernel_rfl,by kernel_rfl,by kernel_rfl,by kernel_rfl,⟨2,181,j8,8,[],_,by kernel_rfl,by kernel_rfl,by kernel_rfl,by kernel_rfl,⟨1,181,kh,8,[],[],by kernel_rfl,by kernel_rfl,by kernel_rfl,by kernel_rfl,rfl,rfl⟩,rfl⟩,rfl⟩,by decide,λb off h=>by
    have h':MemPlace.cell b off∈[MemPlace.cell 0 0,.cell 0 1,.cell 2 0,.cell 2 1,.cell 1 0,.cell 1 1]:=h;simp at h';rcases h' with⟨rfl,rfl⟩|⟨rfl,rfl⟩|⟨rfl,rfl⟩|⟨rfl,rfl⟩|⟨rfl,rfl⟩|⟨rfl,rfl⟩
    · exact⟨⟨_,_,rk os⟩,λu v hc=>by simp only[World.cell?,rk os]at hc;simp[jY]at hc⟩
    · exact⟨⟨_,_,rk os⟩,λu v hc=>by simp only[World.cell?,rk os]at hc;simp[jY]at hc⟩
    · exact⟨⟨_,_,rR os⟩,λu v hc=>by simp only[World.cell?,rR os]at hc;simp[j8]at hc⟩
    · exact⟨⟨_,_,rR os⟩,λu v hc=>by simp only[World.cell?,rR os]at hc;simp[j8]at hc⟩
    · exact⟨⟨_,_,rE os⟩,λu v hc=>by simp only[World.cell?,rE os]at hc;simp[kh]at hc⟩
    · exact⟨⟨_,_,rE os⟩,λu v hc=>by simp only[World.cell?,rE os]at hc;simp[kh]at hc⟩⟩
set_option maxRecDepth 100000 in
theorem lifted (os:Os)(started:os.Started)(H:Type)(enc:TypeId×Value→H) :
    ReturnsInHanded {} Tryz.checked os 6 .any (λw args=>(Rows.quarantineUsedSpec.pre enc Tryz.prog Tryz.f6 Rows.quarantineUsedRow.domain false w args∧laidMet Tryz.prog Rows.quarantineUsedRow.laid w)∧sizedMet enc Tryz.prog Tryz.f6 (OpenSpec.ofChange Rows.quarantineUsedSpec) false w args)
      (Rows.quarantineUsedSpec.post enc Tryz.prog Tryz.f6 false true false false):=by
  refine returnsInHanded_of_change_and (C:=Tryz.checked) (X:=λw _=>laidMet Tryz.prog Rows.quarantineUsedRow.laid w) (λ_ _ _ hh h=>h.of_heap hh) own started (by kernel_rfl) Tryz.func6
    (ChangeSpec.witness_at (enc:=enc) (C:=Tryz.checked) (os:=os) (X:=λw _=>laidMet Tryz.prog Rows.quarantineUsedRow.laid w) false (gU os) l3 8 rfl (by kernel_rfl) (by kernel_rfl) (by kernel_rfl) (by kernel_rfl) (by kernel_rfl) (yn os)) ?_
  intro W base args ds gs xD hval0 hW hcnd _ hL _;have hval:∀(j:Nat) t v,Tryz.f6.params[j]?=some t→args[j]?=some v→Value.okWide Tryz.prog W .any base t v:=hval0;have hW':=hW;obtain⟨p,q,hA0,hV,rfl,hfz,hnd⟩:=hW;have hA:DataW.TrodAll enc Tryz.prog W 0 (λ_=>true) true Tryz.f6.params.toList args.toList ds p:=hA0;rw[Tryz.params6]at hA hval;obtain⟨v0,vs0,d0,ds0,p0,q0,hargs,rfl,rfl,h0,r0⟩:=trodAll_cons hA;obtain⟨v1,vs1,d1,ds1,p1,q1,rfl,rfl,rfl,h1,r1⟩:=trodAll_cons r0;obtain⟨v2,vs2,d2,ds2,p2,q2,rfl,rfl,rfl,h2,r2⟩:=trodAll_cons r1;obtain⟨v3,vs3,d3,ds3,p3,q3,rfl,rfl,rfl,h3,r3⟩:=trodAll_cons r2;obtain⟨v4,vs4,d4,ds4,p4,q4,rfl,rfl,rfl,h4,r4⟩:=trodAll_cons r3;obtain⟨v5,vs5,d5,ds5,p5,q5,rfl,rfl,rfl,h5,r5⟩:=trodAll_cons r4;obtain⟨v6,vs6,d6,ds6,p6,q6,rfl,rfl,rfl,h6,r6⟩:=trodAll_cons r5;obtain⟨rfl,rfl,rfl⟩:=trodAll_nil r6;obtain rfl:args = #[v0,v1,v2,v3,v4,v5,v6]:=by cases args;simp_all
  obtain⟨rfl,rfl⟩:=trodVars_none hV;have k0:=h0;have lt0:∀x∈p0,x.block<W.heap.size:=by obtain⟨m,hm⟩:=k0;exact DataW.trod_lt m _ _ _ hm
  obtain⟨x0_0,x0_1,x0_2,x0_3,x0_4,x0_5,rfl⟩:=Tm Tryz.underlying25 (by kernel_rfl) ⟨by kernel_rfl,by kernel_rfl,by kernel_rfl,by kernel_rfl⟩ Tryz.underlying3 Tryz.underlying23 (by kernel_rfl) Tryz.underlying3 Tryz.underlying3 Tryz.underlying3 Tryz.underlying3 Tryz.underlying3 (hval 0 25 v0 rfl rfl) h0;obtain⟨a1,rfl,rfl,rfl,w1⟩:=open_int Tryz.underlying3 (hval 1 3 v1 rfl rfl) h1;obtain⟨a2,rfl,rfl,rfl,w2⟩:=open_int Tryz.underlying3 (hval 2 3 v2 rfl rfl) h2;have k3:=h3;have lt3:∀x∈p3,x.block<W.heap.size:=by obtain⟨m,hm⟩:=k3;exact DataW.trod_lt m _ _ _ hm
  obtain⟨a3,len3,cap3,rfl⟩:=okWide_slice Tryz.underlying26 (hval 3 26 v3 rfl rfl);obtain⟨ds3d,D3⟩:=RE Tryz.underlying26 Tryz.underlying40 (by kernel_rfl) (by kernel_rfl) Tryz.underlying3 Tryz.underlying3 Tryz.underlying3 Tryz.underlying3 Tryz.underlying3 Tryz.underlying3 Tryz.underlying3 Tryz.underlying9 h3;obtain⟨a4,rfl,rfl,rfl,w4⟩:=open_int Tryz.underlying5 (hval 4 5 v4 rfl rfl) h4;obtain⟨a5,rfl,rfl,rfl,w5⟩:=open_int Tryz.underlying5 (hval 5 5 v5 rfl rfl) h5;obtain⟨a6,rfl,rfl,rfl,w6⟩:=open_int Tryz.underlying3 (hval 6 3 v6 rfl rfl) h6;clear hA0 hval0;refine(NI (Ta (sI hL).1 (sI hL).2 _ _ _ _ _ _ _ _ D3 (Le w4) (Le w5) _ λσ' e=>⟨rfl,e⟩)).mono λe W' ⟨he,bel⟩=>?_;subst he;exact⟨_,rfl,_,_,_,[],_,[],hW',trodAll_mk1 (shut_bool Tryz.underlying4 _),(trodAll_cons_mk (Below.trod laidOut (by kernel_rfl) (uU (by kernel_rfl)) k0 bel lt0) (trodAll_cons_mk (shut_int Tryz.underlying3 w1) (trodAll_cons_mk (shut_int Tryz.underlying3 w2) (trodAll_cons_mk (Below.trod laidOut (by kernel_rfl) (uU (by kernel_rfl)) k3 bel lt3) (trodAll_cons_mk (shut_int Tryz.underlying5 w4) (trodAll_cons_mk (shut_int Tryz.underlying5 w5) (trodAll_cons_mk (shut_int Tryz.underlying3 w6) trodAll_mk0))))))),rfl,bel.frame _,λh=>by cases h⟩
theorem over:Rows.quarantineUsedRow.holds Tryz.pinned (OpenSpec.ofChange Rows.quarantineUsedSpec):=
  OpenClaim.holds_of_wide 6 Tryz.f6 rfl rfl rfl rfl rfl rfl rfl ⟨rfl,rfl,rfl,rfl,rfl⟩ rfl rfl rfl rfl rfl (by kernel_rfl) Tryz.func6 closed
    (uU (by kernel_rfl)) (by unfold Func.isWrapper;first | (rw[zC (by decide +kernel)];kernel_rfl) | (rw[zB (by decide +kernel)];exact⟨rfl,rfl⟩))
    (λos started H enc _=>lifted os started H enc)
/-- The tied card. -/
theorem card:Rows.QuarantineUsedCardSaid:=
  Claim7.holds_tied_plain_at .later [] [.data,.data,.data] true (true, "bbede97abc681f2a3baaf53806aca2582ddebfc478fe2286f05b172e7aabbc95") true
    over (λ_ h=>by cases h) d1 (λ_ h=>by cases h) quarantineUsed_row_tie rfl ⟨rfl,rfl⟩ d2 rfl
    (λf fn hf hfn=>by
      obtain rfl:f=6:=Option.some.inj ((show Tryz.prog.funcNamed "freehold/freeholdlaw13.QuarantineUsed" = some 6 by kernel_rfl).symm.trans hf) |>.symm
      obtain rfl:fn=Tryz.f6:=(Option.some.inj (Tryz.func6.symm.trans hfn)).symm;exact⟨d3,λj t ht=>by
        rw[Tryz.params6]at ht;have hm:t∈[25,3,3,26,5,5,3]:=by simpa using AJ ht
        exact(show Tryz.prog.wantsStandIn t=false by simpa using kx.1 d4 t hm)⟩)
    d5
#print axioms card
end Go.Proofs.YtoeidadjhkkioaaGreatDoor.quarantineUsed
