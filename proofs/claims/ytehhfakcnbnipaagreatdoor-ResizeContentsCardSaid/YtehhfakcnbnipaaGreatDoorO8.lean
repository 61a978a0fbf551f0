/- Texts joined. -/
import Derived.Test.YtehhfakcnbnipaaGreatDoorO7
set_option linter.unusedVariables false
set_option linter.unusedSimpArgs false
namespace Go.Ar
open Go Go.Vc Go.Proofs Go.ChangeShapes Go.WideShapes Go.RowKit Go.Deep
section
variable {H:Type}{enc:TypeId×Value->H}{P:Program}{w:World}
theorem Wnu {x:Int}(h:(Lit.int .i64 x).wf=true):I64 x:=by
 unfold I64;simp[Lit.wf,IntKind.min,IntKind.max,IntKind.bits,IntKind.signed]at h;omega
theorem Wol {x:Int}(h:(Lit.int .u8 x).wf=true):0<=x/\x<=255:=by
 simp[Lit.wf,IntKind.min,IntKind.max,IntKind.bits,IntKind.signed]at h;omega
theorem Wf0 {t:TypeId}{f0 f1 f2 f3 f4 f5 f6 f7:Field}{fuel:Nat}{cs:List Value}{y:DataW H×List MemPlace}
 (ht:P.underlying t=some (.struct #[f0,f1,f2,f3,f4,f5,f6,f7])) (hone:oneCellFields P #[f0,f1,f2,f3,f4,f5,f6,f7]=true) (hC:P.cellsOf t=8)
 (h0:P.underlying f0.type=some (.int .i64)) (h1:P.underlying f1.type=some (.int .i64)) (h2:P.underlying f2.type=some (.int .i64)) (h3:P.underlying f3.type=some (.int .i64)) (h4:P.underlying f4.type=some (.int .i64)) (h5:P.underlying f5.type=some (.int .i64)) (h6:P.underlying f6.type=some (.int .i64)) (h7:P.underlying f7.type=some .string)
 (h:DataW.trod enc P w 0 (λ_=>true) true fuel t cs=some y):∃d:Deed,cs=WdF d/\DeedI d:=by
 obtain⟨ys,n,hn,hy,hlen,hyl,hff⟩:=DataW.trod_struct ht h;have hl8:cs.length=8:=by rw[←hC];exact hlen
 match cs,hl8 with
 | [c0,c1,c2,c3,c4,c5,c6,c7],_=>
  have one:∀(j:Nat) (f:Field) (c:Value),(#[f0,f1,f2,f3,f4,f5,f6,f7]:Array Field)[j]?=some f->[c0,c1,c2,c3,c4,c5,c6,c7][j]?=some c->∃z,DataW.trod enc P w 0 (λ_=>true) true n f.type [c]=some z:=by
   intro j f c hj hc;obtain⟨ho,hk⟩:=hone_of hone j f hj;have h3:=hff j f hj;rw[ho,hk]at h3;have hjl:=(gSi.1 hc).1;have e1:([c0,c1,c2,c3,c4,c5,c6,c7].drop j).take 1=[c]:=by
    rw[zBZ hjl,zCP,zFG,(gSi.1 hc).2]
   rw[e1]at h3;have hys:ys[j]?=some (ys[j]'(by rw[hyl];simp at hjl ⊢;omega)):=gGe _;rw[hys]at h3;exact⟨_,h3⟩
  have int:∀(j:Nat) (f:Field) (c:Value),(#[f0,f1,f2,f3,f4,f5,f6,f7]:Array Field)[j]?=some f->[c0,c1,c2,c3,c4,c5,c6,c7][j]?=some c->P.underlying f.type=some (.int .i64)->∃x:Int,c=.int .i64 x/\I64 x:=by
   intro j f c hj hc hu;obtain⟨z,hz⟩:=one j f c hj hc;obtain⟨x,hx1,_,hw⟩:=DataW.trod_int hu hz;simp only[List.cons.injEq,and_true]at hx1;exact⟨x,hx1,Wnu hw⟩
  obtain⟨x0,rfl,_⟩:=int 0 f0 c0 rfl rfl h0;obtain⟨x1,rfl,_⟩:=int 1 f1 c1 rfl rfl h1;obtain⟨x2,rfl,i2⟩:=int 2 f2 c2 rfl rfl h2;obtain⟨x3,rfl,i3⟩:=int 3 f3 c3 rfl rfl h3;obtain⟨x4,rfl,_⟩:=int 4 f4 c4 rfl rfl h4;obtain⟨x5,rfl,i5⟩:=int 5 f5 c5 rfl rfl h5;obtain⟨x6,rfl,i6⟩:=int 6 f6 c6 rfl rfl h6;obtain⟨z,hz⟩:=one 7 f7 c7 rfl rfl;obtain⟨s,hs,_⟩:=DataW.trod_string h7 hz;simp only[List.cons.injEq,and_true]at hs;subst hs;exact⟨⟨x0,x1,x2,x3,x4,x5,x6,s⟩,rfl,i2,i3,i5,i6⟩
theorem Wgz {t e:TypeId}{f0 f1 f2 f3 f4 f5 f6 f7:Field}{a:Option Addr}{len cap:Nat}{d:DataW H}{ps:List MemPlace}
 (htl:P.underlying t=some (.slice e)) (ht:P.underlying e=some (.struct #[f0,f1,f2,f3,f4,f5,f6,f7])) (hone:oneCellFields P #[f0,f1,f2,f3,f4,f5,f6,f7]=true) (hC:P.cellsOf e=8)
 (h0:P.underlying f0.type=some (.int .i64)) (h1:P.underlying f1.type=some (.int .i64)) (h2:P.underlying f2.type=some (.int .i64)) (h3:P.underlying f3.type=some (.int .i64)) (h4:P.underlying f4.type=some (.int .i64)) (h5:P.underlying f5.type=some (.int .i64)) (h6:P.underlying f6.type=some (.int .i64)) (h7:P.underlying f7.type=some .string)
 (h:DataW.Trod enc P w 0 (λ_=>true) true t (.slice a len cap) d ps):∃ds,Deeds w.heap ⟨a,len,cap⟩ ds:=by
 obtain⟨fuel,hf⟩:=h;rcases open_slice htl hf with⟨hcs,_⟩|⟨ad,len',cap',m,n,D,Pl,hcs,_,hl,hm,hmm,hx,hi⟩
 ·simp[Value.cells]at hcs;obtain⟨rfl,rfl,rfl⟩:=hcs;exact⟨[],rfl,λi x hx=>by simp at hx,by simp,by simp⟩
 ·simp[Value.cells]at hcs;obtain⟨rfl,rfl,rfl⟩:=hcs;have hmc:m=cap:=by simpa using hmm
  have key:∀i,i<len->∃u:Deed,(∀j v,(WdF u)[j]?=some v->cell w.heap ((ad.add (i*8)).add j)=some v)/\DeedI u:=by
   intro i hil;obtain⟨cs',hc,ht'⟩:=hi i (by omega);rw[hC]at hc;obtain⟨x,hcs,hxi⟩:=Wf0 ht hone hC h0 h1 h2 h3 h4 h5 h6 h7 ht';obtain⟨_,hcl,hat⟩:=World.cells?_some hc;refine⟨x,λj v hv=>?_,hxi⟩;have hj:=(gSi.1 hv).1;have:=hat j (by simpa[WdF]using hj);rw[hcs]at this;rw[hv]at this;exact this
  let g:Nat->Deed:=λi=>if hi:i<len then(key i hi).choose else⟨0,0,0,0,0,0,0,ByteArray.empty⟩
  have hg:∀i,(hi:i<len)->g i=(key i hi).choose:=λi hi=>by simp only[g,hi,dif_pos]
  refine⟨(List.range len).map g,by simp,λi x hx=>?_,λx hx=>?_,?_⟩
  ·have hil:i<len:=by
    have:=(gSi.1 hx).1;simpa using this
   have hgx:g i=x:=by simpa[hil]using hx
   rw[hg i hil]at hgx;have hs:=(key i hil).choose_spec;rw[hgx]at hs;obtain⟨hc,_⟩:=hs;have hz0:=(key 0 (by omega)).choose_spec.1;have hz1:=hz0 0 _ rfl;have hsp:=Wg3 hz1;simp only[zDK,Addr.add_zero']at hsp;obtain⟨b,o,s⟩:=ad;have hs:s=none:=hsp.2;subst hs;refine⟨b,o,rfl,hsp.1,λj v hv=>?_⟩;have:=hc j v hv;rw[add_lit,add_lit]at this;exact this
  ·obtain⟨i,hi,rfl⟩:=zD.1 hx;have hil:=zb.1 hi;rw[hg i hil];exact(key i hil).choose_spec.2
  ·have:maxLen=9223372036854775807:=rfl;simp;omega
theorem Wf9 {b0:Nat}{t:TypeId}{f0 f1 g0 g1 g2 g3 g4:Field}{v:Value}{d:DataW H}{ps:List MemPlace}
 (ht:P.underlying t=some (.struct #[f0,f1])) (hC:P.cellsOf t=6) (ho:f0.offset=0/\P.cellsOf f0.type=1/\f1.offset=1/\P.cellsOf f1.type=5)
 (h0:P.underlying f0.type=some (.int .i64)) (h1:P.underlying f1.type=some (.struct #[g0,g1,g2,g3,g4])) (hone:oneCellFields P #[g0,g1,g2,g3,g4]=true)
 (k0:P.underlying g0.type=some (.int .i64)) (k1:P.underlying g1.type=some (.int .i64)) (k2:P.underlying g2.type=some (.int .i64)) (k3:P.underlying g3.type=some (.int .i64)) (k4:P.underlying g4.type=some (.int .i64))
 (hval:Value.okWide P w .any b0 t v) (h:DataW.Trod enc P w 0 (λ_=>true) true t v d ps):∃(x0 x1 x2 x3 x4 x5:Int),v=.agg #[.int .i64 x0,.int .i64 x1,.int .i64 x2,.int .i64 x3,.int .i64 x4,.int .i64 x5]:=by
 unfold Value.okWide at hval;rw[ht]at hval;obtain⟨cs,rfl,hsz,_⟩:=hval;obtain⟨fuel,hf⟩:=h;obtain⟨l⟩:=cs;have hl6:l.length=6:=by rw[←hC];simpa using hsz
 obtain⟨ho1,ho2,ho3,ho4⟩:=ho
 match l,hl6 with
 | [c0,c1,c2,c3,c4,c5],_=>
  have hf:DataW.trod enc P w 0 (λ_=>true) true fuel t [c0,c1,c2,c3,c4,c5]=some (d,ps):=hf;obtain⟨y0,y1,n,_,_,q0,q1⟩:=trod_struct2 ht hf;rw[ho1,ho2]at q0;rw[ho3,ho4]at q1;have q0':DataW.trod enc P w 0 (λ_=>true) true n f0.type [c0]=some y0:=q0;have q1':DataW.trod enc P w 0 (λ_=>true) true n f1.type [c1,c2,c3,c4,c5]=some y1:=q1;obtain⟨x0,hx0,_,_⟩:=DataW.trod_int h0 q0';simp only[List.cons.injEq,and_true]at hx0;subst hx0;obtain⟨ys,n,hn,hy,hlen,hyl,hff⟩:=DataW.trod_struct h1 q1';have int:∀(j:Nat) (f:Field) (c:Value),(#[g0,g1,g2,g3,g4]:Array Field)[j]?=some f->[c1,c2,c3,c4,c5][j]?=some c->P.underlying f.type=some (.int .i64)->∃x:Int,c=.int .i64 x:=by
   intro j f c hj hc hu;obtain⟨ho,hk⟩:=hone_of hone j f hj;have h3:=hff j f hj;rw[ho,hk]at h3;have hjl:=(gSi.1 hc).1;have e1:([c1,c2,c3,c4,c5].drop j).take 1=[c]:=by
    rw[zBZ hjl,zCP,zFG,(gSi.1 hc).2]
   rw[e1]at h3;have hys:ys[j]?=some (ys[j]'(by rw[hyl];simp at hjl ⊢;omega)):=gGe _;rw[hys]at h3;obtain⟨x,hx1,_,_⟩:=DataW.trod_int hu h3;exact⟨x,by simpa using hx1⟩
  obtain⟨x1,rfl⟩:=int 0 g0 c1 rfl rfl k0;obtain⟨x2,rfl⟩:=int 1 g1 c2 rfl rfl k1;obtain⟨x3,rfl⟩:=int 2 g2 c3 rfl rfl k2;obtain⟨x4,rfl⟩:=int 3 g3 c4 rfl rfl k3;obtain⟨x5,rfl⟩:=int 4 g4 c5 rfl rfl k4;exact⟨x0,x1,x2,x3,x4,x5,rfl⟩
end
end Go.Ar