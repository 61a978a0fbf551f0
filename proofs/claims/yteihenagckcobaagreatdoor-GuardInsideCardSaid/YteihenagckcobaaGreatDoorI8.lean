/- Texts joined. -/
import Derived.Test.YteihenagckcobaaGreatDoorI7
set_option linter.unusedVariables false
set_option linter.unusedSimpArgs false
namespace Go.Ar
open Go Go.Vc Go.Proofs Go.ChangeShapes Go.WideShapes Go.RowKit Go.Deep
section
variable {H:Type}{enc:TypeId×Value->H}{P:Program}{w:World}
theorem Sq {x:Int}(h:(Lit.int .i64 x).wf=true):kY x:=by
 unfold kY;simp[Lit.wf,IntKind.min,IntKind.max,IntKind.bits,IntKind.signed]at h;omega
theorem Pn {t:TypeId}{f0 f1 f2 f3 f4 f5 f6 f7:Field}{fuel:Nat}{cs:List Value}{y:DataW H×List MemPlace}
 (ht:P.underlying t=some (.struct #[f0,f1,f2,f3,f4,f5,f6,f7])) (hone:oneCellFields P #[f0,f1,f2,f3,f4,f5,f6,f7]=true) (hC:P.cellsOf t=8)
 (h0:P.underlying f0.type=some (.int .i64)) (h1:P.underlying f1.type=some (.int .i64)) (h2:P.underlying f2.type=some (.int .i64)) (h3:P.underlying f3.type=some (.int .i64)) (h4:P.underlying f4.type=some (.int .i64)) (h5:P.underlying f5.type=some (.int .i64)) (h6:P.underlying f6.type=some (.int .i64)) (h7:P.underlying f7.type=some .string)
 (h:DataW.trod enc P w 0 (λ_=>true) true fuel t cs=some y):∃d:fQ,cs=qp d/\lK d:=by
 obtain⟨A,n,V,U,a,p,m⟩:=DataW.trod_struct ht h;have i:cs.length=8:=by rw[←hC];exact a
 match cs,i with
 | [c0,c1,c2,c3,c4,c5,c6,c7],_=>
  have one:∀(j:Nat) (f:Field) (c:Value),(#[f0,f1,f2,f3,f4,f5,f6,f7]:Array Field)[j]?=some f->[c0,c1,c2,c3,c4,c5,c6,c7][j]?=some c->∃z,DataW.trod enc P w 0 (λ_=>true) true n f.type [c]=some z:=by
   intro j f c hj hc;obtain⟨F,C⟩:=hone_of hone j f hj;have h3:=m j f hj;rw[F,C]at h3;have b:=(cW.1 hc).1;have e1:([c0,c1,c2,c3,c4,c5,c6,c7].drop j).take 1=[c]:=by
    rw[u6 b,uE,xy,(cW.1 hc).2]
   rw[e1]at h3;have r:A[j]?=some (A[j]'(by rw[p];simp at b ⊢;omega)):=cV _;rw[r]at h3;exact⟨_,h3⟩
  have int:∀(j:Nat) (f:Field) (c:Value),(#[f0,f1,f2,f3,f4,f5,f6,f7]:Array Field)[j]?=some f->[c0,c1,c2,c3,c4,c5,c6,c7][j]?=some c->P.underlying f.type=some (.int .i64)->∃x:Int,c=.int .i64 x/\kY x:=by
   intro j f c hj hc hu;obtain⟨z,g⟩:=one j f c hj hc;obtain⟨x,e,_,G⟩:=DataW.trod_int hu g;simp only[List.cons.injEq,and_true]at e;exact⟨x,e,Sq G⟩
  obtain⟨E,rfl,_⟩:=int 0 f0 c0 rfl rfl h0;obtain⟨J,rfl,_⟩:=int 1 f1 c1 rfl rfl h1;obtain⟨Q,rfl,B⟩:=int 2 f2 c2 rfl rfl h2;obtain⟨M,rfl,S⟩:=int 3 f3 c3 rfl rfl h3;obtain⟨L,rfl,_⟩:=int 4 f4 c4 rfl rfl h4;obtain⟨D,rfl,K⟩:=int 5 f5 c5 rfl rfl h5;obtain⟨R,rfl,N⟩:=int 6 f6 c6 rfl rfl h6;obtain⟨z,g⟩:=one 7 f7 c7 rfl rfl;obtain⟨s,u,_⟩:=DataW.trod_string h7 g;simp only[List.cons.injEq,and_true]at u;subst u;exact⟨⟨E,J,Q,M,L,D,R,s⟩,rfl,B,S,K,N⟩
theorem Ol {t e:TypeId}{f0 f1 f2 f3 f4 f5 f6 f7:Field}{a:Option Addr}{len cap:Nat}{d:DataW H}{ps:List MemPlace}
 (htl:P.underlying t=some (.slice e)) (ht:P.underlying e=some (.struct #[f0,f1,f2,f3,f4,f5,f6,f7])) (hone:oneCellFields P #[f0,f1,f2,f3,f4,f5,f6,f7]=true) (hC:P.cellsOf e=8)
 (h0:P.underlying f0.type=some (.int .i64)) (h1:P.underlying f1.type=some (.int .i64)) (h2:P.underlying f2.type=some (.int .i64)) (h3:P.underlying f3.type=some (.int .i64)) (h4:P.underlying f4.type=some (.int .i64)) (h5:P.underlying f5.type=some (.int .i64)) (h6:P.underlying f6.type=some (.int .i64)) (h7:P.underlying f7.type=some .string)
 (h:DataW.Trod enc P w 0 (λ_=>true) true t (.slice a len cap) d ps):∃ds,jo w.heap ⟨a,len,cap⟩ ds:=by
 obtain⟨Q,S⟩:=h;rcases open_slice htl S with⟨p,_⟩|⟨ad,len',cap',m,n,D,Pl,p,_,hl,hm,hmm,z,y⟩
 ·simp[Value.cells]at p;obtain⟨rfl,rfl,rfl⟩:=p;exact⟨[],rfl,λi x z=>by simp at z,by simp,by simp⟩
 ·simp[Value.cells]at p;obtain⟨rfl,rfl,rfl⟩:=p;have W:m=cap:=by simpa using hmm
  have key:∀i,i<len->∃u:fQ,(∀j v,(qp u)[j]?=some v->cell w.heap ((ad.add (i*8)).add j)=some v)/\lK u:=by
   intro i r;obtain⟨V,F,J⟩:=y i O;rw[hC]at F;obtain⟨x,p,K⟩:=Pn ht hone hC h0 h1 h2 h3 h4 h5 h6 h7 J;obtain⟨_,U,M⟩:=World.cells?_some F;refine⟨x,λj v C=>?_,K⟩;have R:=(cW.1 C).1;have:=M j (by simpa[qp]using R);rw[p]at this;rw[C]at this;exact this
  let g:Nat->fQ:=λi=>if y:i<len then(key i y).choose else⟨0,0,0,0,0,0,0,ByteArray.empty⟩
  have N:∀i,(y:i<len)->g i=(key i y).choose:=λi y=>by simp only[g,y,dif_pos]
  refine⟨(List.range len).map g,by simp,λi x z=>?_,λx z=>?_,?_⟩
  ·have r:i<len:=by
    have:=(cW.1 z).1;simpa using this
   have B:g i=x:=by simpa[r]using z
   rw[N i r]at B;have E:=(key i r).choose_spec;rw[B]at E;obtain⟨F,_⟩:=E;have L:=(key 0 O).choose_spec.1;have G:=L 0 _ rfl;have A:=E6 G;simp only[uf,Addr.add_zero']at A;obtain⟨b,o,s⟩:=ad;have E:s=none:=A.2;subst E;refine⟨b,o,rfl,A.1,λj v C=>?_⟩;have:=F j v C;rw[add_lit,add_lit]at this;exact this
  ·obtain⟨i,y,rfl⟩:=zE.1 z;have r:=zg.1 y;rw[N i r];exact(key i r).choose_spec.2
  ·have:maxLen=9223372036854775807:=rfl;simp;omega
theorem IH {b0:Nat}{t:TypeId}{f0 f1 g0 g1 g2 g3 g4:Field}{v:Value}{d:DataW H}{ps:List MemPlace}
 (ht:P.underlying t=some (.struct #[f0,f1])) (hC:P.cellsOf t=6) (ho:f0.offset=0/\P.cellsOf f0.type=1/\f1.offset=1/\P.cellsOf f1.type=5)
 (h0:P.underlying f0.type=some (.int .i64)) (h1:P.underlying f1.type=some (.struct #[g0,g1,g2,g3,g4])) (hone:oneCellFields P #[g0,g1,g2,g3,g4]=true)
 (k0:P.underlying g0.type=some (.int .i64)) (k1:P.underlying g1.type=some (.int .i64)) (k2:P.underlying g2.type=some (.int .i64)) (k3:P.underlying g3.type=some (.int .i64)) (k4:P.underlying g4.type=some (.int .i64))
 (hval:Value.okWide P w .any b0 t v) (h:DataW.Trod enc P w 0 (λ_=>true) true t v d ps):∃(x0 x1 x2 x3 x4 x5:Int),v=.agg #[.int .i64 x0,.int .i64 x1,.int .i64 x2,.int .i64 x3,.int .i64 x4,.int .i64 x5]:=by
 unfold Value.okWide at hval;rw[ht]at hval;obtain⟨M,rfl,A,_⟩:=hval;obtain⟨a,r⟩:=h;obtain⟨l⟩:=M;have z:l.length=6:=by rw[←hC];simpa using A
 obtain⟨i,u,s,m⟩:=ho
 match l,z with
 | [c0,c1,c2,c3,c4,c5],_=>
  have r:DataW.trod enc P w 0 (λ_=>true) true a t [c0,c1,c2,c3,c4,c5]=some (d,ps):=r;obtain⟨y0,y1,n,_,_,F,K⟩:=trod_struct2 ht r;rw[i,u]at F;rw[s,m]at K;have C:DataW.trod enc P w 0 (λ_=>true) true n f0.type [c0]=some y0:=F;have B:DataW.trod enc P w 0 (λ_=>true) true n f1.type [c1,c2,c3,c4,c5]=some y1:=K;obtain⟨x0,b,_,_⟩:=DataW.trod_int h0 C;simp only[List.cons.injEq,and_true]at b;subst b;obtain⟨G,n,Q,N,J,p,D⟩:=DataW.trod_struct h1 B;have int:∀(j:Nat) (f:Field) (c:Value),(#[g0,g1,g2,g3,g4]:Array Field)[j]?=some f->[c1,c2,c3,c4,c5][j]?=some c->P.underlying f.type=some (.int .i64)->∃x:Int,c=.int .i64 x:=by
   intro j f c hj hc hu;obtain⟨ho,L⟩:=hone_of hone j f hj;have g:=D j f hj;rw[ho,L]at g;have e:=(cW.1 hc).1;have e1:([c1,c2,c3,c4,c5].drop j).take 1=[c]:=by
    rw[u6 e,uE,xy,(cW.1 hc).2]
   rw[e1]at g;have E:G[j]?=some (G[j]'(by rw[p];simp at e ⊢;omega)):=cV _;rw[E]at g;obtain⟨x,y,_,_⟩:=DataW.trod_int hu g;exact⟨x,by simpa using y⟩
  obtain⟨x1,rfl⟩:=int 0 g0 c1 rfl rfl k0;obtain⟨x2,rfl⟩:=int 1 g1 c2 rfl rfl k1;obtain⟨x3,rfl⟩:=int 2 g2 c3 rfl rfl k2;obtain⟨x4,rfl⟩:=int 3 g3 c4 rfl rfl k3;obtain⟨x5,rfl⟩:=int 4 g4 c5 rfl rfl k4;exact⟨x0,x1,x2,x3,x4,x5,rfl⟩
end
end Go.Ar