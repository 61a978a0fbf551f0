/- Texts joined. -/
import Derived.Test.YteihenagckcobaaGreatDoorRows
import Derived.ChangeVars
import Derived.JoinedOf
import Derived.RowKit
import Derived.WalkKit
import Derived.ProofKit
import Derived.OpenShut
import Derived.ChangeOld
import Derived.Carry
import Derived.Test.YteihenagckcobaaGreatDoorO7
set_option linter.unusedVariables false
set_option linter.unusedSimpArgs false
namespace Go.Ar
open Go Go.Vc Go.Proofs
open Go.Vc (bW dB cS)
variable {U σ0 v w w':Hp}{F P Q X T:Rg}{L:dJ}{H H' H1:Hw}{held:List Pc}{s0 sp:Sp}{t n:Nat}{gb km fm m xb:Nat}{x y:Gu}{b:B5}{l:Sl}{ds:List fP}{ad:List Int}{la:List T3}{Qa Ql:Rg}{addrs ls:Sl}
theorem AL.asked (al:AL H x ad la){k:Int×B5}(hk:k∈x.kn):∃(j:Nat) (a:T3),la[j]?=some a/\a.1=k.1/\a.2.1=k.2.2.1:=by
 have:(k.1,k.2.2.1,k.1-k.2.2.2.1)∈la.map (λa=>(a.1,a.2.1,zA a.2.2)):=by rw[al.lq];exact zE.2 ⟨k,hk,rfl⟩
 obtain⟨a,d,h⟩:=zE.1 this;simp only[Prod.mk.injEq]at h;obtain⟨j,b⟩:=zQ d;exact⟨j,a,b,h.1,h.2.1⟩
set_option maxRecDepth 16000 in
theorem MP (gl:Gl U)(gc:Gc U)(b b1 b2 b3 b4 b5:Int)(hd:jq U l ds){R:aO}(hR:∀σ',bK U σ'->R true σ'):WN.c b b1 b2 b3 b4 b5 l U R:=by
 refine WN.o ?_;unfold WN.v;refine nw (cs:=[.int .i64 b,.int .i64 b1,.int .i64 b2,.int .i64 b3,.int .i64 b4,.int .i64 b5]) λv hz e hb=>hb.rI rfl (hb.rI rfl (hb.rI rfl (hb.rI rfl (hb.rI rfl (hb.rI rfl ?_)))));refine PS (gl.bO e) (gc.bO e) b b1 b2 b3 b4 b5 (hd.bO e) 60 aB (λv1 e1=>?_) λv1 xb L H held s0 P gb km fm x Qa Ql addrs ad ls X o N hno=>cB rfl ?_
 ·exact cE rfl (CZ (gl.bO (e.trans e1)) (gc.bO (e.trans e1)) λv2 e2=>hR v2 ((e.trans e1).trans e2))
 have n0:=N.n0;have nl:=N.nl;have hll:ls.len=X.length:=by have:=o.rl.1;rw[VK]at this;omega
 have hlk:X.length=x.kn.length:=by have:=congrArg List.length N.lq;simpa using this
 refine aG (o.b.rP rfl (O4 o.p N.g.i O λs v3 B e3 Q W=>?_));have hsl:s.len=B.length:=by have:=W.1;rw[BR,zl]at this;omega
 have hel:=Q.p.length_eq;have o3:=o.fr e3;have E3:=e.trans o3.p.e;refine aG (o3.b.rS rfl (cB (by show(((s.len:Nat):Int) != ((ls.len:Nat):Int))=false;rw[hsl,hel,hll,hlk,om];simp) ?_));refine ZX (a:=bN) (λ(z:Int) u=>bK v3 u/\∃i:Nat,z=i/\i<=B.length) (λz _=>B.length-z.toNat) ⟨Ext.refl _ _,0,rfl,O⟩ ?_;rintro(z:Int) u ⟨eu,i,rfl,hi⟩;have ou:=o3.fr eu;have hru:=aI.bO (aI.cut W) eu;refine cQ (λhlt=>?_) λhge=>CZ (gl.bO (E3.trans eu)) (gc.bO (E3.trans eu)) λq eq=>hR q ((E3.trans eu).trans eq);have hx:B[i]?=some (B[i]' O):=cU _;generalize hke:(B[i]' O)=k at hx;have hk:k∈x.kn:=Q.p.mem_iff.1 (zG hx);have hx4:(B.map Go.Ar.b4)[i]?=some (Go.Ar.b4 k):=by rw[za,hx];rfl
 have A:=N.g.i k hk;have k1:=A.1;have kb:=A.2.base;have kz:=A.2.z;have kt:=A.2.t;have km':=A.2.m;have ks:=A.2.s;have kw:=Z2 (n:=k.2.2.1) O;obtain⟨j0,a0,hj0,ha1,ha2⟩:=N.asked hk;have hj0l:=(cV.1 hj0).1;refine EG (bR.gF hru) hx4 λbb oo hc=>fU (hc 0 _ rfl) (fU (hc 1 _ rfl) (fU (hc 2 _ rfl) (fU (hc 3 _ rfl) (AV λu1 e1 hy=>?_))));refine Uw (a:=.b) (bb:=bN) (λ(ok:Bool) (z:Int) w=>bK u1 w/\∃j:Nat,z=j/\j<=X.length/\(ok=true\/j<=j0)) (λ_ z _=>X.length-z.toNat) ⟨Ext.refl _ _,0,rfl,O,.inr O⟩ ?_;rintro(ok:Bool) (z:Int) w ⟨ew,j,rfl,hj,hok⟩;have ow:=(ou.fr e1).fr ew;have F:=ew.bT hy id;refine aG (ow.b.rS rfl (cQ (λhlt2=>?_) λhge2=>?_))
 ·have hj':j<X.length:=by simp only at hlt2;omega
  have hg:X[j]?=some X[j]:=cU _;generalize X[j]=a at hg;have hao:=N.ok a (zG hg);have hal1:1<=a.2.2:=by
   have:=hao.1;unfold mT at this;rw[zF,zU]at this;omega
  refine QZ (λr C=>C=w/\(r=true\/j+1<=j0)) (λr C ⟨M,hr⟩=>?_) λJ hJ=>cO (λ_=>hJ _ _ ⟨rfl,.inl rfl⟩) λhokf=>?_
  ·rw[M];exact cP (m:=j+1) O O ⟨⟨ew,j+1,rfl,O,hr⟩,O⟩
  ·have hjj:j<=j0:=hok.resolve_left (by rw[hokf];decide);refine aG (ow.b.rS rfl (wL (bR.gF ow.rl) hg λb3 o3' E=>fU (E 0 _ rfl) (F.rI rfl ?_)));have D:j=j0->a.1=k.1/\a.2.1=k.2.2.1/\k.1%a.2.2=0:=λh=>by
    subst h;rw[hg]at hj0;have:=Option.some.inj hj0;subst this;exact⟨ha1,ha2,by rw[←ha1];exact hao.2⟩
   refine QZ (λr C=>C=w/\(j=j0->r=true)) (λr C ⟨M,hr⟩=>?_) λJ1 G=>?_
   ·rw[M];refine QZ (λr C=>C=w/\(j=j0->r=true)) (λr C ⟨M,hr⟩=>?_) λJ2 V=>?_
    ·rw[M];refine hJ _ _ ⟨rfl,?_⟩;by_cases h:j=j0
     ·exact .inl (hr h)
     ·exact .inr O
    ·refine cO (λ_=>F.rI rfl (aG (ow.b.rS rfl (wL (bR.gF ow.rl) hg λb3 o3' E=>fU (E 2 _ rfl) (nz O (V _ _ ⟨rfl,λh=>?_⟩)))))) λh'=>V _ _ ⟨rfl,λh=>by rw[hr h]at h';cases h'⟩;show(k.2.1.tmod a.2.2==0)=true;rw[Qp O,←k1,(D h).2.2];rfl
   ·refine cO (λ_=>aG (ow.b.rS rfl (wL (bR.gF ow.rl) hg λb3 o3' E=>fU (E 1 _ rfl) (F.rI rfl (G _ _ ⟨rfl,λh=>?_⟩))))) λh'=>G _ _ ⟨rfl,λh=>?_⟩
    ·show(a.2.1==k.2.2.1)=true;rw[(D h).2.1];simp
    ·have h'':(a.1==k.2.1)=false:=h';rw[(D h).1,k1]at h'';simp at h''
 ·have hokt:ok=true:=hok.resolve_right (by have:¬((j:Int)<((ls.len:Nat):Int)):=hge2;omega);subst hokt;refine⟨λm=>bK w m,Ext.refl _ _,aG (gV (c:=.p) (y:=some ⟨gb,0,none⟩) (λm e=>e.bT ow.b id) rfl (gV (c:=bN) (y:=k.2.2.2.1) (λm e=>e.bT F id) rfl ?_))⟩;refine I7 ow.p ⟨Ext.refl _ _,UH ow.p.h k.2.2.2.1 λw1 e1'=>⟨e1',?_⟩⟩;rw[N.g.usable ow.p.hi hk];have hy1:=e1'.bT F id;have hS:∀m,bK w1 m->bY m u.size (mf (Go.Ar.b4 k)):=λm e=>e.bT hy1 id;refine wa (λr C=>bK w1 C/\r=false) (λr C ⟨eu2,hr⟩=>?_) λJ hJ=>?_
  ·subst hr;refine cB rfl ?_;have hy2:=eu2.bT hy1 id;have eT:=((e1.trans ew).trans e1').trans eu2;refine ZX (a:=bN) (λ(z:Int) w=>bK C w/\∃q:Nat,z=q/\q<=i) (λz _=>i-z.toNat) ⟨Ext.refl _ _,0,rfl,O⟩ ?_;rintro(z:Int) w3 ⟨ew3,q,rfl,hq⟩;refine cQ (λhlt3=>?_) λhge3=>cP (m:=i+1) O O ⟨⟨(eu.trans eT).trans ew3,i+1,rfl,O⟩,O⟩;have hqi:q<i:=by omega
   have hxq:B[q]?=some (B[q]' O):=cU _;have Y:(B[q]' O).1<k.1:=by rw[←hke];exact l0.1 Q.s q i O O hqi
   generalize (B[q]' O)=r at hxq Y;have hrm:r∈x.kn:=Q.p.mem_iff.1 (zG hxq);have d:=N.g.i r hrm;have r1:=d.1;have rb:=d.2.base;have rz:=d.2.z;have rt:=d.2.t;have rm':=d.2.m;have rs:=d.2.s;have rw':=Z2 (n:=r.2.2.1) O;have hxq4:(B.map Go.Ar.b4)[q]?=some (Go.Ar.b4 r):=by rw[za,hxq];rfl
   have hrw:=aI.bO (aI.cut hru) (eT.trans ew3);have S:=ew3.bT hy2 id;have rd:∀{j:Nat} {z:Int} {K:Int->Prop},(mf (Go.Ar.b4 r))[j]?=some (.int .i64 z)->K z->Ix s.a s.len (q:Int) 4 λa=>gA .i64 (a.add j) w3 K:=λhj hK=>EG (bR.gF hrw) hxq4 λb4' o4' hc4=>fU (hc4 _ _ hj) hK;refine rd (j:=2) rfl (S.rI rfl (S.rI rfl (ar (by show _<=k.2.2.2.1+k.2.2.2.2.1;omega) (by show k.2.2.2.1+k.2.2.2.2.1<=_;omega) ?_)));refine QZ (λr' u5=>u5=w3/\r'=false) (λr' u5 ⟨Z,hr'⟩=>?_) λJ1 G=>cQ (λhA=>?_) λ_=>G _ _ ⟨rfl,rfl⟩
   ·rw[Z];refine QZ (λr' u5=>u5=w3/\r'=false) (λr' u5 ⟨Z,hr'⟩=>?_) λJ2 V=>cB hr' ?_
    ·rw[Z];exact cB hr' (cP (m:=q+1) O O ⟨⟨ew3,q+1,rfl,O⟩,O⟩)
    ·refine rd (j:=0) rfl (S.rI rfl (V _ _ ⟨rfl,?_⟩));show decide (r.2.1≥k.2.1)=false;rw[zK];omega
   ·refine S.rI rfl (rd (j:=2) rfl (rd (j:=3) rfl (ar (by show _<=r.2.2.2.1+r.2.2.2.2.1;omega) (by show r.2.2.2.1+r.2.2.2.2.1<=_;omega) (G _ _ ⟨rfl,?_⟩))));show decide (k.2.2.2.1<r.2.2.2.1+r.2.2.2.2.1)=false;have hA':r.2.2.2.1<k.2.2.2.1+k.2.2.2.2.1:=hA;rw[zK];intro hB;have hrk:r=k:=by
     by_cases h:r.2.2.2.1<=k.2.2.2.1
     ·exact N.g.apart o.p.hi hrm hk (z:=k.2.2.2.1) h hB (sM _) O
     ·exact N.g.apart o.p.hi hrm hk (z:=r.2.2.2.1) (sM _) O O hA'
    rw[hrk]at Y;omega
  ·refine⟨λm=>bK w1 m,Ext.refl _ _,cB rfl (cB rfl (gV (c:=bN) (y:=k.2.2.2.2.1) hS rfl (cB (by show(k.2.2.2.2.1 != k.2.2.2.2.1)=false;simp) ?_)))⟩;refine gV (c:=bN) (y:=k.2.1) hS rfl (gV (c:=bN) (y:=k.2.2.2.1) hS rfl (ar O O (fR O ?_)));refine gV (c:=bN) (y:=k.2.2.2.1) hS rfl (gV (c:=bN) (y:=k.2.2.2.2.1) hS rfl (ar O O (gV (c:=bN) (y:=k.2.1) hS rfl (ar O O (gV (c:=bN) (y:=k.2.2.1) hS rfl ?_)))));refine RB _ O O ⟨Ext.refl _ _,ar O O (hJ _ _ ⟨Ext.refl _ _,?_⟩)⟩;rw[zK];omega
end Go.Ar
namespace Go.Ar
open Go Go.Vc Go.Proofs Go.ChangeShapes Go.WideShapes Go.RowKit Go.Deep
theorem HT {H:Type}{enc:TypeId×Value->H}{P:Program}{w:World}{base:Nat}{sp:Nat->Bool}{held:Bool}{fuel:Nat}{t:TypeId}{c:Value}{y:DataW H×List MemPlace}
 (ht:P.underlying t=some .bool) (h:DataW.trod enc P w base sp held fuel t [c]=some y):∃n,c=.bool n/\y=(.lit (.bool n),[]):=by
 cases fuel with
 | zero=>simp[DataW.trod]at h
 | succ fuel=>
  cases c<;>simp[DataW.trod,ht]at h
  rename_i n;exact⟨n,rfl,by simpa using h.symm⟩
theorem G4 {P:Program}{w:World}{t:TypeId}{f0 f1:Field}{cs:Array Value}{fuel:Nat}{p:List MemPlace}{x y:Bool}(ht:P.underlying t=some (.struct #[f0,f1]))(hone:oneCellFields P #[f0,f1]=true)(hC:P.cellsOf t=2)
 (h0:P.underlying f0.type=some .bool) (h1:P.underlying f1.type=some .bool) (h:DataW.trod (λ_=>()) P w 0 (λ_=>true) false fuel t cs.toList=some (.agg [.lit (.bool x),.lit (.bool y)],p)):cs = #[.bool x,.bool y]:=by
 obtain⟨s,n,C,i,a,d,b⟩:=DataW.trod_struct ht h;obtain⟨l⟩:=cs;have e:l.length=2:=by rw[←hC];simpa using a
 match l,e with
 | [c0,c1],_=>
  have g:=b 0 f0 rfl;have j:=b 1 f1 rfl;obtain⟨u,m⟩:=hone_of hone 0 f0 rfl;obtain⟨o1,r⟩:=hone_of hone 1 f1 rfl;rw[u,m]at g;rw[o1,r]at j
  match s,d with
  | [y0,y1],_=>
   obtain⟨A,rfl,z⟩:=HT h0 (c:=c0) (y:=y0) (by simpa using g);obtain⟨B,rfl,e1⟩:=HT h1 (c:=c1) (y:=y1) (by simpa using j);subst z;subst e1;simp at i;obtain⟨⟨rfl,rfl⟩,_⟩:=i;rfl
theorem Hi {w:World}{a:Addr}{v:Value}(h:w.cell? a=some v):cell w.heap a=some v:=h
section
variable {H:Type}{enc:TypeId×Value->H}{P:Program}{w:World}
theorem Ms {x:Int}(h:(Lit.int .i64 x).wf=true):k6 x:=by
 unfold k6;simp[Lit.wf,IntKind.min,IntKind.max,IntKind.bits,IntKind.signed]at h;omega
theorem LJ {t:TypeId}{f0 f1 f2 f3 f4 f5 f6 f7:Field}{fuel:Nat}{cs:List Value}{y:DataW H×List MemPlace}
 (ht:P.underlying t=some (.struct #[f0,f1,f2,f3,f4,f5,f6,f7])) (hone:oneCellFields P #[f0,f1,f2,f3,f4,f5,f6,f7]=true) (hC:P.cellsOf t=8)
 (h0:P.underlying f0.type=some (.int .i64)) (h1:P.underlying f1.type=some (.int .i64)) (h2:P.underlying f2.type=some (.int .i64)) (h3:P.underlying f3.type=some (.int .i64)) (h4:P.underlying f4.type=some (.int .i64)) (h5:P.underlying f5.type=some (.int .i64)) (h6:P.underlying f6.type=some (.int .i64)) (h7:P.underlying f7.type=some .string)
 (h:DataW.trod enc P w 0 (λ_=>true) true fuel t cs=some y):∃d:fP,cs=qA d/\lH d:=by
 obtain⟨A,n,V,U,a,m,r⟩:=DataW.trod_struct ht h;have i:cs.length=8:=by rw[←hC];exact a
 match cs,i with
 | [c0,c1,c2,c3,c4,c5,c6,c7],_=>
  have one:∀(j:Nat) (f:Field) (c:Value),(#[f0,f1,f2,f3,f4,f5,f6,f7]:Array Field)[j]?=some f->[c0,c1,c2,c3,c4,c5,c6,c7][j]?=some c->∃z,DataW.trod enc P w 0 (λ_=>true) true n f.type [c]=some z:=by
   intro j f c hj hc;obtain⟨M,E⟩:=hone_of hone j f hj;have h3:=r j f hj;rw[M,E]at h3;have e:=(cV.1 hc).1;have e1:([c0,c1,c2,c3,c4,c5,c6,c7].drop j).take 1=[c]:=by
    rw[wQ e,ue,xw,(cV.1 hc).2]
   rw[e1]at h3;have p:A[j]?=some (A[j]'(by rw[m];simp at e ⊢;omega)):=cU _;rw[p]at h3;exact⟨_,h3⟩
  have int:∀(j:Nat) (f:Field) (c:Value),(#[f0,f1,f2,f3,f4,f5,f6,f7]:Array Field)[j]?=some f->[c0,c1,c2,c3,c4,c5,c6,c7][j]?=some c->P.underlying f.type=some (.int .i64)->∃x:Int,c=.int .i64 x/\k6 x:=by
   intro j f c hj hc hu;obtain⟨z,g⟩:=one j f c hj hc;obtain⟨x,b,_,D⟩:=DataW.trod_int hu g;simp only[List.cons.injEq,and_true]at b;exact⟨x,b,Ms D⟩
  obtain⟨F,rfl,_⟩:=int 0 f0 c0 rfl rfl h0;obtain⟨B,rfl,_⟩:=int 1 f1 c1 rfl rfl h1;obtain⟨N,rfl,C⟩:=int 2 f2 c2 rfl rfl h2;obtain⟨J,rfl,G⟩:=int 3 f3 c3 rfl rfl h3;obtain⟨K,rfl,_⟩:=int 4 f4 c4 rfl rfl h4;obtain⟨L,rfl,R⟩:=int 5 f5 c5 rfl rfl h5;obtain⟨Q,rfl,S⟩:=int 6 f6 c6 rfl rfl h6;obtain⟨z,g⟩:=one 7 f7 c7 rfl rfl;obtain⟨s,u,_⟩:=DataW.trod_string h7 g;simp only[List.cons.injEq,and_true]at u;subst u;exact⟨⟨F,B,N,J,K,L,Q,s⟩,rfl,C,G,R,S⟩
theorem RA {t e:TypeId}{f0 f1 f2 f3 f4 f5 f6 f7:Field}{a:Option Addr}{len cap:Nat}{d:DataW H}{ps:List MemPlace}
 (htl:P.underlying t=some (.slice e)) (ht:P.underlying e=some (.struct #[f0,f1,f2,f3,f4,f5,f6,f7])) (hone:oneCellFields P #[f0,f1,f2,f3,f4,f5,f6,f7]=true) (hC:P.cellsOf e=8)
 (h0:P.underlying f0.type=some (.int .i64)) (h1:P.underlying f1.type=some (.int .i64)) (h2:P.underlying f2.type=some (.int .i64)) (h3:P.underlying f3.type=some (.int .i64)) (h4:P.underlying f4.type=some (.int .i64)) (h5:P.underlying f5.type=some (.int .i64)) (h6:P.underlying f6.type=some (.int .i64)) (h7:P.underlying f7.type=some .string)
 (h:DataW.Trod enc P w 0 (λ_=>true) true t (.slice a len cap) d ps):∃ds,jq w.heap ⟨a,len,cap⟩ ds:=by
 obtain⟨N,V⟩:=h;rcases open_slice htl V with⟨p,_⟩|⟨ad,len',cap',m,n,D,Pl,p,_,hl,hm,hmm,A,y⟩
 ·simp[Value.cells]at p;obtain⟨rfl,rfl,rfl⟩:=p;exact⟨[],rfl,λi x A=>by simp at A,by simp,by simp⟩
 ·simp[Value.cells]at p;obtain⟨rfl,rfl,rfl⟩:=p;have U:m=cap:=by simpa using hmm
  have key:∀i,i<len->∃u:fP,(∀j v,(qA u)[j]?=some v->cell w.heap ((ad.add (i*8)).add j)=some v)/\lH u:=by
   intro i r;obtain⟨W,E,K⟩:=y i O;rw[hC]at E;obtain⟨x,p,G⟩:=LJ ht hone hC h0 h1 h2 h3 h4 h5 h6 h7 K;obtain⟨_,R,L⟩:=World.cells?_some E;refine⟨x,λj v C=>?_,G⟩;have S:=(cV.1 C).1;have:=L j (by simpa[qA]using S);rw[p]at this;rw[C]at this;exact this
  let g:Nat->fP:=λi=>if y:i<len then(key i y).choose else⟨0,0,0,0,0,0,0,ByteArray.empty⟩
  have Q:∀i,(y:i<len)->g i=(key i y).choose:=λi y=>by simp only[g,y,dif_pos]
  refine⟨(List.range len).map g,by simp,λi x A=>?_,λx A=>?_,?_⟩
  ·have r:i<len:=by
    have:=(cV.1 A).1;simpa using this
   have B:g i=x:=by simpa[r]using A
   rw[Q i r]at B;have F:=(key i r).choose_spec;rw[B]at F;obtain⟨E,_⟩:=F;have M:=(key 0 O).choose_spec.1;have J:=M 0 _ rfl;have z:=CY J;simp only[ux,Addr.add_zero']at z;obtain⟨b,o,s⟩:=ad;have F:s=none:=z.2;subst F;refine⟨b,o,rfl,z.1,λj v C=>?_⟩;have:=E j v C;rw[add_lit,add_lit]at this;exact this
  ·obtain⟨i,y,rfl⟩:=zE.1 A;have r:=zg.1 y;rw[Q i r];exact(key i r).choose_spec.2
  ·have:maxLen=9223372036854775807:=rfl;simp;omega
theorem Mw {b0:Nat}{t:TypeId}{f0 f1 g0 g1 g2 g3 g4:Field}{v:Value}{d:DataW H}{ps:List MemPlace}
 (ht:P.underlying t=some (.struct #[f0,f1])) (hC:P.cellsOf t=6) (ho:f0.offset=0/\P.cellsOf f0.type=1/\f1.offset=1/\P.cellsOf f1.type=5)
 (h0:P.underlying f0.type=some (.int .i64)) (h1:P.underlying f1.type=some (.struct #[g0,g1,g2,g3,g4])) (hone:oneCellFields P #[g0,g1,g2,g3,g4]=true)
 (k0:P.underlying g0.type=some (.int .i64)) (k1:P.underlying g1.type=some (.int .i64)) (k2:P.underlying g2.type=some (.int .i64)) (k3:P.underlying g3.type=some (.int .i64)) (k4:P.underlying g4.type=some (.int .i64))
 (hval:Value.okWide P w .any b0 t v) (h:DataW.Trod enc P w 0 (λ_=>true) true t v d ps):∃(x0 x1 x2 x3 x4 x5:Int),v=.agg #[.int .i64 x0,.int .i64 x1,.int .i64 x2,.int .i64 x3,.int .i64 x4,.int .i64 x5]:=by
 unfold Value.okWide at hval;rw[ht]at hval;obtain⟨L,rfl,i,_⟩:=hval;obtain⟨a,z⟩:=h;obtain⟨l⟩:=L;have u:l.length=6:=by rw[←hC];simpa using i
 obtain⟨y,r,E,B⟩:=ho
 match l,u with
 | [c0,c1,c2,c3,c4,c5],_=>
  have z:DataW.trod enc P w 0 (λ_=>true) true a t [c0,c1,c2,c3,c4,c5]=some (d,ps):=z;obtain⟨y0,y1,n,_,_,G,J⟩:=trod_struct2 ht z;rw[y,r]at G;rw[E,B]at J;have m:DataW.trod enc P w 0 (λ_=>true) true n f0.type [c0]=some y0:=G;have s:DataW.trod enc P w 0 (λ_=>true) true n f1.type [c1,c2,c3,c4,c5]=some y1:=J;obtain⟨x0,b,_,_⟩:=DataW.trod_int h0 m;simp only[List.cons.injEq,and_true]at b;subst b;obtain⟨K,n,Q,N,F,p,C⟩:=DataW.trod_struct h1 s;have int:∀(j:Nat) (f:Field) (c:Value),(#[g0,g1,g2,g3,g4]:Array Field)[j]?=some f->[c1,c2,c3,c4,c5][j]?=some c->P.underlying f.type=some (.int .i64)->∃x:Int,c=.int .i64 x:=by
   intro j f c hj hc hu;obtain⟨ho,M⟩:=hone_of hone j f hj;have g:=C j f hj;rw[ho,M]at g;have e:=(cV.1 hc).1;have e1:([c1,c2,c3,c4,c5].drop j).take 1=[c]:=by
    rw[wQ e,ue,xw,(cV.1 hc).2]
   rw[e1]at g;have A:K[j]?=some (K[j]'(by rw[p];simp at e ⊢;omega)):=cU _;rw[A]at g;obtain⟨x,D,_,_⟩:=DataW.trod_int hu g;exact⟨x,by simpa using D⟩
  obtain⟨x1,rfl⟩:=int 0 g0 c1 rfl rfl k0;obtain⟨x2,rfl⟩:=int 1 g1 c2 rfl rfl k1;obtain⟨x3,rfl⟩:=int 2 g2 c3 rfl rfl k2;obtain⟨x4,rfl⟩:=int 3 g3 c4 rfl rfl k3;obtain⟨x5,rfl⟩:=int 4 g4 c5 rfl rfl k4;exact⟨x0,x1,x2,x3,x4,x5,rfl⟩
end
end Go.Ar