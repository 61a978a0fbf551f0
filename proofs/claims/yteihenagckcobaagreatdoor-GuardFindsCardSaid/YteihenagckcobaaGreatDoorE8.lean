/- Texts joined. -/
import Derived.Test.YteihenagckcobaaGreatDoorRows
import Derived.ChangeVars
import Derived.JoinedOf
import Derived.RowKit
import Derived.WalkKit
import Derived.ProofKit
import Derived.OpenShut
import Derived.ChangeOld
import Derived.Carry
import Derived.Test.YteihenagckcobaaGreatDoorE7
set_option linter.unusedVariables false
set_option linter.unusedSimpArgs false
namespace Go.Ar
open Go Go.Vc Go.Proofs
open Go.Vc (bW dB cS)
variable {U σ0 v w w':Hp}{F P Q X T:Rg}{L:dK}{H H' H1:Hw}{held:List Pc}{s0 sp:Sp}{t n:Nat}{gb km fm m xb:Nat}{x y:Gu}{b:B5}{l:Sl}{ds:List fP}{ad:List Int}{la:List T3}{Qa Ql:Rg}{addrs ls:Sl}
theorem FQ (z:Int)(h0:0<=z)(h1:z<=1000000){R:aN}(hR:R (Zq z) U):X8.c z U R:=by
 refine X8.o ?_;unfold X8.v;refine ar O O (ar O O (nz aB (ar (by rw[XP O];omega) (by rw[XP O];omega) ?_)));rw[XP O];refine ar O O ?_;have:(z+8-1)/8*8=Zq z:=by unfold Zq;omega
 rw[this];exact hR
theorem wC {K:eL [.ad,.i .i64]}{body:eL [.ad,.i .i64]->Prop}(P:Addr->Int->Hp->Prop)(h1:∀r s w,P r s w->K r s w)(h2:∀J:eL [.ad,.i .i64],(∀r s w,P r s w->J r s w)->body J):Jn [.ad,.i .i64] K body:=Jn.intro (h2 K h1)
theorem I9 {x:Int}(h0:0<=x)(h1:x<18446744073709551616):IntKind.u64.wrap x=x:=by
 unfold IntKind.wrap;simp[IntKind.bits,IntKind.signed];omega
theorem RC (x:Int):0<=IntKind.u64.wrap x:=by
 unfold IntKind.wrap;simp[IntKind.bits,IntKind.signed];omega
theorem wh {a b c d:Int}{K:Addr->Hp->Prop}(hK:∀w',bK U w'->bX w' U.size (k8 (a,b,c,d))->K ⟨U.size,0,none⟩ w'):Nw (.cells #[.int .i64 0,.int .i64 0,.int .i64 0,.int .i64 0] 52 (0,0)) U λn v20=>dN (n.add 0) (.int .i64 a) v20 λv21=>dN (n.add 1) (.int .i64 b) v21 λv22=>dN (n.add 2) (.int .i64 c) v22 λv23=>dN (n.add 3) (.int .i64 d) v23 λv24=>K n v24:=
 nw (cs:=[.int .i64 0,.int .i64 0,.int .i64 0,.int .i64 0]) λv20 y r x=>x.s1 aA λv21 w m=>m.s1 aA λv22 e s=>s.s1 aA λv23 g j=>j.s1 aA λv24 u p=>
  hK v24 (Ext.fresh r (((w.ext.trans e.ext).trans g.ext).trans u.ext) λi (z:i=U.size)=>O) p
theorem EN {S:aP}(hS:∀u,bK U u->S u){a b c d:Int}{K:Addr->Hp->Prop}(hK:∀w',bK U w'->bX w' U.size (k8 (a,b,c,d))->K ⟨U.size,0,none⟩ w'):Nw (.cells #[.int .i64 0,.int .i64 0,.int .i64 0,.int .i64 0] 52 (0,0)) U λn v20=>And (S v20)<|dN (n.add 0) (.int .i64 a) v20 λv21=>dN (n.add 1) (.int .i64 b) v21 λv22=>dN (n.add 2) (.int .i64 c) v22 λv23=>dN (n.add 3) (.int .i64 d) v23 λv24=>K n v24:=
 nw (cs:=[.int .i64 0,.int .i64 0,.int .i64 0,.int .i64 0]) λv20 z e y=>⟨hS _ e,y.s1 aA λv21 x p=>p.s1 aA λv22 g s=>s.s1 aA λv23 j m=>m.s1 aA λv24 w r=>
  hK v24 (Ext.fresh e (((x.ext.trans g.ext).trans j.ext).trans w.ext) λi (A:i=U.size)=>O) r⟩
theorem Ad {u:Hp}{c:Nat}{y0 y1 y2 y3 a0 a1 a2 a3:Int}(e:bK U u)(hc:U.size<=c)(hb:bX u c [.int .i64 y0,.int .i64 y1,.int .i64 y2,.int .i64 y3]){K:aP}(hK:∀w',bK U w'->bX w' c (k8 (a0,a1,a2,a3))->K w'):dN (Addr.add ⟨c,0,none⟩ 0) (.int .i64 a0) u λv21=>dN (Addr.add ⟨c,0,none⟩ 1) (.int .i64 a1) v21 λv22=>dN (Addr.add ⟨c,0,none⟩ 2) (.int .i64 a2) v22 λv23=>dN (Addr.add ⟨c,0,none⟩ 3) (.int .i64 a3) v23 K:=
 hb.s1 aA λv21 s g=>g.s1 aA λv22 a p=>p.s1 aA λv23 b d=>d.s1 aA λj r m=>
  hK j (Ext.fresh e (((s.ext.trans a.ext).trans b.ext).trans r.ext) λi (w:i=c)=>O) m
set_option maxRecDepth 16000 in
theorem LD (gl:Gl U)(gc:Gc U)(b b1 b2 b3 b4 b5:Int)(hd:jr U l ds){which:Int}(hwh:0<=which/\which<=255)(vat:Int){R:aO}(hR:∀σ',bK U σ'->R true σ'):WQ.c b b1 b2 b3 b4 b5 l which vat U R:=by
 refine WQ.o ?_;unfold WQ.v;refine nw (cs:=[.int .i64 b,.int .i64 b1,.int .i64 b2,.int .i64 b3,.int .i64 b4,.int .i64 b5]) λv hz e hb=>hb.rI rfl (hb.rI rfl (hb.rI rfl (hb.rI rfl (hb.rI rfl (hb.rI rfl ?_)))));have aw:∀{v1},bK U v1->WW.c v1 λt15 v2=>R t15 v2:=λe1=>Ib (gl.bO e1) (gc.bO e1) λv2 e2=>hR v2 (e1.trans e2);refine Pf (gl.bO e) (gc.bO e) b b1 b2 b3 b4 b5 (hd.bO e) 40 aB (λv1 e1=>bV.intro (cD rfl (cD rfl (aw (e.trans e1))))) λv1 xb L H held s0 P gb km fm x Qa Ql addrs ad ls la o V hno=>bV.intro (cB rfl (aG (o.b.rS rfl (cO (λh0=>aw (e.trans o.p.e)) λhne=>?_))));have n0:=V.n0;have nl:=V.nl;have hll:ls.len=la.length:=by have:=o.rl.1;rw[VC]at this;omega
 have hlk:la.length=x.kn.length:=by have:=congrArg List.length V.lq;simpa using this
 have hpos:0<x.kn.length:=by
  have:(((ls.len:Nat):Int)==0)=false:=hne;rw[tz]at this;have:ls.len≠0:=by simpa using this
  omega
 refine aG (o.b.rP rfl (NM o.p V.g.i O λs v3 es e3 hes Y=>?_));have hsl:s.len=es.length:=by have:=Y.1;rw[AU,zl]at this;omega
 have hel:=hes.p.length_eq;have o3:=o.fr e3;have hmod:which%(s.len:Int)<(s.len:Int):=Ax which O;have hmod0:0<=which%(s.len:Int):=Int.emod_nonneg which O;refine cB (by rw[hsl,hel,tz,lu];omega) (ar O O (nz O ?_));rw[Qg hwh.1];obtain⟨i,hi⟩:∃i:Nat,which%(s.len:Int)=(i:Int):=⟨(which%(s.len:Int)).toNat,O⟩;rw[hi];have hx:es[i]?=some (es[i]' O):=cV _;generalize (es[i]' O)=k at hx;have hk:k∈x.kn:=hes.p.mem_iff.1 (zG hx);have hx4:(es.map Go.Ar.b4)[i]?=some (Go.Ar.b4 k):=by rw[zd,hx];rfl
 have C:=V.g.i k hk;have k1:=C.1;have kb:=C.2.base;have kz:=C.2.z;have kt:=C.2.t;have km':=C.2.m;have ks:=C.2.s;have kw:=Z1 (n:=k.2.2.1) O;refine Su (bR.gY Y) hx4 λbb oo hc=>gG (hc 0 _ rfl) (gG (hc 1 _ rfl) (gG (hc 2 _ rfl) (gG (hc 3 _ rfl) (wh λv9 e9 hy=>?_))));have o9:=o3.fr e9;refine hy.rI rfl (tT (hy.rI rfl (tT ?_)));have hu:=RC vat;generalize IntKind.u64.wrap vat=uv at hu;rw[show IntKind.u64.wrap (Go.Ar.b4 k).2.1=k.2.2.1 from I9 (by show 0<=k.2.2.1;omega) (by show k.2.2.1<_;omega)];have hm1:=Ax uv (b:=k.2.2.1) O;have hm0:=Int.emod_nonneg uv (b:=k.2.2.1) O;refine nz O ?_;rw[Qg hu];generalize uv%k.2.2.1=off at hm0 hm1;refine ar O O (ar (by show _<=k.2.1+off;omega) (by show k.2.1+off<=_;omega) ?_);have only:∀q∈x.kn,∀z,si z q.2->k.2.2.2.1<=z->z<k.2.2.2.1+k.2.2.2.2.1->q=k:=λq hq z A h1 h2=>by
  have G:=V.g.i q hq;have qb:=G.2.base;have qz:=G.2.z;have qt:=G.2.t;have qs:=G.2.s;have qw:=Z1 (n:=q.2.2.1) O;obtain⟨i1,i2⟩:=A;simp only at i1 i2;exact V.g.apart o.p.hi hq hk (z:=z) O O h1 h2
 refine aG (o9.b.rP rfl (BF o9.p V.g.i _ (λw X hn=>?_) λq w X hq A=>?_))
 ·exact absurd (show si (k.2.1+off) k.2 from⟨by show k.2.1<=k.2.1+off;omega,by show k.2.1+off<k.2.1+k.2.2.1;omega⟩) (hn k hk)
 have hqk:=only q hq _ A (by show _<=k.2.1+off;omega) (by show k.2.1+off<_;omega);subst hqk;refine wh λJ Z hf=>?_;have ow:=o9.fr X;have aa:=ow.fr Z;have D:=(X.trans Z).bT hy id;have B:∀{u:Hp} {a:Int} {R':Int->Int->Int->Int->Int->Hp->Prop},bK J u->(∀r∈x.kn,¬si a r.2)->(∀u',bK u u'->R' 0 0 0 0 8 u')->WE.c (aW gb) a u R':=λF hn hK=>
  BF (aa.p.fr F) V.g.i _ (λw2 e2 _=>hK w2 e2) λr w2 e2 hr A=>absurd A (hn r hr)
 have hn1:∀r∈x.kn,¬si (q.2.1-1) r.2:=λr hr A=>by
  have:=only r hr _ A O O;subst this;have:=A.1;omega
 have ab:∀r∈x.kn,¬si (q.2.1+Zq q.2.2.1) r.2:=λr hr A=>by
  have:=only r hr _ A O O;subst this;have:=A.2;simp only at this;omega
 refine wC (λc f u=>bK J u/\f=8/\∃cb,c=⟨cb,0,none⟩/\bX u cb (k8 (0,0,0,0))) (λc f u ⟨F,hf8,cb,hcb,hcc⟩=>?_) λJ1 hJ1=>?_
 ·subst hf8 hcb;refine wC (λd g w=>bK u w/\g=8/\∃db,d=⟨db,0,none⟩/\bX w db (k8 (0,0,0,0))) (λd g w ⟨X,hg8,db,hdb,Q⟩=>?_) λJ2 ac=>?_
  ·subst hg8 hdb;have S:=(F.trans X).bT hf id;have j:=(F.trans X).bT D id;have N:=X.bT hcc id;refine S.rI rfl (S.rI rfl (S.rI rfl (S.rI rfl (j.rI rfl (j.rI rfl (j.rI rfl (j.rI rfl ?_)))))));have W:(!((0==q.2.1)&&((0==q.2.2.1)&&((0==q.2.2.2.1)&&((0==q.2.2.2.2.1)&&true)))))=true:=by
    have:((0:Int)==q.2.1)=false:=by
     rw[lu];omega
    rw[this];rfl
   refine bV.intro (cD (by show((q.2.1==q.2.1)&&((q.2.2.1==q.2.2.1)&&((q.2.2.2.1==q.2.2.2.1)&&((q.2.2.2.2.1==q.2.2.2.2.1)&&true))))=true;simp) (bV.intro (cD rfl ?_)));refine N.rI rfl (N.rI rfl (N.rI rfl (N.rI rfl (j.rI rfl (j.rI rfl (j.rI rfl (j.rI rfl ?_)))))));refine bV.intro (cD W (bV.intro (cD rfl ?_)));refine Q.rI rfl (Q.rI rfl (Q.rI rfl (Q.rI rfl (j.rI rfl (j.rI rfl (j.rI rfl (j.rI rfl ?_)))))));refine bV.intro (cD W (bV.intro (cD rfl ?_)));have E:=((((((e.trans o.p.e).trans e3).trans e9).trans ‹bK v9 _›).trans Z).trans F).trans X;exact Ib (gl.bO E) (gc.bO E) λq eq=>hR q (E.trans eq)
  ·have hyu:=F.bT D id;have ou:=aa.fr F;refine⟨λm=>bK u m,Ext.refl _ _,aG (il (c:=.p) (y:=some ⟨gb,0,none⟩) (λm e=>e.bT ou.b id) rfl (il (c:=bN) (y:=q.2.1) (λm e=>e.bT hyu id) rfl (il (c:=bN) (y:=q.2.2.1) (λm e=>e.bT hyu id) rfl ⟨?_,?_⟩)))⟩
   ·refine FQ _ O O ⟨Ext.refl _ _,ar O O ⟨?_,?_⟩⟩
    ·exact B F ab λu1 e1=>⟨e1,EN (λu2 e2=>e1.trans e2) λw' K M=>ac _ _ _ ⟨e1.trans K,rfl,_,rfl,M⟩⟩
    ·refine nw (cs:=[.int .i64 0,.int .i64 0,.int .i64 0,.int .i64 0]) λu1 hz1 e1 b1=>⟨e1,B (F.trans e1) ab λu2 e2=>⟨e1.trans e2,Ad (e1.trans e2) (zD _) (e2.bT b1 id) λw' K M=>ac _ _ _ ⟨K,rfl,_,rfl,M⟩⟩⟩
   ·refine nw (cs:=[.int .i64 0,.int .i64 0,.int .i64 0,.int .i64 0]) λu1 hz1 e1 b1=>⟨e1,FQ _ O O ⟨e1,ar O O (B (F.trans e1) ab λu2 e2=>⟨e1.trans e2,Ad (e1.trans e2) (zD _) (e2.bT b1 id) λw' K M=>ac _ _ _ ⟨K,rfl,_,rfl,M⟩⟩)⟩⟩
 ·have hS:∀m,bK J m->bX m v3.size (k8 (Go.Ar.b4 q)):=λm e=>e.bT D id;refine⟨λm=>bK J m,Ext.refl _ _,aG (il (c:=.p) (y:=some ⟨gb,0,none⟩) (λm e=>e.bT aa.b id) rfl (il (c:=bN) (y:=q.2.1) hS rfl (ar O O ⟨?_,?_⟩)))⟩
  ·exact B (Ext.refl _ _) hn1 λu1 e1=>⟨e1,EN (λu2 e2=>e1.trans e2) λw' K M=>hJ1 _ _ _ ⟨e1.trans K,rfl,_,rfl,M⟩⟩
  ·refine nw (cs:=[.int .i64 0,.int .i64 0,.int .i64 0,.int .i64 0]) λu1 hz1 e1 b1=>⟨e1,B e1 hn1 λu2 e2=>⟨e1.trans e2,Ad (e1.trans e2) (zD _) (e2.bT b1 id) λw' K M=>hJ1 _ _ _ ⟨K,rfl,_,rfl,M⟩⟩⟩
end Go.Ar
namespace Go.Ar
open Go Go.Vc Go.Proofs Go.ChangeShapes Go.WideShapes Go.RowKit Go.Deep
theorem HR {H:Type}{enc:TypeId×Value->H}{P:Program}{w:World}{base:Nat}{sp:Nat->Bool}{held:Bool}{fuel:Nat}{t:TypeId}{c:Value}{y:DataW H×List MemPlace}
 (ht:P.underlying t=some .bool) (h:DataW.trod enc P w base sp held fuel t [c]=some y):∃n,c=.bool n/\y=(.lit (.bool n),[]):=by
 cases fuel with
 | zero=>simp[DataW.trod]at h
 | succ fuel=>
  cases c<;>simp[DataW.trod,ht]at h
  rename_i n;exact⟨n,rfl,by simpa using h.symm⟩
theorem Bd {P:Program}{w:World}{t:TypeId}{f0 f1:Field}{cs:Array Value}{fuel:Nat}{p:List MemPlace}{x y:Bool}(ht:P.underlying t=some (.struct #[f0,f1]))(hone:oneCellFields P #[f0,f1]=true)(hC:P.cellsOf t=2)
 (h0:P.underlying f0.type=some .bool) (h1:P.underlying f1.type=some .bool) (h:DataW.trod (λ_=>()) P w 0 (λ_=>true) false fuel t cs.toList=some (.agg [.lit (.bool x),.lit (.bool y)],p)):cs = #[.bool x,.bool y]:=by
 obtain⟨z,n,A,i,b,d,a⟩:=DataW.trod_struct ht h;obtain⟨l⟩:=cs;have e:l.length=2:=by rw[←hC];simpa using b
 match l,e with
 | [c0,c1],_=>
  have g:=a 0 f0 rfl;have j:=a 1 f1 rfl;obtain⟨m,r⟩:=hone_of hone 0 f0 rfl;obtain⟨o1,u⟩:=hone_of hone 1 f1 rfl;rw[m,r]at g;rw[o1,u]at j
  match z,d with
  | [y0,y1],_=>
   obtain⟨B,rfl,s⟩:=HR h0 (c:=c0) (y:=y0) (by simpa using g);obtain⟨C,rfl,e1⟩:=HR h1 (c:=c1) (y:=y1) (by simpa using j);subst s;subst e1;simp at i;obtain⟨⟨rfl,rfl⟩,_⟩:=i;rfl
theorem Hm {w:World}{a:Addr}{v:Value}(h:w.cell? a=some v):cell w.heap a=some v:=h
section
variable {H:Type}{enc:TypeId×Value->H}{P:Program}{w:World}
theorem NW {x:Int}(h:(Lit.int .i64 x).wf=true):kU x:=by
 unfold kU;simp[Lit.wf,IntKind.min,IntKind.max,IntKind.bits,IntKind.signed]at h;omega
theorem Mi {x:Int}(h:(Lit.int .u8 x).wf=true):0<=x/\x<=255:=by
 simp[Lit.wf,IntKind.min,IntKind.max,IntKind.bits,IntKind.signed]at h;omega
theorem Ot {t:TypeId}{f0 f1 f2 f3 f4 f5 f6 f7:Field}{fuel:Nat}{cs:List Value}{y:DataW H×List MemPlace}
 (ht:P.underlying t=some (.struct #[f0,f1,f2,f3,f4,f5,f6,f7])) (hone:oneCellFields P #[f0,f1,f2,f3,f4,f5,f6,f7]=true) (hC:P.cellsOf t=8)
 (h0:P.underlying f0.type=some (.int .i64)) (h1:P.underlying f1.type=some (.int .i64)) (h2:P.underlying f2.type=some (.int .i64)) (h3:P.underlying f3.type=some (.int .i64)) (h4:P.underlying f4.type=some (.int .i64)) (h5:P.underlying f5.type=some (.int .i64)) (h6:P.underlying f6.type=some (.int .i64)) (h7:P.underlying f7.type=some .string)
 (h:DataW.trod enc P w 0 (λ_=>true) true fuel t cs=some y):∃d:fP,cs=qu d/\lT d:=by
 obtain⟨A,n,V,U,e,g,p⟩:=DataW.trod_struct ht h;have m:cs.length=8:=by rw[←hC];exact e
 match cs,m with
 | [c0,c1,c2,c3,c4,c5,c6,c7],_=>
  have one:∀(j:Nat) (f:Field) (c:Value),(#[f0,f1,f2,f3,f4,f5,f6,f7]:Array Field)[j]?=some f->[c0,c1,c2,c3,c4,c5,c6,c7][j]?=some c->∃z,DataW.trod enc P w 0 (λ_=>true) true n f.type [c]=some z:=by
   intro j f c hj hc;obtain⟨N,D⟩:=hone_of hone j f hj;have h3:=p j f hj;rw[N,D]at h3;have a:=(cW.1 hc).1;have e1:([c0,c1,c2,c3,c4,c5,c6,c7].drop j).take 1=[c]:=by
    rw[wR a,uH,yl,(cW.1 hc).2]
   rw[e1]at h3;have r:A[j]?=some (A[j]'(by rw[g];simp at a ⊢;omega)):=cV _;rw[r]at h3;exact⟨_,h3⟩
  have int:∀(j:Nat) (f:Field) (c:Value),(#[f0,f1,f2,f3,f4,f5,f6,f7]:Array Field)[j]?=some f->[c0,c1,c2,c3,c4,c5,c6,c7][j]?=some c->P.underlying f.type=some (.int .i64)->∃x:Int,c=.int .i64 x/\kU x:=by
   intro j f c hj hc hu;obtain⟨z,i⟩:=one j f c hj hc;obtain⟨x,b,_,Q⟩:=DataW.trod_int hu i;simp only[List.cons.injEq,and_true]at b;exact⟨x,b,NW Q⟩
  obtain⟨E,rfl,_⟩:=int 0 f0 c0 rfl rfl h0;obtain⟨R,rfl,_⟩:=int 1 f1 c1 rfl rfl h1;obtain⟨L,rfl,J⟩:=int 2 f2 c2 rfl rfl h2;obtain⟨C,rfl,K⟩:=int 3 f3 c3 rfl rfl h3;obtain⟨B,rfl,_⟩:=int 4 f4 c4 rfl rfl h4;obtain⟨S,rfl,G⟩:=int 5 f5 c5 rfl rfl h5;obtain⟨F,rfl,M⟩:=int 6 f6 c6 rfl rfl h6;obtain⟨z,i⟩:=one 7 f7 c7 rfl rfl;obtain⟨s,u,_⟩:=DataW.trod_string h7 i;simp only[List.cons.injEq,and_true]at u;subst u;exact⟨⟨E,R,L,C,B,S,F,s⟩,rfl,J,K,G,M⟩
theorem Sj {t e:TypeId}{f0 f1 f2 f3 f4 f5 f6 f7:Field}{a:Option Addr}{len cap:Nat}{d:DataW H}{ps:List MemPlace}
 (htl:P.underlying t=some (.slice e)) (ht:P.underlying e=some (.struct #[f0,f1,f2,f3,f4,f5,f6,f7])) (hone:oneCellFields P #[f0,f1,f2,f3,f4,f5,f6,f7]=true) (hC:P.cellsOf e=8)
 (h0:P.underlying f0.type=some (.int .i64)) (h1:P.underlying f1.type=some (.int .i64)) (h2:P.underlying f2.type=some (.int .i64)) (h3:P.underlying f3.type=some (.int .i64)) (h4:P.underlying f4.type=some (.int .i64)) (h5:P.underlying f5.type=some (.int .i64)) (h6:P.underlying f6.type=some (.int .i64)) (h7:P.underlying f7.type=some .string)
 (h:DataW.Trod enc P w 0 (λ_=>true) true t (.slice a len cap) d ps):∃ds,jr w.heap ⟨a,len,cap⟩ ds:=by
 obtain⟨Q,U⟩:=h;rcases open_slice htl U with⟨r,_⟩|⟨ad,len',cap',m,n,D,Pl,r,_,hl,hm,hmm,A,y⟩
 ·simp[Value.cells]at r;obtain⟨rfl,rfl,rfl⟩:=r;exact⟨[],rfl,λi x A=>by simp at A,by simp,by simp⟩
 ·simp[Value.cells]at r;obtain⟨rfl,rfl,rfl⟩:=r;have V:m=cap:=by simpa using hmm
  have key:∀i,i<len->∃u:fP,(∀j v,(qu u)[j]?=some v->cell w.heap ((ad.add (i*8)).add j)=some v)/\lT u:=by
   intro i p;obtain⟨R,F,K⟩:=y i O;rw[hC]at F;obtain⟨x,r,J⟩:=Ot ht hone hC h0 h1 h2 h3 h4 h5 h6 h7 K;obtain⟨_,W,G⟩:=World.cells?_some F;refine⟨x,λj v E=>?_,J⟩;have S:=(cW.1 E).1;have:=G j (by simpa[qu]using S);rw[r]at this;rw[E]at this;exact this
  let g:Nat->fP:=λi=>if y:i<len then(key i y).choose else⟨0,0,0,0,0,0,0,ByteArray.empty⟩
  have N:∀i,(y:i<len)->g i=(key i y).choose:=λi y=>by simp only[g,y,dif_pos]
  refine⟨(List.range len).map g,by simp,λi x A=>?_,λx A=>?_,?_⟩
  ·have p:i<len:=by
    have:=(cW.1 A).1;simpa using this
   have B:g i=x:=by simpa[p]using A
   rw[N i p]at B;have C:=(key i p).choose_spec;rw[B]at C;obtain⟨F,_⟩:=C;have L:=(key 0 O).choose_spec.1;have M:=L 0 _ rfl;have z:=E5 M;simp only[uR,Addr.add_zero']at z;obtain⟨b,o,s⟩:=ad;have C:s=none:=z.2;subst C;refine⟨b,o,rfl,z.1,λj v E=>?_⟩;have:=F j v E;rw[add_lit,add_lit]at this;exact this
  ·obtain⟨i,y,rfl⟩:=zE.1 A;have p:=zg.1 y;rw[N i p];exact(key i p).choose_spec.2
  ·have:maxLen=9223372036854775807:=rfl;simp;omega
theorem JT {b0:Nat}{t:TypeId}{f0 f1 g0 g1 g2 g3 g4:Field}{v:Value}{d:DataW H}{ps:List MemPlace}
 (ht:P.underlying t=some (.struct #[f0,f1])) (hC:P.cellsOf t=6) (ho:f0.offset=0/\P.cellsOf f0.type=1/\f1.offset=1/\P.cellsOf f1.type=5)
 (h0:P.underlying f0.type=some (.int .i64)) (h1:P.underlying f1.type=some (.struct #[g0,g1,g2,g3,g4])) (hone:oneCellFields P #[g0,g1,g2,g3,g4]=true)
 (k0:P.underlying g0.type=some (.int .i64)) (k1:P.underlying g1.type=some (.int .i64)) (k2:P.underlying g2.type=some (.int .i64)) (k3:P.underlying g3.type=some (.int .i64)) (k4:P.underlying g4.type=some (.int .i64))
 (hval:Value.okWide P w .any b0 t v) (h:DataW.Trod enc P w 0 (λ_=>true) true t v d ps):∃(x0 x1 x2 x3 x4 x5:Int),v=.agg #[.int .i64 x0,.int .i64 x1,.int .i64 x2,.int .i64 x3,.int .i64 x4,.int .i64 x5]:=by
 unfold Value.okWide at hval;rw[ht]at hval;obtain⟨L,rfl,B,_⟩:=hval;obtain⟨e,D⟩:=h;obtain⟨l⟩:=L;have i:l.length=6:=by rw[←hC];simpa using B
 obtain⟨m,C,A,E⟩:=ho
 match l,i with
 | [c0,c1,c2,c3,c4,c5],_=>
  have D:DataW.trod enc P w 0 (λ_=>true) true e t [c0,c1,c2,c3,c4,c5]=some (d,ps):=D;obtain⟨y0,y1,n,_,_,F,G⟩:=trod_struct2 ht D;rw[m,C]at F;rw[A,E]at G;have z:DataW.trod enc P w 0 (λ_=>true) true n f0.type [c0]=some y0:=F;have r:DataW.trod enc P w 0 (λ_=>true) true n f1.type [c1,c2,c3,c4,c5]=some y1:=G;obtain⟨x0,b,_,_⟩:=DataW.trod_int h0 z;simp only[List.cons.injEq,and_true]at b;subst b;obtain⟨J,n,N,Q,K,p,u⟩:=DataW.trod_struct h1 r;have int:∀(j:Nat) (f:Field) (c:Value),(#[g0,g1,g2,g3,g4]:Array Field)[j]?=some f->[c1,c2,c3,c4,c5][j]?=some c->P.underlying f.type=some (.int .i64)->∃x:Int,c=.int .i64 x:=by
   intro j f c hj hc hu;obtain⟨ho,M⟩:=hone_of hone j f hj;have g:=u j f hj;rw[ho,M]at g;have a:=(cW.1 hc).1;have e1:([c1,c2,c3,c4,c5].drop j).take 1=[c]:=by
    rw[wR a,uH,yl,(cW.1 hc).2]
   rw[e1]at g;have y:J[j]?=some (J[j]'(by rw[p];simp at a ⊢;omega)):=cV _;rw[y]at g;obtain⟨x,s,_,_⟩:=DataW.trod_int hu g;exact⟨x,by simpa using s⟩
  obtain⟨x1,rfl⟩:=int 0 g0 c1 rfl rfl k0;obtain⟨x2,rfl⟩:=int 1 g1 c2 rfl rfl k1;obtain⟨x3,rfl⟩:=int 2 g2 c3 rfl rfl k2;obtain⟨x4,rfl⟩:=int 3 g3 c4 rfl rfl k3;obtain⟨x5,rfl⟩:=int 4 g4 c5 rfl rfl k4;exact⟨x0,x1,x2,x3,x4,x5,rfl⟩
end
end Go.Ar