/- Texts joined. -/
import Derived.Test.YtoeidadjhkkioaaGreatDoorRows
import Derived.ChangeVars
import Derived.JoinedOf
import Derived.RowKit
import Derived.WalkKit
import Derived.ProofKit
import Derived.OpenShut
import Derived.ChangeOld
import Derived.Carry
import Derived.Test.YtoeidadjhkkioaaGreatDoorL7
set_option linter.unusedVariables false
set_option linter.unusedSimpArgs false
namespace Go.Ar
open Go Go.Vc Go.Proofs
open Go.Vc (bU dA cO)
variable {U σ0 v w w':Hp}{F P Q X T:Rg}{L:dE}{H H' H1:Hw}{held:List Pc}{s0 sp:Sp}{t n:Nat}{gb km fm m:Nat}{x y:Gu}{b:B5}{qb:Nat}{Qq Qr:Rg}{qs rs:Sl}{q:Qu}
theorem V1 (o:QP σ0 U L H held s0 P gb km fm x qb Qq Qr qs rs q){R:aO}(hR:R true U):Wm.c (aW qb) U R:=by
 refine Wm.o ?_;unfold Wm.v;exact bX.intro (cF rfl (bL (o.b.rP rfl hR)))
theorem J0 (o:QP σ0 U L H held s0 P gb km fm x qb Qq Qr qs rs q){R:Option Addr->Hp->Prop}(hR:R (some ⟨gb,0,none⟩) U):WL.c (aW qb) U R:=by
 refine WL.o ?_;unfold WL.v;exact V1 o (cD rfl (bL (o.b.rP rfl hR)))
theorem Lu (o:QP σ0 U L H held s0 P gb km fm x qb Qq Qr qs rs q)(thread:Int){R:aN}(hR:∀σ',aF U σ'->R (ZL H thread) σ'):WK.c (aW qb) thread U R:=by
 refine WK.o ?_;unfold WK.v;refine V1 o (cD rfl (bL (o.b.rP rfl (AG o.p ?_))));refine Kr (λr u=>aF U u/\r=decide (thread<0\/thread≥(H.cf.threads:Int))) (λr u ⟨d,i⟩=>?_) λJ g=>?_
 ·by_cases hc:thread<0\/thread≥(H.cf.threads:Int)
  ·have a:=hR u d;unfold ZL at a;rw[zC hc]at a;exact cF (by rw[i];exact zI hc) a
  ·have j:=o.p.fr d;refine cD (by rw[i];exact zJ hc) (J9 j.h thread λs m e2 y=>?_);have a:=hR m (d.trans e2);unfold ZL at a;rw[zB hc]at a;rw[y];cases hp:UE H thread with
   | none=>rw[hp]at a;exact cD rfl a
   | some q=>rw[hp]at a;exact cF rfl a
 ·refine cP (λh=>g _ _ ⟨Ext.refl _ _,by rw[zI];exact .inl h⟩) λh=>GC o.p.h λu e=>g _ _ ⟨e,?_⟩;rw[j0,decide_eq_true_iff,decide_eq_true_iff];exact⟨.inr,λw=>w.resolve_left h⟩
theorem MB {s:Sl}{l:List P2}(h:cV s 2 (gQ l) U F)(hl:s.len<=1000000){R:Sl->Hp->Prop}(hR:∀s' σ',aF U σ'->bT s' 2 (gQ l) σ' (λb=>U.size<=b)->R s' σ'):Wh.c s U R:=by
 refine Wh.o ?_;unfold Wh.v;exact BP h aB rfl (IC l) aB hl λs' σ' _ e a=>hR s' σ' e a
theorem Of {s:Sl}{xs:List Int}(h:cV s 1 (Wx xs) U F)(hl:xs.length<=1000000)(hne:xs≠[]){R:aN}(hR:R (lp xs) U):W6.c s U R:=by
 refine W6.o ?_;unfold W6.v;have d:s.len=xs.length:=by have:=h.1;simp[Wx]at this;omega
 have r:=pT.2 hne;refine Jn.intro (cD (zJ O) ?_);obtain⟨a,l,rfl⟩:=List.exists_cons_of_ne_nil hne;have w:(a::l)[0]?=some a:=rfl;refine cV.lL (i:=0) h w ?_;refine Ux (a:=bO) (bb:=bO) (λ(m i:Int) u=>u=U/\∃k:Nat,i=k+1/\k<=l.length/\m=(l.take k).foldl (λm z=>if z<m then z else m) a) (λ_ i _=>l.length+1-i.toNat) ⟨rfl,0,rfl,O,rfl⟩ ?_
 rintro(m:Int) (i:Int) u ⟨rfl,k,rfl,hk,rfl⟩;refine cP (λA=>?_) λx=>?_
 ·have p:k<l.length:=by simp only[zS]at d;omega
  have g:l[k]?=some l[k]:=cW p;have b:(a::l)[k+1]?=some l[k]:=by rw[Aw,g]
  generalize l[k]=y at g b;rw[show((k:Int)+1)=((k+1:Nat):Int) by omega];refine h.lL b (cT (m:=k+2) O O ⟨⟨rfl,k+1,O,O,?_⟩,O⟩);rw[ka,g,qR,vn];rfl
 ·have j:k=l.length:=by simp only[zS]at d;omega
  subst j;rw[lN];exact hR
theorem Wn4 {s:Sl}{bs:List Bk}(h:cV s 4 (jB bs) U F)(hl:bs.length<=1000000)(hs:bs.Pairwise λa c=>a.1<c.1)(hi:∀k∈bs,0<=k.1/\k.1<=1000000){a:Int}(ha:jv a){R:Int->Bool->Hp->Prop}
 (h1:∀w (i:Nat) k,aF U w->bs[i]?=some k->k.1=a->R (i:Int) true w) (h0:∀w i,aF U w->(∀k∈bs,k.1≠a)->R i false w) :
 Wf.c s a ⟨117,#[],#[]⟩ U R:=by
 refine Wf.o ?_;unfold Wf.v;have Q:s.len=bs.length:=by have:=h.1;rw[CE]at this;omega
 obtain⟨ha1,ab⟩:=ha;have J:∀(k:Bk) (v:Hp) (K:aN),(∀D,aF v D->K (IntKind.i64.wrap (k.1-a)) D) →
  VO Tryz.prog ⟨117,#[],#[]⟩ [.agg #[.int .i64 k.1,.int .i64 k.2.1,.int .i64 k.2.2.1,.int .i64 k.2.2.2],.int .i64 a] [.one bO] v K:=by
  intro k v K hK;refine GH (all := #[.agg #[.int .i64 k.1,.int .i64 k.2.1,.int .i64 k.2.2.1,.int .i64 k.2.2.2],.int .i64 a]) (by kernel_rfl) aA ?_;refine WX.o ?_;unfold WX.v;exact nw (cs:=lh k) λv1 hz e Z=>Z.rI rfl (vH (hK v1 e))
 have w0:∀k∈bs,(IntKind.i64.wrap (k.1-a)==0)=decide (k.1=a):=λk x=>by
  have:=hi k x;rw[j0,zU,decide_eq_true_iff];unfold IntKind.wrap;simp[IntKind.bits,IntKind.signed];omega
 have A:∀{i j:Nat} {k r:Bk},bs[i]?=some k->bs[j]?=some r->i<j->k.1<r.1:=λ{i j k r} h1 N P=>by
  obtain⟨Y,e1⟩:=cY.1 h1;obtain⟨l2,e2⟩:=cY.1 N;have:=mw.1 hs i j Y l2 P;rw[e1,e2]at this;exact this
 refine Ux (a:=bO) (bb:=bO) (λ(i j:Int) v=>∃c d:Nat,i=(c:Int)/\j=(d:Int)/\c<=d/\d<=bs.length/\aF U v/\∀(p:Nat) k,bs[p]?=some k->k.1=a->c<=p/\p<=d) (λi j _=>j.toNat-i.toNat) ⟨0,bs.length,rfl,by rw[Q],O,O,Ext.refl _ _,λp k g _=>by have:=(cY.1 g).1;omega⟩ ?_;rintro(i:Int) (j:Int) v ⟨c,d,rfl,rfl,hcd,hdl,ev,hpp⟩;refine cP (λaa=>?_) λhge=>?_
 ·refine cT (m:=c+d) O O ?_;have hw:IntKind.u64.wrap ((c+d:Nat):Int)=((c+d:Nat):Int):=by
   unfold IntKind.wrap;simp[IntKind.bits,IntKind.signed];omega
  refine vH ?_;rw[hw];refine nn O ?_;have S:min (1:Int).toNat IntKind.u64.bits=1:=by decide
  rw[S,DR];have L:(((c+d:Nat):Int)/2^1)=(((c+d)/2:Nat):Int):=by omega
  refine cT (m:=(c+d)/2) L O ?_;have C:(c+d)/2<bs.length:=by omega
  have x:bs[(c+d)/2]?=some bs[(c+d)/2]:=cW C;generalize bs[(c+d)/2]=k at x;have B:=zG x;have ac:=hi k B;refine Cn (aH.bP h ev) x λbb o z=>dR (z 0 _ rfl) (dR (z 1 _ rfl) (dR (z 2 _ rfl) (dR (z 3 _ rfl) (J k v _ λD M=>?_))));have y:∀{p:Nat} {r:Bk},bs[p]?=some r->r.1=a->IntKind.i64.wrap (k.1-a)=k.1-a:=λ{p r} g b=>by
   have:=hi r (zG g);exact Up O O
  show If (decide (IntKind.i64.wrap (k.1-a)<0)) _ _;refine cP (λH=>?_) λE=>?_
  ·refine cT (m:=(c+d)/2+1) O O ⟨⟨_,d,rfl,rfl,O,hdl,ev.trans M,λp r g b=>⟨?_,(hpp p r g b).2⟩⟩,O⟩;rw[y g b]at H;apply Classical.byContradiction;intro hx;rcases kr p ((c+d)/2)with N|N
   ·have:=A g x N;omega
   ·have:p=(c+d)/2:=by omega
    subst this;rw[x]at g;cases g;omega
  ·refine⟨⟨c,_,rfl,rfl,O,O,ev.trans M,λp r g b=>⟨(hpp p r g b).1,?_⟩⟩,O⟩;rw[y g b]at E;apply Classical.byContradiction;intro hx;have:=A x g O;omega
 ·have G:c=d:=by omega
  subst G;refine bX.intro (cP (λW=>?_) λX=>?_)
  ·have C:c<bs.length:=by omega
   have x:bs[c]?=some bs[c]:=cW C;generalize bs[c]=k at x;have B:=zG x;refine Cn (aH.bP h ev) x λbb o z=>dR (z 0 _ rfl) (dR (z 1 _ rfl) (dR (z 2 _ rfl) (dR (z 3 _ rfl) (J k v _ λD M=>?_))));rw[w0 k B];by_cases hka:k.1=a
   ·rw[zI hka];exact h1 D c k (ev.trans M) x hka
   ·rw[zJ hka];refine h0 D _ (ev.trans M) λr b u=>?_;obtain⟨p,g⟩:=zP b;have:=hpp p r g u;have V:p=c:=by omega
    subst V;rw[x]at g;cases g;exact hka u
  ·refine h0 v _ ev λr b u=>?_;obtain⟨p,g⟩:=zP b;have:=hpp p r g u;have:=(cY.1 g).1;omega
theorem Cu (bi:gK b){R:Sl->Hp->Prop}(hR:∀s w Q,aF U w->bT s 1 (Wx (XR b)) w Q->(∀c,Q c->U.size<=c/\c<w.size)->R s w):XY.c b.1 b.2.1 b.2.2.1 b.2.2.2.1 U R:=by
 refine XY.o ?_;unfold XY.v;have bb:=bi.base;have H:=bi.z;have F:=bi.m;have L:=bi.t;have N:=bi.s;have M:=Zm (n:=b.2.1) O;have E:(QI b:Int)*8=ZK b.2.1:=by unfold QI;omega
 let wl:Nat->List Int:=λi=>(List.range i).map λ(i:Nat)=>b.1+8*(i:Int)
 have r:∀i,wl (i+1)=wl i++[b.1+8*(i:Int)]:=λi=>by show List.map _ _=_;rw[qO,zm];rfl
 have g:∀i,(wl i).length=i:=λi=>by show(List.map _ _).length=i;simp
 have y:wl (QI b)=XR b:=rfl
 clear_value wl
 refine nw (cs:=lh (b.1,b.2.1,b.2.2.1,b.2.2.2.1)) λv J e D=>?_;refine Ux (a:=.s) (bb:=bO) (λ(out:Sl) (z:Int) u=>aF v u/\∃(i:Nat) (Q:Rg),z=8*(i:Int)/\i<=QI b/\bT out 1 (Wx (wl i)) u Q/\∀c,Q c->v.size<=c/\c<u.size) (λ_ z _=>(ZK b.2.1-z).toNat)
  ⟨Ext.refl _ _,0,λ_=>False,rfl,O,by rw[uZ (g 0)];exact⟨rfl,.inl ⟨rfl,rfl⟩⟩,λc d=>d.elim⟩ ?_
 rintro(out:Sl) (z:Int) u ⟨eu,i,Q,rfl,hi,hr,hQ⟩;have G:=eu.1;have j:=eu.bV D id;refine j.rI rfl (cP (λA=>?_) λx=>?_)
 ·simp only at A;have C:out.len=i:=by have:=hr.1;simp[Wx,g]at this;omega
  refine j.rI rfl (ar aC aC ?_);refine xL hr (by rw[g];omega) _ λK w B p=>?_;refine ar O O ⟨⟨Ext.fresh eu B λc d=>(hQ c d).1,i+1,_,O,O,by rw[r];exact p,λc d=>?_⟩,O⟩;have:=B.1;rcases d with d|d
  ·have:=hQ c d;omega
  ·omega
 ·simp only at x;have:i=QI b:=by unfold QI at hi ⊢;omega
  subst this;rw[y]at hr;exact hR out u Q (e.trans eu) hr λc d=>by have:=hQ c d;omega
theorem B6 (o:QP σ0 U L H held s0 P gb km fm x qb Qq Qr qs rs q)(xi:∀e∈x.kn,e.1=e.2.1/\gK e.2)(hkl:x.kn.length<=1000000){a:Int}(ha:jv a){R:Int->Int->Int->Int->Bool->Hp->Prop}
 (h0:∀w,aF U w->bU x.kn a=none->R 0 0 0 0 false w) (h1:∀w b,aF U w->bU x.kn a=some b->R b.1 b.2.1 b.2.2.1 b.2.2.2.1 true w):WC.c (aW qb) a U R:=by
 refine WC.o ?_;unfold WC.v;refine nw (cs:=[.int .i64 0,.int .i64 0,.int .i64 0,.int .i64 0]) λv hz e hb=>?_;have o1:=o.fr e;have nd:(x.kn.map (·.1)).Nodup:=o.p.m.nodup;refine bL (o1.b.rP rfl (Mj o1.p xi hkl λs v1 es e1 r B=>?_));have N:=e1.bV hb id;have A:∀{w:Hp} {a b c d:Int} {K:Int->Int->Int->Int->Hp->Prop},aF v1 w->(∀g,aF U g->K a b c d g) →
  dQ (Addr.add ⟨U.size,0,none⟩ 0) (.int .i64 a) w λv7=>dQ (Addr.add ⟨U.size,0,none⟩ 1) (.int .i64 b) v7 λv8=>dQ (Addr.add ⟨U.size,0,none⟩ 2) (.int .i64 c) v8 λv9=>dQ (Addr.add ⟨U.size,0,none⟩ 3) (.int .i64 d) v9 λv10=>
  gJ .i64 (Addr.add ⟨U.size,0,none⟩ 0) v10 λr0=>gJ .i64 (Addr.add ⟨U.size,0,none⟩ 1) v10 λr1=>gJ .i64 (Addr.add ⟨U.size,0,none⟩ 2) v10 λr2=>gJ .i64 (Addr.add ⟨U.size,0,none⟩ 3) v10 λr3=>K r0 r1 r2 r3 v10:=λ{w a b c d K} C hK=>
  (C.bV N id).s1 aA λw1 o1 b1=>b1.s1 aA λw2 o2 b2=>b2.s1 aA λw3 o3 b3=>b3.s1 aA λw4 o4 b4=>b4.rI rfl (b4.rI rfl (b4.rI rfl (b4.rI rfl (hK w4 (Ext.fresh ((e.trans e1).trans C) (((o1.ext.trans o2.ext).trans o3.ext).trans o4.ext) λi (hi:i=U.size)=>O)))))
 have j:∀k∈es,k∈x.kn:=λk u=>r.p.mem_iff.1 u;have X:(es.map Go.Ar.b4).length<=1000000:=by rw[zj,r.p.length_eq];exact hkl
 refine Wn4 (bT.fX B) X ?_ ?_ ha (λw i k C u D=>?_) λw i C M=>?_
 ·rw[sR];refine r.s.imp_of_mem λ{k Q} h1 Z hlt=>?_;have e1:=(xi k (j k h1)).1;have e2:=(xi Q (j Q Z)).1;show k.2.1<Q.2.1;omega
 ·intro k u;obtain⟨y,J,rfl⟩:=zE.1 u;have F:=(xi y (j y J)).2;have h1:=F.base;have Z:=F.z;have h3:=F.m;have h4:=F.t;have h5:=F.s;have h6:=Zm (n:=y.2.2.1) O;show 0<=y.2.1/\y.2.1<=1000000;omega
 ·rw[zZ,oH]at u;obtain⟨y,J,rfl⟩:=u;have E:=j y (zG J);have Y:y.1=a:=by rw[(xi y E).1];exact D
  have hg:bU x.kn a=some y.2:=by rw[←Y];exact Qd nd (show(y.1,y.2)∈x.kn from E)
  have V:(es.map Go.Ar.b4)[i]?=some (Go.Ar.b4 y):=by rw[zZ,J];rfl
  refine cD rfl (Cn (aH.bP (bT.fX B) C) V λbb oo G=>dR (G 0 _ rfl) (dR (G 1 _ rfl) (dR (G 2 _ rfl) (dR (G 3 _ rfl) ?_))));exact A (K:=λa b c d g=>R a b c d true g) C λg W=>h1 g y.2 W hg
 ·refine cF rfl (A (K:=λa b c d g=>R a b c d false g) C λg W=>h0 g W ?_);rw[Gg];intro k u D;have S:k∈es:=r.p.mem_iff.2 u;exact M (Go.Ar.b4 k) (zE.2 ⟨k,S,rfl⟩) (by show k.2.1=a;rw[←(xi k u).1];exact D)
theorem ND (o:QP σ0 U L H held s0 P gb km fm x qb Qq Qr qs rs q)(a:Int){R:aO}(hR:∀w,aF U w->R (decide (a∈q.q.map (·.1))) w):WT.c (aW qb) a U R:=by
 refine WT.o ?_;unfold WT.v;refine nw (cs:=[.int .i64 a]) λv W e N=>?_;have o1:=o.fr e;refine bL (o1.b.rS rfl (Wb.o ?_));unfold Wb.v;refine We.o ?_;unfold We.v;have K:=o.rq.kL;have F:=o.i.ql;refine Qz (a:=bO) (λ(i:Int) u=>aF v u/\∃k:Nat,i=k/\k<=q.q.length/\∀j e,j<k->q.q[j]?=some e->e.1≠a) (λi _=>q.q.length-i.toNat) ⟨Ext.refl _ _,0,rfl,O,λj e s=>O⟩ ?_;rintro(i:Int) u ⟨eu,k,rfl,hk,hno⟩;have z:=eu.bV N id;refine cP (λg=>?_) λC=>?_
 ·have r:q.q[k]?=some (q.q[k]'(by simp only at g;omega)):=cW _;generalize (q.q[k]'(by simp only at g;omega))=y at r;refine uK (bT.fX (o1.fr eu).rq) r λV S G=>dR (G 0 _ rfl) (dR (G 1 _ rfl) ?_);refine GH (all := #[.agg #[.int .i64 y.1,.int .i64 y.2],.pointer (some ⟨U.size,0,none⟩)]) (by kernel_rfl) aA (W4.o ?_);unfold W4.v;refine nw (cs:=lz y) λv3 J A E=>E.rI rfl ((A.bV z id).uN rfl (cN (λp=>?_) λB=>?_))
  ·have d:y.1=a:=by simpa using p
   have:=hR v3 ((e.trans eu).trans A);rw[zI (zE.2 ⟨y,zG r,d⟩)]at this;show R (decide ((k:Int)≥0)) v3;rw[zI (show(k:Int)≥0 by omega)];exact this
  ·have d:y.1≠a:=by simpa using B
   exact cT (m:=k+1) O O ⟨⟨eu.trans A,k+1,rfl,by simp only at g;omega,λj e s p=>by
    by_cases hjk:j=k
    ·subst hjk;rw[r]at p;cases p;exact d
    ·exact hno j e O p⟩,by simp only at g;omega⟩
 ·have D:k=q.q.length:=by simp only at C;omega
  subst D;have:=hR u (e.trans eu);rw[zJ λM=>by
   obtain⟨y,Q,d⟩:=zE.1 M;obtain⟨j,s⟩:=zP Q;exact hno j y (cY.1 s).1 s d]at this
  exact this
def UG (x:Gu)(q:Qu)(a:Int):Bool:=q.q.any λe=>match bU x.kn e.1 with
 | some b=>decide (a∈XR b)
 | none=>false
theorem Fs (o:QP σ0 U L H held s0 P gb km fm x qb Qq Qr qs rs q)(xi:∀e∈x.kn,e.1=e.2.1/\gK e.2)(hkl:x.kn.length<=1000000)(hqi:∀e∈q.q,jv e.1)(a:Int){R:aO}(hR:∀w,aF U w->R (UG x q a) w):WJ.c (aW qb) a U R:=by
 refine WJ.o ?_;unfold WJ.v;refine nw (cs:=[.pointer (some ⟨qb,0,none⟩)]) λv0 hz0 e0 Y=>nw (cs:=[.int .i64 a]) λv hz e hb=>?_;have E:=e0.trans e;have o1:=o.fr E;have g:=e.bV Y id;refine g.qD rfl (bL (o1.b.rS rfl (Wb.o ?_)));unfold Wb.v;refine We.o ?_;unfold We.v;have hql:=o.rq.kL;have hq66:=o.i.ql
 let f:P2->Bool:=λe=>match bU x.kn e.1 with
  | some b=>decide (a∈XR b)
  | none=>false
 have G:UG x q a=q.q.any f:=rfl;have hf1:∀(e:P2) b,bU x.kn e.1=some b->f e=decide (a∈XR b):=λe b h=>by show(match bU x.kn e.1 with|some b=>decide (a∈XR b)|none=>false)=_;rw[h]
 have hf0:∀(e:P2),bU x.kn e.1=none->f e=false:=λe h=>by show(match bU x.kn e.1 with|some b=>decide (a∈XR b)|none=>false)=_;rw[h]
 clear_value f
 refine Qz (a:=bO) (λ(i:Int) u=>aF v u/\∃k:Nat,i=k/\k<=q.q.length/\∀j e,j<k->q.q[j]?=some e->f e=false) (λi _=>q.q.length-i.toNat) ⟨Ext.refl _ _,0,rfl,O,λj e S=>O⟩ ?_;rintro(i:Int) u ⟨eu,k,rfl,hk,hno⟩;have hbu:=eu.bV hb id;have D:=eu.bV g id;have ou:=o1.fr eu;refine cP (λd=>?_) λhge=>?_
 ·have z:q.q[k]?=some (q.q[k]'(by simp only at d;omega)):=cW _;generalize (q.q[k]'(by simp only at d;omega))=y at z;have W:=hqi y (zG z);refine uK (bT.fX ou.rq) z λbb oo hc=>dR (hc 0 _ rfl) (dR (hc 1 _ rfl) ?_);refine GH (all := #[.agg #[.int .i64 y.1,.int .i64 y.2],.pointer (some ⟨U.size,0,none⟩),.pointer (some ⟨v0.size,0,none⟩)]) (by kernel_rfl) aA (WW.o ?_);unfold WW.v;refine nw (cs:=lz y) λv3 hz3 F hb3=>(F.bV D id).qD rfl (hb3.rI rfl ?_);have o3:=ou.fr F;have go:∀B (r:Bool),aF u B->r=f y->If r (R (decide ((k:Int)≥0)) B) (Ar .i64 ((k:Int)+1) λJ=>(λ(i:Int) u=>aF v u/\∃k:Nat,i=k/\k<=q.q.length/\∀j e,j<k->q.q[j]?=some e->f e=false) J B/\q.q.length-J.toNat<q.q.length-(k:Int).toNat):=λB r Q hr=>by
   subst hr;refine cN (λht=>?_) λhf=>?_
   ·have:=hR B ((E.trans eu).trans Q);rw[G,zy.2 ⟨y,zG z,ht⟩]at this;rw[zI (show(k:Int)≥0 by omega)];exact this
   ·exact cT (m:=k+1) O O ⟨⟨eu.trans Q,k+1,rfl,by simp only at d;omega,λj e S he=>by
     by_cases hjk:j=k
     ·subst hjk;rw[z]at he;cases he;exact hf
     ·exact hno j e O he⟩,by simp only at d;omega⟩
  have box:∀{ty:Nat} {w:Hp} {a1 X a3 Z:Int} {K:Addr->Hp->Prop},(∀w7,aF w w7->bY w7 w.size (lh (a1,X,a3,Z))->K ⟨w.size,0,none⟩ w7) →
   Nw (.cells #[.int .i64 0,.int .i64 0,.int .i64 0,.int .i64 0] ty (0,0)) w λC v2=>dQ (C.add 0) (.int .i64 a1) v2 λv3=>dQ (C.add 1) (.int .i64 X) v3 λv4=>dQ (C.add 2) (.int .i64 a3) v4 λv5=>dQ (C.add 3) (.int .i64 Z) v5 λv6=>K C v6:=λ{ty w a1 X a3 Z K} hK=>
   nw (cs:=[.int .i64 0,.int .i64 0,.int .i64 0,.int .i64 0]) λv2 hz2 e2 M=>M.s1 aA λv3 o3 b3=>b3.s1 aA λv4 o4 b4=>b4.s1 aA λv5 o5 b5=>b5.s1 aA λv6 o6 b6=>
    hK v6 (Ext.fresh e2 (((o3.ext.trans o4.ext).trans o5.ext).trans o6.ext) λi (hi:i=w.size)=>O) b6
  refine B6 o3 xi hkl W (λw1 e1 hn=>box λp e2 M=>Jn.intro ?_) λw1 bk e1 hg=>box λp e2 M=>Jn.intro ?_
  ·exact⟨λm=>aF p m,Ext.refl _ _,cD rfl (go p false ((F.trans e1).trans e2) (hf0 y hn).symm)⟩
  ·have bi:gK bk:=(xi _ (ZD hg)).2;have N:∀m,aF p m->bY m w1.size (lh (bk.1,bk.2.1,bk.2.2.1,bk.2.2.2.1)):=λm e=>e.bV M id;have hS2:∀m,aF p m->bY m v0.size [.int .i64 a]:=λm Q=>(((F.trans e1).trans e2).trans Q).bV hbu id;refine⟨λm=>aF p m,Ext.refl _ _,cF rfl (gL (c:=bO) (y:=bk.1) N rfl (gL (c:=bO) (y:=bk.2.1) N rfl (gL (c:=bO) (y:=bk.2.2.1) N rfl (gL (c:=bO) (y:=bk.2.2.2.1) N rfl (r6 (c:=bO) (y:=a) hS2 rfl ?_)))))⟩;refine Cu bi λs w4 Q4 e4 V _=>⟨e4,?_⟩;have aa:(XR bk).length<=1000000000:=by
    have:=bi.s;have:=Zm (n:=bk.2.1) O;simp[XR,QI];omega
   exact G6 (bT.fX V) aa a ⟨e4,go w4 _ (((F.trans e1).trans e2).trans e4) (by rw[hf1 y bk hg];simp)⟩
 ·have hkn:k=q.q.length:=by simp only at hge;omega
  subst hkn;have:=hR u (E.trans eu);rw[G,mB.2 λy hy A=>by
   obtain⟨j,S⟩:=zP hy;rw[hno j y (cY.1 S).1 S]at A;cases A]at this
  exact this
theorem HY (o:QP σ0 U L H held s0 P gb km fm x qb Qq Qr qs rs q){R:aN}(hR:∀w,aF U w->R (gH q.q) w):Wt.c (aW qb) U R:=by
 refine Wt.o ?_;unfold Wt.v;have C:=o.rq.kL;have B:=o.i.ql;refine V1 o (cD rfl (bL (o.b.rS rfl ?_)));refine Ux (a:=bO) (bb:=bO) (λ(z i:Int) u=>aF U u/\∃k:Nat,i=k/\k<=q.q.length/\z=gH (q.q.take k)) (λ_ i _=>q.q.length-i.toNat) ⟨Ext.refl _ _,0,rfl,O,rfl⟩ ?_;rintro(z:Int) (i:Int) u ⟨eu,k,rfl,hk,rfl⟩;refine cP (λd=>?_) λr=>?_
 ·have g:q.q[k]?=some (q.q[k]'(by simp only at d;omega)):=cW _;generalize (q.q[k]'(by simp only at d;omega))=y at g;have E:=o.i.qs y (zG g);have s:=CZ (l:=q.q.take k) λe D=>o.i.qs e (uf D);rw[zY]at s;refine uK (bT.fX (o.fr eu).rq) g λbb J A=>dR (A 0 _ rfl) (dR (A 1 _ rfl) (uk λw G _ j=>j.rI rfl ?_));have F:gH (q.q.take (k+1))=gH (q.q.take k)+y.2:=by rw[ka,g,qR,Bn]
  exact ar O O (cT (m:=k+1) O O ⟨⟨eu.trans G,k+1,rfl,by simp only at d;omega,F.symm⟩,by simp only at d;omega⟩)
 ·have p:k=q.q.length:=by simp only at r;omega
  subst p;rw[lN];exact hR u eu
theorem Ay (o:QP σ0 U L H held s0 P gb km fm x qb Qq Qr qs rs q){R:Sl->Hp->Prop}(hR:∀s w Q,aF U w->bT s 1 (Wx (q.q.map (·.1))) w Q->(∀c,Q c->U.size<=c/\c<w.size)->R s w):Wy.c (aW qb) U R:=by
 refine Wy.o ?_;unfold Wy.v;have D:=o.rq.kL;have K:=o.i.ql;refine V1 o (cD rfl (bL (o.b.rS rfl (mk aC aC λv Y e S=>?_))));have o1:=o.fr e;have g:(List.replicate qs.len [Value.int .i64 0]).flatten=Wx ((q.q.map (·.1)).take 0++List.replicate (q.q.length-0) 0):=by
  rw[D];simp[Wx]
 rw[g]at S;refine bL (o1.b.rS rfl ?_);refine Qz (a:=bO) (λ(i:Int) u=>∃k:Nat,i=k/\k<=q.q.length/\aF U u/\bY u U.size (Wx ((q.q.map (·.1)).take k++List.replicate (q.q.length-k) 0))) (λi _=>q.q.length-i.toNat) ⟨0,rfl,O,e,S⟩ ?_;rintro(i:Int) u ⟨k,rfl,hk,eu,hbu⟩;refine cP (λB=>?_) λG=>?_
 ·have A:k<q.q.length:=by simp only at B;omega
  have E:q.q[k]?=some q.q[k]:=cW A;have z:(q.q.map (·.1))[k]?=some q.q[k].1:=by rw[zZ,E];rfl
  generalize q.q[k]=y at E z;refine uK (bT.fX (o.fr eu).rq) E λX W F=>dR (F 0 _ rfl) (dR (F 1 _ rfl) (uk λw M _ C=>C.rI rfl (ix O aC ?_)));rw[add_lit,show 0+(k:Int).toNat*1=k by omega];have d:=M.bV hbu id;have p:(Wx ((q.q.map (·.1)).take k++List.replicate (q.q.length-k) 0)).length=q.q.length:=by simp[Wx];omega
  refine d.s0 (by rw[p];exact A) λZ o2 N=>?_;have j:(Wx ((q.q.map (·.1)).take k++List.replicate (q.q.length-k) 0)).set k (.int .i64 y.1)=Wx ((q.q.map (·.1)).take (k+1)++List.replicate (q.q.length-(k+1)) 0):=by
   unfold Wx;rw[←wc,D6 _ _ (by rw[zY];omega),ka,z,qR,zk]
   congr 2
   rw[zY,zj,qB O,py];obtain⟨n,V⟩:∃n,q.q.length-k=n+1:=⟨q.q.length-k-1,O⟩;rw[V,show q.q.length-(k+1)=n by omega,sk];rfl
  rw[j]at N;exact cT (m:=k+1) O O ⟨⟨k+1,rfl,O,Ext.fresh (eu.trans M) o2.ext λi (hi:i=U.size)=>O,N⟩,by simp only at B;omega⟩
 ·have J:k=q.q.length:=by simp only at G;omega
  subst J;have r:(q.q.map (·.1)).take q.q.length++List.replicate (q.q.length-q.q.length) 0=q.q.map (·.1):=by
   rw[py,List.replicate_zero,kR,lP aA]
  rw[r]at hbu;refine hR _ u (· = U.size) eu ⟨by simp[Wx];omega,.inr ⟨U.size,_,rfl,rfl,hbu,zD _,by simp[Wx];omega,lN⟩⟩ λc F=>?_;have:=hbu.lt;omega
end Go.Ar
namespace Go.Ar
open Go Go.Vc Go.Proofs
open Go.Vc (bU dA cO)
variable {thread:Int}{U σ0 v w w':Hp}{F P Q X T Tc:Rg}{L:dE}{H H' H1:Hw}{held:List Pc}{s0 sp:Sp}{t n:Nat}{gb km fm m pp:Nat}{x y x':Gu}{b:B5}{qb:Nat}{Qq Qr:Rg}{qs rs:Sl}{q q':Qu}
def QO (σ0 U w:Hp)(pp gb km fm qb:Nat)(Tc:Rg)(H':Hw)(x':Gu)(q':Qu):Prop:=
 ∃L' held' s0' P' Qq' Qr' qs' rs',QP σ0 w L' H' held' s0' P' gb km fm x' qb Qq' Qr' qs' rs' q'/\L'.p=pp/\Ext Tc U w/\∀c,ku P' gb km fm qb Qq' Qr' c->Tc c\/U.size<=c
theorem QO.fr (o:QO σ0 U w pp gb km fm qb Tc H x q)(e:aF w w'):QO σ0 U w' pp gb km fm qb Tc H x q:=by
 obtain⟨L',a,b,P',Qq',Qr',g,d,h,j,i,m⟩:=o;exact⟨L',a,b,P',Qq',Qr',g,d,h.fr e,j,i.gp e,m⟩
theorem QP.qo (o:QP σ0 U L H held s0 P gb km fm x qb Qq Qr qs rs q)(e:aF U w):QO σ0 U w L.p gb km fm qb (ku P gb km fm qb Qq Qr) H x q:=
 ⟨L,held,s0,P,Qq,Qr,qs,rs,o.fr e,rfl,aF.to e,λc a=>.inl a⟩
theorem QO.then (e:Ext Tc U v)(hc:∀c,T c->Tc c\/U.size<=c)(o:QO σ0 v w pp gb km fm qb T H x q):QO σ0 U w pp gb km fm qb Tc H x q:=by
 obtain⟨L',a,b,P',Qq',Qr',i,d,h,m,j,g⟩:=o;have p:=e.1;exact⟨L',a,b,P',Qq',Qr',i,d,h,m,Ext.dX e j λc h=>hc c h,λc h=>(g c h).elim (hc c) λh=>.inr O⟩
theorem gG.bS (r:gG thread H x q H' x' q'):Q0 H' H:=by
 cases r with
 | none h1 h2=>exact Q0.refl _
 | stay h1 h2 h3 h4=>exact Q0.refl _
 | free h1 h2 h3 h4 hw op fe=>exact op.kp
theorem gG.len (r:gG thread H x q H' x' q'):q'.q.length+1=q.q.length/\q'.bl=q.bl/\q'.by'=q.by'/\q'.rs.length<=q.rs.length+1/\∃e,q.q=e::q'.q:=by
 cases r with
 | none h1 h2=>rw[h1];exact⟨rfl,rfl,rfl,Nat.le_succ _,_,rfl⟩
 | stay h1 h2 h3 h4=>
  rw[h1];refine⟨rfl,rfl,rfl,?_,_,rfl⟩;show(if _ then _ else _:List P2).length<=_
  split
  ·omega
  ·simp
 | free h1 h2 h3 h4 hw op fe=>
  rw[h1];refine⟨rfl,rfl,rfl,?_,_,rfl⟩;show(if _ then _ else _:List P2).length<=_
  split
  ·omega
  ·simp
theorem gG.kn (r:gG thread H x q H' x' q'):∀e∈x'.kn,e∈x.kn:=by
 cases r with
 | none h1 h2=>exact λe h=>h
 | stay h1 h2 h3 h4=>exact λe h=>h
 | free h1 h2 h3 h4 hw op fe=>exact λk a=>(zL.1 (show k∈x.kn.filter _ from a)).1
theorem gG.kl (r:gG thread H x q H' x' q'):x'.kn.length<=x.kn.length:=by
 cases r with
 | none h1 h2=>exact zD _
 | stay h1 h2 h3 h4=>exact zD _
 | free h1 h2 h3 h4 hw op fe=>exact pB _ _
theorem gG.qi (r:gG thread H x q H' x' q')(hi:nV q)(hr:q.rs.length<10000):nV q':=by
 obtain⟨i,d,a,j,e,g⟩:=r.len;exact⟨by rw[d];exact hi.bl,by rw[a];exact hi.by',by have:=hi.ql;omega,λk b=>hi.qs k (by rw[g];exact mc _ b),O⟩
set_option maxRecDepth 16000 in
theorem Jl (o:QP σ0 U L H held s0 P gb km fm x qb Qq Qr qs rs q)(gc:Gc σ0)(xi:∀e∈x.kn,e.1=e.2.1/\gK e.2)(hkl:x.kn.length<=1000000)(hqi:∀e∈q.q,jv e.1)(hq:q.q≠[])(hrl:q.rs.length<10000){R:aP}
 (hR:∀w H' x' q',gG thread H x q H' x' q'->QO σ0 U w L.p gb km fm qb (ku P gb km fm qb Qq Qr) H' x' q'->R w):WB.c (aW qb) thread U R:=by
 refine WB.o ?_;unfold WB.v;obtain⟨e,r,g⟩:=List.exists_cons_of_ne_nil hq;have hql:=o.rq.kL;rw[g,zS]at hql;have h0:q.q[0]?=some e:=by rw[g];rfl
 have hI:=o.i;have hes:=hI.qs e (by rw[g];exact mO);have hei:=hqi e (by rw[g];exact mO);have F:nV {q with q:=r}:=⟨hI.bl,hI.by',by have:=hI.ql;rw[g,zS]at this;show r.length<=66;omega,λk hk=>hI.qs k (by rw[g];exact mc _ hk),hI.rl⟩;refine bL (o.b.rS rfl (uK (i:=0) (bT.fX o.rq) h0 λbb oo d=>dR (d 0 _ rfl) (dR (d 1 _ rfl) (uk λv2 e2 z2 b2=>?_))));have o2:=o.fr e2;have hcap:qs.len<=qs.cap:=bT.pj o2.rq;refine bL (o2.b.rS rfl (jt (lo:=1) aC aC aC ?_));have Y:=cV.sub (bT.fX o2.rq) (lo:=1) (hi:=qs.len) (mx:=qs.cap) O (zD _) hcap;have rO:((gQ q.q).drop (1*2)).take ((qs.len-1)*2)=gQ r:=by
  rw[←E0,g,vz,yN,lP (by rw[UQ];omega)]
 rw[rO]at Y;refine MB Y (by simp only;have:=hI.ql;rw[g,zS]at this;omega) λs3 v3 e3 r3=>?_;have E3:=e2.trans e3;have r3':=aI.cut r3;have z2':=e2.1;have z3:=e3.1;have hqbl:=o.b.lt;refine bL (o2.wO (aF.to e3) r3' (λc d=>.inr d) F λv4 e4 o4=>?_);have b4:=e4.bV (e3.bV b2 id) (λ(h:U.size=qb)=>O);have E4:Ext (ku P gb km fm qb Qq Qr) U v4:=(aF.to E3).trans (e4.sub λc d=>.inr (.inl d));have z4:=e4.1;have base:∀{P' Qr':Rg},(∀c,P' c->P c\/v4.size<=c)->(∀c,Qr' c->Qr c\/v4.size<=c)->∀c,ku P' gb km fm qb (Cut (λb=>v2.size<=b) v3) Qr' c->ku P gb km fm qb Qq Qr c\/U.size<=c:=λ{P' Qr'} hP hQ c d=>by
  rcases d with(h|h)|h|h|h
  ·exact(hP c h).imp (λh=>.inl (.inl h)) λh=>by omega
  ·exact .inl (.inl (.inr h))
  ·exact .inl (.inr (.inl h))
  ·right;have:v2.size<=c:=h.1;omega
  ·exact(hQ c h).imp (λh=>.inr (.inr (.inr h))) λh=>by omega
 have X:∀w,aF v4 w->(bU x.kn e.1=none\/kU H x e.1≠0)->R w:=λw E hx=>hR w H x {q with q:=r} (.none g hx) ⟨L,held,s0,P,_,Qr,s3,rs,o4.fr E,rfl,E4.gp E,base (λc d=>.inl d) λc d=>.inl d⟩;refine b4.rI rfl (B6 o4 xi hkl hei (λw5 e5 hn=>nS λw6 e6 b6=>cF rfl (X w6 (e5.trans e6) (.inl hn))) λw5 bk e5 hg=>nS λab e10 b10=>cD rfl ?_);have bi:gK bk:=(xi _ (ZD hg)).2;have bb':=bi.base;have bz:=bi.z;have bm:=bi.m;have bt:=bi.t;have bs:=bi.s;have hww:=Zm (n:=bk.2.1) O;have E510:=e5.trans e10;have gD:=o4.fr E510;have b4':=E510.bV b4 id;refine⟨λm=>aF ab m,Ext.refl _ _,bL (gL (c:=.p) (y:=some ⟨gb,0,none⟩) (λm e=>e.bV gD.b id) rfl (gL (c:=bO) (y:=e.1) (λm e=>e.bV b4' id) rfl ?_))⟩;refine EA gD.p xi e.1 λs11 v11 Q11 G W hQ11=>cN (λD=>X v11 (E510.trans G) (.inr (by simpa using D))) λhe0=>?_;have j:kU H x e.1=0:=by simpa using he0
 have hlo:UI H bk=false:=by
  unfold kU at j;rw[hg]at j;simp only at j;cases hl:UI H bk with
  | false=>rfl
  | true=>rw[hl]at j;simp at j
 have hckl:vW H x e.1=QV H.sp bk:=by
  unfold vW;rw[hg];simp only;rw[hlo];rfl
 rw[hckl]at W;have A:=G.bV b10 id;refine A.rI rfl (A.rI rfl (A.rI rfl (A.rI rfl (Cu bi λs12 v12 Q12 M V S=>?_))));have hwn:(XR bk).length=QI bk:=by simp[XR]
 have hwn2:QI bk<=200:=by unfold QI;omega
 have hbl:(QV H.sp bk).length<=40000:=by
  have:=pB (jO H.sp) (Zi bk);have hz:=GD bk;have h3:VH bk<=250:=by unfold VH;omega
  have h4:oy bk<=33750:=by unfold oy;omega
  unfold QV;omega
 have hs12l:s12.len=QI bk:=by have:=V.1;simp[Wx,hwn]at this;omega
 have ac:=aI.bP W M;have E12:=(E510.trans G).trans M
 let f:Int->Bool:=λz=>eO H.sp z != 0||Q1 H.sp z != HX
 have hfu:(XR bk).filter f=tf H.sp bk:=rfl;have hfe:∀z,f z=(eO H.sp z != 0||Q1 H.sp z != HX):=λz=>rfl
 clear_value f
 have z10:=E510.1;have z11:=G.1;have z12:=M.1;refine Ux (a:=.s) (bb:=bO) (λ(wr:Sl) (z:Int) u=>aF ab u/\v12.size<=u.size/\bT s12 1 (Wx (XR bk)) u Q12/\∃(i:Nat) (Qw:Rg),z=i/\i<=QI bk/\bT wr 1 (Wx (QV H.sp bk++((XR bk).take i).filter f)) u Qw/\∀c,Qw c->ab.size<=c/\c<u.size/\¬Q12 c) (λ_ z _=>QI bk-z.toNat)
  ⟨G.trans M,zD _,V,0,Q11,rfl,O,by rw[wb,List.filter_nil,kR];exact ac,λc d=>by have:=hQ11 c d;exact⟨O,O,λh=>by have:=S c h;omega⟩⟩ ?_
 rintro(wr:Sl) (z:Int) u ⟨eu,zu,hs12u,i,Qw,rfl,hi,hrw,hQw⟩;have E12u:=E510.trans eu;have K:=o4.fr E12u;have hfl:(((XR bk).take i).filter f).length<=i:=kx (pB _ _) (by rw[zY];omega);refine cP (λhlt=>?_) λhge=>?_
 ·have hx:(XR bk)[i]?=some ((XR bk)[i]' O):=cW _;generalize ((XR bk)[i]' O)=zz at hx;have hzi:=H7 bi (zG hx);have htk:((XR bk).take (i+1)).filter f=((XR bk).take i).filter f++(if f zz then[zz]else[]):=by
   rw[ka,hx,qR,yv]
   congr 1
   by_cases h:f zz=true
   ·rw[vp h,zC h];rfl
   ·rw[wu h,zB h];rfl
  refine(bT.fX hs12u).lL hx (bL (K.b.rP rfl (AG K.p (Bv K.p.h zz O λw13 B=>?_))));refine Kr (λr w=>w=w13/\r=f zz) (λr w ⟨hw,hr⟩=>?_) λJ hJ=>cN (λh=>hJ _ _ ⟨rfl,by rw[hfe,h];rfl⟩) λh=>hJ _ _ ⟨rfl,by rw[hfe,h];rfl⟩;rw[hw,hr];have z13:=B.1;have Z:=aI.bP hs12u B;refine cN (λht=>?_) λhf=>cT (m:=i+1) O O ⟨⟨eu.trans B,O,Z,i+1,Qw,rfl,O,by rw[htk,hf];simpa using aI.bP hrw B,λc d=>by have:=hQw c d;exact⟨this.1,O,this.2.2⟩⟩,O⟩;refine xL (aI.bP hrw B) (by rw[zK];omega) zz λs' w14 ad hr14=>?_;have z14:=ad.1;refine cT (m:=i+1) O O ⟨⟨Ext.fresh (eu.trans B) ad λc d=>(hQw c d).1,O,aI.bS Z ad λc _ h1 h2=>(hQw c h2).2.2 h1,i+1,_,rfl,O,by rw[htk,ht,zC rfl,←zk];exact hr14,λc d=>?_⟩,O⟩;rcases d with d|d
  ·have:=hQw c d;exact⟨this.1,O,this.2.2⟩
  ·exact⟨by have:=eu.1;omega,d.2,λh=>by have:=S c h;omega⟩
 ·have hin:i=QI bk:=by omega
  subst hin;have hwr:QV H.sp bk++((XR bk).take (QI bk)).filter f=Kw H bk:=by
   rw[lP O,hfu];rfl
  rw[hwr]at hrw;have hwl:wr.len=(Kw H bk).length:=by have:=hrw.1;simp[Wx]at this;omega
  have hwb:(Kw H bk).length<=1000000:=by rw[←hwr,zK];omega
  have C:=eu.bV b4' id;refine uy (λw=>bY w U.size [.int .i64 e.1,.int .i64 e.2]/\Ext (ku P gb km fm qb Qq Qr) U w/\v4.size<=w.size/\∃Qr' N,(∀c,Qr' c->Qr c\/v4.size<=c)/\QP σ0 w L H held s0 P gb km fm x qb (Cut (λb=>v2.size<=b) v3) Qr' s3 N ⟨q.bl,q.by',r,if Kw H bk=[]then q.rs else q.rs++[(e.1,lp (Kw H bk))]⟩) (λw ⟨bw,Ew,zw,Qr',N,Q,ow⟩=>?_) λJ hJ=>?_
  ·refine bL (ow.b.rP rfl (bw.rI rfl (Zj.o ?_)));unfold Zj.v;refine Fp ow.p gc xi thread e.1 false (λw2 D e2=>?_) λb2 w2 ts H1 aa s0' P' er hm hf hw op fe e2 p2 hP2=>?_
   ·refine hR w2 H x _ (.stay g hg j D) ⟨L,held,s0,P,_,Qr',s3,N,ow.fr e2,rfl,Ew.gp e2,base (λc d=>.inl d) Q⟩
   ·rw[hg]at hm;cases hm;have ae:=ow.fB e2 p2 hP2;refine hR w2 H1 _ _ (.free g hg j hf hw op fe) ⟨{L with ts:=ts},aa,s0',P',_,Qr',s3,N,ae,rfl,Ew.trans (e2.sub λc d=>.inl d),base (λc d=>(hP2 c d).imp id λh=>O) Q⟩
  ·refine cP (λhpos=>?_) λhneg=>?_
   ·have D:Kw H bk≠[]:=λh=>by rw[h]at hwl;simp at hwl;omega
    refine⟨λm=>bY m qb (wz gb {q with q:=r} s3 rs)/\bY m U.size [.int .i64 e.1,.int .i64 e.2],⟨K.b,C⟩,bL (gL (c:=.s) (y:=rs) (λm hm=>hm.1) rfl (gL (c:=bO) (y:=e.1) (λm hm=>hm.2) rfl ?_))⟩;refine Of (bT.fX hrw) hwb D ⟨⟨K.b,C⟩,?_⟩;have nr1:¬Qr qb:=o.td.2.2.2;have nr2:¬Qr U.size:=λh=>by have:=(o.qr _ h).2.1;omega
    refine IU K.rr (by show q.rs.length<=100000;omega) (e.1,lp (Kw H bk)) (λw E=>⟨E.bV K.b id,E.bV C id⟩) λs' w E hr'=>⟨⟨E.bV K.b nr1,E.bV C nr2⟩,?_⟩;have qi2:nV {({q with q:=r}:Qu)with rs:=q.rs++[(e.1,lp (Kw H bk))]}:=⟨F.bl,F.by',F.ql,F.qs,by show(q.rs++[_]).length<=10000;rw[zK,rF];omega⟩;refine bL (K.gF E hr' (λc d=>d) qi2 λw2 e2 ae=>hJ w2 ?_);have zw:=E.1;have zw2:=e2.1;refine⟨e2.bV (E.bV C nr2) (λ(h:U.size=qb)=>O),((E4.gp E12u).trans (E.sub λc d=>.inr (.inr (.inr d)))).trans (e2.sub λc d=>.inr (.inl d)),by have:=E12u.1;omega,_,s',λc (d:Qr c\/u.size<=c/\c<w.size)=>d.imp id λh=>(by have:=E12u.1;omega),?_⟩;rw[zB D];exact ae
   ·have hnil:Kw H bk=[]:=uZ O;refine hJ u ⟨C,E4.gp E12u,by have:=E12u.1;omega,Qr,rs,λc d=>.inl d,?_⟩;rw[zC hnil];exact K
structure QS (x:Gu) (q:Qu):Prop where
 xi:∀e∈x.kn,e.1=e.2.1/\gK e.2
 kl:x.kn.length<=1000000
 qa:∀e∈q.q,jv e.1
 rl:q.rs.length+q.q.length<=9000
theorem gG.side (r:gG thread H x q H' x' q')(h:QS x q):QS x' q':=by
 obtain⟨g,_,_,i,e,b⟩:=r.len;exact⟨λe d=>h.xi e (r.kn e d),kx r.kl h.kl,λk a=>h.qa k (by rw[b];exact mc _ a),by have:=h.rl;omega⟩
theorem NM (hi:nV q)(h:UH q=true):q.q≠[]:=λe=>by
 unfold UH at h;rw[e]at h;have:=hi.bl;have:=hi.by';simp[gH]at h;omega
theorem MO {thread:Int}{K:aP}(o:QP σ0 U L H held s0 P gb km fm x qb Qq Qr qs rs q)(gc:Gc σ0)(s:QS x q)
 (hR:∀w H' x' q',iK thread H x q H' x' q'->QO σ0 U w L.p gb km fm qb (ku P gb km fm qb Qq Qr) H' x' q'->K w) :
 X8 [] (λI1=>I1 U) λJ1 v17=>Jn [.b] (λ(t99:Bool) v18=>If t99 (WB.c (aW qb) thread v18 λv19=>J1 v19) (K v18)) λJ2=>
  dW v17 λS1=>bW (some ⟨qb,0,none⟩) λa82=>gN S1 .s (a82.add 3) λ(t84:Sl)=>bW (some ⟨qb,0,none⟩) λa87=>gN S1 bO (a87.add 1) λ(t89:Int)=>If (decide (((t84.len:Nat):Int)>t89)) (J2 true v17)
   (bW (some ⟨qb,0,none⟩) λa95=>gN S1 bO (a95.add 2) λ(t97:Int)=>Wt.c (aW qb) v17 λt93 v20=>And (S1 v20)<|J2 (decide (t93>t97)) v20):=by
 refine D0 (λn u=>∃H1 G q1,n=q1.q.length/\QO σ0 U u L.p gb km fm qb (ku P gb km fm qb Qq Qr) H1 G q1/\(∀H' x' q',iK thread H1 G q1 H' x' q'->iK thread H x q H' x' q')/\QS G q1) ⟨_,H,x,q,rfl,o.qo (Ext.refl _ _),λ_ _ _ h=>h,s⟩ ?_;rintro n u ⟨H1,G,q1,rfl,X,R,s1⟩ J1 M;obtain⟨L1,d,Q,P1,Qq1,Qr1,a,F,o1,D,j,B⟩:=X;refine AX (λr w=>aF u w/\r=UH q1) (λr w ⟨g,z⟩=>?_) λJ2 C=>?_
 ·have ow:=o1.fr g;refine cN (λY=>?_) λS=>hR w H1 G q1 (R _ _ _ (.stop (by rw[←z];exact S))) ⟨L1,d,Q,P1,Qq1,Qr1,a,F,ow,D,j.gp g,B⟩;have E:UH q1=true:=by rw[←z];exact Y
  have V:=s1.rl;refine Jl ow gc s1.xi s1.kl s1.qa (NM o1.i E) O λZ H2 W q2 fr A=>?_;have J:=fr.len;refine M q2.q.length Z O ⟨H2,W,q2,rfl,?_,λ_ _ _ h=>R _ _ _ (.next E fr h),fr.side s1⟩;rw[D]at A;exact QO.then (j.gp g) B A
 ·have N:∀m,aF u m->bY m qb (wz gb q1 a F):=λm e=>e.bV o1.b id;have J:=o1.rq.kL;refine⟨λm=>aF u m,Ext.refl _ _,bL (gL (c:=.s) (y:=a) N rfl (bL (gL (c:=bO) (y:=q1.bl) N rfl (cP (λh=>C _ _ ⟨Ext.refl _ _,?_⟩) λh=>bL (gL (c:=bO) (y:=q1.by') N rfl (HY o1 λw g=>⟨g,C _ _ ⟨g,?_⟩⟩))))))⟩
  ·unfold UH;rw[zI (show(q1.q.length:Int)>q1.bl by rw[←J];exact h)];rfl
  ·unfold UH;rw[zJ (show ¬(q1.q.length:Int)>q1.bl by rw[←J];exact h),xO]
theorem Bg (o:QP σ0 U L H held s0 P gb km fm x qb Qq Qr qs rs q)(gc:Gc σ0)(s:QS x q)(thread:Int){R:Int->Int->Hp->Prop}(h0:∀w,ZL H thread≠0->aF U w->R 0 (ZL H thread) w)
 (h1:∀w H' x' q',ZL H thread=0->iB thread H x q H' x' q'->QO σ0 U w L.p gb km fm qb (ku P gb km fm qb Qq Qr) H' x' q'->R (q.q.length:Int) 0 w):WD.c (aW qb) thread U R:=by
 refine WD.o ?_;unfold WD.v;refine Lu o thread λv e=>cN (λa=>h0 v (by simpa using a) e) λF=>?_;have D:ZL H thread=0:=by simpa using F
 have o1:=o.fr e;have C:=o.rq.kL;refine bL (o1.b.rS rfl ?_);refine D0 (λn u=>∃H1 i q1,n=q1.q.length/\QO σ0 U u L.p gb km fm qb (ku P gb km fm qb Qq Qr) H1 i q1/\(∀H' x' q',iB thread H1 i q1 H' x' q'->iB thread H x q H' x' q')/\QS i q1) ⟨_,H,x,q,rfl,o.qo e,λ_ _ _ h=>h,s⟩ ?_;rintro n u ⟨H1,i,q1,rfl,S,M,s1⟩ J1 E;obtain⟨L1,d,K,P1,Qq1,Qr1,G,J,o1,B,g,z⟩:=S;have m:=o1.rq.kL;refine bL (o1.b.rS rfl (cP (λj=>?_) λA=>?_))
 ·have a:q1.q≠[]:=λh=>by rw[h]at m;simp at m;simp only at j;omega
  have N:=s1.rl;refine Jl o1 gc s1.xi s1.kl s1.qa a O λV H2 Q q2 fr r=>?_;have W:=fr.len;refine E q2.q.length V O ⟨H2,Q,q2,rfl,?_,λ_ _ _ h=>M _ _ _ (.next fr h),fr.side s1⟩;rw[B]at r;exact QO.then g z r
 ·have y:q1.q=[]:=uZ (by simp only at A;omega);have:=h1 u H1 i q1 D (M _ _ _ (.stop y)) ⟨L1,d,K,P1,Qq1,Qr1,G,J,o1,B,g,z⟩;rw[←C]at this;exact this
def mS (H:Hw)(x:Gu)(q:Qu)(thread addr:Int):Int:=
 if ZL H thread≠0 then ZL H thread else if addr∈q.q.map (·.1)then 9 else match bU x.kn addr with
 | none=>l6 H x thread addr true
 | some b=>if UI H b then 5 else if QV H.sp b≠[]then 10 else 0
theorem LR {sp:Sp}{l:List Int}{n:Nat}{z:Int}(h:l[n]?=some z)(f:Int->Int):iI sp (l.take (n+1)) f=ZI (iI sp (l.take n) f) z (f z):=by
 rw[ka,h,qR,Du]
set_option maxRecDepth 16000 in
theorem HV (o:QP σ0 U L H held s0 P gb km fm x qb Qq Qr qs rs q)(gc:Gc σ0)(s:QS x q)(hq:q.q.length<=65)(hrl:q.rs.length+q.q.length<=8000)(thread:Int){addr:Int}(ha:jv addr){R:aN}(h0:∀w,mS H x q thread addr≠0->aF U w->R (mS H x q thread addr) w)
 (h1:∀w b H' x' q',bU x.kn addr=some b->mS H x q thread addr=0->iK thread (dO H b) x {q with q:=q.q++[(addr,b.2.1)]} H' x' q'->QO σ0 U w L.p gb km fm qb (ku P gb km fm qb Qq Qr) H' x' q'->R 0 w):Wj.c (aW qb) thread addr U R:=by
 refine Wj.o ?_;unfold Wj.v;unfold mS at h0 h1;refine Lu o thread λv e=>cN (λj=>?_) λheq=>?_
 ·have hn:ZL H thread≠0:=by simpa using j
  rw[zC hn]at h0;exact h0 v hn e
 have hrd:ZL H thread=0:=by simpa using heq
 rw[zB (by rw[hrd];decide)]at h0 h1;have o1:=o.fr e;refine ND o1 addr λv1 e1=>cN (λhh=>?_) λhh=>?_
 ·have J:addr∈q.q.map (·.1):=by simpa using hh
  rw[zC J]at h0;exact h0 v1 aB (e.trans e1)
 have J:¬addr∈q.q.map (·.1):=by simpa using hh
 rw[zB J]at h0 h1;have o2:=o1.fr e1;refine B6 o2 s.xi s.kl ha (λw2 e2 hn=>nS λw3 e3 b3=>cF rfl ?_) λw2 bk e2 D=>nS λw3 e3 b3=>cD rfl ?_
 ·rw[hn]at h0;have o3:=(o2.fr e2).fr e3;refine bL (o3.b.rP rfl (OA (Fp o3.p gc s.xi thread addr true (λw4 j Q=>h0 w4 j ((((e.trans e1).trans e2).trans e3).trans Q)) λb w ts H1 held' B P' e S=>by rw[hn]at S;cases S)))
 rw[D]at h0;simp only at h0;have M:gK bk:=(s.xi _ (ZD D)).2;have bb':=M.base;have bz:=M.z;have bm:=M.m;have bt:=M.t;have bs:=M.s;have hww:=Zm (n:=bk.2.1) O;have E3:=((e.trans e1).trans e2).trans e3;have o3:=o.fr E3;refine bL (o3.b.rP rfl (EA o3.p s.xi addr λs4 v4 Q4 Q W _=>cN (λj=>?_) λhe0=>?_))
 ·have d:kU H x addr≠0:=by simpa using j
  have N:UI H bk=true:=by
   unfold kU at d;rw[D]at d;simp only at d;cases N:UI H bk with
   | true=>rfl
   | false=>rw[N]at d;simp at d
  have:kU H x addr=5:=by unfold kU;rw[D];simp only;rw[N];rfl
  rw[this];rw[N]at h0;exact h0 v4 aA (E3.trans Q)
 have d:kU H x addr=0:=by simpa using he0
 have K:UI H bk=false:=by
  unfold kU at d;rw[D]at d;simp only at d;cases N:UI H bk with
  | false=>rfl
  | true=>rw[N]at d;simp at d
 have X:vW H x addr=QV H.sp bk:=by
  unfold vW;rw[D];simp only;rw[K];rfl
 rw[X]at W;rw[K]at h0;simp only[za,jR]at h0;have C:s4.len=(QV H.sp bk).length:=by have:=W.1;simp[Wx]at this;omega
 refine cP (λhpos=>?_) λhneg=>?_
 ·have j:QV H.sp bk≠[]:=λh=>by rw[h]at C;simp at C;omega
  rw[zC j]at h0;exact h0 v4 aB (E3.trans Q)
 have V:QV H.sp bk=[]:=uZ O;have h1:=λw H' x' q'=>h1 w bk H' x' q' D (by rw[D];simp only;rw[K,V];rfl);have b4:=Q.bV b3 id;have E4:=E3.trans Q;have o4:=o.fr E4;refine b4.rI rfl (b4.rI rfl (b4.rI rfl (b4.rI rfl (Cu M λs5 v5 Q5 e5 hs5 hQ5=>?_))));have hwn:(XR bk).length=QI bk:=by simp[XR]
 have hwn2:QI bk<=200:=by unfold QI;omega
 have hs5l:s5.len=QI bk:=by have:=hs5.1;simp[Wx,hwn]at this;omega
 have b5:=e5.bV b4 id;have E5:=E4.trans e5;have o5:=o.fr E5;have z4:=E4.1;have z5:=e5.1;have Y:=b5.lt;have F:U.size<=w2.size:=by have:=e.1;have:=e1.1;have:=e2.1;omega
 have hnM:∀c,U.size<=c->c<v5.size->¬Mg P gb km fm c:=λc h1 h2 hM=>by have:=tH o.p hM;omega
 have hnP:∀{P':Rg},(∀c,P' c->P c\/v5.size<=c)->∀c,U.size<=c->c<v5.size->¬P' c:=λhP c h1 h2 hp=>by
  rcases hP c hp with h|h
  ·have:=(o.p.pP c h).2;omega
  ·omega
 refine Qz (a:=bO) (λ(z:Int) u=>∃(i:Nat) (B:Sp) (P':Rg),z=i/\i<=QI bk/\Ext (Mg P gb km fm) v5 u/\QP σ0 u L {H with sp:=iI H.sp ((XR bk).take i) λ_=>HX} held B P' gb km fm x qb Qq Qr qs rs q/\∀c,P' c->P c\/v5.size<=c) (λz _=>QI bk-z.toNat)
  ⟨0,s0,P,rfl,O,Ext.refl _ _,by rw[wb];exact o5,λc g=>.inl g⟩ ?_
 rintro(z:Int) u ⟨i,B,P',rfl,hi,eu,A,hP'⟩;have zu:=eu.1;have Z:bT s5 1 (Wx (XR bk)) u Q5:=aI.bS hs5 eu λc _ g hM=>by have:=hQ5 c g;exact hnM c O this.2 hM
 refine cP (λhlt=>?_) λhge=>?_
 ·have hx:(XR bk)[i]?=some ((XR bk)[i]' O):=cW _;generalize ((XR bk)[i]' O)=zz at hx;have hzi:=H7 M (zG hx);refine(bT.fX Z).lL hx (bL (A.b.rP rfl (AG A.p ?_)));refine A.p.write gc zz (-1234567) O λw6 s6 P6 e6 p6 hP6=>?_;have o6:=A.fB (e6.sub λc g=>.inl g) p6 hP6;refine cT (m:=i+1) O O ⟨⟨i+1,s6,P6,rfl,O,Ext.dX eu e6 λc g=>(hP' c g).imp .inl id,?_,λc g=>?_⟩,O⟩
  ·rw[LR hx];exact o6
  ·rcases hP6 c g with h|h
   ·exact hP' c h
   ·exact .inr O
 ·have hin:i=QI bk:=by omega
  subst hin;rw[lP O]at A;have A:QP σ0 u L (dO H bk) held B P' gb km fm x qb Qq Qr qs rs q:=A;have G:=eu.bV b5 (hnM _ F Y);have nq:¬Qq w2.size:=λh=>by have:=(o.qq _ h).2.1;omega
  refine⟨λm=>bY m qb (wz gb q qs rs)/\bY m w2.size (lh (bk.1,bk.2.1,bk.2.2.1,bk.2.2.2.1)),⟨A.b,G⟩,bL (gL (c:=.s) (y:=qs) (λm J=>J.1) rfl (gL (c:=bO) (y:=bk.2.1) (λm J=>J.2) rfl ?_))⟩;refine IU A.rq (by have:=o.i.ql;omega) (addr,bk.2.1) (λw E=>⟨E.bV A.b id,E.bV G id⟩) λs' w E hr'=>⟨⟨E.bV A.b o.td.2.2.1,E.bV G nq⟩,?_⟩;have qi2:nV {q with q:=q.q++[(addr,bk.2.1)]}:=⟨o.i.bl,o.i.by',by show(q.q++[_]).length<=66;rw[zK,rF];omega,λk r=>by
   rcases zM.1 r with r|r
   ·exact o.i.qs k r
   ·rw[zN]at r;subst r;exact bs,o.i.rl⟩
  refine bL (A.wO E hr' (λc g=>g) qi2 λw2' e2' o2'=>?_);have qs2:QS x {q with q:=q.q++[(addr,bk.2.1)]}:=⟨s.xi,s.kl,λk r=>by
   rcases zM.1 r with r|r
   ·exact s.qa k r
   ·rw[zN]at r;subst r;exact ha,by show q.rs.length+(q.q++[_]).length<=9000;rw[zK,rF];omega⟩
  have zw:=E.1;refine MO o2' gc qs2 λw3' H' x' q' hov oo=>h1 w3' H' x' q' hov ?_;refine QO.then (v:=w2') (T:=ku P' gb km fm qb (λb=>Qq b\/u.size<=b/\b<w.size) Qr) ((((aF.to E5).trans (eu.sub λc g=>.inl g)).trans (E.sub λc g=>.inr (.inr (.inl g)))).trans (e2'.sub λc g=>.inr (.inl g))) (λc g=>?_) oo;have:=E5.1;rcases g with(h|h)|h|h|h
  ·exact(hP' c h).imp (λh=>.inl (.inl h)) λh=>by omega
  ·exact .inl (.inl (.inr h))
  ·exact .inl (.inr (.inl h))
  ·exact h.imp (λh=>.inr (.inr (.inl h))) λh=>by omega
  ·exact .inl (.inr (.inr (.inr h)))
end Go.Ar
namespace Go.Proofs
open Go.Vc
set_option maxRecDepth 100000
def Xk.h:Hn:=.q .o1 (.q (.q .o5 .aK) (.q (.q .o1 (.k (.loop [(5,.I)] (.q (.q .o4 (.c .l .l)) (.q (.k (.q (.oq 9) .aK)) .o3))))) .aM))
def Xk.v (a b:Sl)(c:Hp)(d:aO):Prop:=If (((a.len:Nat):Int) != ((b.len:Nat):Int)) (d false c) (X8 [bO] (λe=>e 0 c) λf (g:Int) h=>If (g<((a.len:Nat):Int)) (Ix a.a a.len g 2 λi=>aQ i 0 h λj=>aQ i 1 h λk=>Ix b.a b.len g 2 λl=>aQ l 0 h λm=>aQ l 1 h λn=>If (!((j==m)&&((k==n)&&true))) (d false h) (bM (g+1) λo=>f o h)) (d true h))
theorem Xk.o {a b c d}(e:Xk.v a b c d):Xk.c a b c d:=Wa Tryz.func54 (x:=Xk.h) (R0 e)
end Go.Proofs
namespace Go.Ar
open Go Go.Vc Go.Proofs
open Go.Vc (bU dA cO)
variable {thread:Int}{U σ0 v w w':Hp}{F P Q X T Tc:Rg}{L:dE}{H H' H1:Hw}{held:List Pc}{s0 sp:Sp}{t n:Nat}{gb km fm m pp:Nat}{x y x':Gu}{b:B5}{qb:Nat}{Qq Qr:Rg}{qs rs:Sl}{q q':Qu}
theorem QP.uF (o:QP σ0 U L H held s0 P gb km fm x qb Qq Qr qs rs q){L':dE}{held':List Pc}{s0':Sp}{P':Rg}(hp:L'.p=L.p)(e:Ext (Mg P gb km fm) U w)(p':GP σ0 w L' H' held' s0' P' gb km fm y)(hP:∀b,P' b->P b\/U.size<=b) :
 QO σ0 U w L.p gb km fm qb (ku P gb km fm qb Qq Qr) H' y q:=by
 refine⟨L',held',s0',P',Qq,Qr,qs,rs,o.fB e p' hP,hp,e.sub λc a=>.inl a,λc a=>?_⟩;rcases a with(h|h)|h|h|h
 ·exact(hP c h).imp (λh=>.inl (.inl h)) id
 ·exact .inl (.inl (.inr h))
 ·exact .inl (.inr (.inl h))
 ·exact .inl (.inr (.inr (.inl h)))
 ·exact .inl (.inr (.inr (.inr h)))
theorem Ih (o:QP σ0 U L H held s0 P gb km fm x qb Qq Qr qs rs q)(gc:Gc σ0)(x0:0<=x.no/\x.no<=100000)(thread size align:Int){R:Int->Int->Hp->Prop}
 (h0:∀w,my size align=false->aF U w->R 0 1 w)
 (h1:∀e w H',my size align=true->e≠0->KM H thread 0 (zA align+ZK size+16) (zA align) 0 H' 0 e->fT H H'->H'.live=H.live->QO σ0 U w L.p gb km fm qb (ku P gb km fm qb Qq Qr) H' x q->R 0 e w)
 (h2:∀b w H1,vP H x size align b H1->KM H thread 0 (zA align+ZK size+16) (zA align) 0 H1 b.2.2.1 0->fT H H1->QO σ0 U w L.p gb km fm qb (ku P gb km fm qb Qq Qr) {H1 with sp:=jS H1.sp b} (x.dZ b) q->R b.1 0 w) :
 Wp.c (aW qb) thread size align U R:=by
 refine Wp.o ?_;unfold Wp.v;refine V1 o (cD rfl (bL (o.b.rP rfl (Mh o.p gc x0 thread size align h0 (λe w ts H' a g P' y i r op u j m d=>?_) λb w ts H1 a g P' z r op j m d=>?_))))
 ·exact h1 e w H' y i r op u (o.uF (L':={L with ts:=ts}) rfl (j.sub λc s=>.inl s) m d)
 ·exact h2 b w H1 z r op (o.uF (L':={L with ts:=ts}) rfl j m d)
theorem JN (o:QP σ0 U L H held s0 P gb km fm x qb Qq Qr qs rs q)(s:QS x q)(addr:Int)(ha:addr<=9223372036854775807){R:Int->Int->Hp->Prop}(ht:∀w,UG x q addr=true->aF U w->R 0 9 w)(h0:∀e w,UG x q addr=false->e≠0->aF U w->qm H x addr e->R 0 e w)
 (h1:∀w,UG x q addr=false->aF U w->qm H x addr 0->R (Q1 H.sp addr) (eO H.sp addr) w):WF.c (aW qb) addr U R:=by
 refine WF.o ?_;unfold WF.v;refine V1 o (cD rfl (Fs o s.xi s.kl s.qa addr λw e=>cN (λh=>ht w h e) λh=>?_));have o1:=o.fr e;exact bL (o1.b.rP rfl (Wkw o1.p s.xi addr ha (λi g d e2 a=>h0 i g h d (e.trans e2) a) λg e2 a=>h1 g h (e.trans e2) a))
theorem PO (o:QP σ0 U L H held s0 P gb km fm x qb Qq Qr qs rs q)(gc:Gc σ0)(s:QS x q)(addr u:Int)(ha:addr<=9223372036854775807){R:aN}(ht:∀w,UG x q addr=true->aF U w->R 9 w)(h0:∀e w,UG x q addr=false->e≠0->aF U w->qm H x addr e->R e w)
 (h1:∀w,UG x q addr=false->qm H x addr 0->QO σ0 U w L.p gb km fm qb (ku P gb km fm qb Qq Qr) {H with sp:=ZI H.sp addr u} x q->R (eO H.sp addr) w):WR.c (aW qb) addr u U R:=by
 refine WR.o ?_;unfold WR.v;refine V1 o (cD rfl (Fs o s.xi s.kl s.qa addr λw e=>cN (λh=>ht w h e) λh=>?_));have o1:=o.fr e;refine bL (o1.b.rP rfl (κ o1.p gc s.xi addr u ha (λr j g e2 d=>h0 r j h g (e.trans e2) d) λj s2 P2 d e2 m i=>h1 j h d ?_));exact QO.then (T:=ku P gb km fm qb Qq Qr) (aF.to e) (λc a=>.inl a) (o1.uF rfl (e2.sub λc a=>.inl a) m i)
theorem Fk (p:GP σ0 U L H held s0 P gb km fm x)(W7 bytes:Int){R:Option Addr->Int->Hp->Prop}(h0:¬(0<=W7/\W7<=64/\0<=bytes/\bytes<=16384)->R none 1 U)
 (h1:0<=W7/\W7<=64/\0<=bytes/\bytes<=16384->∀w,aF U w->QP σ0 w L H held s0 P gb km fm x U.size (λ_=>False) (λ_=>False) ⟨none,0,0⟩ ⟨none,0,0⟩ ⟨W7,bytes,[],[]⟩->R (some ⟨U.size,0,none⟩) 0 w) :
 Zq.c (aW gb) W7 bytes U R:=by
 refine Zq.o ?_;unfold Zq.v;refine AG p (Kr (λr w=>w=U/\r=decide (W7<0)) (λr w ⟨d,i⟩=>?_) λJ a=>cD rfl (a _ _ ⟨rfl,rfl⟩));rw[d,i];refine Kr (λr w=>w=U/\r=decide (W7<0\/W7>64)) (λr w ⟨d,i⟩=>?_) λJ a=>cP (λh=>a _ _ ⟨rfl,by rw[zI (.inl h)]⟩) λh=>a _ _ ⟨rfl,by rw[j0,decide_eq_true_iff,decide_eq_true_iff];omega⟩;rw[d,i];refine Kr (λr w=>w=U/\r=decide (W7<0\/W7>64\/bytes<0)) (λr w ⟨d,i⟩=>?_) λJ a=>cP (λh=>a _ _ ⟨rfl,by rw[zI O]⟩) λh=>a _ _ ⟨rfl,by rw[j0,decide_eq_true_iff,decide_eq_true_iff];omega⟩;rw[d,i];refine Kr (λr w=>w=U/\r=decide (W7<0\/W7>64\/bytes<0\/bytes>16384)) (λr w ⟨d,i⟩=>?_) λJ a=>cP (λh=>a _ _ ⟨rfl,by rw[zI O]⟩) λh=>a _ _ ⟨rfl,by rw[j0,decide_eq_true_iff,decide_eq_true_iff];omega⟩;rw[d,i];refine cP (λh=>h0 O) λh=>?_;refine nw (cs:=[.pointer (some ⟨gb,0,none⟩),.int .i64 W7,.int .i64 bytes,.slice none 0 0,.slice none 0 0]) λw m e g=>h1 O w e ?_;exact⟨p.fr e,g,⟨rfl,.inl ⟨rfl,rfl⟩⟩,⟨rfl,.inl ⟨rfl,rfl⟩⟩,⟨p.e.1,λj=>by have:=tH p j;omega,id,id⟩,λb g=>g.elim,λb g=>g.elim,λb g=>g.elim,⟨by show 0<=W7/\W7<=64;omega,by show 0<=bytes/\bytes<=16384;omega,by simp,by simp,by simp⟩⟩
theorem δ (n:Nat):(List.replicate n [Value.int .i64 0,.int .i64 0]).flatten=gQ (List.replicate n (0,0)):=by
 induction n with
 | zero=>rfl
 | succ n ih=>rw[sk,sk,vD,ih];rfl
theorem SB (o:QP σ0 U L H held s0 P gb km fm x qb Qq Qr qs rs q){R:Sl->Hp->Prop}(hR:∀s w Q,aF U w->bT s 2 (gQ q.rs) w Q->(∀c,Q c->U.size<=c/\c<w.size)->R s w):WM.c (aW qb) U R:=by
 refine WM.o ?_;unfold WM.v;have d:=o.rr.kL;have u:=o.i.rl;refine V1 o (cD rfl (bL (o.b.rS rfl (mk aC aC λv r e m=>?_))));have o1:=o.fr e;rw[δ]at m;have a:=UQ q.rs;refine bL (o1.b.rS rfl ⟨gQ q.rs,by rw[a];simp only;omega,o1.rr.rd,IC _,?_⟩);simp only at m ⊢;refine V2 m (by rw[a,UQ,List.length_replicate];omega) λp o2 j=>?_;have g:List.take (0+0) (gQ (List.replicate rs.len (0,0)))++gQ q.rs++List.drop (0+0+(gQ q.rs).length) (gQ (List.replicate rs.len (0,0)))=gQ q.rs:=by
  rw[List.drop_eq_nil_of_le (by rw[a,UQ,List.length_replicate];omega)];simp
 rw[g]at j;refine hR _ p (· = U.size) (Ext.fresh e o2.ext λi (hi:i=U.size)=>O) ⟨by rw[a,d],.inr ⟨U.size,_,rfl,rfl,j,zD _,by rw[a,d],lN⟩⟩ λc y=>?_;have:=j.lt;omega
theorem TF {a b:Sl}{xs ys:List P2}(ha:cV a 2 (gQ xs) U F)(hb:cV b 2 (gQ ys) U Q)(hl:xs.length<=1000000){R:aO}(hR:xs=ys->R true U)(he:xs=ys):Xk.c a b U R:=by
 subst he;refine Xk.o ?_;unfold Xk.v;have d:a.len=xs.length:=by have:=ha.1;rw[UQ]at this;omega
 have s:b.len=xs.length:=by have:=hb.1;rw[UQ]at this;omega
 rw[d,s];refine cD aA (Qz (a:=bO) (λ(i:Int) w=>w=U/\∃k:Nat,i=k/\k<=xs.length) (λi _=>xs.length-i.toNat) ⟨rfl,0,rfl,O⟩ ?_);rintro(i:Int) w ⟨rfl,k,rfl,hk⟩;refine cP (λx=>?_) λu=>hR rfl;have g:xs[k]?=some (xs[k]' O):=cW _;generalize (xs[k]' O)=r at g;rw[←d];refine uK ha g λz o1 p=>dR (p 0 _ rfl) (dR (p 1 _ rfl) ?_);rw[d,←s];refine uK hb g λy o2 j=>dR (j 0 _ rfl) (dR (j 1 _ rfl) ?_);exact cD aA (cT (m:=k+1) O O ⟨⟨rfl,k+1,rfl,O⟩,O⟩)
end Go.Ar
namespace Go.Proofs
open Go.Vc
set_option maxRecDepth 100000
def Yd.h:Hn:=.q .o2 (.q (.q .o2 .aK) (.q .o3 (.q (.q .o2 .aK) (.q .o7 (.q .o9 (.q (.q (.cU (.seq [.op,.op,.op,.cX false 2 [.op,.op]])) .aK) (.q .o5 .l)))))))
def Yd.v (a b c d e f g h:Int)(i:Hp)(j:Option Addr->Hp->Prop):Prop:=aV #[.I a,.I b,.I c,.I d,.I e,.I f] 25 i λk l=>aQ k 0 l λm=>aQ k 1 l λn=>aQ k 2 l λo=>aQ k 3 l λp=>aQ k 4 l λq=>aQ k 5 l λr=>Xa.c m n o p q r l λs t=>If s (j none t) (aQ k 0 t λu=>aQ k 1 t λv=>aQ k 2 t λw=>aQ k 3 t λx=>aQ k 4 t λy=>aQ k 5 t λz=>WN.c u v w x y z t λaa ab=>If aa.isNone (j none ab) (Ke.c aa ab λac ad ae=>Zq.c ac g h ae λaf ag ah=>bX (λai aj=>If ai (j none aj) (aV #[.pointer aa,.pointer af,.slice none 0 0,.slice none 0 0] 35 aj λak al=>j (some ak) al)) λam=>If (ag != 0) (am true ah) (am af.isNone ah)))
theorem Yd.o {a b c d e f g h i j}(k:Yd.v a b c d e f g h i j):Yd.c a b c d e f g h i j:=Wa Tryz.func13 (x:=Yd.h) (R0 k)
def Xw.h:Hn:=.q .o1 (.q .o2 (.q (.q .o2 .aK) (.q .o7 (.q .o7 (.q (.q (.cU (.seq [.op,.op,.op,.cX false 2 [.op,.op]])) .aK) (.q .o7 (.q .o7 (.q .o7 (.q (.q (.cU (.seq [.op,.op,.op,.op,.op,.cX false 4 (RI.ops 4),.op,.cX false 7 (RI.ops 7),.op,.cX false 3 (RI.ops 3),.op,.cX false 4 (RI.ops 4)])) .aK) (.q .o8 (.q (.q (.cU (.seq [.op,.op,.op,.cX false 4 (RI.ops 4),.op,.cX false 7 (RI.ops 7),.op,.cX false 4 (RI.ops 4)])) .aK) (.q .o7 (.q (.cU (.seq [.op,.op,.op,.cX true 2 [.op,.op],.op,.cX true 7 (RI.ops 7),.op])) .l)))))))))))))
def Xw.v (a:Hp)(b:aO):Prop:=XP.c a λc d=>If c.isNone (b false d) (Ke.c c d λe f g=>Zq.c e 2 1000 g λh i j=>bX (λk l=>If k (b false l) (Wp.c h 0 24 8 l λm n o=>Wp.c h 0 24 8 o λp q r=>Wp.c h 0 24 8 r λs t u=>Wj.c h 0 m u λv w=>bX (λx y=>bX (λz aa=>bX (λab ac=>bX (λad ae=>If ad (b false ae) (WF.c h m ae λaf ag ah=>bX (λai aj=>bX (λak al=>bX (λam an=>If am (b false an) (WD.c h 0 an λao ap aq=>bX (λar au=>bX (λav aw=>b av aw) λax=>If ar (WM.c h au λay az=>aV #[.I p,.I p] 62 az λa0 a1=>Xk.c ay ⟨some a0,1,1⟩ a1 λa2 a3=>ax a2 a3) (ax false au)) λa4=>If (ao==2) (a4 (ap==0) aq) (a4 false aq))) λa5=>If ak (a5 true al) (XA.c c p 3 al λa6 a7=>a5 (a6 != 0) a7)) λa8=>If ai (a8 true aj) (Wy.c h aj λa9 ba=>aV #[.I p,.I s] 3 ba λbb bc=>XN.c a9 ⟨some bb,2,2⟩ bc λbd be=>a8 (!bd) be)) λbf=>If (ag != 9) (bf true ah) (Wj.c h 0 s ah λbg bh=>bf (bg != 0) bh))) λbi=>If ab (bi true ac) (Wj.c h 0 m ac λbj bk=>bi (bj != 9) bk)) λbl=>If z (bl true aa) (Wt.c h aa λbm bn=>bl (bm != 48) bn)) λbo=>If x (bo true y) (Wy.c h y λbp bq=>aV #[.I m,.I p] 3 bq λbr bs=>XN.c bp ⟨some br,2,2⟩ bs λbt bu=>bo (!bt) bu)) λbv=>If (v != 0) (bv true w) (Wj.c h 0 p w λbw bx=>bv (bw != 0) bx))) λbz=>If (i != 0) (bz true j) (bz h.isNone j))
theorem Xw.o {a b}(c:Xw.v a b):Xw.c a b:=Wa Tryz.func15 (x:=Xw.h) (R0 c)
def Xo.h:Hn:=.q .o2 (.q (.cU (.tail 5 (RI.ops 5) [.op,.op])) (.q (.q .o2 (.k (.q .o2 (.c (.q (.cU (.held true [10] (.tk [0,1,2,3,4,5,6,7,8,9] (.all [(10,.tk [11,12,13,14,15] (.done))])))) (.q (.q .o2 (.c (.o 11) .l)) .aL)) (.q .o2 (.c (.q (.cU (.tail 7 (RI.ops 7) [.op,.op])) (.q (.q .o2 (.c (.o 11) .l)) .aL)) (.q .o2 (.c (.q (.cU (.held true [6] (.tk [0,1,2,3,4,5] (.all [(6,.tk [7,8,9,10,11] (.done))])))) .aL) (.q .o2 (.c (.q (.o 11) .aL) (.q .o2 (.c (.q (.cU (.tail 7 (RI.ops 7) [.op,.op])) .l) .l)))))))))))) .aM))
def Xo.v (a:R2)(b c d e f g h:Int)(i:ByteArray)(j:Hp)(k:aN):Prop:=aV #[.I b,.I c,.I d,.I e,.I f,.I g,.I h,.string i] 40 j λl m=>bF a 2 m λo=>aQ l 0 m λp=>aQ l 1 m λq=>aQ l 2 m λr=>aQ l 3 m λs=>aQ l 4 m λt=>aQ l 5 m λu=>aQ l 6 m λv=>bD l 7 m λw=>Ys.c o p q r s t u v w m λx y=>aQ l 0 y λz=>If (z==40) (dW y λaa=>bW a λab=>aU aa ab 1 λac=>aS aa l 1 λad=>aS aa l 2 λae=>aS aa l 3 λaf=>Wp.c ac ad ae af y λag ah ai=>If (ah==0) (bF a 2 ai λak=>aV #[.I ag] 3 ai λal am=>App ak 1 8 3 [.I 0] ⟨some al,1,1⟩ am λan ao=>bW a λap=>aR ap 2 (.slice an.a an.len an.cap) ao λaq=>k ah aq) (k ah ai)) (If (z==41) (bG a 1 y λau=>aQ l 1 y λav=>Wj.c au av x y λaw ax=>If (aw==0) (bF a 3 ax λaz=>aV #[.I x] 3 ax λa0 a1=>App az 1 8 3 [.I 0] ⟨some a0,1,1⟩ a1 λa2 a3=>bW a λa4=>aR a4 3 (.slice a2.a a2.len a2.cap) a3 λa5=>k aw a5) (k aw ax)) (If (z==42) (dW y λa6=>bW a λa7=>aU a6 a7 1 λa8=>aS a6 l 1 λa9=>WD.c a8 a9 y λba bb bc=>k bb bc) (If (z==43) (bG a 1 y λbe=>WF.c be x y λbf bg bh=>k bg bh) (If (z==44) (bG a 1 y λbj=>
 aQ l 6 y λbk=>WR.c bj x bk y λbl bm=>k bl bm) (k 0 y)))))
theorem Xo.o {a b c d e f g h i j k}(l:Xo.v a b c d e f g h i j k):Xo.c a b c d e f g h i j k:=Wa Tryz.func17 (x:=Xo.h) (R0 l)
def XO.h:Hn:=.q .o1 (.q .o1 (.q (.q .o1 (.k (.loop [(5,.I),(6,.I)] (.q (.q .o4 (.c .l .l)) (.q (.k (.q (.o 12) .o5)) .o3))))) .aL))
def XO.v (a:R2)(b:Sl)(c:Hp)(d:aN):Prop:=X8 [bO,bO] (λe=>e 0 0 c) λf (g:Int) (h:Int) i=>If (h<((b.len:Nat):Int)) (Ix b.a b.len h 1 λj=>bN j i λk=>XG.c a k i λl m n o p q=>aV #[.I 0,.I 0,.I 0,.I 0] 48 q λr s=>aR r 0 (.I l) s λt=>aR r 1 (.I m) t λu=>aR r 2 (.I n) u λv=>aR r 3 (.I o) v λw=>aQ r 1 w λx=>bM (g+x) λy=>bM (h+1) λz=>f y z w) (d g i)
theorem XO.o {a b c d}(e:XO.v a b c d):XO.c a b c d:=Wa Tryz.func26 (x:=XO.h) (R0 e)
end Go.Proofs
namespace Go.Ar
open Go Go.Vc Go.Proofs
open Go.Vc (bU dA cO)
variable {thread:Int}{U σ0 v w w':Hp}{F P Q X T T' Tc Qa Qf:Rg}{L:dE}{H H' H1:Hw}{held:List Pc}{s0 sp:Sp}{t n:Nat}{gb km fm m pp xb:Nat}{x y x':Gu}{b:B5}{qb:Nat}{Qq Qr:Rg}{qs rs addrs fl:Sl}{ad fd:List Int}{q q':Qu}
def QB (σ0 U:Hp)(pp gb km fm qb:Nat)(T:Rg)(H:Hw)(x:Gu)(q:Qu):Prop:=
 ∃L held s0 P Qq Qr qs rs,QP σ0 U L H held s0 P gb km fm x qb Qq Qr qs rs q/\L.p=pp/\T=ku P gb km fm qb Qq Qr
theorem QB.fr (o:QB σ0 U pp gb km fm qb T H x q)(e:aF U w):QB σ0 w pp gb km fm qb T H x q:=by
 obtain⟨L,a,s0,P,Qq,Qr,qs,d,h,b,g⟩:=o;exact⟨L,a,s0,P,Qq,Qr,qs,d,h.fr e,b,g⟩
theorem QB.out (o:QB σ0 U pp gb km fm qb T H x q)(e:Ext X U w)(hX:∀b,b<U.size->X b->¬T b/\σ0.size<=b):QB σ0 w pp gb km fm qb T H x q:=by
 obtain⟨L,a,s0,P,Qq,Qr,qs,g,h,d,rfl⟩:=o;exact⟨L,a,s0,P,Qq,Qr,qs,g,h.out e hX,d,rfl⟩
theorem QB.lt (o:QB σ0 U pp gb km fm qb T H x q){c:Nat}(h:T c):σ0.size<=c/\c<U.size:=by
 obtain⟨L,a,s0,P,Qq,Qr,qs,g,b,d,rfl⟩:=o;exact Iz b h
theorem QB.e (o:QB σ0 U pp gb km fm qb T H x q):aF σ0 U:=by
 obtain⟨L,a,s0,P,Qq,Qr,qs,g,b,d,rfl⟩:=o;exact b.p.e
theorem QB.hi (o:QB σ0 U pp gb km fm qb T H x q):∃held s0,HI H held s0:=by
 obtain⟨L,held,s0,P,Qq,Qr,qs,d,a,b,rfl⟩:=o;exact⟨held,s0,a.p.hi⟩
theorem QB.cf (o:QB σ0 U pp gb km fm qb T H x q):iU H:=by
 obtain⟨L,a,s0,P,Qq,Qr,qs,g,b,d,rfl⟩:=o;exact b.p.cf
theorem QB.qi (o:QB σ0 U pp gb km fm qb T H x q):nV q:=by
 obtain⟨L,a,s0,P,Qq,Qr,qs,g,b,d,rfl⟩:=o;exact b.i
theorem QO.tb (o:QO σ0 U w pp gb km fm qb Tc H x q):∃T',QB σ0 w pp gb km fm qb T' H x q/\Ext Tc U w/\∀c,T' c->Tc c\/U.size<=c:=by
 obtain⟨L',a,b,P',Qq',Qr',g,d,h,j,i,m⟩:=o;exact⟨_,⟨L',a,b,P',Qq',Qr',g,d,h,j,rfl⟩,i,m⟩
def AN (hp qb:Nat)(addrs fl:Sl):List Value:=[.pointer (some ⟨hp,0,none⟩),.pointer (some ⟨qb,0,none⟩),.slice addrs.a addrs.len addrs.cap,.slice fl.a fl.len fl.cap]
def pv (T:Rg)(xb:Nat)(Qa Qf:Rg):Rg:=λb=>T b\/b=xb\/Qa b\/Qf b
structure OQ (σ0 U:Hp) (xb pp gb km fm qb:Nat) (T Qa Qf:Rg) (H:Hw) (x:Gu) (q:Qu) (addrs:Sl) (ad:List Int) (fl:Sl) (fd:List Int):Prop where
 p:QB σ0 U pp gb km fm qb T H x q
 b:bY U xb (AN pp qb addrs fl)
 ra:bT addrs 1 (Wx ad) U Qa
 rf:bT fl 1 (Wx fd) U Qf
 qH:σ0.size<=xb/\¬T xb/\¬Qa xb/\¬Qf xb
 qa:∀b,Qa b->σ0.size<=b/\b<U.size/\¬T b
 qf:∀b,Qf b->σ0.size<=b/\b<U.size/\¬T b
 dj:∀b,Qa b->¬Qf b
theorem OQ.mJ (o:OQ σ0 U xb pp gb km fm qb T Qa Qf H x q addrs ad fl fd)(e:aF U w):OQ σ0 w xb pp gb km fm qb T Qa Qf H x q addrs ad fl fd:=
 ⟨o.p.fr e,e.bV o.b id,aI.bP o.ra e,aI.bP o.rf e,o.qH,λb a=>by have h:=o.qa b a;have:=e.1;exact⟨h.1,O,h.2.2⟩,λb a=>by have h:=o.qf b a;have:=e.1;exact⟨h.1,O,h.2.2⟩,o.dj⟩
theorem OQ.fB (o:OQ σ0 U xb pp gb km fm qb T Qa Qf H x q addrs ad fl fd)(e:Ext T U w)(p':QB σ0 w pp gb km fm qb T' H' x' q')(hT:∀c,T' c->T c\/U.size<=c):OQ σ0 w xb pp gb km fm qb T' Qa Qf H' x' q' addrs ad fl fd:=by
 have A:=e.1;have d:=o.b.lt;obtain⟨s,m,r,u⟩:=o.qH;have g:∀b,b<U.size->¬T b->¬T' b:=λb z y p=>(hT b p).elim y λh=>by omega
 exact⟨p',e.bV o.b m,aI.bS o.ra e λb _ a j=>(o.qa b a).2.2 j,aI.bS o.rf e λb _ a j=>(o.qf b a).2.2 j,⟨s,g _ d m,r,u⟩,λb i=>by have h:=o.qa b i;exact⟨h.1,O,g b h.2.1 h.2.2⟩,λb i=>by have h:=o.qf b i;exact⟨h.1,O,g b h.2.1 h.2.2⟩,o.dj⟩
theorem OQ.cE (o:OQ σ0 U xb pp gb km fm qb T Qa Qf H x q addrs ad fl fd){s':Sl}{ad':List Int}(e:Ext Qa U w)(hr:bT s' 1 (Wx ad') w λb=>Qa b\/U.size<=b/\b<w.size){K:aP}
 (hK:∀u,Ext (· = xb) w u->OQ σ0 u xb pp gb km fm qb T (λb=>Qa b\/U.size<=b/\b<w.size) Qf H x q s' ad' fl fd->K u):dQ (Addr.add ⟨xb,0,none⟩ 2) (.slice s'.a s'.len s'.cap) w K:=by
 have L:=e.1;have F:=o.b.lt;obtain⟨s,B,y,z⟩:=o.qH;have C:=o.p.e.1;have G:=o.p.out e λb _ d=>⟨(o.qa b d).2.2,(o.qa b d).1⟩;have m:=aI.bS o.rf e λb _ g E=>o.dj b E g;refine(e.bV o.b y).s1 (by simp[AN]) λu A b=>?_;have i:=A.ext;have J:=A.1;have r:¬(Qa xb\/U.size<=xb/\xb<w.size):=λh=>h.elim y λh=>by omega
 refine hK u i ⟨G.out i λb _ (d:b=xb)=>by subst d;exact⟨B,s⟩,b,aI.bS hr i λb _ j (d:b=xb)=>r (d▸j),aI.bS m i λb _ j (d:b=xb)=>z (d▸j),⟨s,B,r,z⟩,λb d=>?_,λb d=>by have h:=o.qf b d;exact⟨h.1,O,h.2.2⟩,λb d g=>?_⟩
 ·rcases d with d|d
  ·have h:=o.qa b d;exact⟨h.1,O,h.2.2⟩
  ·exact⟨O,O,λD=>by have:=o.p.lt D;omega⟩
 ·rcases d with d|d
  ·exact o.dj b d g
  ·have:=(o.qf b g).2.1;omega
theorem OQ.BC (o:OQ σ0 U xb pp gb km fm qb T Qa Qf H x q addrs ad fl fd){s':Sl}{fd':List Int}(e:Ext Qf U w)(hr:bT s' 1 (Wx fd') w λb=>Qf b\/U.size<=b/\b<w.size){K:aP}
 (hK:∀u,Ext (· = xb) w u->OQ σ0 u xb pp gb km fm qb T Qa (λb=>Qf b\/U.size<=b/\b<w.size) H x q addrs ad s' fd'->K u):dQ (Addr.add ⟨xb,0,none⟩ 3) (.slice s'.a s'.len s'.cap) w K:=by
 have L:=e.1;have F:=o.b.lt;obtain⟨s,B,y,z⟩:=o.qH;have C:=o.p.e.1;have G:=o.p.out e λb _ d=>⟨(o.qf b d).2.2,(o.qf b d).1⟩;have m:=aI.bS o.ra e λb _ E g=>o.dj b E g;refine(e.bV o.b z).s1 (by simp[AN]) λu A b=>?_;have i:=A.ext;have J:=A.1;have r:¬(Qf xb\/U.size<=xb/\xb<w.size):=λh=>h.elim z λh=>by omega
 refine hK u i ⟨G.out i λb _ (d:b=xb)=>by subst d;exact⟨B,s⟩,b,aI.bS m i λb _ j (d:b=xb)=>y (d▸j),aI.bS hr i λb _ j (d:b=xb)=>r (d▸j),⟨s,B,y,r⟩,λb d=>by have h:=o.qa b d;exact⟨h.1,O,h.2.2⟩,λb d=>?_,λb d g=>?_⟩
 ·rcases d with d|d
  ·have h:=o.qf b d;exact⟨h.1,O,h.2.2⟩
  ·exact⟨O,O,λD=>by have:=o.p.lt D;omega⟩
 ·rcases g with g|g
  ·exact o.dj b d g
  ·have:=(o.qa b d).2.1;omega
inductive jc (H:Hw) (x:Gu) (q:Qu) (d:eW) (a:Int):Hw->Gu->Qu->Int->Option Int->Option Int->Prop
 | same (e:Int):(e=0->d.kd≠40/\d.kd≠41/\d.kd≠42)->jc H x q d a H x q e none none
 | full {H':Hw} {e:Int}:d.kd=40->my d.a d.b=true->e≠0->KM H d.th 0 (zA d.b+ZK d.a+16) (zA d.b) 0 H' 0 e->fT H H'->H'.live=H.live->jc H x q d a H' x q e none none
 | dZ {b:B5} {H1:Hw}:d.kd=40->vP H x d.a d.b b H1->KM H d.th 0 (zA d.b+ZK d.a+16) (zA d.b) 0 H1 b.2.2.1 0->fT H H1->jc H x q d a {H1 with sp:=jS H1.sp b} (x.dZ b) q 0 (some b.1) none
 | kS {b:B5} {H':Hw} {x':Gu} {q':Qu}:d.kd=41->bU x.kn a=some b->mS H x q d.th a=0->iK d.th (dO H b) x {q with q:=q.q++[(a,b.2.1)]} H' x' q'->jc H x q d a H' x' q' 0 none (some a)
 | drain {H':Hw} {x':Gu} {q':Qu}:d.kd=42->ZL H d.th=0->iB d.th H x q H' x' q'->jc H x q d a H' x' q' 0 none none
 | wrote:d.kd=44->UG x q a=false->qm H x a 0->jc H x q d a {H with sp:=ZI H.sp a d.va} x q (eO H.sp a) none none
set_option maxRecDepth 16000 in
theorem S7 (o:OQ σ0 U xb pp gb km fm qb T Qa Qf H x q addrs ad fl fd)(gc:Gc σ0)(s:QS x q)(x0:0<=x.no/\x.no<=100000)(hq:q.q.length<=65)(hrl:q.rs.length+q.q.length<=8000)(hal:ad.length<=100000)(hfl:fd.length<=100000)(d:eW)(di:kZ d){R:aN}
 (hR:∀e w T' H' x' q' Qa' Qf' addrs' fr' add del,OQ σ0 w xb pp gb km fm qb T' Qa' Qf' H' x' q' addrs' (ad++Option.toList add) fr' (fd++Option.toList del)->jc H x q d (tu ad d) H' x' q' e add del->Ext (pv T xb Qa Qf) U w->(∀b,pv T' xb Qa' Qf' b->pv T xb Qa Qf b\/U.size<=b)->R e w) :
 Xo.c (aW xb) d.kd d.th d.a d.b d.of d.pl d.va d.s U R:=by
 refine Xo.o ?_;unfold Xo.v;have tT:∀{u u':Hp},Ext T u u'->Ext (pv T xb Qa Qf) u u':=λe=>e.sub λb j=>.inl j;have tX:∀{u u':Hp},Ext (· = xb) u u'->Ext (pv T xb Qa Qf) u u':=λe=>e.sub λb j=>.inr (.inl j);have tA:∀{u u':Hp},Ext Qa u u'->Ext (pv T xb Qa Qf) u u':=λe=>e.sub λb j=>.inr (.inr (.inl j));have tF:∀{u u':Hp},Ext Qf u u'->Ext (pv T xb Qa Qf) u u':=λe=>e.sub λb j=>.inr (.inr (.inr j));have hxb:=o.b.lt;have h00:=o.p.e.1;refine nw (cs:=ur d) λv hz e j=>bL ((o.mJ e).b.rS rfl (j.rI rfl (j.rI rfl (j.rI rfl (j.rI rfl (j.rI rfl (j.rI rfl (j.rI rfl (j.rT rfl ?_)))))))));have o1:=o.mJ e;refine Fl (bT.fX o1.ra) d λN e1=>?_;have o2:=o1.mJ e1;have C:=e.trans e1;have zv:U.size<=N.size:=C.1;have r:=e1.bV j id;have E:=LP (ad:=ad) di;generalize hx:tu ad d=ax at E hR;have a0:ad++Option.toList (none:Option Int)=ad:=by simp
 have f0:fd++Option.toList (none:Option Int)=fd:=by simp
 have same:∀e w,(e=0->d.kd≠40/\d.kd≠41/\d.kd≠42)->aF N w->R e w:=λe w he g=>by
  have A:=o.mJ (C.trans g);refine hR e w T H x q Qa Qf addrs fl none none ?_ (.same e he) (aF.to (C.trans g)) λ_=>.inl;rw[a0,f0];exact A
 have M:∀e w H' x' q',QO σ0 N w pp gb km fm qb T H' x' q'->jc H x q d ax H' x' q' e none none->R e w:=λe w H' x' q' A out=>by
  obtain⟨T',S,D,F⟩:=A.tb;have o3:=o2.fB D S F;refine hR e w T' H' x' q' Qa Qf addrs fl none none (by rw[a0,f0];exact o3) out ((aF.to C).trans (tT D)) λc Q=>?_;rcases Q with h|h|h|h
  ·exact(F c h).imp .inl λh=>by omega
  ·exact .inl (.inr (.inl h))
  ·exact .inl (.inr (.inr (.inl h)))
  ·exact .inl (.inr (.inr (.inr h)))
 have hnT:¬T U.size:=λhm=>by have:=o.p.lt hm;omega
 obtain⟨L,held,s0,P,Qq,Qr,qs,rs,V,rfl,rfl⟩:=o2.p;refine r.rI rfl (cN (λJ=>?_) λY=>?_)
 ·have B:d.kd=40:=by simpa using J
  refine⟨λm=>aF N m,Ext.refl _ _,bL (gL (c:=.p) (y:=some ⟨qb,0,none⟩) (λm e=>e.bV o2.b id) rfl (gL (c:=bO) (y:=d.th) (λm e=>e.bV r id) rfl (gL (c:=bO) (y:=d.a) (λm e=>e.bV r id) rfl (gL (c:=bO) (y:=d.b) (λm e=>e.bV r id) rfl ?_))))⟩;refine Ih V gc x0 d.th d.a d.b (λw W g=>?_) (λe w H' W z hw op hl A=>?_) λb w H1 gr hw op A=>?_
  ·exact cD aB (same 1 w (λh=>by cases h) g)
  ·exact cD (by simpa using z) (M e w H' x q A (.full B W z hw op hl))
  ·refine cF rfl ?_;obtain⟨T',S,D,F⟩:=A.tb;have o3:=o2.fB D S F;refine bL (o3.b.rS rfl (xL o3.ra O b.1 λZ u1 K G=>bL (o3.cE K G λu2 e5 o5=>?_)));have z3:=D.1;have z4:=K.1;refine hR 0 u2 T' _ _ _ _ Qf Z fl (some b.1) none (by rw[f0];exact o5) (.dZ B gr hw op) ((((aF.to C).trans (tT D)).trans (tA K)).trans (tX e5)) λc Q=>?_;rcases Q with h|h|h|h
   ·exact(F c h).imp .inl λh=>by omega
   ·exact .inl (.inr (.inl h))
   ·exact h.imp (λh=>.inr (.inr (.inl h))) λh=>by omega
   ·exact .inl (.inr (.inr (.inr h)))
 have k0:d.kd≠40:=by simpa using Y
 refine cN (λJ=>?_) λhk1=>?_
 ·have B:d.kd=41:=by simpa using J
  refine bL (o2.b.rP rfl (r.rI rfl ?_));refine HV V gc s hq hrl d.th E (λw z g=>cD (by simpa using z) (same _ w (λh=>absurd h z) g)) λw b H' x' q' hm h0 ov A=>cF rfl ?_;obtain⟨T',S,D,F⟩:=A.tb;have o3:=o2.fB D S F;refine bL (o3.b.rS rfl (xL o3.rf O ax λZ u1 K G=>bL (o3.BC K G λu2 e5 o5=>?_)));have z3:=D.1;have z4:=K.1;refine hR 0 u2 T' _ _ _ Qa _ addrs Z none (some ax) (by rw[a0];exact o5) (.kS B hm h0 ov) ((((aF.to C).trans (tT D)).trans (tF K)).trans (tX e5)) λc Q=>?_;rcases Q with h|h|h|h
  ·exact(F c h).imp .inl λh=>by omega
  ·exact .inl (.inr (.inl h))
  ·exact .inl (.inr (.inr (.inl h)))
  ·exact h.imp (λh=>.inr (.inr (.inr h))) λh=>by omega
 have k1:d.kd≠41:=by simpa using hk1
 refine cN (λJ=>?_) λhk2=>?_
 ·have B:d.kd=42:=by simpa using J
  refine⟨λm=>aF N m,Ext.refl _ _,bL (gL (c:=.p) (y:=some ⟨qb,0,none⟩) (λm e=>e.bV o2.b id) rfl (gL (c:=bO) (y:=d.th) (λm e=>e.bV r id) rfl ?_))⟩;exact Bg V gc s d.th (λw z g=>same _ w (λh=>absurd h z) g) λw H' x' q' h0 dr A=>M 0 w H' x' q' A (.drain B h0 dr)
 have k2:d.kd≠42:=by simpa using hk2
 have X:d.kd≠40/\d.kd≠41/\d.kd≠42:=⟨k0,k1,k2⟩;refine cN (λ_=>bL (o2.b.rP rfl (JN V s ax E.2 (λw _ g=>same 9 w (λh=>by cases h) g) (λe w _ _ g _=>same e w (λ_=>X) g) λw _ g _=>same _ w (λ_=>X) g))) λ_=>?_;refine cN (λJ=>bL (o2.b.rP rfl (r.rI rfl (PO V gc s ax d.va E.2 (λw _ g=>same 9 w (λh=>by cases h) g) (λe w _ _ g _=>same e w (λ_=>X) g) λw ht wd A=>M _ w _ x q A (.wrote (by simpa using J) ht wd))))) λ_=>same 0 N (λ_=>X) (Ext.refl _ _)
end Go.Ar
namespace Go.Ar
open Go Go.Vc Go.Proofs
open Go.Vc (bU dA cO)
variable {thread:Int}{H H' H1 H2:Hw}{held held1:List Pc}{s0 s1 sp:Sp}{x y x' x1 x2:Gu}{b:B5}{q q' q1 q2:Qu}{ad fd:List Int}{W:Int->List Int}{l l':List P2}{d:eW}{a:Int}{bl by':Int}
theorem FE {α:Type}:∀{l:List (Int×α)} {a:Int} {b:α},(l.map (·.1)).Nodup->(a,b)∈l->(cO l a).length+1=l.length
 | [],_,_,_,h=>by simp at h
 | y::l,a,b,hn,h=>by
  rw[zR,zr]at hn;show((y::l).filter λz=>!(z.1==a)).length+1=_;rcases zW.1 h with rfl|h
  ·rw[wu aA,qv.2 λz hz=>?_,zS];have:z.1≠a:=λe=>hn.1 (zE.2 ⟨z,hz,e⟩);simpa using this
  ·have d:y.1≠a:=λe=>hn.1 (by rw[e];exact zE.2 ⟨(a,b),h,rfl⟩);rw[vp (by simpa using d),zS,zS];exact congrArg (· + 1) (FE hn.2 h)
theorem TO (g:dS H x)(g':dS H' x')(hi:HI H held s0)(hi':HI H' held1 s1){e:Int×B5}(he:e∈x.kn)(k:Kept H x H' x' e):tf H'.sp e.2=tf H.sp e.2:=by
 unfold tf;refine vI λz a=>?_;rw[g.acc hi he (.inr a),g'.acc hi' k.1 (.inr a),k.2 z a]
theorem Kept.trans {e:Int×B5}(h:Kept H x H1 x1 e)(h':Kept H1 x1 H2 x2 e):Kept H x H2 x2 e:=⟨h'.1,λz a=>(h'.2 z a).trans (h.2 z a)⟩
theorem Kept.refl {e:Int×B5}(h:e∈x.kn):Kept H x H x e:=⟨h,λ_ _=>rfl⟩
structure KQ (W:Int->List Int) (H:Hw) (x:Gu) (l:List P2):Prop where
 g:dS H x
 k:∀e∈l,∃b,bU x.kn e.1=some b/\e.2=b.2.1/\tf H.sp b=W e.1
 nd:(l.map (·.1)).Nodup
theorem KQ.step (kq:KQ W H x l)(hi:HI H held s0)(hi':HI H' held1 s1)(g':dS H' x')(hk:∀e∈x.kn,e.1∈l.map (·.1)->Kept H x H' x' e):KQ W H' x' l:=⟨g',λe i=>by
 obtain⟨b,m,j,p⟩:=kq.k e i;have a:=ZD m;have d:=hk (e.1,b) a (zE.2 ⟨e,i,rfl⟩);exact⟨b,Qd g'.nd d.1,j,by rw[←p];exact TO kq.g g' hi hi' a d⟩,kq.nd⟩
theorem KQ.tail {e:P2}(kq:KQ W H x (e::l)):KQ W H x l:=⟨kq.g,λk a=>kq.k k (mc _ a),(zr.1 kq.nd).2⟩
def lE (W:Int->List Int)(l:List P2):List P2:=l.flatMap λe=>if W e.1=[]then[]else[(e.1,lp (W e.1))]
theorem We2 (l l':List P2):lE W (l++l')=lE W l++lE W l':=by simp[lE]
structure og (W:Int->List Int) (thread:Int) (H:Hw) (x:Gu) (q:Qu) (H':Hw) (x':Gu) (q':Qu):Prop where
 hi:∃held' s0',HI H' held' s0'
 rd:ZL H' thread=0
 kp:Q0 H' H
 kq:KQ W H' x' q'.q
 bb:q'.bl=q.bl/\q'.by'=q.by'
 no:x'.no=x.no
 kn:x'.kn.length+q.q.length=x.kn.length+q'.q.length
 sf:∃l,q.q=l++q'.q/\(∀k∈x.kn,k.1∉l.map (·.1)->Kept H x H' x' k)/\q'.rs=q.rs++lE W l
theorem og.refl (kq:KQ W H x q.q)(hi:HI H held s0)(hrd:ZL H thread=0):og W thread H x q H x q:=
 ⟨⟨held,s0,hi⟩,hrd,Q0.refl _,kq,⟨rfl,rfl⟩,rfl,rfl,[],rfl,λk a _=>Kept.refl a,by simp[lE]⟩
theorem og.trans (a:og W thread H x q H1 x1 q1)(c:og W thread H1 x1 q1 H2 x2 q2):og W thread H x q H2 x2 q2:=by
 obtain⟨l,i,r,g⟩:=a.sf;obtain⟨m,j,k2,k3⟩:=c.sf;refine⟨c.hi,c.rd,a.kp.trans c.kp,c.kq,⟨c.bb.1.trans a.bb.1,c.bb.2.trans a.bb.2⟩,c.no.trans a.no,by have:=a.kn;have:=c.kn;omega,l++m,by rw[i,j,zk],λk p b=>?_,by rw[k3,g,We2,zk]⟩;rw[zm,zM]at b;have d:=r k p λh=>b (.inl h);exact d.trans (k2 k d.1 λh=>b (.inr h))
theorem KQ.ck (kq:KQ W H x l)(hi:HI H held s0){e:P2}(he:e∈l):kU H x e.1=0:=by
 obtain⟨b,a,_,_⟩:=kq.k e he;unfold kU;rw[a];simp only;rw[kq.g.lost hi (ZD a)];rfl
theorem gG.st (r:gG thread H x q H' x' q')(kq:KQ W H x q.q)(hi:HI H held s0)(hcf:iU H)(hrd:ZL H thread=0):og W thread H x q H' x' q':=by
 cases r with
 | none h1 h2=>
  rename_i e r;have m:e∈q.q:=by rw[h1];exact mO
  obtain⟨b,j,_,_⟩:=kq.k e m;rcases h2 with h2|h2
  ·rw[j]at h2;cases h2
  ·exact absurd (kq.ck hi m) h2
 | stay h1 h2 h3 h4=>
  refine absurd ?_ h4;unfold l6;rw[zB (by rw[hrd];decide),h2];simp only;rw[kq.g.lost hi (ZD h2)];rfl
 | free h1 h2 h3 h4 hw op fe=>
  rename_i e r b er;have m:e∈q.q:=by rw[h1];exact mO
  obtain⟨D,j,E,A⟩:=kq.k e m;rw[h2]at j;cases j;obtain⟨C,z⟩:=kq.g.free hi h2 hw op fe hrd hcf.2.1;obtain⟨d,s1,i⟩:=op.hi;have a:=ZD h2;have u:e.1∉r.map (·.1):=by
   have:=kq.nd;rw[h1,zR,zr]at this;exact this.1
  have s:Kw H b=W e.1:=by
   unfold Kw;rw[kq.g.broken hi a,A];rfl
  refine⟨⟨d,s1,i⟩,?_,op.kp,?_,⟨rfl,rfl⟩,rfl,?_,[e],?_,λk w B=>z k w λh=>B (by simp[h]),?_⟩
  ·rw[Oz op];exact hrd
  ·have y:KQ W H x r:=by rw[h1]at kq;exact kq.tail
   exact y.step hi i C λk w p=>z k w λh=>u (h▸p)
  ·have:=FE kq.g.nd a;show(cO x.kn e.1).length+q.q.length=x.kn.length+r.length;rw[h1,zS];omega
  ·rw[h1];rfl
  ·show(if Kw H b=[]then q.rs else q.rs++[(e.1,lp (Kw H b))])=_
   rw[s];simp only[lE,pA,List.flatMap_nil,kR];split<;>simp
theorem iK.st (r:iK thread H x q H' x' q')(kq:KQ W H x q.q)(hi:HI H held s0)(hcf:iU H)(hrd:ZL H thread=0):og W thread H x q H' x' q'/\UH q'=false:=by
 induction r generalizing held s0 with
 | stop h=>exact⟨og.refl kq hi hrd,h⟩
 | next h f _ ih=>
  have s1:=f.st kq hi hcf hrd;obtain⟨a,d,b⟩:=s1.hi;obtain⟨s2,g⟩:=ih s1.kq b (hcf.bS s1.kp) s1.rd;exact⟨s1.trans s2,g⟩
theorem iB.st (r:iB thread H x q H' x' q')(kq:KQ W H x q.q)(hi:HI H held s0)(hcf:iU H)(hrd:ZL H thread=0):og W thread H x q H' x' q'/\q'.q=[]:=by
 induction r generalizing held s0 with
 | stop h=>exact⟨og.refl kq hi hrd,h⟩
 | next f _ ih=>
  have s1:=f.st kq hi hcf hrd;obtain⟨a,d,b⟩:=s1.hi;obtain⟨s2,g⟩:=ih s1.kq b (hcf.bS s1.kp) s1.rd;exact⟨s1.trans s2,g⟩
theorem dS.Lq (g:dS H x)(hi:HI H held s0)(hm:(a,b)∈x.kn):dS (dO H b) x/\(∀e∈x.kn,e.1≠a->Kept H x (dO H b) x e)/\tf (dO H b).sp b=[]:=by
 have s:=(g.i _ hm).2;have p:=Bz s;have r:∀e∈x.kn,∀z,(z∈Zi e.2\/z∈XR e.2)->(e.1=a->z∈Zi e.2)->Q1 (dO H b).sp z=Q1 H.sp z:=λe j z d A=>by
  obtain⟨⟨w,rfl⟩,y,C⟩:=(g.i e j).2.word d;show Q1 (iI H.sp (XR b) λ_=>HX) _=_;rw[KO p,zB];rintro⟨hw,_⟩;have m:=s.word (.inr hw);have:=g.apart hi j hm y C m.2.1 m.2.2;subst this;exact s.nw (A rfl) hw
 obtain⟨s1,D⟩:∃s1,HI (dO H b) held s1:=HI.iI _ _ hi;have E:dS (dO H b) x:=⟨g.live,λe j z d=>by rw[r e j z (.inl d) λ_=>d];exact g.can e j z d,g.ph,g.i,g.nd⟩;refine⟨E,λe j B=>⟨j,λz d=>r e j z (.inr d) λh=>absurd h B⟩,?_⟩;unfold tf;rw[List.filter_eq_nil_iff];intro z d;rw[E.acc D hm (.inr d)];obtain⟨⟨w,rfl⟩,y,C⟩:=s.word (.inr d);have u:=g.map hi hm y C;have:Q1 (dO H b).sp ((8*w:Nat):Int)=HX:=by
  show Q1 (iI H.sp (XR b) λ_=>HX) _=_;rw[KO p,zC ⟨d,u⟩]
 rw[this];simp
abbrev W0:Int->List Int:=λ_=>[]
theorem Je (l:List P2):lE W0 l=[]:=by simp[lE]
structure AQ (bl by':Int) (H:Hw) (x:Gu) (q:Qu) (ad fd:List Int):Prop where
 kq:KQ W0 H x q.q
 n0:0<=x.no
 nl:(ad.length:Int)<=x.no
 rs:q.rs=[]
 ov:UH q=false
 sx:∃l,fd=l++q.q.map (·.1)
 wj:x.kn.length+fd.length=ad.length+q.q.length
 th:1<=H.cf.threads
 bb:q.bl=bl/\q.by'=by'
theorem AQ.lens (al:AQ bl by' H x q ad fd):q.q.length<=fd.length/\x.kn.length<=ad.length:=by
 obtain⟨l,h⟩:=al.sx;have a:=congrArg List.length h;rw[zK,zj]at a;have:=al.wj;omega
theorem AQ.ql (al:AQ bl by' H x q ad fd)(hi:nV q):q.q.length<=64:=by
 have h:=al.ov;unfold UH at h;rw[wS,decide_eq_false_iff_not,decide_eq_false_iff_not]at h;have:=hi.bl;omega
theorem AQ.qs (al:AQ bl by' H x q ad fd)(hi:nV q)(h:ad.length<=1000):QS x q:=⟨al.kq.g.i,by have:=al.lens;omega,λe a=>by
 obtain⟨b,d,_,_⟩:=al.kq.k e a;have h:e.1=b.1/\gK b:=al.kq.g.i _ (ZD d);have p:=h.1;have A:=h.2.z;have j:=h.2.base;have y:=h.2.t;have u:=h.2.m;have r:=h.2.s;have w:=Zm (n:=b.2.1) O;unfold jv;omega,by rw[al.rs];have:=al.ql hi;simp;omega⟩
theorem JR {addr:Int}(hm:bU x.kn addr=some b)(h:mS H x q thread addr=0):ZL H thread=0/\addr∉q.q.map (·.1):=by
 unfold mS at h;by_cases h1:ZL H thread=0
 ·refine⟨h1,λa=>?_⟩;rw[zB (by rw[h1];decide),zC a]at h;cases h
 ·rw[zC h1]at h;exact absurd h h1
theorem AQ.out (al:AQ bl by' H x q ad fd)(hi:HI H held s0)(cf:iU H)(qi:nV q){e:Int}{add del:Option Int}(o:jc H x q d a H' x' q' e add del):AQ bl by' H' x' q' (ad++add.toList) (fd++del.toList)/\x'.no<=x.no+1:=by
 have J:ad++Option.toList (none:Option Int)=ad:=by simp
 have F:fd++Option.toList (none:Option Int)=fd:=by simp
 have g:=al.kq.g;cases o with
 | same e j=>rw[J,F];exact⟨al,O⟩
 | full hk hgk hne hw op hl=>
  rw[J,F];obtain⟨w,E⟩:=g.same hi op hl;obtain⟨r,s1,m⟩:=op.hi;exact⟨⟨al.kq.step hi m w λe j _=>E e j,al.n0,al.nl,al.rs,al.ov,al.sx,al.wj,by rw[op.kp.2.1];exact al.th,al.bb⟩,O⟩
 | dZ hk gr hw op=>
  rename_i b H1;rw[F];obtain⟨r,s1,m⟩:=op.hi;obtain⟨w,gk,W,_,_⟩:=g.dZ hi gr op m;have N:(x.dZ b).no=x.no+1:=rfl;have M:∃s2,HI {H1 with sp:=jS H1.sp b} r s2:=by
   obtain⟨s2,Q⟩:=HI.iI jA (Zi b) m;exact HI.iI (λ_=>0) (XR b) Q
  obtain⟨s2,L⟩:=M;refine⟨⟨al.kq.step hi L w λe j _=>W e j,by have:=al.n0;omega,?_,al.rs,al.ov,al.sx,?_,by show 1<=H1.cf.threads;rw[op.kp.2.1];exact al.th,al.bb⟩,O⟩
  ·rw[N,zK];have:=al.nl;simp;omega
  ·rw[gk,zK,zK];have:=al.wj;simp;omega
 | kS hk B hf ov=>
  rename_i b;rw[J];obtain⟨y,G⟩:=JR B hf;have C:=ZD B;obtain⟨w,E,W⟩:=g.Lq hi C;obtain⟨s1,K⟩:∃s1,HI (dO H b) held s1:=HI.iI _ _ hi;have S:KQ W0 (dO H b) x (q.q++[(a,b.2.1)]):=by
   have k0:=al.kq.step hi K w λe j z=>E e j λh=>G (h▸z);refine⟨w,λe j=>?_,?_⟩
   ·rcases zM.1 j with j|j
    ·exact k0.k e j
    ·rw[zN]at j;subst j;exact⟨b,B,rfl,W⟩
   ·rw[zm,nk];refine⟨al.kq.nd,by simp,λu hu c Z=>?_⟩;simp only[zR,pq,zN]at Z;subst Z;exact λh=>G (h▸hu)
  have A:ZL (dO H b) d.th=0:=y;obtain⟨st,V⟩:=ov.st S K cf A;obtain⟨l,h1,Q,U⟩:=st.sf;have D:=st.kn;simp only[zK,rF]at D;refine⟨⟨st.kq,by rw[st.no];exact al.n0,by rw[st.no];exact al.nl,?_,V,?_,?_,?_,⟨st.bb.1.trans al.bb.1,st.bb.2.trans al.bb.2⟩⟩,by rw[st.no];omega⟩
  ·rw[U,Je,kR];exact al.rs
  ·obtain⟨l2,h4⟩:=al.sx;refine⟨l2++l.map (·.1),?_⟩;rw[h4,zk,zk,←zm,←h1];simp
  ·have:=al.wj;simp only[qR,zK,rF];omega
  ·rw[st.kp.2.1];exact al.th
 | drain hk y dr=>
  rw[J,F];obtain⟨st,s⟩:=dr.st al.kq hi cf y;obtain⟨l,h1,Q,U⟩:=st.sf;have D:=st.kn;have aa:=al.lens;refine⟨⟨st.kq,by rw[st.no];exact al.n0,by rw[st.no];exact al.nl,?_,?_,⟨fd,by rw[s];simp⟩,?_,?_,⟨st.bb.1.trans al.bb.1,st.bb.2.trans al.bb.2⟩⟩,by rw[st.no];omega⟩
  ·rw[U,Je,kR];exact al.rs
  ·have P:=st.bb.1;have R:=st.bb.2;have:=qi.bl;have:=qi.by';unfold UH;rw[s,wS];exact⟨zJ (by rw[P];simp;omega),zJ (by rw[R];simp[gH];omega)⟩
  ·have:=al.wj;omega
  ·rw[st.kp.2.1];exact al.th
 | wrote hk ht wd=>
  rw[J,F];rcases wd with⟨h,_⟩|⟨k,hk,hin,h8,_⟩
  ·cases h
  ·have Y:=g.i k hk;obtain⟨i1,i2⟩:=hin;have hz:a∈XR k.2:=dS.jz Y.2 i1 i2 h8;obtain⟨w,E,_⟩:=g.write hi hk hz (v:=d.va);obtain⟨s1,m⟩:∃s1,HI {H with sp:=ZI H.sp a d.va} held s1:=HI.iI (λ_=>d.va) [a] hi;refine⟨⟨al.kq.step hi m w λe j z=>E e j λh=>?_,al.n0,al.nl,al.rs,al.ov,al.sx,al.wj,al.th,al.bb⟩,O⟩;subst h;obtain⟨p,hp,X⟩:=zE.1 z;have B:bU x.kn p.1=some e.2:=by rw[X];exact Qd g.nd (show(e.1,e.2)∈x.kn from j)
   have:UG x q a=true:=by
    unfold UG;rw[zy];exact⟨p,hp,by rw[B];exact zI hz⟩
   rw[ht]at this;cases this
theorem AQ.ready (al:AQ bl by' H x q ad fd):ZL H 0=0:=by
 have b:=al.th;unfold ZL;rw[zB O,UR];have a:(if 0<=(0:Int)/\(0:Int)<(H.bR.length:Int)then fF H (0:Int).toNat else none)=none:=by
  split
  ·exact al.kq.g.ph _
  ·rfl
 rw[a];rfl
end Go.Ar
namespace Go.Ar
open Go Go.Vc Go.Proofs
open Go.Vc (bU dA cO)
variable {thread:Int}{U σ0 v w w':Hp}{F P Q X T Tc:Rg}{L:dE}{H H' H1:Hw}{held:List Pc}{s0 sp:Sp}{t n:Nat}{gb km fm m pp:Nat}{x y x':Gu}{b:B5}{qb:Nat}{Qq Qr:Rg}{qs rs:Sl}{q q':Qu}
theorem gG.uP {e:P2}{r:List P2}{H2:Hw}{e2:Int}(hq:q.q=e::r)(hm:bU x.kn e.1=some b)(hck:kU H x e.1=0)(hfr:l6 H x thread e.1 false=0)(hw:KM (dO H b) thread 1 0 0 b.2.2.1 H2 0 e2)(h:gG thread H x q H' x' q') :
 H'=H2/\x'=x.gone e.1/\q'=⟨q.bl,q.by',r,if Kw H b=[]then q.rs else q.rs++[(e.1,lp (Kw H b))]⟩:=by
 cases h with
 | none h1 h2=>
  rw[hq]at h1;cases h1;rcases h2 with h2|h2
  ·rw[hm]at h2;cases h2
  ·exact absurd hck h2
 | stay h1 h2 h3 h4=>
  rw[hq]at h1;cases h1;exact absurd hfr h4
 | free h1 h2 h3 h4 hw'=>
  rw[hq]at h1;cases h1;rw[hm]at h2;cases h2;exact⟨(hw'.yq hw).1,rfl,rfl⟩
theorem iK.kT (h:iK thread H x q H' x' q')(ho:UH q=false):H'=H/\x'=x/\q'=q:=by
 cases h with
 | stop _=>exact⟨rfl,rfl,rfl⟩
 | next h _ _=>rw[ho]at h;cases h
theorem iK.nc (h:iK thread H x q H' x' q')(ho:UH q=true):∃H1 x1 q1,gG thread H x q H1 x1 q1/\iK thread H1 x1 q1 H' x' q':=by
 cases h with
 | stop h=>rw[ho]at h;cases h
 | next _ h1 h2=>exact⟨_,_,_,h1,h2⟩
theorem iB.kT (h:iB thread H x q H' x' q')(ho:q.q=[]):H'=H/\x'=x/\q'=q:=by
 cases h with
 | stop _=>exact⟨rfl,rfl,rfl⟩
 | next h _=>obtain⟨_,_,_,_,e,a⟩:=h.len;rw[ho]at a;cases a
theorem iB.nc (h:iB thread H x q H' x' q')(ho:q.q≠[]):∃H1 x1 q1,gG thread H x q H1 x1 q1/\iB thread H1 x1 q1 H' x' q':=by
 cases h with
 | stop h=>exact absurd h ho
 | next h1 h2=>exact⟨_,_,_,h1,h2⟩
theorem HO {H:Hw}{th kind size align addr:Int}{k:Hw×Int×Int}{r:Int×Int}(hk:k=(UU H th kind size align addr).getD (w0,0,99))(h2:k.2=r)(hr:r≠(0,99)):KM H th kind size align addr k.1 r.1 r.2:=by
 subst hk;cases hw:UU H th kind size align addr with
 | none=>rw[hw]at h2;exact absurd h2.symm hr
 | some s=>
  rw[hw]at h2;have:=IV hw;have e1:s.2=r:=h2;rw[←e1];exact this
def bB:B5:=(4176,24,4160,64,2)
def cB:B5:=(4240,24,4224,64,3)
def k2:Hw×Int×Int:=(UU we 0 0 56 16 0).getD (w0,0,99)
def xH:Hw:={k2.1 with sp:=jS k2.1.sp bB}
def k3:Hw×Int×Int:=(UU xH 0 0 56 16 0).getD (w0,0,99)
def uL:Hw:={k3.1 with sp:=jS k3.1.sp cB}
def OH:Gu:=gX.dZ bB
def kX:Gu:=OH.dZ cB
def uw:Hw:=dO uL gB
def sQ:Hw:=dO uw bB
def sN:Hw:=dO sQ cB
def k4:Hw×Int×Int:=(UU (dO sN gB) 0 1 0 0 4096).getD (w0,0,99)
def r8:Hw:={k4.1 with sp:=ZI k4.1.sp 4176 3}
def k6:Hw×Int×Int:=(UU (dO r8 bB) 0 1 0 0 4160).getD (w0,0,99)
def k7:Hw×Int×Int:=(UU (dO k6.1 cB) 0 1 0 0 4224).getD (w0,0,99)
theorem xX:k2.2=(4160,0)/\Kx k2.1 4160=some 64:=by decide +kernel
theorem yg:k3.2=(4224,0)/\Kx k3.1 4224=some 64:=by decide +kernel
abbrev q0:Qu:=⟨2,1000,[],[]⟩
abbrev q1:Qu:=⟨2,1000,[(4112,24)],[]⟩
abbrev q2:Qu:=⟨2,1000,[(4112,24),(4176,24)],[]⟩
abbrev q3:Qu:=⟨2,1000,[(4112,24),(4176,24),(4240,24)],[]⟩
abbrev q4:Qu:=⟨2,1000,[(4176,24),(4240,24)],[]⟩
theorem Di:mS uL kX q0 0 4112=0:=by decide +kernel
theorem BN:mS uw kX q1 0 4176=0:=by decide +kernel
theorem oT:mS sQ kX q2 0 4112=9/\mS sQ kX q2 0 4240=0/\UG kX q2 4112=true:=by decide +kernel
theorem pL:kU sN kX 4112=0/\l6 sN kX 0 4112 false=0/\Kw sN gB=[]/\k4.2=(0,0):=by decide +kernel
abbrev u7:Gu:=kX.gone 4112
theorem DI:eO k4.1.sp 4176=0:=by decide +kernel
theorem pM:ZL r8 0=0/\kU r8 u7 4176=0/\l6 r8 u7 0 4176 false=0/\Kw r8 bB=[4176]/\k6.2=(0,0):=by decide +kernel
abbrev BJ:Gu:=u7.gone 4176
theorem sg:kU k6.1 BJ 4240=0/\l6 k6.1 BJ 0 4240 false=0/\Kw k6.1 cB=[]/\k7.2=(0,0):=by decide +kernel
theorem DH:kX.kn=[(4112,gB),(4176,bB),(4240,cB)]:=by decide +kernel
theorem xA:∀e∈kX.kn,e.1=e.2.1/\gK e.2:=λe a=>by
 rw[DH]at a;simp only[zW,yV,or_false]at a;rcases a with rfl|rfl|rfl<;>exact⟨rfl,⟨by decide,by decide⟩,⟨by decide,by decide⟩,⟨by decide,by decide,by decide⟩,⟨by decide,by decide⟩,by decide⟩
theorem pf {q:Qu}(h1:∀e∈q.q,0<=e.1/\e.1<=5000)(h2:q.rs.length+q.q.length<=9000):QS kX q:=⟨xA,by rw[DH];decide,λe a=>by have:=h1 e a;exact⟨O,O⟩,h2⟩
theorem θ {q:Qu}(h1:∀e∈q.q,0<=e.1/\e.1<=5000)(h2:q.rs.length+q.q.length<=9000):QS u7 q:=⟨λe a=>xA e (zL.1 (show e∈cO kX.kn 4112 from a)).1,kx (pB _ _) (by rw[DH];decide),λe a=>by have:=h1 e a;exact⟨O,O⟩,h2⟩
theorem rR:bU kX.kn 4112=some gB/\bU kX.kn 4176=some bB/\bU kX.kn 4240=some cB:=by decide +kernel
theorem PX:bU u7.kn 4176=some bB:=by decide +kernel
theorem Oo:bU BJ.kn 4240=some cB:=by decide +kernel
attribute [local irreducible] w0 gm we k2 xH k3 uL uw sQ sN k4 r8 k6 k7
theorem SO:we = {gm.1 with sp:=jS gm.1.sp gB}:=by unfold we;rfl
theorem Oi:xH = {k2.1 with sp:=jS k2.1.sp bB}:=by unfold xH;rfl
theorem MG:uL = {k3.1 with sp:=jS k3.1.sp cB}:=by unfold uL;rfl
theorem MI:uw=dO uL gB:=by unfold uw;rfl
theorem Rz:sQ=dO uw bB:=by unfold sQ;rfl
theorem Rf:sN=dO sQ cB:=by unfold sN;rfl
theorem My:r8 = {k4.1 with sp:=ZI k4.1.sp 4176 3}:=by unfold r8;rfl
theorem Db:KM we 0 0 56 16 0 k2.1 4160 0:=HO (by unfold k2;rfl) xX.1 aB
theorem Ca:KM xH 0 0 56 16 0 k3.1 4224 0:=HO (by unfold k3;rfl) yg.1 aB
theorem DW:KM (dO sN gB) 0 1 0 0 4096 k4.1 0 0:=HO (by unfold k4;rfl) pL.2.2.2 aB
theorem Bi:KM (dO r8 bB) 0 1 0 0 4160 k6.1 0 0:=HO (by unfold k6;rfl) pM.2.2.2.2 aB
theorem Ef:KM (dO k6.1 cB) 0 1 0 0 4224 k7.1 0 0:=HO (by unfold k7;rfl) sg.2.2.2 aB
theorem qM (o:QP σ0 U L H held s0 P gb km fm x qb Qq Qr qs rs q)(gc:Gc σ0)(hno:0<=x.no/\x.no<=100000){b:B5}{H1:Hw}(hw:KM H 0 0 56 16 0 H1 b.2.2.1 0)(hu:Kx H1 b.2.2.1=some b.2.2.2.1)(hb:b.1=b.2.2.1+16/\b.2.1=24/\b.2.2.2.2=x.no+1){R:Int->Int->Hp->Prop}
 (hR:∀w,QO σ0 U w L.p gb km fm qb (ku P gb km fm qb Qq Qr) {H1 with sp:=jS H1.sp b} (x.dZ b) q->R b.1 0 w):Wp.c (aW qb) 0 24 8 U R:=by
 refine Ih o gc hno 0 24 8 (λw A=>absurd A aB) (λe w H' _ m d=>?_) λc w H2 j d op y=>?_
 ·exact absurd (d.yq hw).2.2 m
 ·obtain⟨rfl,g,_⟩:=d.yq hw;have z:c=b:=by
   have i:=j.u;rw[g,hu]at i;have r:=j.a;rw[g]at r;exact Prod.ext (r.trans hb.1.symm) (Prod.ext (j.s.trans hb.2.1.symm) (Prod.ext g (Prod.ext (Option.some.inj i).symm (j.n.trans hb.2.2.symm))))
  subst z;exact hR w y
set_option maxRecDepth 16000 in
theorem Gp (gl:Gl U)(gc:Gc U){R:aO}(hR:∀σ',aF U σ'->R true σ'):Xw.c U R:=by
 refine Xw.o ?_;unfold Xw.v;refine OS gl gc.gd λv L N e hsN hNv h0=>cD rfl ?_;have hn:=O8;have hc0:w0.cf.aG=64:=by have:=hn.pg;omega
 refine Ia e h0.cut hn.hi hn.cf O (λb hb=>⟨by have:N<=b:=hb.1;omega,hb.2⟩) (CY gl gc.gd) λw Y km Z e1 _ p=>?_;refine Fk p 2 1000 (λh=>absurd h aB) λ_ w1 e2 o=>?_;generalize w.size=qb at o;refine bX.intro (cD rfl (cD rfl ?_));refine qM (b:=gB) o gc ⟨by decide,by decide⟩ Dg Eg ⟨by decide,by decide,by decide⟩ λw2 a=>?_;obtain⟨L1,held1,s1,P1,Qq1,Qr1,qs1,rs1,o1,hp1, -, -⟩:=a;rw[←SO]at o1;refine qM (b:=bB) o1 gc ⟨by decide,by decide⟩ Db xX.2 ⟨by decide,by decide,by decide⟩ λw3 a=>?_;obtain⟨L2,held2,s2,P2,Qq2,Qr2,qs2,rs2,o2,kA, -, -⟩:=a;rw[←Oi]at o2;refine qM (b:=cB) o2 gc ⟨by decide,by decide⟩ Ca yg.2 ⟨by decide,by decide,by decide⟩ λw4 a=>?_;obtain⟨L3,y,s3,P3,Qq3,Qr3,qs3,rs3,o3,hp3, -, -⟩:=a;rw[←MG]at o3;have o3:QP U w4 L3 uL y s3 P3 Y km Z kX qb Qq3 Qr3 qs3 rs3 q0:=o3;show Wj.c (aW qb) 0 4112 w4 _;refine HV o3 gc (pf (λe he=>by simp at he) aB) aB aB 0 ⟨by decide,by decide⟩ (λw h=>absurd Di h) λw5 b H1 x1 s i _ m a=>?_;rw[rR.1]at i;cases i;obtain⟨rfl,rfl,rfl⟩:=m.kT aB;obtain⟨L5,r,s5,P5,Qq5,Qr5,qs5,rs5,o5,hp5, -, -⟩:=a;rw[←MI]at o5;have o5:QP U w5 L5 uw r s5 P5 Y km Z kX qb Qq5 Qr5 qs5 rs5 q1:=o5;refine bX.intro (cD rfl ?_);show Wj.c (aW qb) 0 4176 w5 _;refine HV o5 gc (pf aB aB) aB aB 0 ⟨by decide,by decide⟩ (λw h=>absurd BN h) λw6 b H1 x1 s i _ m a=>?_;rw[rR.2.1]at i;cases i;obtain⟨rfl,rfl,rfl⟩:=m.kT aB;obtain⟨L6,x,s6,P6,Qq6,Qr6,qs6,rs6,o6,hp6, -, -⟩:=a;rw[←Rz]at o6;have o6:QP U w6 L6 sQ x s6 P6 Y km Z kX qb Qq6 Qr6 qs6 rs6 q2:=o6;refine bX.intro (cD rfl ?_);refine Ay o6 λsl w7 Q7 e7 hs7 hQ7=>?_;have o7:=o6.fr e7;refine nw (cs:=[.int .i64 4112,.int .i64 4176]) λw8 hz8 e8 b8=>?_;have o8:=o7.fr e8;have hs8:=aI.bP hs7 e8;have ht8:cV ⟨some ⟨w7.size,0,none⟩,2,2⟩ 1 (Wx [4112,4176]) w8 (· = w7.size):=b8.fX rfl rfl λj hj=>by rw[zH];rfl
 refine IB (bT.fX hs8) ht8 aB ?_;refine bX.intro (cD aB ?_);refine HY o8 λw9 e9=>?_;have o9:=o8.fr e9;refine bX.intro (cD aB ?_);show Wj.c (aW qb) 0 4112 w9 _;refine HV o9 gc (pf aB aB) aB aB 0 ⟨by decide,by decide⟩ (λw10 _ e10=>?_) λw b H1 x1 s i h=>by rw[oT.1]at h;exact absurd h aB
 rw[oT.1];have gD:=o9.fr e10;refine cD aB ?_;show WF.c (aW qb) 4112 w10 _;refine JN gD (pf aB aB) 4112 aB (λw11 _ e11=>?_) (λe w h=>by rw[oT.2.2]at h;cases h) λw h=>by rw[oT.2.2]at h;cases h
 have o11:=gD.fr e11;refine bX.intro (cD aB ?_);show Wj.c (aW qb) 0 4240 w11 _;refine HV o11 gc (pf aB aB) aB aB 0 ⟨by decide,by decide⟩ (λw h=>absurd oT.2.1 h) λw12 b H1 x1 s i _ m a=>?_;rw[rR.2.2]at i;cases i;rw[←Rf]at m;obtain⟨H2,x2,q2',fr,m⟩:=m.nc aB;obtain⟨rfl,rfl,rfl⟩:=fr.uP (b:=gB) rfl rR.1 pL.1 pL.2.1 DW;obtain⟨rfl,rfl,rfl⟩:=m.kT (by rw[zC pL.2.2.1];decide);rw[zC pL.2.2.1]at a;obtain⟨L12,g,s12,P12,Qq12,Qr12,C,z,d,X, -, -⟩:=a;have d:QP U w12 L12 k4.1 g s12 P12 Y km Z u7 qb Qq12 Qr12 C z q4:=d;refine bX.intro (cD rfl ?_);refine Ay d λsl Q Q13 e13 G hQ13=>?_;have o13:=d.fr e13;refine nw (cs:=[.int .i64 4176,.int .i64 4240]) λw14 hz14 P b14=>?_;have B:=o13.fr P;have M:=aI.bP G P;have F:cV ⟨some ⟨Q.size,0,none⟩,2,2⟩ 1 (Wx [4176,4240]) w14 (· = Q.size):=b14.fX rfl rfl λj hj=>by rw[zH];rfl
 refine IB (bT.fX M) F aB ?_;refine bX.intro (cD aB ?_);have hp:L.p=L12.p:=by rw[X,hp6,hp5,hp3,kA,hp1]
 rw[hp];refine B.p.write gc 4176 3 aB λw15 s15 P15 e15 p15 E=>?_;have H:=B.fB (e15.sub λc hc=>.inl hc) p15 E;rw[DI];rw[←My]at H;refine cD aB ?_;refine Bg H gc (θ aB aB) 0 (λw h=>absurd pM.1 h) λw16 H3 x3 q3' _ u a=>?_;obtain⟨H4,x4,q4',fr,u⟩:=u.nc aA;obtain⟨rfl,rfl,rfl⟩:=fr.uP (b:=bB) rfl PX pM.2.1 pM.2.2.1 Bi;rw[pM.2.2.2.1]at u;obtain⟨H5,x5,q5',fr,u⟩:=u.nc aA;obtain⟨rfl,rfl,rfl⟩:=fr.uP (b:=cB) rfl Oo sg.1 sg.2.1 Ef;rw[zC sg.2.2.1]at u;obtain⟨rfl,rfl,rfl⟩:=u.kT rfl;obtain⟨L16,held16,RK,P16,Qq16,Qr16,qs16,rs16,D,hp16, -, -⟩:=a;refine bX.intro (cF aB (bX.intro (cF rfl ?_)));refine SB D λsl S Q17 e17 W hQ17=>?_;have o17:=D.fr e17;refine nw (cs:=[.int .i64 4176,.int .i64 4176]) λA hz18 K b18=>?_;have o18:=o17.fr K;have V:=aI.bP W K;have J:cV ⟨some ⟨S.size,0,none⟩,1,1⟩ 2 (gQ [(4176,4176)]) A (· = S.size):=b18.fX rfl rfl λj hj=>by rw[zH];rfl
 refine TF (bT.fX V) J aB (λ_=>?_) rfl;exact hR A o18.p.e
end Go.Ar
namespace Go.Ar
open Go Go.Vc Go.Proofs
open Go.Vc (bU dA cO)
variable {thread:Int}{U σ0 v w w':Hp}{F P Q X T T' Tc Qa Qf:Rg}{L:dE}{H H' H1:Hw}{held:List Pc}{s0 sp:Sp}{t n:Nat}{gb km fm m pp xb:Nat}{x y x':Gu}{b:B5}{qb:Nat}{Qq Qr:Rg}{qs rs addrs fl l:Sl}{ad fd:List Int}{q q':Qu}{ds:List eW}{bl by':Int}
set_option maxRecDepth 8000 in
theorem S5 (e00:aF σ0 U)(gl:Gl σ0)(gc:Gc σ0)(b b1 b2 b3 b4 b5 W7 bytes:Int){R:Option Addr->Hp->Prop}(h0:∀σ',aF U σ'->R none σ')
 (h1:∀σ' xb pp gb km fm qb T H x q addrs fl,OQ σ0 σ' xb pp gb km fm qb T (λ_=>False) (λ_=>False) H x q addrs [] fl []->AQ W7 bytes H x q [] []->x.no=0->q.q=[]->aF U σ'->R (some ⟨xb,0,none⟩) σ'):Yd.c b b1 b2 b3 b4 b5 W7 bytes U R:=by
 refine Yd.o ?_;unfold Yd.v;refine nw (cs:=[.int .i64 b,.int .i64 b1,.int .i64 b2,.int .i64 b3,.int .i64 b4,.int .i64 b5]) λv hz e a=>a.rI rfl (a.rI rfl (a.rI rfl (a.rI rfl (a.rI rfl (a.rI rfl (Xa.o ?_))))));unfold Xa.v;refine nw (cs:=[.int .i64 b,.int .i64 b1,.int .i64 b2,.int .i64 b3,.int .i64 b4,.int .i64 b5]) λQ L e1 u=>u.fE rfl ?_;have d:=e.trans e1;have i:=e1.bV a id;refine cP (λ_=>h0 Q d) λS=>?_;refine i.rI rfl (i.rI rfl (i.rI rfl (i.rI rfl (i.rI rfl (i.rI rfl ?_)))));refine Tb (gl.bP (e00.trans d)) (gc.bP (e00.trans d)).gd b b1 b2 b3 b4 b5 (λA e2=>cF rfl (h0 A (d.trans e2))) λA L0 N H0 e2 M V W m=>cD rfl ?_;have y:=(e00.trans d).trans e2;have Y:=(e00.trans d).1;refine Ia y W.cut m.hi m.cf (by have:=m.pg;omega) (λb a=>⟨by have:N<=b:=a.1;omega,a.2⟩) (CY gl gc.gd) λw gb km fm F Z p=>?_;have E3:=(d.trans e2).trans (p.e.trans (Ext.refl _ _) |> λ_=>F);refine Fk p W7 bytes (λ_=>bX.intro (cF rfl (cF rfl (h0 w E3)))) λG J P o=>bX.intro (cD rfl (cD rfl ?_));generalize hqb:w.size=qb at o;refine nw (cs:=AN L0.p qb ⟨none,0,0⟩ ⟨none,0,0⟩) λC X B z=>?_;have o5:=o.fr B;have D:QB σ0 C L0.p gb km fm qb _ H0 oM ⟨W7,bytes,[],[]⟩:=⟨L0,_,_,_,_,_,_,_,o5,rfl,rfl⟩;have s:=o.p.e.1;have E:dS H0 oM:=⟨by rw[m.live];rfl,λe r=>by simp[oM]at r,λj=>by
  unfold fF;cases hj:H0.bR[j]? with
  | none=>rfl
  | some g=>exact m.ph g (zG hj),λe r=>by simp[oM]at r,by simp[oM]⟩
 refine h1 C J.size L0.p gb km fm qb _ H0 oM ⟨W7,bytes,[],[]⟩ _ _ ⟨D,z,⟨rfl,.inl ⟨rfl,rfl⟩⟩,⟨rfl,.inl ⟨rfl,rfl⟩⟩,⟨s,λK=>?_,id,id⟩,λb a=>a.elim,λb a=>a.elim,λb a=>a.elim⟩ ⟨⟨E,λe r=>by simp at r,by simp⟩,by simp[oM],by simp[oM],rfl,?_,⟨[],rfl⟩,rfl,m.th,rfl,rfl⟩ rfl rfl ((E3.trans P).trans B)
 ·have:=Iz o K;omega
 ·unfold UH;rw[wS];exact⟨zJ aE,zJ (by simp[gH];omega)⟩
structure PQ (σ0 U:Hp) (W7 bytes:Int) (n:Nat) (xb pp gb km fm qb:Nat) (T Qa Qf:Rg) (H:Hw) (x:Gu) (q:Qu) (addrs:Sl) (ad:List Int) (fl:Sl) (fd:List Int):Prop where
 o:OQ σ0 U xb pp gb km fm qb T Qa Qf H x q addrs ad fl fd
 al:AQ W7 bytes H x q ad fd
 no:x.no<=n
 fn:fd.length<=n
theorem PQ.mJ (p:PQ σ0 U bl by' n xb pp gb km fm qb T Qa Qf H x q addrs ad fl fd)(e:aF U w):PQ σ0 w bl by' n xb pp gb km fm qb T Qa Qf H x q addrs ad fl fd:=⟨p.o.mJ e,p.al,p.no,p.fn⟩
theorem PQ.Bq (p:PQ σ0 U bl by' n xb pp gb km fm qb T Qa Qf H x q addrs ad fl fd)(hn:n<=1000):QS x q:=p.al.qs p.o.p.qi (by have:=p.al.nl;have:=p.no;omega)
theorem PQ.Oe (p:PQ σ0 U bl by' n xb pp gb km fm qb T Qa Qf H x q addrs ad fl fd)(gc:Gc σ0)(hn:n<=900)(d:eW)(di:kZ d){R:aN}
 (hR:∀e w T' H' x' q' Qa' Qf' addrs' fl' add del,PQ σ0 w bl by' (n+1) xb pp gb km fm qb T' Qa' Qf' H' x' q' addrs' (ad++Option.toList add) fl' (fd++Option.toList del)->jc H x q d (tu ad d) H' x' q' e add del->Ext (pv T xb Qa Qf) U w->(∀b,pv T' xb Qa' Qf' b->pv T xb Qa Qf b\/U.size<=b)->R e w) :
 Xo.c (aW xb) d.kd d.th d.a d.b d.of d.pl d.va d.s U R:=by
 have n0:=p.al.n0;have nl:=p.al.nl;have u:=p.no;have y:=p.fn;have m:=p.al.ql p.o.p.qi;refine S7 p.o gc (p.Bq O) ⟨n0,O⟩ O (by rw[p.al.rs,lA];omega) O O d di λe w T' H' x' q' Qa' Qf' addrs' fl' add del A out r z=>?_;obtain⟨i,s0,hi⟩:=p.o.p.hi;obtain⟨g,j⟩:=p.al.out hi p.o.p.cf p.o.p.qi out;refine hR e w T' H' x' q' Qa' Qf' addrs' fl' add del ⟨A,g,O,?_⟩ out r z;rw[zK];cases del<;>simp<;>omega
theorem PQ.mono {k:Nat}(p:PQ σ0 U bl by' n xb pp gb km fm qb T Qa Qf H x q addrs ad fl fd)(h:n<=k):PQ σ0 U bl by' k xb pp gb km fm qb T Qa Qf H x q addrs ad fl fd:=⟨p.o,p.al,by have:=p.no;omega,by have:=p.fn;omega⟩
end Go.Ar
namespace Go.Proofs
open Go.Vc
set_option maxRecDepth 100000
end Go.Proofs
namespace Go.Ar
open Go Go.Vc Go.Proofs
open Go.Vc (bU dA cO)
variable {thread a bl by':Int}{U σ0 v w w':Hp}{F P Q X T T' Tc Qa Qf:Rg}{L:dE}{H H' H1:Hw}{held:List Pc}{s0 sp:Sp}{t n:Nat}{gb km fm m pp xb:Nat}{x y x':Gu}{b:B5}{qb:Nat}{Qq Qr:Rg}{qs rs addrs fl l:Sl}{ad fd:List Int}{q q':Qu}{ds:List eW}
theorem KQ.free (kq:KQ W0 H x q.q)(hi:HI H held s0)(cf:iU H)(hm:bU x.kn a=some b)(hf:mS H x q thread a=0)(ov:iK thread (dO H b) x {q with q:=q.q++[(a,b.2.1)]} H' x' q') :
 og W0 thread (dO H b) x {q with q:=q.q++[(a,b.2.1)]} H' x' q'/\UH q'=false/\∀e∈x.kn,e.1≠a->Kept H x (dO H b) x e:=by
 obtain⟨s,i⟩:=JR hm hf;have j:=ZD hm;obtain⟨z,A,B⟩:=kq.g.Lq hi j;obtain⟨s1,m⟩:∃s1,HI (dO H b) held s1:=HI.iI _ _ hi;have w:KQ W0 (dO H b) x (q.q++[(a,b.2.1)]):=by
  have D:=kq.step hi m z λe d r=>A e d λh=>i (h▸r);refine⟨z,λe d=>?_,?_⟩
  ·rcases zM.1 d with d|d
   ·exact D.k e d
   ·rw[zN]at d;subst d;exact⟨b,hm,rfl,B⟩
  ·rw[zm,nk];refine⟨kq.nd,by simp,λu C c y=>?_⟩;simp only[zR,pq,zN]at y;subst y;exact λh=>i (h▸C)
 obtain⟨st,p⟩:=ov.st w m cf s;exact⟨st,p,A⟩
theorem KQ.mS {lq:List P2}(kq:KQ W0 H x lq)(hi:HI H held s0)(hrd:ZL H thread=0)(hm:(a,b)∈x.kn)(hnq:a∉q.q.map (·.1)):mS H x q thread a=0:=by
 unfold Go.Ar.mS;rw[zB (by rw[hrd];decide),zB hnq,Qd kq.g.nd hm];simp only;rw[kq.g.lost hi hm,kq.g.broken hi hm];rfl
theorem KQ.Bq (kq:KQ W0 H x q.q)(hk:x.kn.length<=1000)(hr:q.rs.length+q.q.length<=9000):QS x q:=⟨kq.g.i,O,λe a=>by
 obtain⟨b,d,_,_⟩:=kq.k e a;have h:e.1=b.1/\gK b:=kq.g.i _ (ZD d);have p:=h.1;have A:=h.2.z;have j:=h.2.base;have y:=h.2.t;have u:=h.2.m;have r:=h.2.s;have w:=Zm (n:=b.2.1) O;unfold jv;omega,hr⟩
theorem PQ.drain (p:PQ σ0 U bl by' n xb pp gb km fm qb T Qa Qf H x q addrs ad fl fd)(gc:Gc σ0)(hn:n<=900){R:Int->Int->Hp->Prop}
 (hR:∀w T' H' x' q',PQ σ0 w bl by' (n+1) xb pp gb km fm qb T' Qa Qf H' x' q' addrs ad fl fd->iB 0 H x q H' x' q'->q'.q=[]->R (q.q.length:Int) 0 w):WD.c (aW qb) 0 U R:=by
 have b:=p.al.ready;obtain⟨s,E,hi⟩:=p.o.p.hi;have i:=p.o.p.cf;have m:=p.o.p.qi;have J:=p.o.p;have z:=p.Bq O;obtain⟨L,u,s0,P,Qq,Qr,qs,M,D,rfl,rfl⟩:=J;refine Bg D gc z 0 (λw h=>absurd b h) λw H' x' q' _ j y=>?_;obtain⟨T',F,A,G⟩:=y.tb;obtain⟨g,B⟩:=p.al.out (d:=⟨42,0,0,0,0,0,0,.empty⟩) (a:=0) hi i m (.drain rfl b j);have r:=j.st p.al.kq hi i b;refine hR w T' H' x' q' ⟨p.o.fB A F G,?_,by have:=p.no;omega,by have:=p.fn;omega⟩ j r.2;have C:ad++Option.toList (none:Option Int)=ad:=by simp
 have K:fd++Option.toList (none:Option Int)=fd:=by simp
 rw[C,K]at g;exact g
theorem MK (p:GP σ0 U L H held s0 P gb km fm x)(g:dS H x){k:Int×B5}(hk:k∈x.kn){R:Int->Int->Int->Int->Int->Hp->Prop}(hR:∀w,aF U w->R k.2.1 k.2.2.1 k.2.2.2.1 k.2.2.2.2.1 0 w):XG.c (aW gb) k.1 U R:=by
 have b:=g.i k hk;have D:=b.1;have K:=b.2.s;refine LI p g.i k.1 (λw A u=>?_) λd w A j r=>?_
 ·exact absurd ⟨O,by show k.1<k.2.1+k.2.2.1;omega⟩ (u k hk)
 ·have m:d=k:=by
   have a:=g.i d j;obtain⟨F,y⟩:=r;have y:k.1<d.2.1+d.2.2.1:=y;have E:=Zm (n:=k.2.2.1) O;have B:=a.2.s;have M:=Zm (n:=d.2.2.1) O;have N:=b.2.z;have G:=b.2.t;have J:=a.2.z;have C:=a.2.t;exact g.apart p.hi j hk (z:=k.1) O O O O
  subst m;exact hR w A
end Go.Ar
namespace Go.Proofs
open Go.Vc
set_option maxRecDepth 100000
end Go.Proofs
namespace Go.Ar
open Go Go.Vc Go.Proofs
open Go.Vc (bU dA cO)
variable {a bl by':Int}{U σ0 v w w':Hp}{F P Q X T T' Qa Qf:Rg}{H H' H1:Hw}{held:List Pc}{s0 sp:Sp}{x y x':Gu}{b:B5}{l:Sl}{ds:List eW}{q q':Qu}{n xb pp gb km fm qb:Nat}{addrs fl:Sl}{ad fd:List Int}{d:eW}{e:Int}{add del:Option Int}
theorem iB.nil {thread:Int}(h:iB thread H x q H' x' q'):q'.q=[]:=by
 induction h with
 | stop h=>exact h
 | next _ _ ih=>exact ih
theorem jc.order (o:jc H x q d a H' x' q' e add del)(h:d.kd≠42)(hd:del=none):q'=q:=by
 cases o with
 | same=>rfl
 | full=>rfl
 | dZ=>rfl
 | kS=>cases hd
 | drain hk=>exact absurd hk h
 | wrote=>rfl
theorem PQ.SE (p:PQ σ0 U bl by' n xb pp gb km fm qb T Qa Qf H x q addrs ad fl fd){c:Nat}(h:pv T xb Qa Qf c):σ0.size<=c/\c<U.size:=by
 rcases h with h|rfl|h|h
 ·exact p.o.p.lt h
 ·exact⟨p.o.qH.1,p.o.b.lt⟩
 ·have:=p.o.qa c h;exact⟨this.1,this.2.1⟩
 ·have:=p.o.qf c h;exact⟨this.1,this.2.1⟩
end Go.Ar
namespace Go.Proofs
open Go.Vc
set_option maxRecDepth 100000
def WP.h:Hn:=.q .o2 (.q .o5 (.q (.q (.cU (.seq [.op,.op,.op,.cX false 2 [.op,.op]])) .aJ) (.q (.q .o1 (.k (.loop [(10,.I)] (.q (.q .o4 (.c .l .l)) (.q (.k (.q (.cU (.held true [] (.tk [0,1,2,3,5,6,7,8] (.all [(4,.all [(9,.take 10 (.take 11 (.done)))])])))) (.q (.cU (.tail 8 (RI.ops 8) [.op,.op])) (.q (.o 13) (.q .o7 (.q .o6 (.q (.q (.cU (.held true [] (.take 0 (.take 1 (.take 2 (.take 3 (.take 5 (.take 6 (.take 7 (.take 8 (.take 10 (.all [(4,.all [(9,.all [(11,.take 12 (.done))])])])))))))))))) .aK) (.q (.cU (.seq [.op,.op,.op,.op,.op,.op,.op,.cX true 2 [.op,.op],.op,.cX true 4 (RI.ops 4),.op,.cX true 6 (RI.ops 6),.op,.cX true 6 (RI.ops 6)])) .aK)))))))) .o3))))) .aL)))
def WP.v (a b c d e f g h:Int)(i:Sl)(j:Hp)(k:aO):Prop:=aV #[.I a,.I b,.I c,.I d,.I e,.I f] 25 j λl m=>aQ l 0 m λn=>aQ l 1 m λo=>aQ l 2 m λp=>aQ l 3 m λq=>aQ l 4 m λr=>aQ l 5 m λs=>Yd.c n o p q r s g h m λt u=>bX (λv w=>If v (Xw.c w λx y=>k x y) (X8 [bO] (λz=>z 0 w) λaa (ab:Int) ac=>If (ab<((i.len:Nat):Int)) (dW ac λad=>bW t λae=>aU ad ae 1 λaf=>bW t λag=>aU ad ag 1 λah=>Wy.c af ac λai aj=>And (ad aj) <| Wt.c ah aj λak al=>And (ad al) <| bF t 2 al λan=>Ix i.a i.len ab 8 λao=>aQ ao 0 al λap=>aQ ao 1 al λaq=>aQ ao 2 al λar=>aQ ao 3 al λau=>aQ ao 4 al λav=>aQ ao 5 al λaw=>aQ ao 6 al λax=>bD ao 7 al λay=>Ys.c an ap aq ar au av aw ax ay al λaz a0=>bG t 1 a0 λa2=>WL.c a2 a0 λa3 a4=>XG.c a3 az a4 λa5 a6 a7 a8 a9 ba=>aV #[.I 0,.I 0,.I 0,.I 0] 48 ba λbb bc=>aR bb 0 (.I a5) bc λbd=>aR bb 1 (.I a6) bd λbe=>aR bb 2 (.I a7) be λbf=>aR bb 3 (.I a8) bf λbg=>Ix i.a i.len ab 8 λbh=>aQ bh 0 bg λbi=>aQ bh 1 bg λbj=>aQ bh 2 bg λbk=>aQ bh 3 bg λbl=>aQ bh 4 bg λbm=>aQ bh 5 bg λbn=>aQ bh 6 bg λbo=>bD bh 7 bg λbp=>
 Xo.c t bi bj bk bl bm bn bo bp bg λbq br=>bG t 1 br λbt=>Wy.c bt br λbu bv=>dW bv λbw=>bW t λbx=>aU bw bx 1 λbz=>bW t λb0=>aU bw b0 1 λb1=>Wt.c bz bv λb2 b3=>And (bw b3) <| WL.c b1 b3 λb4 b5=>And (bw b5) <| XO.c b4 bu b5 λb6 b7=>And (bw b7) <| If (b2 != b6) (k false b7) (Ix i.a i.len ab 8 λb8=>aQ b8 0 b7 λb9=>bX (λca cb=>bX (λcc cd=>bX (λce cf=>bX (λcg ch=>If cg (k false ch) (bM (ab+1) λci=>aa ci ch)) λcj=>If ce (bM (((ai.len:Nat):Int)+1) λck=>cj (((bu.len:Nat):Int) != ck) cf) (cj false cf)) λcl=>If cc (aQ bb 1 cd λcm=>bM (ak+cm) λcn=>cl (decide (cn<=h)) cd) (cl false cd)) λco=>If ca (co (decide (((ai.len:Nat):Int)<g)) cb) (co false cb)) λcp=>If (b9==41) (cp (bq==0) b7) (cp false b7))) (Xw.c ac λcq cr=>k cq cr))) λcs=>If t.isNone (cs true u) (Yc.c i 50 u λct cu=>cs ct cu)
theorem WP.o {a b c d e f g h i j k}(l:WP.v a b c d e f g h i j k):WP.c a b c d e f g h i j k:=Wa Tryz.func5 (x:=WP.h) (R0 l)
end Go.Proofs
namespace Go.Ar
open Go Go.Vc Go.Proofs
open Go.Vc (bU dA cO)
variable {a bl by':Int}{U σ0 v w w':Hp}{F P Q X T T' Qa Qf Qq Qr:Rg}{L:dE}{H H' H1:Hw}{held:List Pc}{s0 sp:Sp}{x y x':Gu}{b:B5}{l:Sl}{ds:List eW}{q q':Qu}{n xb pp gb km fm qb:Nat}{addrs fl qs rs:Sl}{ad fd:List Int}{d:eW}{e:Int}{add del:Option Int}
theorem jc.xS (o:jc H x q d a H' x' q' e add del)(h:d.kd=41)(he:e=0):∃b,bU x.kn a=some b/\((q.q.length:Int)+1<=q.bl->gH q.q+b.2.1<=q.by'->q'.q.length=q.q.length+1):=by
 cases o with
 | same _ hh=>exact absurd h (hh he).2.1
 | full hk=>rw[h]at hk;cases hk
 | dZ hk=>rw[h]at hk;cases hk
 | kS hk hm hf ov=>
  rename_i b;refine⟨b,hm,λi j=>?_⟩;have g:UH {q with q:=q.q++[(a,b.2.1)]}=false:=by
   unfold UH;rw[wS,decide_eq_false_iff_not,decide_eq_false_iff_not];simp only[zK,rF,Bn];omega
  obtain⟨_,_,rfl⟩:=ov.kT g;simp
 | drain hk=>rw[h]at hk;cases hk
 | wrote hk=>rw[h]at hk;cases hk
theorem No {l:List P2}{i:Nat}{e:P2}(h:l[i]?=some e):gH (l.take (i+1))=gH (l.take i)+e.2:=by
 rw[ka,h,qR,Bn]
theorem Mc (qp:QP σ0 U L H held s0 P gb km fm x qb Qq Qr qs rs q)(kq:KQ W0 H x q.q){s:Sl}(hs:bT s 1 (Wx (q.q.map (·.1))) U Q){R:aN}(hR:∀w,aF U w->R (gH q.q) w):XO.c (aW gb) s U R:=by
 refine XO.o ?_;unfold XO.v;have F:s.len=q.q.length:=by have:=hs.1;simp[Wx]at this;omega
 have D:=qp.i.ql;refine Ux (a:=bO) (bb:=bO) (λ(n z:Int) u=>aF U u/\∃i:Nat,z=i/\i<=q.q.length/\n=gH (q.q.take i)) (λ_ z _=>q.q.length-z.toNat) ⟨Ext.refl _ _,0,rfl,O,by simp[gH]⟩ ?_;rintro(n:Int) (z:Int) u ⟨eu,i,rfl,hi,rfl⟩;refine cP (λJ=>?_) λM=>?_
 ·have b:q.q[i]?=some (q.q[i]' O):=cW _;generalize (q.q[i]' O)=ee at b;obtain⟨y,B,d,_⟩:=kq.k ee (zG b);have r:(q.q.map (·.1))[i]?=some ee.1:=by rw[zZ,b];rfl
  have N:1<=y.2.1/\y.2.1<=1024:=(kq.g.i _ (ZD B)).2.s;refine(bT.fX (aI.bP hs eu)).lL r (MK (k:=(ee.1,y)) (qp.fr eu).p kq.g (ZD B) λw K=>nS λS e2 j=>j.rI rfl ?_);have A:=No b;have E:=CZ (l:=q.q.take i) λe G=>qp.i.qs e (uf G);have C:(q.q.take i).length<=66:=by rw[zY];omega
  refine ar aC aC (cT (m:=i+1) O O ⟨⟨(eu.trans K).trans e2,i+1,rfl,O,?_⟩,O⟩);rw[A,d]
 ·have:i=q.q.length:=by omega
  subst this;rw[lN];exact hR u eu
theorem Mi (p:GP σ0 U L H held s0 P gb km fm x)(g:dS H x)(addr:Int){R:Int->Int->Int->Int->Int->Hp->Prop}(hR:∀c0 c1 c2 c3 er w,aF U w->(∀bk,bU x.kn addr=some bk->c1=bk.2.1)->0<=c1/\c1<=1024->R c0 c1 c2 c3 er w):XG.c (aW gb) addr U R:=by
 have d:∀bk,bU x.kn addr=some bk->CA addr bk:=λbk a=>by
  have h:addr=bk.1/\gK bk:=g.i _ (ZD a);have J:=h.2.s;exact⟨O,by show addr<bk.1+bk.2.1;omega⟩
 refine LI p g.i addr (λw y m=>hR _ _ _ _ _ w y (λbk a=>absurd (d bk a) (m _ (ZD a))) O) λk w y u j=>hR _ _ _ _ _ w y (λbk a=>?_) (by have:=(g.i k u).2.s;omega);have C:=d bk a;obtain⟨F,B⟩:=C;obtain⟨K,A⟩:=j;have B:addr<bk.1+bk.2.1:=B;have A:addr<k.2.1+k.2.2.1:=A;have r:addr=bk.1/\gK bk:=g.i _ (ZD a);have b:=g.i k u;have E:=Zm (n:=k.2.2.1) (by have:=b.2.s;omega);have N:=Zm (n:=bk.2.1) (by have:=r.2.s;omega);have Q:=b.2.z;have G:=b.2.t;have M:=r.2.z;have D:=r.2.t;have:k=(addr,bk):=g.apart p.hi u (ZD a) (z:=addr) O O (by show bk.2.2.1<=addr;omega) (by show addr<bk.2.2.1+bk.2.2.2.1;omega);rw[this]
set_option maxRecDepth 16000 in
theorem WeR (gl:Gl U)(gc:Gc U)(b b1 b2 b3 b4 b5 W7 bytes:Int)(hd:jZ U l ds){R:aO}(hR:∀σ',aF U σ'->R true σ'):WP.c b b1 b2 b3 b4 b5 W7 bytes l U R:=by
 refine WP.o ?_;unfold WP.v;refine nw (cs:=[.int .i64 b,.int .i64 b1,.int .i64 b2,.int .i64 b3,.int .i64 b4,.int .i64 b5]) λv hz e Y=>Y.rI rfl (Y.rI rfl (Y.rI rfl (Y.rI rfl (Y.rI rfl (Y.rI rfl ?_)))));have L:=gl.bP e;have G:=gc.bP e;have Q:=hd.bP e;have hl:=hd.len;have hbig:=hd.yM;refine S5 (σ0:=v) (Ext.refl _ _) L G b b1 b2 b3 b4 b5 W7 bytes (λv1 e1=>?_) λv1 xb pp gb km fm Z T H x q B fl o al hno hqe e1=>?_
 ·exact bX.intro (cF rfl (cF rfl (Gp (L.bP e1) (G.bP e1) λv2 e2=>hR v2 ((e.trans e1).trans e2))))
 refine bX.intro (cD rfl (OI (cP (λ_=>Gp (L.bP e1) (G.bP e1) λv2 e2=>hR v2 ((e.trans e1).trans e2)) λhlm=>?_)));refine Qz (a:=bO) (λ(z:Int) u=>∃(i:Nat) (T Qa Qf:Rg) (H:Hw) (x:Gu) (q:Qu) (B:Sl) (ad:List Int) (fl:Sl) (fd:List Int),z=i/\i<=ds.length/\PQ v u W7 bytes i xb pp gb km fm Z T Qa Qf H x q B ad fl fd) (λz _=>ds.length-z.toNat)
  ⟨0,T,_,_,H,x,q,B,[],fl,[],rfl,O,⟨o,al,O,by simp⟩⟩ ?_
 rintro(z:Int) u ⟨i,T,Qa,Qf,H,x,q,B,ad,fl,fd,rfl,hi,p⟩;have eu:=p.o.p.e;refine cP (λhlt=>?_) λhge=>Gp (L.bP eu) (G.bP eu) λv2 e2=>hR v2 ((e.trans eu).trans e2);have hx:ds[i]?=some (ds[i]' O):=cW _;generalize (ds[i]' O)=d at hx;have hdi:=hd.i _ (zG hx);obtain⟨L0,hh0,s00,P0,Qq0,Qr0,qs0,rs0,X,hpp0,_⟩:=p.o.p;refine⟨λm=>aF u m,Ext.refl _ _,bL (gL (c:=.p) (y:=some ⟨Z,0,none⟩) (λm e=>e.bV p.o.b id) rfl (bL (gL (c:=.p) (y:=some ⟨Z,0,none⟩) (λm e=>e.bV p.o.b id) rfl (Ay X λsb v5 Qb eb aa hQb=>⟨eb,HY (X.fr eb) λv6 e6=>⟨eb.trans e6,?_⟩⟩))))⟩;have hsl:sb.len=q.q.length:=by have:=aa.1;simp[Wx]at this;omega
 have p6:=(p.mJ eb).mJ e6;have A:=p6.o.p.e;have qp6:=(X.fr eb).fr e6;refine bL (p6.o.b.rS rfl (Q.rd A hx λba oa s=>dR (s _ A 0 _ rfl) (dR (s _ A 1 _ rfl) (dR (s _ A 2 _ rfl) (dR (s _ A 3 _ rfl) (dR (s _ A 4 _ rfl) (dR (s _ A 5 _ rfl) (dR (s _ A 6 _ rfl) (yf (s _ A 7 _ rfl) ?_)))))))));refine Fl (bT.fX p6.o.ra) d λv7 e7=>?_;have p7:=p6.mJ e7;have qp7:=qp6.fr e7;have g:=p.al.kq.g;refine bL (p7.o.b.rP rfl (J0 qp7 (Mi qp7.p g _ λc0 c1 c2 c3 er v9 e9 hc1 hcb=>nS λv14 e14 hb14=>?_)));have p14:=(p7.mJ e9).mJ e14;have j:=p14.o.p.e;have z7:=e9.1;have hsb14:=aI.bP (aI.bP (aI.bP (aI.bP aa e6) e7) e9) e14;refine Q.rd j hx λba oa s=>dR (s _ j 0 _ rfl) (dR (s _ j 1 _ rfl) (dR (s _ j 2 _ rfl) (dR (s _ j 3 _ rfl) (dR (s _ j 4 _ rfl) (dR (s _ j 5 _ rfl) (dR (s _ j 6 _ rfl) (yf (s _ j 7 _ rfl) ?_)))))));refine p14.Oe G O d hdi λve v15 T' H' x' q' Qa' Qf' K fl' add del N out eT hT=>?_;have hb15:bY v15 v9.size (lh (c0,c1,c2,c3)):=eT.bV hb14 λh=>by
  have h1:=((p7.mJ e9).SE h).2;omega
 refine bL (N.o.b.rP rfl ?_);obtain⟨L1,hh1,s01,P1,Qq1,Qr1,qs1,rs1,qp1,hpp1,hT1⟩:=N.o.p;refine Ay qp1 λsh v16 Qh eh hsh hQh=>?_;have S:sh.len=q'.q.length:=by have:=hsh.1;simp[Wx]at this;omega
 have W:=N.mJ eh;have F:=qp1.fr eh;refine⟨λm=>aF v16 m,Ext.refl _ _,bL (gL (c:=.p) (y:=some ⟨Z,0,none⟩) (λm e=>e.bV W.o.b id) rfl (bL (gL (c:=.p) (y:=some ⟨Z,0,none⟩) (λm e=>e.bV W.o.b id) rfl (HY F λv17 C=>⟨C,J0 (F.fr C) ⟨C,Mc (F.fr C) N.al.kq (aI.bP hsh C) λv19 V=>⟨C.trans V,cD aA ?_⟩⟩⟩))))⟩;have p19:=(W.mJ C).mJ V;have P:=p19.o.p.e;have hb19:=V.bV (C.bV (eh.bV hb15 id) id) id;refine Q.rd P hx λba oa s=>dR (s _ P 0 _ rfl) ?_;have hqi:=p.o.p.qi;have hqs:=CZ hqi.qs;have hql:=hqi.ql;have hbb:=p.al.bb;refine Kr (λr u=>u=v19/\r=decide (d.kd=41/\ve=0)) (λr u ⟨hu,M⟩=>?_) λJ E=>cN (λh=>E _ _ ⟨rfl,?_⟩) λh=>E _ _ ⟨rfl,?_⟩
 rotate_left
 ·have:d.kd=41:=by simpa using h
  rw[j0,decide_eq_true_iff,zU];exact⟨λh=>⟨this,h⟩,λh=>h.2⟩
 ·have:¬d.kd=41:=by simpa using h
  rw[zJ];exact λh=>this h.1
 subst hu;refine Kr (λr w=>w=u/\r=decide ((d.kd=41/\ve=0)/\(q.q.length:Int)<W7)) (λr w ⟨hw,M⟩=>?_) λJ E=>cN (λh=>E _ _ ⟨rfl,?_⟩) λh=>E _ _ ⟨rfl,?_⟩
 rotate_left
 ·rw[M,decide_eq_true_iff]at h;rw[hsl,j0,decide_eq_true_iff,decide_eq_true_iff];exact⟨λD=>⟨h,D⟩,λD=>D.2⟩
 ·rw[M,decide_eq_false_iff_not]at h;rw[zJ];exact λD=>h D.1
 subst hw;refine Kr (λr u=>u=w/\r=decide (((d.kd=41/\ve=0)/\(q.q.length:Int)<W7)/\gH q.q+c1<=bytes)) (λr u ⟨hu,M⟩=>?_) λJ E=>cN (λh=>hb19.rI rfl (ar aC aC (E _ _ ⟨rfl,?_⟩))) λh=>E _ _ ⟨rfl,?_⟩
 rotate_left
 ·rw[M,decide_eq_true_iff]at h;rw[j0,decide_eq_true_iff,decide_eq_true_iff];exact⟨λD=>⟨h,D⟩,λD=>D.2⟩
 ·rw[M,decide_eq_false_iff_not]at h;rw[zJ];exact λD=>h D.1
 subst hu;refine Kr (λr w=>w=u/\r=false) (λr w ⟨hw,M⟩=>?_) λJ E=>cN (λh=>cT (m:=sb.len+1) O O (E _ _ ⟨rfl,?_⟩)) λh=>E _ _ ⟨rfl,rfl⟩
 ·subst hw;exact cD M (cT (m:=i+1) O O ⟨⟨i+1,T',Qa',Qf',H',x',q',K,_,fl',_,rfl,O,p19⟩,O⟩)
 ·rw[M,decide_eq_true_iff]at h;obtain⟨⟨⟨h1,h2⟩,h3⟩,h4⟩:=h;obtain⟨bk,hm,hlim⟩:=out.xS h1 h2;have hcc:=hc1 bk hm;have:=hlim O O;rw[bne_eq_false_iff_eq,S,hsl];omega
end Go.Ar
namespace Go.Ar
open Go Go.Vc Go.Proofs Go.ChangeShapes Go.WideShapes Go.RowKit Go.Deep
theorem G0 {H:Type}{enc:TypeId×Value->H}{P:Program}{w:World}{base:Nat}{sp:Nat->Bool}{held:Bool}{fuel:Nat}{t:TypeId}{c:Value}{y:DataW H×List MemPlace}
 (ht:P.underlying t=some .bool) (h:DataW.trod enc P w base sp held fuel t [c]=some y):∃n,c=.bool n/\y=(.lit (.bool n),[]):=by
 cases fuel with
 | zero=>simp[DataW.trod]at h
 | succ fuel=>
  cases c<;>simp[DataW.trod,ht]at h
  rename_i n;exact⟨n,rfl,by simpa using h.symm⟩
theorem Df {P:Program}{w:World}{t:TypeId}{f0 f1:Field}{cs:Array Value}{fuel:Nat}{p:List MemPlace}{x y:Bool}(ht:P.underlying t=some (.struct #[f0,f1]))(hone:oneCellFields P #[f0,f1]=true)(hC:P.cellsOf t=2)
 (h0:P.underlying f0.type=some .bool) (h1:P.underlying f1.type=some .bool) (h:DataW.trod (λ_=>()) P w 0 (λ_=>true) false fuel t cs.toList=some (.agg [.lit (.bool x),.lit (.bool y)],p)):cs = #[.bool x,.bool y]:=by
 obtain⟨u,n,z,m,a,g,b⟩:=DataW.trod_struct ht h;obtain⟨l⟩:=cs;have d:l.length=2:=by rw[←hC];simpa using a
 match l,d with
 | [c0,c1],_=>
  have j:=b 0 f0 rfl;have i:=b 1 f1 rfl;obtain⟨r,q0⟩:=hone_of hone 0 f0 rfl;obtain⟨o1,q1⟩:=hone_of hone 1 f1 rfl;rw[r,q0]at j;rw[o1,q1]at i
  match u,g with
  | [y0,y1],_=>
   obtain⟨A,rfl,s⟩:=G0 h0 (c:=c0) (y:=y0) (by simpa using j);obtain⟨B,rfl,e1⟩:=G0 h1 (c:=c1) (y:=y1) (by simpa using i);subst s;subst e1;simp at m;obtain⟨⟨rfl,rfl⟩,_⟩:=m;rfl
theorem GV {w:World}{a:Addr}{v:Value}(h:w.cell? a=some v):cell w.heap a=some v:=h
section
variable {H:Type}{enc:TypeId×Value->H}{P:Program}{w:World}
theorem MW {x:Int}(h:(Lit.int .i64 x).wf=true):jv x:=by
 unfold jv;simp[Lit.wf,IntKind.min,IntKind.max,IntKind.bits,IntKind.signed]at h;omega
theorem Sn {t:TypeId}{f0 f1 f2 f3 f4 f5 f6 f7:Field}{fuel:Nat}{cs:List Value}{y:DataW H×List MemPlace}
 (ht:P.underlying t=some (.struct #[f0,f1,f2,f3,f4,f5,f6,f7])) (hone:oneCellFields P #[f0,f1,f2,f3,f4,f5,f6,f7]=true) (hC:P.cellsOf t=8)
 (h0:P.underlying f0.type=some (.int .i64)) (h1:P.underlying f1.type=some (.int .i64)) (h2:P.underlying f2.type=some (.int .i64)) (h3:P.underlying f3.type=some (.int .i64)) (h4:P.underlying f4.type=some (.int .i64)) (h5:P.underlying f5.type=some (.int .i64)) (h6:P.underlying f6.type=some (.int .i64)) (h7:P.underlying f7.type=some .string)
 (h:DataW.trod enc P w 0 (λ_=>true) true fuel t cs=some y):∃d:eW,cs=ur d/\kZ d:=by
 obtain⟨B,n,V,W,b,p,r⟩:=DataW.trod_struct ht h;have i:cs.length=8:=by rw[←hC];exact b
 match cs,i with
 | [c0,c1,c2,c3,c4,c5,c6,c7],_=>
  have one:∀(j:Nat) (f:Field) (c:Value),(#[f0,f1,f2,f3,f4,f5,f6,f7]:Array Field)[j]?=some f->[c0,c1,c2,c3,c4,c5,c6,c7][j]?=some c->∃z,DataW.trod enc P w 0 (λ_=>true) true n f.type [c]=some z:=by
   intro j f c hj hc;obtain⟨D,F⟩:=hone_of hone j f hj;have h3:=r j f hj;rw[D,F]at h3;have a:=(cY.1 hc).1;have e1:([c0,c1,c2,c3,c4,c5,c6,c7].drop j).take 1=[c]:=by
    rw[xz a,vu,wb,(cY.1 hc).2]
   rw[e1]at h3;have m:B[j]?=some (B[j]'(by rw[p];simp at a ⊢;omega)):=cW _;rw[m]at h3;exact⟨_,h3⟩
  have int:∀(j:Nat) (f:Field) (c:Value),(#[f0,f1,f2,f3,f4,f5,f6,f7]:Array Field)[j]?=some f->[c0,c1,c2,c3,c4,c5,c6,c7][j]?=some c->P.underlying f.type=some (.int .i64)->∃x:Int,c=.int .i64 x/\jv x:=by
   intro j f c hj hc hu;obtain⟨z,u⟩:=one j f c hj hc;obtain⟨x,g,_,N⟩:=DataW.trod_int hu u;simp only[List.cons.injEq,and_true]at g;exact⟨x,g,MW N⟩
  obtain⟨S,rfl,_⟩:=int 0 f0 c0 rfl rfl h0;obtain⟨U,rfl,_⟩:=int 1 f1 c1 rfl rfl h1;obtain⟨R,rfl,K⟩:=int 2 f2 c2 rfl rfl h2;obtain⟨E,rfl,C⟩:=int 3 f3 c3 rfl rfl h3;obtain⟨G,rfl,_⟩:=int 4 f4 c4 rfl rfl h4;obtain⟨M,rfl,L⟩:=int 5 f5 c5 rfl rfl h5;obtain⟨J,rfl,Q⟩:=int 6 f6 c6 rfl rfl h6;obtain⟨z,u⟩:=one 7 f7 c7 rfl rfl;obtain⟨s,A,_⟩:=DataW.trod_string h7 u;simp only[List.cons.injEq,and_true]at A;subst A;exact⟨⟨S,U,R,E,G,M,J,s⟩,rfl,K,C,L,Q⟩
theorem Ro {t e:TypeId}{f0 f1 f2 f3 f4 f5 f6 f7:Field}{a:Option Addr}{len cap:Nat}{d:DataW H}{ps:List MemPlace}
 (htl:P.underlying t=some (.slice e)) (ht:P.underlying e=some (.struct #[f0,f1,f2,f3,f4,f5,f6,f7])) (hone:oneCellFields P #[f0,f1,f2,f3,f4,f5,f6,f7]=true) (hC:P.cellsOf e=8)
 (h0:P.underlying f0.type=some (.int .i64)) (h1:P.underlying f1.type=some (.int .i64)) (h2:P.underlying f2.type=some (.int .i64)) (h3:P.underlying f3.type=some (.int .i64)) (h4:P.underlying f4.type=some (.int .i64)) (h5:P.underlying f5.type=some (.int .i64)) (h6:P.underlying f6.type=some (.int .i64)) (h7:P.underlying f7.type=some .string)
 (h:DataW.Trod enc P w 0 (λ_=>true) true t (.slice a len cap) d ps):∃ds,jZ w.heap ⟨a,len,cap⟩ ds:=by
 obtain⟨N,R⟩:=h;rcases open_slice htl R with⟨p,_⟩|⟨ad,len',cap',m,n,D,Pl,p,_,hl,hm,hmm,y,hi⟩
 ·simp[Value.cells]at p;obtain⟨rfl,rfl,rfl⟩:=p;exact⟨[],rfl,λi x y=>by simp at y,by simp,by simp⟩
 ·simp[Value.cells]at p;obtain⟨rfl,rfl,rfl⟩:=p;have V:m=cap:=by simpa using hmm
  have key:∀i,i<len->∃u:eW,(∀j v,(ur u)[j]?=some v->cell w.heap ((ad.add (i*8)).add j)=some v)/\kZ u:=by
   intro i r;obtain⟨S,C,J⟩:=hi i O;rw[hC]at C;obtain⟨x,p,K⟩:=Sn ht hone hC h0 h1 h2 h3 h4 h5 h6 h7 J;obtain⟨_,Q,G⟩:=World.cells?_some C;refine⟨x,λj v E=>?_,K⟩;have U:=(cY.1 E).1;have:=G j (by simpa[ur]using U);rw[p]at this;rw[E]at this;exact this
  let g:Nat->eW:=λi=>if hi:i<len then(key i hi).choose else⟨0,0,0,0,0,0,0,ByteArray.empty⟩
  have M:∀i,(hi:i<len)->g i=(key i hi).choose:=λi hi=>by simp only[g,hi,dif_pos]
  refine⟨(List.range len).map g,by simp,λi x y=>?_,λx y=>?_,?_⟩
  ·have r:i<len:=by
    have:=(cY.1 y).1;simpa using this
   have A:g i=x:=by simpa[r]using y
   rw[M i r]at A;have B:=(key i r).choose_spec;rw[A]at B;obtain⟨C,_⟩:=B;have L:=(key 0 O).choose_spec.1;have F:=L 0 _ rfl;have z:=Lw F;simp only[vO,Addr.add_zero']at z;obtain⟨b,o,s⟩:=ad;have B:s=none:=z.2;subst B;refine⟨b,o,rfl,z.1,λj v E=>?_⟩;have:=C j v E;rw[add_lit,add_lit]at this;exact this
  ·obtain⟨i,hi,rfl⟩:=zE.1 y;have r:=zg.1 hi;rw[M i r];exact(key i r).choose_spec.2
  ·have:maxLen=9223372036854775807:=rfl;simp;omega
theorem Φ {b0:Nat}{t:TypeId}{f0 f1 g0 g1 g2 g3 g4:Field}{v:Value}{d:DataW H}{ps:List MemPlace}
 (ht:P.underlying t=some (.struct #[f0,f1])) (hC:P.cellsOf t=6) (ho:f0.offset=0/\P.cellsOf f0.type=1/\f1.offset=1/\P.cellsOf f1.type=5)
 (h0:P.underlying f0.type=some (.int .i64)) (h1:P.underlying f1.type=some (.struct #[g0,g1,g2,g3,g4])) (hone:oneCellFields P #[g0,g1,g2,g3,g4]=true)
 (k0:P.underlying g0.type=some (.int .i64)) (k1:P.underlying g1.type=some (.int .i64)) (k2:P.underlying g2.type=some (.int .i64)) (k3:P.underlying g3.type=some (.int .i64)) (k4:P.underlying g4.type=some (.int .i64))
 (hval:Value.okWide P w .any b0 t v) (h:DataW.Trod enc P w 0 (λ_=>true) true t v d ps):∃(x0 x1 x2 x3 x4 x5:Int),v=.agg #[.int .i64 x0,.int .i64 x1,.int .i64 x2,.int .i64 x3,.int .i64 x4,.int .i64 x5]:=by
 unfold Value.okWide at hval;rw[ht]at hval;obtain⟨L,rfl,m,_⟩:=hval;obtain⟨b,r⟩:=h;obtain⟨l⟩:=L;have s:l.length=6:=by rw[←hC];simpa using m
 obtain⟨E,p,D,B⟩:=ho
 match l,s with
 | [c0,c1,c2,c3,c4,c5],_=>
  have r:DataW.trod enc P w 0 (λ_=>true) true b t [c0,c1,c2,c3,c4,c5]=some (d,ps):=r;obtain⟨y0,y1,n,_,_,q0,q1⟩:=trod_struct2 ht r;rw[E,p]at q0;rw[D,B]at q1;have u:DataW.trod enc P w 0 (λ_=>true) true n f0.type [c0]=some y0:=q0;have F:DataW.trod enc P w 0 (λ_=>true) true n f1.type [c1,c2,c3,c4,c5]=some y1:=q1;obtain⟨x0,g,_,_⟩:=DataW.trod_int h0 u;simp only[List.cons.injEq,and_true]at g;subst g;obtain⟨G,n,M,N,J,C,z⟩:=DataW.trod_struct h1 F;have int:∀(j:Nat) (f:Field) (c:Value),(#[g0,g1,g2,g3,g4]:Array Field)[j]?=some f->[c1,c2,c3,c4,c5][j]?=some c->P.underlying f.type=some (.int .i64)->∃x:Int,c=.int .i64 x:=by
   intro j f c hj hc hu;obtain⟨ho,K⟩:=hone_of hone j f hj;have i:=z j f hj;rw[ho,K]at i;have a:=(cY.1 hc).1;have e1:([c1,c2,c3,c4,c5].drop j).take 1=[c]:=by
    rw[xz a,vu,wb,(cY.1 hc).2]
   rw[e1]at i;have y:G[j]?=some (G[j]'(by rw[C];simp at a ⊢;omega)):=cW _;rw[y]at i;obtain⟨x,A,_,_⟩:=DataW.trod_int hu i;exact⟨x,by simpa using A⟩
  obtain⟨x1,rfl⟩:=int 0 g0 c1 rfl rfl k0;obtain⟨x2,rfl⟩:=int 1 g1 c2 rfl rfl k1;obtain⟨x3,rfl⟩:=int 2 g2 c3 rfl rfl k2;obtain⟨x4,rfl⟩:=int 3 g3 c4 rfl rfl k3;obtain⟨x5,rfl⟩:=int 4 g4 c5 rfl rfl k4;exact⟨x0,x1,x2,x3,x4,x5,rfl⟩
end
end Go.Ar