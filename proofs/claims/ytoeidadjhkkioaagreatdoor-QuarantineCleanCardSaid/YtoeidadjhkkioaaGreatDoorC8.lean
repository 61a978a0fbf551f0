/- Texts joined. -/
import Derived.Test.YtoeidadjhkkioaaGreatDoorRows
import Derived.ChangeVars
import Derived.JoinedOf
import Derived.RowKit
import Derived.WalkKit
import Derived.ProofKit
import Derived.OpenShut
import Derived.ChangeOld
import Derived.Carry
import Derived.Test.YtoeidadjhkkioaaGreatDoorC7
set_option linter.unusedVariables false
set_option linter.unusedSimpArgs false
namespace Go.Ar
open Go Go.Vc Go.Proofs
open Go.Vc (bU dA cO)
variable {U σ0 v w w':Hp}{F P Q X T:Rg}{L:dE}{H H' H1:Hw}{held:List Pc}{s0 sp:Sp}{t n:Nat}{gb km fm m:Nat}{x y:Gu}{b:B5}{qb:Nat}{Qq Qr:Rg}{qs rs:Sl}{q:Qu}
theorem V2 (o:QP σ0 U L H held s0 P gb km fm x qb Qq Qr qs rs q){R:aO}(hR:R true U):Wm.c (aW qb) U R:=by
 refine Wm.o ?_;unfold Wm.v;exact bX.intro (cF rfl (bL (o.b.rP rfl hR)))
theorem Ik (o:QP σ0 U L H held s0 P gb km fm x qb Qq Qr qs rs q){R:Option Addr->Hp->Prop}(hR:R (some ⟨gb,0,none⟩) U):Wy.c (aW qb) U R:=by
 refine Wy.o ?_;unfold Wy.v;exact V2 o (cD rfl (bL (o.b.rP rfl hR)))
theorem Iv (o:QP σ0 U L H held s0 P gb km fm x qb Qq Qr qs rs q)(thread:Int){R:aN}(hR:∀σ',aF U σ'->R (ZX H thread) σ'):WL.c (aW qb) thread U R:=by
 refine WL.o ?_;unfold WL.v;refine V2 o (cD rfl (bL (o.b.rP rfl (AN o.p ?_))));refine KP (λr u=>aF U u/\r=decide (thread<0\/thread≥(H.cf.threads:Int))) (λr u ⟨d,g⟩=>?_) λJ i=>?_
 ·by_cases hc:thread<0\/thread≥(H.cf.threads:Int)
  ·have a:=hR u d;unfold ZX at a;rw[zC hc]at a;exact cF (by rw[g];exact zI hc) a
  ·have j:=o.p.fr d;refine cD (by rw[g];exact zL hc) (Lx j.h thread λs w e2 m=>?_);have a:=hR w (d.trans e2);unfold ZX at a;rw[zB hc]at a;rw[m];cases hp:UG H thread with
   | none=>rw[hp]at a;exact cD rfl a
   | some q=>rw[hp]at a;exact cF rfl a
 ·refine cN (λh=>i _ _ ⟨Ext.refl _ _,by rw[zI];exact .inl h⟩) λh=>GF o.p.h λu e=>i _ _ ⟨e,?_⟩;rw[kU,decide_eq_true_iff,decide_eq_true_iff];exact⟨.inr,λy=>y.resolve_left h⟩
theorem Mw {s:Sl}{l:List P2}(h:cV s 2 (gR l) U F)(hl:s.len<=1000000){R:Sl->Hp->Prop}(hR:∀s' σ',aF U σ'->bT s' 2 (gR l) σ' (λb=>U.size<=b)->R s' σ'):Wh.c s U R:=by
 refine Wh.o ?_;unfold Wh.v;exact Cy h aB rfl (Lw l) aB hl λs' σ' _ e a=>hR s' σ' e a
theorem SU {s:Sl}{xs:List Int}(h:cV s 1 (Wu xs) U F)(hl:xs.length<=1000000)(hne:xs≠[]){R:aN}(hR:R (lz xs) U):W7.c s U R:=by
 refine W7.o ?_;unfold W7.v;have d:s.len=xs.length:=by have:=h.1;simp[Wu]at this;omega
 have r:=pM.2 hne;refine Jn.intro (cD (zL O) ?_);obtain⟨a,l,rfl⟩:=List.exists_cons_of_ne_nil hne;have x:(a::l)[0]?=some a:=rfl;refine cV.ma (i:=0) h x ?_;refine Uo (a:=bO) (bb:=bO) (λ(m i:Int) u=>u=U/\∃k:Nat,i=k+1/\k<=l.length/\m=(l.take k).foldl (λm z=>if z<m then z else m) a) (λ_ i _=>l.length+1-i.toNat) ⟨rfl,0,rfl,O,rfl⟩ ?_
 rintro(m:Int) (i:Int) u ⟨rfl,k,rfl,hk,rfl⟩;refine cN (λw=>?_) λA=>?_
 ·have p:k<l.length:=by simp only[zS]at d;omega
  have g:l[k]?=some l[k]:=cW p;have b:(a::l)[k+1]?=some l[k]:=by rw[yH,g]
  generalize l[k]=y at g b;rw[show((k:Int)+1)=((k+1:Nat):Int) by omega];refine h.ma b (cT (m:=k+2) O O ⟨⟨rfl,k+1,O,O,?_⟩,O⟩);rw[kx,g,rk,vS];rfl
 ·have j:k=l.length:=by simp only[zS]at d;omega
  subst j;rw[lY];exact hR
theorem Woi {s:Sl}{bs:List Bk}(h:cV s 4 (jt bs) U F)(hl:bs.length<=1000000)(hs:bs.Pairwise λa c=>a.1<c.1)(hi:∀k∈bs,0<=k.1/\k.1<=1000000){a:Int}(ha:jA a){R:Int->Bool->Hp->Prop}
 (h1:∀w (i:Nat) k,aF U w->bs[i]?=some k->k.1=a->R (i:Int) true w) (h0:∀w i,aF U w->(∀k∈bs,k.1≠a)->R i false w) :
 Wf.c s a ⟨117,#[],#[]⟩ U R:=by
 refine Wf.o ?_;unfold Wf.v;have S:s.len=bs.length:=by have:=h.1;rw[BI]at this;omega
 obtain⟨Y,ha2⟩:=ha;have E:∀(k:Bk) (v:Hp) (K:aN),(∀D,aF v D->K (IntKind.i64.wrap (k.1-a)) D) →
  VQ Tryz.prog ⟨117,#[],#[]⟩ [.agg #[.int .i64 k.1,.int .i64 k.2.1,.int .i64 k.2.2.1,.int .i64 k.2.2.2],.int .i64 a] [.one bO] v K:=by
  intro k v K hK;refine Gy (all := #[.agg #[.int .i64 k.1,.int .i64 k.2.1,.int .i64 k.2.2.1,.int .i64 k.2.2.2],.int .i64 a]) (by kernel_rfl) aA ?_;refine WX.o ?_;unfold WX.v;exact nw (cs:=jZ k) λv1 hz e hb=>hb.rI rfl (vY (hK v1 e))
 have w0:∀k∈bs,(IntKind.i64.wrap (k.1-a)==0)=decide (k.1=a):=λk x=>by
  have:=hi k x;rw[kU,zU,decide_eq_true_iff];unfold IntKind.wrap;simp[IntKind.bits,IntKind.signed];omega
 have A:∀{i j:Nat} {k r:Bk},bs[i]?=some k->bs[j]?=some r->i<j->k.1<r.1:=λ{i j k r} h1 N P=>by
  obtain⟨Z,e1⟩:=cX.1 h1;obtain⟨l2,e2⟩:=cX.1 N;have:=mu.1 hs i j Z l2 P;rw[e1,e2]at this;exact this
 refine Uo (a:=bO) (bb:=bO) (λ(i j:Int) v=>∃c d:Nat,i=(c:Int)/\j=(d:Int)/\c<=d/\d<=bs.length/\aF U v/\∀(p:Nat) k,bs[p]?=some k->k.1=a->c<=p/\p<=d) (λi j _=>j.toNat-i.toNat) ⟨0,bs.length,rfl,by rw[S],O,O,Ext.refl _ _,λp k g _=>by have:=(cX.1 g).1;omega⟩ ?_;rintro(i:Int) (j:Int) v ⟨c,d,rfl,rfl,hcd,hdl,ev,hpp⟩;refine cN (λab=>?_) λhge=>?_
 ·refine cT (m:=c+d) O O ?_;have hw:IntKind.u64.wrap ((c+d:Nat):Int)=((c+d:Nat):Int):=by
   unfold IntKind.wrap;simp[IntKind.bits,IntKind.signed];omega
  refine vY ?_;rw[hw];refine nn O ?_;have Q:min (1:Int).toNat IntKind.u64.bits=1:=by decide
  rw[Q,BJ];have M:(((c+d:Nat):Int)/2^1)=(((c+d)/2:Nat):Int):=by omega
  refine cT (m:=(c+d)/2) M O ?_;have B:(c+d)/2<bs.length:=by omega
  have x:bs[(c+d)/2]?=some bs[(c+d)/2]:=cW B;generalize bs[(c+d)/2]=k at x;have C:=zG x;have aa:=hi k C;refine Dh (aH.bP h ev) x λbb o z=>eN (z 0 _ rfl) (eN (z 1 _ rfl) (eN (z 2 _ rfl) (eN (z 3 _ rfl) (E k v _ λD L=>?_))));have y:∀{p:Nat} {r:Bk},bs[p]?=some r->r.1=a->IntKind.i64.wrap (k.1-a)=k.1-a:=λ{p r} g b=>by
   have:=hi r (zG g);exact Ux O O
  show If (decide (IntKind.i64.wrap (k.1-a)<0)) _ _;refine cN (λJ=>?_) λH=>?_
  ·refine cT (m:=(c+d)/2+1) O O ⟨⟨_,d,rfl,rfl,O,hdl,ev.trans L,λp r g b=>⟨?_,(hpp p r g b).2⟩⟩,O⟩;rw[y g b]at J;apply Classical.byContradiction;intro hx;rcases ko p ((c+d)/2)with N|N
   ·have:=A g x N;omega
   ·have:p=(c+d)/2:=by omega
    subst this;rw[x]at g;cases g;omega
  ·refine⟨⟨c,_,rfl,rfl,O,O,ev.trans L,λp r g b=>⟨(hpp p r g b).1,?_⟩⟩,O⟩;rw[y g b]at H;apply Classical.byContradiction;intro hx;have:=A x g O;omega
 ·have G:c=d:=by omega
  subst G;refine bX.intro (cN (λW=>?_) λX=>?_)
  ·have B:c<bs.length:=by omega
   have x:bs[c]?=some bs[c]:=cW B;generalize bs[c]=k at x;have C:=zG x;refine Dh (aH.bP h ev) x λbb o z=>eN (z 0 _ rfl) (eN (z 1 _ rfl) (eN (z 2 _ rfl) (eN (z 3 _ rfl) (E k v _ λD L=>?_))));rw[w0 k C];by_cases hka:k.1=a
   ·rw[zI hka];exact h1 D c k (ev.trans L) x hka
   ·rw[zL hka];refine h0 D _ (ev.trans L) λr b u=>?_;obtain⟨p,g⟩:=zP b;have:=hpp p r g u;have V:p=c:=by omega
    subst V;rw[x]at g;cases g;exact hka u
  ·refine h0 v _ ev λr b u=>?_;obtain⟨p,g⟩:=zP b;have:=hpp p r g u;have:=(cX.1 g).1;omega
theorem Du (bi:gL b){R:Sl->Hp->Prop}(hR:∀s w Q,aF U w->bT s 1 (Wu (Xr b)) w Q->(∀c,Q c->U.size<=c/\c<w.size)->R s w):XZ.c b.1 b.2.1 b.2.2.1 b.2.2.2.1 U R:=by
 refine XZ.o ?_;unfold XZ.v;have bb:=bi.base;have M:=bi.z;have L:=bi.m;have K:=bi.t;have J:=bi.s;have E:=ZE (n:=b.2.1) O;have H:(ZM b:Int)*8=Zk b.2.1:=by unfold ZM;omega
 let wl:Nat->List Int:=λi=>(List.range i).map λ(i:Nat)=>b.1+8*(i:Int)
 have r:∀i,wl (i+1)=wl i++[b.1+8*(i:Int)]:=λi=>by show List.map _ _=_;rw[oU,zj];rfl
 have g:∀i,(wl i).length=i:=λi=>by show(List.map _ _).length=i;simp
 have y:wl (ZM b)=Xr b:=rfl
 clear_value wl
 refine nw (cs:=jZ (b.1,b.2.1,b.2.2.1,b.2.2.2.1)) λv G e C=>?_;refine Uo (a:=.s) (bb:=bO) (λ(out:Sl) (z:Int) u=>aF v u/\∃(i:Nat) (Q:Rg),z=8*(i:Int)/\i<=ZM b/\bT out 1 (Wu (wl i)) u Q/\∀c,Q c->v.size<=c/\c<u.size) (λ_ z _=>(Zk b.2.1-z).toNat)
  ⟨Ext.refl _ _,0,λ_=>False,rfl,O,by rw[si (g 0)];exact⟨rfl,.inl ⟨rfl,rfl⟩⟩,λc d=>d.elim⟩ ?_
 rintro(out:Sl) (z:Int) u ⟨eu,i,Q,rfl,hi,hr,hQ⟩;have N:=eu.1;have j:=eu.bV C id;refine j.rI rfl (cN (λx=>?_) λA=>?_)
 ·simp only at x;have D:out.len=i:=by have:=hr.1;simp[Wu,g]at this;omega
  refine j.rI rfl (ar aC aC ?_);refine wo hr (by rw[g];omega) _ λF w B p=>?_;refine ar O O ⟨⟨Ext.fresh eu B λc d=>(hQ c d).1,i+1,_,O,O,by rw[r];exact p,λc d=>?_⟩,O⟩;have:=B.1;rcases d with d|d
  ·have:=hQ c d;omega
  ·omega
 ·simp only at A;have:i=ZM b:=by unfold ZM at hi ⊢;omega
  subst this;rw[y]at hr;exact hR out u Q (e.trans eu) hr λc d=>by have:=hQ c d;omega
theorem BK (o:QP σ0 U L H held s0 P gb km fm x qb Qq Qr qs rs q)(xi:∀e∈x.kn,e.1=e.2.1/\gL e.2)(hkl:x.kn.length<=1000000){a:Int}(ha:jA a){R:Int->Int->Int->Int->Bool->Hp->Prop}
 (h0:∀w,aF U w->bU x.kn a=none->R 0 0 0 0 false w) (h1:∀w b,aF U w->bU x.kn a=some b->R b.1 b.2.1 b.2.2.1 b.2.2.2.1 true w):WC.c (aW qb) a U R:=by
 refine WC.o ?_;unfold WC.v;refine nw (cs:=[.int .i64 0,.int .i64 0,.int .i64 0,.int .i64 0]) λv hz e hb=>?_;have o1:=o.fr e;have nd:(x.kn.map (·.1)).Nodup:=o.p.m.nodup;refine bL (o1.b.rP rfl (Tl o1.p xi hkl λs v1 es e1 j A=>?_));have N:=e1.bV hb id;have B:∀{w:Hp} {a b c d:Int} {K:Int->Int->Int->Int->Hp->Prop},aF v1 w->(∀g,aF U g->K a b c d g) →
  dF (Addr.add ⟨U.size,0,none⟩ 0) (.int .i64 a) w λv7=>dF (Addr.add ⟨U.size,0,none⟩ 1) (.int .i64 b) v7 λv8=>dF (Addr.add ⟨U.size,0,none⟩ 2) (.int .i64 c) v8 λv9=>dF (Addr.add ⟨U.size,0,none⟩ 3) (.int .i64 d) v9 λv10=>
  gH .i64 (Addr.add ⟨U.size,0,none⟩ 0) v10 λr0=>gH .i64 (Addr.add ⟨U.size,0,none⟩ 1) v10 λr1=>gH .i64 (Addr.add ⟨U.size,0,none⟩ 2) v10 λr2=>gH .i64 (Addr.add ⟨U.size,0,none⟩ 3) v10 λr3=>K r0 r1 r2 r3 v10:=λ{w a b c d K} C hK=>
  (C.bV N id).s1 aA λw1 o1 b1=>b1.s1 aA λw2 o2 b2=>b2.s1 aA λw3 o3 b3=>b3.s1 aA λw4 o4 b4=>b4.rI rfl (b4.rI rfl (b4.rI rfl (b4.rI rfl (hK w4 (Ext.fresh ((e.trans e1).trans C) (((o1.ext.trans o2.ext).trans o3.ext).trans o4.ext) λi (hi:i=U.size)=>O)))))
 have u:∀k∈es,k∈x.kn:=λk r=>j.p.mem_iff.1 r;have S:(es.map Go.Ar.b4).length<=1000000:=by rw[zk,j.p.length_eq];exact hkl
 refine Woi (bT.fW A) S ?_ ?_ ha (λw i k C r D=>?_) λw i C M=>?_
 ·rw[se];refine j.s.imp_of_mem λ{k Y} h1 Z aa=>?_;have e1:=(xi k (u k h1)).1;have e2:=(xi Y (u Y Z)).1;show k.2.1<Y.2.1;omega
 ·intro k r;obtain⟨y,G,rfl⟩:=zE.1 r;have E:=(xi y (u y G)).2;have h1:=E.base;have Z:=E.z;have h3:=E.m;have h4:=E.t;have h5:=E.s;have h6:=ZE (n:=y.2.2.1) O;show 0<=y.2.1/\y.2.1<=1000000;omega
 ·rw[zZ,od]at r;obtain⟨y,G,rfl⟩:=r;have F:=u y (zG G);have W:y.1=a:=by rw[(xi y F).1];exact D
  have hg:bU x.kn a=some y.2:=by rw[←W];exact Qg nd (show(y.1,y.2)∈x.kn from F)
  have X:(es.map Go.Ar.b4)[i]?=some (Go.Ar.b4 y):=by rw[zZ,G];rfl
  refine cD rfl (Dh (aH.bP (bT.fW A) C) X λbb oo J=>eN (J 0 _ rfl) (eN (J 1 _ rfl) (eN (J 2 _ rfl) (eN (J 3 _ rfl) ?_))));exact B (K:=λa b c d g=>R a b c d true g) C λg Q=>h1 g y.2 Q hg
 ·refine cF rfl (B (K:=λa b c d g=>R a b c d false g) C λg Q=>h0 g Q ?_);rw[HG];intro k r D;have V:k∈es:=j.p.mem_iff.2 r;exact M (Go.Ar.b4 k) (zE.2 ⟨k,V,rfl⟩) (by show k.2.1=a;rw[←(xi k r).1];exact D)
theorem Sy (o:QP σ0 U L H held s0 P gb km fm x qb Qq Qr qs rs q)(a:Int){R:aO}(hR:∀w,aF U w->R (decide (a∈q.q.map (·.1))) w):WT.c (aW qb) a U R:=by
 refine WT.o ?_;unfold WT.v;refine nw (cs:=[.int .i64 a]) λv V e K=>?_;have o1:=o.fr e;refine bL (o1.b.rS rfl (Wb.o ?_));unfold Wb.v;refine We.o ?_;unfold We.v;have M:=o.rq.kf;have F:=o.i.ql;refine Qj (a:=bO) (λ(i:Int) u=>aF v u/\∃k:Nat,i=k/\k<=q.q.length/\∀j e,j<k->q.q[j]?=some e->e.1≠a) (λi _=>q.q.length-i.toNat) ⟨Ext.refl _ _,0,rfl,O,λj e r=>O⟩ ?_;rintro(i:Int) u ⟨eu,k,rfl,hk,hno⟩;have E:=eu.bV K id;refine cN (λg=>?_) λD=>?_
 ·have s:q.q[k]?=some (q.q[k]'(by simp only at g;omega)):=cW _;generalize (q.q[k]'(by simp only at g;omega))=y at s;refine tM (bT.fW (o1.fr eu).rq) s λW S G=>eN (G 0 _ rfl) (eN (G 1 _ rfl) ?_);refine Gy (all := #[.agg #[.int .i64 y.1,.int .i64 y.2],.pointer (some ⟨U.size,0,none⟩)]) (by kernel_rfl) aA (W5.o ?_);unfold W5.v;refine nw (cs:=k8 y) λv3 N A B=>B.rI rfl ((A.bV E id).uO rfl (cR (λp=>?_) λz=>?_))
  ·have d:y.1=a:=by simpa using p
   have:=hR v3 ((e.trans eu).trans A);rw[zI (zE.2 ⟨y,zG s,d⟩)]at this;show R (decide ((k:Int)≥0)) v3;rw[zI (show(k:Int)≥0 by omega)];exact this
  ·have d:y.1≠a:=by simpa using z
   exact cT (m:=k+1) O O ⟨⟨eu.trans A,k+1,rfl,by simp only at g;omega,λj e r p=>by
    by_cases hjk:j=k
    ·subst hjk;rw[s]at p;cases p;exact d
    ·exact hno j e O p⟩,by simp only at g;omega⟩
 ·have C:k=q.q.length:=by simp only at D;omega
  subst C;have:=hR u (e.trans eu);rw[zL λQ=>by
   obtain⟨y,J,d⟩:=zE.1 Q;obtain⟨j,r⟩:=zP J;exact hno j y (cX.1 r).1 r d]at this
  exact this
def UH (x:Gu)(q:Qu)(a:Int):Bool:=q.q.any λe=>match bU x.kn e.1 with
 | some b=>decide (a∈Xr b)
 | none=>false
theorem JN (o:QP σ0 U L H held s0 P gb km fm x qb Qq Qr qs rs q)(xi:∀e∈x.kn,e.1=e.2.1/\gL e.2)(hkl:x.kn.length<=1000000)(hqi:∀e∈q.q,jA e.1)(a:Int){R:aO}(hR:∀w,aF U w->R (UH x q a) w):WM.c (aW qb) a U R:=by
 refine WM.o ?_;unfold WM.v;refine nw (cs:=[.pointer (some ⟨qb,0,none⟩)]) λv0 hz0 e0 hb0=>nw (cs:=[.int .i64 a]) λv hz e hb=>?_;have E:=e0.trans e;have o1:=o.fr E;have g:=e.bV hb0 id;refine g.qk rfl (bL (o1.b.rS rfl (Wb.o ?_)));unfold Wb.v;refine We.o ?_;unfold We.v;have hql:=o.rq.kf;have hq66:=o.i.ql
 let f:P2->Bool:=λe=>match bU x.kn e.1 with
  | some b=>decide (a∈Xr b)
  | none=>false
 have G:UH x q a=q.q.any f:=rfl;have V:∀(e:P2) b,bU x.kn e.1=some b->f e=decide (a∈Xr b):=λe b h=>by show(match bU x.kn e.1 with|some b=>decide (a∈Xr b)|none=>false)=_;rw[h]
 have hf0:∀(e:P2),bU x.kn e.1=none->f e=false:=λe h=>by show(match bU x.kn e.1 with|some b=>decide (a∈Xr b)|none=>false)=_;rw[h]
 clear_value f
 refine Qj (a:=bO) (λ(i:Int) u=>aF v u/\∃k:Nat,i=k/\k<=q.q.length/\∀j e,j<k->q.q[j]?=some e->f e=false) (λi _=>q.q.length-i.toNat) ⟨Ext.refl _ _,0,rfl,O,λj e Q=>O⟩ ?_;rintro(i:Int) u ⟨eu,k,rfl,hk,hno⟩;have hbu:=eu.bV hb id;have A:=eu.bV g id;have ou:=o1.fr eu;refine cN (λd=>?_) λhge=>?_
 ·have B:q.q[k]?=some (q.q[k]'(by simp only at d;omega)):=cW _;generalize (q.q[k]'(by simp only at d;omega))=y at B;have hyi:=hqi y (zG B);refine tM (bT.fW ou.rq) B λbb oo hc=>eN (hc 0 _ rfl) (eN (hc 1 _ rfl) ?_);refine Gy (all := #[.agg #[.int .i64 y.1,.int .i64 y.2],.pointer (some ⟨U.size,0,none⟩),.pointer (some ⟨v0.size,0,none⟩)]) (by kernel_rfl) aA (WY.o ?_);unfold WY.v;refine nw (cs:=k8 y) λv3 hz3 J Z=>(J.bV A id).qk rfl (Z.rI rfl ?_);have o3:=ou.fr J;have go:∀D (r:Bool),aF u D->r=f y->If r (R (decide ((k:Int)≥0)) D) (Ar .i64 ((k:Int)+1) λC=>(λ(i:Int) u=>aF v u/\∃k:Nat,i=k/\k<=q.q.length/\∀j e,j<k->q.q[j]?=some e->f e=false) C D/\q.q.length-C.toNat<q.q.length-(k:Int).toNat):=λD r N hr=>by
   subst hr;refine cR (λht=>?_) λhf=>?_
   ·have:=hR D ((E.trans eu).trans N);rw[G,zy.2 ⟨y,zG B,ht⟩]at this;rw[zI (show(k:Int)≥0 by omega)];exact this
   ·exact cT (m:=k+1) O O ⟨⟨eu.trans N,k+1,rfl,by simp only at d;omega,λj e Q he=>by
     by_cases hjk:j=k
     ·subst hjk;rw[B]at he;cases he;exact hf
     ·exact hno j e O he⟩,by simp only at d;omega⟩
  have box:∀{ty:Nat} {w:Hp} {a1 a2 Y X:Int} {K:Addr->Hp->Prop},(∀w7,aF w w7->bY w7 w.size (jZ (a1,a2,Y,X))->K ⟨w.size,0,none⟩ w7) →
   Nw (.cells #[.int .i64 0,.int .i64 0,.int .i64 0,.int .i64 0] ty (0,0)) w λF v2=>dF (F.add 0) (.int .i64 a1) v2 λv3=>dF (F.add 1) (.int .i64 a2) v3 λv4=>dF (F.add 2) (.int .i64 Y) v4 λv5=>dF (F.add 3) (.int .i64 X) v5 λv6=>K F v6:=λ{ty w a1 a2 Y X K} hK=>
   nw (cs:=[.int .i64 0,.int .i64 0,.int .i64 0,.int .i64 0]) λv2 hz2 e2 S=>S.s1 aA λv3 o3 b3=>b3.s1 aA λv4 o4 b4=>b4.s1 aA λv5 o5 b5=>b5.s1 aA λv6 o6 b6=>
    hK v6 (Ext.fresh e2 (((o3.ext.trans o4.ext).trans o5.ext).trans o6.ext) λi (hi:i=w.size)=>O) b6
  refine BK o3 xi hkl hyi (λw1 e1 hn=>box λp e2 S=>Jn.intro ?_) λw1 bk e1 hg=>box λp e2 S=>Jn.intro ?_
  ·exact⟨λm=>aF p m,Ext.refl _ _,cD rfl (go p false ((J.trans e1).trans e2) (hf0 y hn).symm)⟩
  ·have bi:gL bk:=(xi _ (Qi hg)).2;have M:∀m,aF p m->bY m w1.size (jZ (bk.1,bk.2.1,bk.2.2.1,bk.2.2.2.1)):=λm e=>e.bV S id;have hS2:∀m,aF p m->bY m v0.size [.int .i64 a]:=λm N=>(((J.trans e1).trans e2).trans N).bV hbu id;refine⟨λm=>aF p m,Ext.refl _ _,cF rfl (gI (c:=bO) (y:=bk.1) M rfl (gI (c:=bO) (y:=bk.2.1) M rfl (gI (c:=bO) (y:=bk.2.2.1) M rfl (gI (c:=bO) (y:=bk.2.2.2.1) M rfl (rX (c:=bO) (y:=a) hS2 rfl ?_)))))⟩;refine Du bi λs w4 Q4 e4 W _=>⟨e4,?_⟩;have hwl:(Xr bk).length<=1000000000:=by
    have:=bi.s;have:=ZE (n:=bk.2.1) O;simp[Xr,ZM];omega
   exact G5 (bT.fW W) hwl a ⟨e4,go w4 _ (((J.trans e1).trans e2).trans e4) (by rw[V y bk hg];simp)⟩
 ·have hkn:k=q.q.length:=by simp only at hge;omega
  subst hkn;have:=hR u (E.trans eu);rw[G,mn.2 λy hy z=>by
   obtain⟨j,Q⟩:=zP hy;rw[hno j y (cX.1 Q).1 Q]at z;cases z]at this
  exact this
theorem JZ (o:QP σ0 U L H held s0 P gb km fm x qb Qq Qr qs rs q){R:aN}(hR:∀w,aF U w->R (iA q.q) w):WB.c (aW qb) U R:=by
 refine WB.o ?_;unfold WB.v;have F:=o.rq.kf;have A:=o.i.ql;refine V2 o (cD rfl (bL (o.b.rS rfl ?_)));refine Uo (a:=bO) (bb:=bO) (λ(z i:Int) u=>aF U u/\∃k:Nat,i=k/\k<=q.q.length/\z=iA (q.q.take k)) (λ_ i _=>q.q.length-i.toNat) ⟨Ext.refl _ _,0,rfl,O,rfl⟩ ?_;rintro(z:Int) (i:Int) u ⟨eu,k,rfl,hk,rfl⟩;refine cN (λd=>?_) λs=>?_
 ·have g:q.q[k]?=some (q.q[k]'(by simp only at d;omega)):=cW _;generalize (q.q[k]'(by simp only at d;omega))=y at g;have E:=o.i.qs y (zG g);have p:=Ω (l:=q.q.take k) λe D=>o.i.qs e (vz D);rw[zY]at p;refine tM (bT.fW (o.fr eu).rq) g λbb J B=>eN (B 0 _ rfl) (eN (B 1 _ rfl) (ud λw C _ j=>j.rI rfl ?_));have G:iA (q.q.take (k+1))=iA (q.q.take k)+y.2:=by rw[kx,g,rk,OX]
  exact ar O O (cT (m:=k+1) O O ⟨⟨eu.trans C,k+1,rfl,by simp only at d;omega,G.symm⟩,by simp only at d;omega⟩)
 ·have r:k=q.q.length:=by simp only at s;omega
  subst r;rw[lY];exact hR u eu
theorem BS (o:QP σ0 U L H held s0 P gb km fm x qb Qq Qr qs rs q){R:Sl->Hp->Prop}(hR:∀s w Q,aF U w->bT s 1 (Wu (q.q.map (·.1))) w Q->(∀c,Q c->U.size<=c/\c<w.size)->R s w):WH.c (aW qb) U R:=by
 refine WH.o ?_;unfold WH.v;have F:=o.rq.kf;have K:=o.i.ql;refine V2 o (cD rfl (bL (o.b.rS rfl (mk aC aC λv X e M=>?_))));have o1:=o.fr e;have j:(List.replicate qs.len [Value.int .i64 0]).flatten=Wu ((q.q.map (·.1)).take 0++List.replicate (q.q.length-0) 0):=by
  rw[F];simp[Wu]
 rw[j]at M;refine bL (o1.b.rS rfl ?_);refine Qj (a:=bO) (λ(i:Int) u=>∃k:Nat,i=k/\k<=q.q.length/\aF U u/\bY u U.size (Wu ((q.q.map (·.1)).take k++List.replicate (q.q.length-k) 0))) (λi _=>q.q.length-i.toNat) ⟨0,rfl,O,e,M⟩ ?_;rintro(i:Int) u ⟨k,rfl,hk,eu,hbu⟩;refine cN (λg=>?_) λJ=>?_
 ·have B:k<q.q.length:=by simp only at g;omega
  have D:q.q[k]?=some q.q[k]:=cW B;have d:(q.q.map (·.1))[k]?=some q.q[k].1:=by rw[zZ,D];rfl
  generalize q.q[k]=y at D d;refine tM (bT.fW (o.fr eu).rq) D λY W E=>eN (E 0 _ rfl) (eN (E 1 _ rfl) (ud λw N _ C=>C.rI rfl (ix O aC ?_)));rw[add_lit,show 0+(k:Int).toNat*1=k by omega];have p:=N.bV hbu id;have r:(Wu ((q.q.map (·.1)).take k++List.replicate (q.q.length-k) 0)).length=q.q.length:=by simp[Wu];omega
  refine p.s0 (by rw[r];exact B) λZ o2 S=>?_;have A:(Wu ((q.q.map (·.1)).take k++List.replicate (q.q.length-k) 0)).set k (.int .i64 y.1)=Wu ((q.q.map (·.1)).take (k+1)++List.replicate (q.q.length-(k+1)) 0):=by
   unfold Wu;rw[←wc,C0 _ _ (by rw[zY];omega),kx,d,rk,zl]
   congr 2
   rw[zY,zk,qv O,pH];obtain⟨n,V⟩:∃n,q.q.length-k=n+1:=⟨q.q.length-k-1,O⟩;rw[V,show q.q.length-(k+1)=n by omega,r9];rfl
  rw[A]at S;exact cT (m:=k+1) O O ⟨⟨k+1,rfl,O,Ext.fresh (eu.trans N) o2.ext λi (hi:i=U.size)=>O,S⟩,by simp only at g;omega⟩
 ·have G:k=q.q.length:=by simp only at J;omega
  subst G;have z:(q.q.map (·.1)).take q.q.length++List.replicate (q.q.length-q.q.length) 0=q.q.map (·.1):=by
   rw[pH,List.replicate_zero,kC,lH aA]
  rw[z]at hbu;refine hR _ u (· = U.size) eu ⟨by simp[Wu];omega,.inr ⟨U.size,_,rfl,rfl,hbu,zD _,by simp[Wu];omega,lY⟩⟩ λc E=>?_;have:=hbu.lt;omega
end Go.Ar
namespace Go.Ar
open Go Go.Vc Go.Proofs
open Go.Vc (bU dA cO)
variable {thread:Int}{U σ0 v w w':Hp}{F P Q X T Tc:Rg}{L:dE}{H H' H1:Hw}{held:List Pc}{s0 sp:Sp}{t n:Nat}{gb km fm m pp:Nat}{x y x':Gu}{b:B5}{qb:Nat}{Qq Qr:Rg}{qs rs:Sl}{q q':Qu}
def QO (σ0 U w:Hp)(pp gb km fm qb:Nat)(Tc:Rg)(H':Hw)(x':Gu)(q':Qu):Prop:=
 ∃L' held' s0' P' Qq' Qr' qs' rs',QP σ0 w L' H' held' s0' P' gb km fm x' qb Qq' Qr' qs' rs' q'/\L'.p=pp/\Ext Tc U w/\∀c,kv P' gb km fm qb Qq' Qr' c->Tc c\/U.size<=c
theorem QO.fr (o:QO σ0 U w pp gb km fm qb Tc H x q)(e:aF w w'):QO σ0 U w' pp gb km fm qb Tc H x q:=by
 obtain⟨L',a,g,P',Qq',Qr',d,b,h,m,j,i⟩:=o;exact⟨L',a,g,P',Qq',Qr',d,b,h.fr e,m,j.gp e,i⟩
theorem QP.qo (o:QP σ0 U L H held s0 P gb km fm x qb Qq Qr qs rs q)(e:aF U w):QO σ0 U w L.p gb km fm qb (kv P gb km fm qb Qq Qr) H x q:=
 ⟨L,held,s0,P,Qq,Qr,qs,rs,o.fr e,rfl,aF.to e,λc a=>.inl a⟩
theorem QO.then (e:Ext Tc U v)(hc:∀c,T c->Tc c\/U.size<=c)(o:QO σ0 v w pp gb km fm qb T H x q):QO σ0 U w pp gb km fm qb Tc H x q:=by
 obtain⟨L',a,g,P',Qq',Qr',d,b,h,m,j,i⟩:=o;have p:=e.1;exact⟨L',a,g,P',Qq',Qr',d,b,h,m,Ext.dW e j λc h=>hc c h,λc h=>(i c h).elim (hc c) λh=>.inr O⟩
theorem gN.bS (r:gN thread H x q H' x' q'):Q2 H' H:=by
 cases r with
 | none h1 h2=>exact Q2.refl _
 | stay h1 h2 h3 h4=>exact Q2.refl _
 | free h1 h2 h3 h4 hw op fe=>exact op.kp
theorem gN.len (r:gN thread H x q H' x' q'):q'.q.length+1=q.q.length/\q'.bl=q.bl/\q'.by'=q.by'/\q'.rs.length<=q.rs.length+1/\∃e,q.q=e::q'.q:=by
 cases r with
 | none h1 h2=>rw[h1];exact⟨rfl,rfl,rfl,Nat.le_succ _,_,rfl⟩
 | stay h1 h2 h3 h4=>
  rw[h1];refine⟨rfl,rfl,rfl,?_,_,rfl⟩;show(if _ then _ else _:List P2).length<=_
  split
  ·omega
  ·simp
 | free h1 h2 h3 h4 hw op fe=>
  rw[h1];refine⟨rfl,rfl,rfl,?_,_,rfl⟩;show(if _ then _ else _:List P2).length<=_
  split
  ·omega
  ·simp
theorem gN.kn (r:gN thread H x q H' x' q'):∀e∈x'.kn,e∈x.kn:=by
 cases r with
 | none h1 h2=>exact λe h=>h
 | stay h1 h2 h3 h4=>exact λe h=>h
 | free h1 h2 h3 h4 hw op fe=>exact λk a=>(zJ.1 (show k∈x.kn.filter _ from a)).1
theorem gN.kl (r:gN thread H x q H' x' q'):x'.kn.length<=x.kn.length:=by
 cases r with
 | none h1 h2=>exact zD _
 | stay h1 h2 h3 h4=>exact zD _
 | free h1 h2 h3 h4 hw op fe=>exact oF _ _
set_option maxRecDepth 16000 in
theorem I6 (o:QP σ0 U L H held s0 P gb km fm x qb Qq Qr qs rs q)(gc:Gc σ0)(xi:∀e∈x.kn,e.1=e.2.1/\gL e.2)(hkl:x.kn.length<=1000000)(hqi:∀e∈q.q,jA e.1)(hq:q.q≠[])(hrl:q.rs.length<10000){R:aP}
 (hR:∀w H' x' q',gN thread H x q H' x' q'->QO σ0 U w L.p gb km fm qb (kv P gb km fm qb Qq Qr) H' x' q'->R w):WE.c (aW qb) thread U R:=by
 refine WE.o ?_;unfold WE.v;obtain⟨e,r,g⟩:=List.exists_cons_of_ne_nil hq;have hql:=o.rq.kf;rw[g,zS]at hql;have h0:q.q[0]?=some e:=by rw[g];rfl
 have hI:=o.i;have hes:=hI.qs e (by rw[g];exact mJ);have hei:=hqi e (by rw[g];exact mJ);have F:oR {q with q:=r}:=⟨hI.bl,hI.by',by have:=hI.ql;rw[g,zS]at this;show r.length<=66;omega,λk hk=>hI.qs k (by rw[g];exact mj _ hk),hI.rl⟩;refine bL (o.b.rS rfl (tM (i:=0) (bT.fW o.rq) h0 λbb oo d=>eN (d 0 _ rfl) (eN (d 1 _ rfl) (ud λv2 e2 z2 b2=>?_))));have o2:=o.fr e2;have hcap:qs.len<=qs.cap:=bT.px o2.rq;refine bL (o2.b.rS rfl (jm (lo:=1) aC aC aC ?_));have X:=cV.sub (bT.fW o2.rq) (lo:=1) (hi:=qs.len) (mx:=qs.cap) O (zD _) hcap;have rW:((gR q.q).drop (1*2)).take ((qs.len-1)*2)=gR r:=by
  rw[←Ls,g,vX,yO,lH (by rw[UM];omega)]
 rw[rW]at X;refine Mw X (by simp only;have:=hI.ql;rw[g,zS]at this;omega) λs3 v3 e3 r3=>?_;have E3:=e2.trans e3;have r3':=aI.cut r3;have z2':=e2.1;have z3:=e3.1;have hqbl:=o.b.lt;refine bL (o2.wC (aF.to e3) r3' (λc d=>.inr d) F λv4 e4 o4=>?_);have b4:=e4.bV (e3.bV b2 id) (λ(h:U.size=qb)=>O);have E4:Ext (kv P gb km fm qb Qq Qr) U v4:=(aF.to E3).trans (e4.sub λc d=>.inr (.inl d));have z4:=e4.1;have base:∀{P' Qr':Rg},(∀c,P' c->P c\/v4.size<=c)->(∀c,Qr' c->Qr c\/v4.size<=c)->∀c,kv P' gb km fm qb (Cut (λb=>v2.size<=b) v3) Qr' c->kv P gb km fm qb Qq Qr c\/U.size<=c:=λ{P' Qr'} hP hQ c d=>by
  rcases d with(h|h)|h|h|h
  ·exact(hP c h).imp (λh=>.inl (.inl h)) λh=>by omega
  ·exact .inl (.inl (.inr h))
  ·exact .inl (.inr (.inl h))
  ·right;have:v2.size<=c:=h.1;omega
  ·exact(hQ c h).imp (λh=>.inr (.inr (.inr h))) λh=>by omega
 have W:∀w,aF v4 w->(bU x.kn e.1=none\/kV H x e.1≠0)->R w:=λw E hx=>hR w H x {q with q:=r} (.none g hx) ⟨L,held,s0,P,_,Qr,s3,rs,o4.fr E,rfl,E4.gp E,base (λc d=>.inl d) λc d=>.inl d⟩;refine b4.rI rfl (BK o4 xi hkl hei (λw5 e5 hn=>qQ λw6 e6 b6=>cF rfl (W w6 (e5.trans e6) (.inl hn))) λw5 bk e5 hg=>qQ λv10 e10 b10=>cD rfl ?_);have bi:gL bk:=(xi _ (Qi hg)).2;have bb':=bi.base;have bz:=bi.z;have bm:=bi.m;have bt:=bi.t;have bs:=bi.s;have hww:=ZE (n:=bk.2.1) O;have E510:=e5.trans e10;have gA:=o4.fr E510;have b4':=E510.bV b4 id;refine⟨λm=>aF v10 m,Ext.refl _ _,bL (gI (c:=.p) (y:=some ⟨gb,0,none⟩) (λm e=>e.bV gA.b id) rfl (gI (c:=bO) (y:=e.1) (λm e=>e.bV b4' id) rfl ?_))⟩;refine Fb gA.p xi e.1 λs11 v11 Q11 G Y hQ11=>cR (λB=>W v11 (E510.trans G) (.inr (by simpa using B))) λhe0=>?_;have j:kV H x e.1=0:=by simpa using he0
 have hlo:UJ H bk=false:=by
  unfold kV at j;rw[hg]at j;simp only at j;cases hl:UJ H bk with
  | false=>rfl
  | true=>rw[hl]at j;simp at j
 have hckl:vV H x e.1=QV H.sp bk:=by
  unfold vV;rw[hg];simp only;rw[hlo];rfl
 rw[hckl]at Y;have A:=G.bV b10 id;refine A.rI rfl (A.rI rfl (A.rI rfl (A.rI rfl (Du bi λs12 v12 Q12 M Q S=>?_))));have hwn:(Xr bk).length=ZM bk:=by simp[Xr]
 have hwn2:ZM bk<=200:=by unfold ZM;omega
 have hbl:(QV H.sp bk).length<=40000:=by
  have:=oF (jL H.sp) (Zl bk);have hz:=GN bk;have h3:VT bk<=250:=by unfold VT;omega
  have h4:G9 bk<=33750:=by unfold G9;omega
  unfold QV;omega
 have hs12l:s12.len=ZM bk:=by have:=Q.1;simp[Wu,hwn]at this;omega
 have hs11':=aI.bP Y M;have E12:=(E510.trans G).trans M
 let f:Int->Bool:=λz=>eO H.sp z != 0||QZ H.sp z != Ho
 have hfu:(Xr bk).filter f=qF H.sp bk:=rfl;have hfe:∀z,f z=(eO H.sp z != 0||QZ H.sp z != Ho):=λz=>rfl
 clear_value f
 have z10:=E510.1;have z11:=G.1;have z12:=M.1;refine Uo (a:=.s) (bb:=bO) (λ(wr:Sl) (z:Int) u=>aF v10 u/\v12.size<=u.size/\bT s12 1 (Wu (Xr bk)) u Q12/\∃(i:Nat) (Qw:Rg),z=i/\i<=ZM bk/\bT wr 1 (Wu (QV H.sp bk++((Xr bk).take i).filter f)) u Qw/\∀c,Qw c->v10.size<=c/\c<u.size/\¬Q12 c) (λ_ z _=>ZM bk-z.toNat)
  ⟨G.trans M,zD _,Q,0,Q11,rfl,O,by rw[wm,List.filter_nil,kC];exact hs11',λc d=>by have:=hQ11 c d;exact⟨O,O,λh=>by have:=S c h;omega⟩⟩ ?_
 rintro(wr:Sl) (z:Int) u ⟨eu,zu,hs12u,i,Qw,rfl,hi,hrw,hQw⟩;have E12u:=E510.trans eu;have K:=o4.fr E12u;have hfl:(((Xr bk).take i).filter f).length<=i:=ku (oF _ _) (by rw[zY];omega);refine cN (λhlt=>?_) λhge=>?_
 ·have hx:(Xr bk)[i]?=some ((Xr bk)[i]' O):=cW _;generalize ((Xr bk)[i]' O)=zz at hx;have hzi:=U8 bi (zG hx);have htk:((Xr bk).take (i+1)).filter f=((Xr bk).take i).filter f++(if f zz then[zz]else[]):=by
   rw[kx,hx,rk,wJ]
   congr 1
   by_cases h:f zz=true
   ·rw[uZ h,zC h];rfl
   ·rw[ve h,zB h];rfl
  refine(bT.fW hs12u).ma hx (bL (K.b.rP rfl (AN K.p (Gb K.p.h zz O λw13 D=>?_))));refine KP (λr w=>w=w13/\r=f zz) (λr w ⟨hw,hr⟩=>?_) λJ hJ=>cR (λh=>hJ _ _ ⟨rfl,by rw[hfe,h];rfl⟩) λh=>hJ _ _ ⟨rfl,by rw[hfe,h];rfl⟩;rw[hw,hr];have z13:=D.1;have V:=aI.bP hs12u D;refine cR (λht=>?_) λhf=>cT (m:=i+1) O O ⟨⟨eu.trans D,O,V,i+1,Qw,rfl,O,by rw[htk,hf];simpa using aI.bP hrw D,λc d=>by have:=hQw c d;exact⟨this.1,O,this.2.2⟩⟩,O⟩;refine wo (aI.bP hrw D) (by rw[zK];omega) zz λs' w14 e14 hr14=>?_;have z14:=e14.1;refine cT (m:=i+1) O O ⟨⟨Ext.fresh (eu.trans D) e14 λc d=>(hQw c d).1,O,aI.bS V e14 λc _ h1 h2=>(hQw c h2).2.2 h1,i+1,_,rfl,O,by rw[htk,ht,zC rfl,←zl];exact hr14,λc d=>?_⟩,O⟩;rcases d with d|d
  ·have:=hQw c d;exact⟨this.1,O,this.2.2⟩
  ·exact⟨by have:=eu.1;omega,d.2,λh=>by have:=S c h;omega⟩
 ·have hin:i=ZM bk:=by omega
  subst hin;have hwr:QV H.sp bk++((Xr bk).take (ZM bk)).filter f=Kw H bk:=by
   rw[lH O,hfu];rfl
  rw[hwr]at hrw;have hwl:wr.len=(Kw H bk).length:=by have:=hrw.1;simp[Wu]at this;omega
  have hwb:(Kw H bk).length<=1000000:=by rw[←hwr,zK];omega
  have C:=eu.bV b4' id;refine uN (λw=>bY w U.size [.int .i64 e.1,.int .i64 e.2]/\Ext (kv P gb km fm qb Qq Qr) U w/\v4.size<=w.size/\∃Qr' N,(∀c,Qr' c->Qr c\/v4.size<=c)/\QP σ0 w L H held s0 P gb km fm x qb (Cut (λb=>v2.size<=b) v3) Qr' s3 N ⟨q.bl,q.by',r,if Kw H bk=[]then q.rs else q.rs++[(e.1,lz (Kw H bk))]⟩) (λw ⟨bw,Ew,zw,Qr',N,Z,ow⟩=>?_) λJ hJ=>?_
  ·refine bL (ow.b.rP rfl (bw.rI rfl (Zm.o ?_)));unfold Zm.v;refine Lg ow.p gc xi thread e.1 false (λw2 B e2=>?_) λb2 w2 ts H1 held' s0' P' er hm hf hw op fe e2 p2 hP2=>?_
   ·refine hR w2 H x _ (.stay g hg j B) ⟨L,held,s0,P,_,Qr',s3,N,ow.fr e2,rfl,Ew.gp e2,base (λc d=>.inl d) Z⟩
   ·rw[hg]at hm;cases hm;have o2':=ow.fA e2 p2 hP2;refine hR w2 H1 _ _ (.free g hg j hf hw op fe) ⟨{L with ts:=ts},held',s0',P',_,Qr',s3,N,o2',rfl,Ew.trans (e2.sub λc d=>.inl d),base (λc d=>(hP2 c d).imp id λh=>O) Z⟩
  ·refine cN (λhpos=>?_) λhneg=>?_
   ·have B:Kw H bk≠[]:=λh=>by rw[h]at hwl;simp at hwl;omega
    refine⟨λm=>bY m qb (vN gb {q with q:=r} s3 rs)/\bY m U.size [.int .i64 e.1,.int .i64 e.2],⟨K.b,C⟩,bL (gI (c:=.s) (y:=rs) (λm hm=>hm.1) rfl (gI (c:=bO) (y:=e.1) (λm hm=>hm.2) rfl ?_))⟩;refine SU (bT.fW hrw) hwb B ⟨⟨K.b,C⟩,?_⟩;have nr1:¬Qr qb:=o.sB.2.2.2;have nr2:¬Qr U.size:=λh=>by have:=(o.qr _ h).2.1;omega
    refine Ll K.rr (by show q.rs.length<=100000;omega) (e.1,lz (Kw H bk)) (λw E=>⟨E.bV K.b id,E.bV C id⟩) λs' w E hr'=>⟨⟨E.bV K.b nr1,E.bV C nr2⟩,?_⟩;have qi2:oR {({q with q:=r}:Qu)with rs:=q.rs++[(e.1,lz (Kw H bk))]}:=⟨F.bl,F.by',F.ql,F.qs,by show(q.rs++[_]).length<=10000;rw[zK,sv];omega⟩;refine bL (K.gF E hr' (λc d=>d) qi2 λw2 e2 o2'=>hJ w2 ?_);have zw:=E.1;have zw2:=e2.1;refine⟨e2.bV (E.bV C nr2) (λ(h:U.size=qb)=>O),((E4.gp E12u).trans (E.sub λc d=>.inr (.inr (.inr d)))).trans (e2.sub λc d=>.inr (.inl d)),by have:=E12u.1;omega,_,s',λc (d:Qr c\/u.size<=c/\c<w.size)=>d.imp id λh=>(by have:=E12u.1;omega),?_⟩;rw[zB B];exact o2'
   ·have hnil:Kw H bk=[]:=si O;refine hJ u ⟨C,E4.gp E12u,by have:=E12u.1;omega,Qr,rs,λc d=>.inl d,?_⟩;rw[zC hnil];exact K
structure QS (x:Gu) (q:Qu):Prop where
 xi:∀e∈x.kn,e.1=e.2.1/\gL e.2
 kl:x.kn.length<=1000000
 qa:∀e∈q.q,jA e.1
 rl:q.rs.length+q.q.length<=9000
theorem gN.side (r:gN thread H x q H' x' q')(h:QS x q):QS x' q':=by
 obtain⟨i,_,_,g,e,b⟩:=r.len;exact⟨λe a=>h.xi e (r.kn e a),ku r.kl h.kl,λk d=>h.qa k (by rw[b];exact mj _ d),by have:=h.rl;omega⟩
theorem Ot (hi:oR q)(h:Hj q=true):q.q≠[]:=λe=>by
 unfold Hj at h;rw[e]at h;have:=hi.bl;have:=hi.by';simp[iA]at h;omega
theorem OS {thread:Int}{K:aP}(o:QP σ0 U L H held s0 P gb km fm x qb Qq Qr qs rs q)(gc:Gc σ0)(s:QS x q)
 (hR:∀w H' x' q',iH thread H x q H' x' q'->QO σ0 U w L.p gb km fm qb (kv P gb km fm qb Qq Qr) H' x' q'->K w) :
 XS [] (λI1=>I1 U) λJ1 v17=>Jn [.b] (λ(t99:Bool) v18=>If t99 (WE.c (aW qb) thread v18 λv19=>J1 v19) (K v18)) λJ2=>
  dS v17 λS1=>bW (some ⟨qb,0,none⟩) λa82=>gC S1 .s (a82.add 3) λ(t84:Sl)=>bW (some ⟨qb,0,none⟩) λa87=>gC S1 bO (a87.add 1) λ(t89:Int)=>If (decide (((t84.len:Nat):Int)>t89)) (J2 true v17)
   (bW (some ⟨qb,0,none⟩) λa95=>gC S1 bO (a95.add 2) λ(t97:Int)=>WB.c (aW qb) v17 λt93 v20=>And (S1 v20)<|J2 (decide (t93>t97)) v20):=by
 refine DO (λn u=>∃H1 A q1,n=q1.q.length/\QO σ0 U u L.p gb km fm qb (kv P gb km fm qb Qq Qr) H1 A q1/\(∀H' x' q',iH thread H1 A q1 H' x' q'->iH thread H x q H' x' q')/\QS A q1) ⟨_,H,x,q,rfl,o.qo (Ext.refl _ _),λ_ _ _ h=>h,s⟩ ?_;rintro n u ⟨H1,A,q1,rfl,W,R,s1⟩ J1 J;obtain⟨L1,d,N,P1,Qq1,Qr1,a,B,o1,F,z,G⟩:=W;refine AK (λr w=>aF u w/\r=Hj q1) (λr w ⟨g,j⟩=>?_) λJ2 E=>?_
 ·have ow:=o1.fr g;refine cR (λS=>?_) λZ=>hR w H1 A q1 (R _ _ _ (.stop (by rw[←j];exact Z))) ⟨L1,d,N,P1,Qq1,Qr1,a,B,ow,F,z.gp g,G⟩;have C:Hj q1=true:=by rw[←j];exact S
  have X:=s1.rl;refine I6 ow gc s1.xi s1.kl s1.qa (Ot o1.i C) O λY H2 V q2 fr D=>?_;have Q:=fr.len;refine J q2.q.length Y O ⟨H2,V,q2,rfl,?_,λ_ _ _ h=>R _ _ _ (.next C fr h),fr.side s1⟩;rw[F]at D;exact QO.then (z.gp g) G D
 ·have M:∀m,aF u m->bY m qb (vN gb q1 a B):=λm e=>e.bV o1.b id;have Q:=o1.rq.kf;refine⟨λm=>aF u m,Ext.refl _ _,bL (gI (c:=.s) (y:=a) M rfl (bL (gI (c:=bO) (y:=q1.bl) M rfl (cN (λh=>E _ _ ⟨Ext.refl _ _,?_⟩) λh=>bL (gI (c:=bO) (y:=q1.by') M rfl (JZ o1 λw g=>⟨g,E _ _ ⟨g,?_⟩⟩))))))⟩
  ·unfold Hj;rw[zI (show(q1.q.length:Int)>q1.bl by rw[←Q];exact h)];rfl
  ·unfold Hj;rw[zL (show ¬(q1.q.length:Int)>q1.bl by rw[←Q];exact h),xS]
theorem B9 (o:QP σ0 U L H held s0 P gb km fm x qb Qq Qr qs rs q)(gc:Gc σ0)(s:QS x q)(thread:Int){R:Int->Int->Hp->Prop}(h0:∀w,ZX H thread≠0->aF U w->R 0 (ZX H thread) w)
 (h1:∀w H' x' q',ZX H thread=0->iQ thread H x q H' x' q'->QO σ0 U w L.p gb km fm qb (kv P gb km fm qb Qq Qr) H' x' q'->R (q.q.length:Int) 0 w):Wx.c (aW qb) thread U R:=by
 refine Wx.o ?_;unfold Wx.v;refine Iv o thread λv e=>cR (λd=>h0 v (by simpa using d) e) λE=>?_;have D:ZX H thread=0:=by simpa using E
 have o1:=o.fr e;have K:=o.rq.kf;refine bL (o1.b.rS rfl ?_);refine DO (λn u=>∃H1 y q1,n=q1.q.length/\QO σ0 U u L.p gb km fm qb (kv P gb km fm qb Qq Qr) H1 y q1/\(∀H' x' q',iQ thread H1 y q1 H' x' q'->iQ thread H x q H' x' q')/\QS y q1) ⟨_,H,x,q,rfl,o.qo e,λ_ _ _ h=>h,s⟩ ?_;rintro n u ⟨H1,y,q1,rfl,Q,M,s1⟩ J1 C;obtain⟨L1,a,J,P1,Qq1,Qr1,F,G,o1,A,g,z⟩:=Q;have m:=o1.rq.kf;refine bL (o1.b.rS rfl (cN (λi=>?_) λj=>?_))
 ·have d:q1.q≠[]:=λh=>by rw[h]at m;simp at m;simp only at i;omega
  have S:=s1.rl;refine I6 o1 gc s1.xi s1.kl s1.qa d O λV H2 N q2 fr B=>?_;have W:=fr.len;refine C q2.q.length V O ⟨H2,N,q2,rfl,?_,λ_ _ _ h=>M _ _ _ (.next fr h),fr.side s1⟩;rw[A]at B;exact QO.then g z B
 ·have r:q1.q=[]:=si (by simp only at j;omega);have:=h1 u H1 y q1 D (M _ _ _ (.stop r)) ⟨L1,a,J,P1,Qq1,Qr1,F,G,o1,A,g,z⟩;rw[←K]at this;exact this
def mW (H:Hw)(x:Gu)(q:Qu)(thread addr:Int):Int:=
 if ZX H thread≠0 then ZX H thread else if addr∈q.q.map (·.1)then 9 else match bU x.kn addr with
 | none=>lT H x thread addr true
 | some b=>if UJ H b then 5 else if QV H.sp b≠[]then 10 else 0
theorem O9 {sp:Sp}{l:List Int}{n:Nat}{z:Int}(h:l[n]?=some z)(f:Int->Int):iI sp (l.take (n+1)) f=ZL (iI sp (l.take n) f) z (f z):=by
 rw[kx,h,rk,Dd]
set_option maxRecDepth 16000 in
theorem HJ (o:QP σ0 U L H held s0 P gb km fm x qb Qq Qr qs rs q)(gc:Gc σ0)(s:QS x q)(hq:q.q.length<=65)(hrl:q.rs.length+q.q.length<=8000)(thread:Int){addr:Int}(ha:jA addr){R:aN}(h0:∀w,mW H x q thread addr≠0->aF U w->R (mW H x q thread addr) w)
 (h1:∀w b H' x' q',bU x.kn addr=some b->mW H x q thread addr=0->iH thread (dP H b) x {q with q:=q.q++[(addr,b.2.1)]} H' x' q'->QO σ0 U w L.p gb km fm qb (kv P gb km fm qb Qq Qr) H' x' q'->R 0 w):Wj.c (aW qb) thread addr U R:=by
 refine Wj.o ?_;unfold Wj.v;unfold mW at h0 h1;refine Iv o thread λv e=>cR (λj=>?_) λheq=>?_
 ·have hn:ZX H thread≠0:=by simpa using j
  rw[zC hn]at h0;exact h0 v hn e
 have hrd:ZX H thread=0:=by simpa using heq
 rw[zB (by rw[hrd];decide)]at h0 h1;have o1:=o.fr e;refine Sy o1 addr λv1 e1=>cR (λhh=>?_) λhh=>?_
 ·have G:addr∈q.q.map (·.1):=by simpa using hh
  rw[zC G]at h0;exact h0 v1 aB (e.trans e1)
 have G:¬addr∈q.q.map (·.1):=by simpa using hh
 rw[zB G]at h0 h1;have o2:=o1.fr e1;refine BK o2 s.xi s.kl ha (λw2 e2 hn=>qQ λw3 e3 b3=>cF rfl ?_) λw2 bk e2 E=>qQ λw3 e3 b3=>cD rfl ?_
 ·rw[hn]at h0;have o3:=(o2.fr e2).fr e3;refine bL (o3.b.rP rfl (PM (Lg o3.p gc s.xi thread addr true (λw4 j N=>h0 w4 j ((((e.trans e1).trans e2).trans e3).trans N)) λb w ts H1 held' B P' e Z=>by rw[hn]at Z;cases Z)))
 rw[E]at h0;simp only at h0;have F:gL bk:=(s.xi _ (Qi E)).2;have bb':=F.base;have bz:=F.z;have bm:=F.m;have bt:=F.t;have bs:=F.s;have hww:=ZE (n:=bk.2.1) O;have E3:=((e.trans e1).trans e2).trans e3;have o3:=o.fr E3;refine bL (o3.b.rP rfl (Fb o3.p s.xi addr λs4 v4 Q4 N S _=>cR (λj=>?_) λhe0=>?_))
 ·have d:kV H x addr≠0:=by simpa using j
  have Q:UJ H bk=true:=by
   unfold kV at d;rw[E]at d;simp only at d;cases Q:UJ H bk with
   | true=>rfl
   | false=>rw[Q]at d;simp at d
  have:kV H x addr=5:=by unfold kV;rw[E];simp only;rw[Q];rfl
  rw[this];rw[Q]at h0;exact h0 v4 aA (E3.trans N)
 have d:kV H x addr=0:=by simpa using he0
 have J:UJ H bk=false:=by
  unfold kV at d;rw[E]at d;simp only at d;cases Q:UJ H bk with
  | false=>rfl
  | true=>rw[Q]at d;simp at d
 have hckl:vV H x addr=QV H.sp bk:=by
  unfold vV;rw[E];simp only;rw[J];rfl
 rw[hckl]at S;rw[J]at h0;simp only[za,jR]at h0;have C:s4.len=(QV H.sp bk).length:=by have:=S.1;simp[Wu]at this;omega
 refine cN (λhpos=>?_) λhneg=>?_
 ·have j:QV H.sp bk≠[]:=λh=>by rw[h]at C;simp at C;omega
  rw[zC j]at h0;exact h0 v4 aB (E3.trans N)
 have hnil:QV H.sp bk=[]:=si O;have h1:=λw H' x' q'=>h1 w bk H' x' q' E (by rw[E];simp only;rw[J,hnil];rfl);have b4:=N.bV b3 id;have E4:=E3.trans N;have o4:=o.fr E4;refine b4.rI rfl (b4.rI rfl (b4.rI rfl (b4.rI rfl (Du F λs5 v5 Q5 e5 W hQ5=>?_))));have hwn:(Xr bk).length=ZM bk:=by simp[Xr]
 have hwn2:ZM bk<=200:=by unfold ZM;omega
 have hs5l:s5.len=ZM bk:=by have:=W.1;simp[Wu,hwn]at this;omega
 have b5:=e5.bV b4 id;have E5:=E4.trans e5;have o5:=o.fr E5;have z4:=E4.1;have z5:=e5.1;have X:=b5.lt;have M:U.size<=w2.size:=by have:=e.1;have:=e1.1;have:=e2.1;omega
 have V:∀c,U.size<=c->c<v5.size->¬Mg P gb km fm c:=λc h1 h2 hM=>by have:=uL o.p hM;omega
 have hnP:∀{P':Rg},(∀c,P' c->P c\/v5.size<=c)->∀c,U.size<=c->c<v5.size->¬P' c:=λhP c h1 h2 hp=>by
  rcases hP c hp with h|h
  ·have:=(o.p.pP c h).2;omega
  ·omega
 refine Qj (a:=bO) (λ(z:Int) u=>∃(i:Nat) (B:Sp) (P':Rg),z=i/\i<=ZM bk/\Ext (Mg P gb km fm) v5 u/\QP σ0 u L {H with sp:=iI H.sp ((Xr bk).take i) λ_=>Ho} held B P' gb km fm x qb Qq Qr qs rs q/\∀c,P' c->P c\/v5.size<=c) (λz _=>ZM bk-z.toNat)
  ⟨0,s0,P,rfl,O,Ext.refl _ _,by rw[wm];exact o5,λc g=>.inl g⟩ ?_
 rintro(z:Int) u ⟨i,B,P',rfl,hi,eu,A,hP'⟩;have zu:=eu.1;have Y:bT s5 1 (Wu (Xr bk)) u Q5:=aI.bS W eu λc _ g hM=>by have:=hQ5 c g;exact V c O this.2 hM
 refine cN (λhlt=>?_) λhge=>?_
 ·have hx:(Xr bk)[i]?=some ((Xr bk)[i]' O):=cW _;generalize ((Xr bk)[i]' O)=zz at hx;have hzi:=U8 F (zG hx);refine(bT.fW Y).ma hx (bL (A.b.rP rfl (AN A.p ?_)));refine A.p.write gc zz (-1234567) O λw6 s6 P6 e6 p6 hP6=>?_;have o6:=A.fA (e6.sub λc g=>.inl g) p6 hP6;refine cT (m:=i+1) O O ⟨⟨i+1,s6,P6,rfl,O,Ext.dW eu e6 λc g=>(hP' c g).imp .inl id,?_,λc g=>?_⟩,O⟩
  ·rw[O9 hx];exact o6
  ·rcases hP6 c g with h|h
   ·exact hP' c h
   ·exact .inr O
 ·have hin:i=ZM bk:=by omega
  subst hin;rw[lH O]at A;have A:QP σ0 u L (dP H bk) held B P' gb km fm x qb Qq Qr qs rs q:=A;have K:=eu.bV b5 (V _ M X);have nq:¬Qq w2.size:=λh=>by have:=(o.qq _ h).2.1;omega
  refine⟨λm=>bY m qb (vN gb q qs rs)/\bY m w2.size (jZ (bk.1,bk.2.1,bk.2.2.1,bk.2.2.2.1)),⟨A.b,K⟩,bL (gI (c:=.s) (y:=qs) (λm G=>G.1) rfl (gI (c:=bO) (y:=bk.2.1) (λm G=>G.2) rfl ?_))⟩;refine Ll A.rq (by have:=o.i.ql;omega) (addr,bk.2.1) (λw D=>⟨D.bV A.b id,D.bV K id⟩) λs' w D hr'=>⟨⟨D.bV A.b o.sB.2.2.1,D.bV K nq⟩,?_⟩;have qi2:oR {q with q:=q.q++[(addr,bk.2.1)]}:=⟨o.i.bl,o.i.by',by show(q.q++[_]).length<=66;rw[zK,sv];omega,λk r=>by
   rcases zM.1 r with r|r
   ·exact o.i.qs k r
   ·rw[zN]at r;subst r;exact bs,o.i.rl⟩
  refine bL (A.wC D hr' (λc g=>g) qi2 λw2' e2' o2'=>?_);have qs2:QS x {q with q:=q.q++[(addr,bk.2.1)]}:=⟨s.xi,s.kl,λk r=>by
   rcases zM.1 r with r|r
   ·exact s.qa k r
   ·rw[zN]at r;subst r;exact ha,by show q.rs.length+(q.q++[_]).length<=9000;rw[zK,sv];omega⟩
  have zw:=D.1;refine OS o2' gc qs2 λw3' H' x' q' hov oo=>h1 w3' H' x' q' hov ?_;refine QO.then (v:=w2') (T:=kv P' gb km fm qb (λb=>Qq b\/u.size<=b/\b<w.size) Qr) ((((aF.to E5).trans (eu.sub λc g=>.inl g)).trans (D.sub λc g=>.inr (.inr (.inl g)))).trans (e2'.sub λc g=>.inr (.inl g))) (λc g=>?_) oo;have:=E5.1;rcases g with(h|h)|h|h|h
  ·exact(hP' c h).imp (λh=>.inl (.inl h)) λh=>by omega
  ·exact .inl (.inl (.inr h))
  ·exact .inl (.inr (.inl h))
  ·exact h.imp (λh=>.inr (.inr (.inl h))) λh=>by omega
  ·exact .inl (.inr (.inr (.inr h)))
end Go.Ar
namespace Go.Proofs
open Go.Vc
set_option maxRecDepth 100000
def Xk.h:Hn:=.q .o1 (.q (.q .o5 .aK) (.q (.q .o1 (.k (.loop [(5,.I)] (.q (.q .o4 (.c .l .l)) (.q (.k (.q (.oq 9) .aK)) .o3))))) .aM))
def Xk.v (a b:Sl)(c:Hp)(d:aO):Prop:=If (((a.len:Nat):Int) != ((b.len:Nat):Int)) (d false c) (XS [bO] (λe=>e 0 c) λf (g:Int) h=>If (g<((a.len:Nat):Int)) (Ix a.a a.len g 2 λi=>aQ i 0 h λj=>aQ i 1 h λk=>Ix b.a b.len g 2 λl=>aQ l 0 h λm=>aQ l 1 h λn=>If (!((j==m)&&((k==n)&&true))) (d false h) (bM (g+1) λo=>f o h)) (d true h))
theorem Xk.o {a b c d}(e:Xk.v a b c d):Xk.c a b c d:=Wa Tryz.func54 (x:=Xk.h) (R0 e)
end Go.Proofs
namespace Go.Ar
open Go Go.Vc Go.Proofs
open Go.Vc (bU dA cO)
variable {thread:Int}{U σ0 v w w':Hp}{F P Q X T Tc:Rg}{L:dE}{H H' H1:Hw}{held:List Pc}{s0 sp:Sp}{t n:Nat}{gb km fm m pp:Nat}{x y x':Gu}{b:B5}{qb:Nat}{Qq Qr:Rg}{qs rs:Sl}{q q':Qu}
theorem QP.ue (o:QP σ0 U L H held s0 P gb km fm x qb Qq Qr qs rs q){L':dE}{held':List Pc}{s0':Sp}{P':Rg}(hp:L'.p=L.p)(e:Ext (Mg P gb km fm) U w)(p':GP σ0 w L' H' held' s0' P' gb km fm y)(hP:∀b,P' b->P b\/U.size<=b) :
 QO σ0 U w L.p gb km fm qb (kv P gb km fm qb Qq Qr) H' y q:=by
 refine⟨L',held',s0',P',Qq,Qr,qs,rs,o.fA e p' hP,hp,e.sub λc a=>.inl a,λc a=>?_⟩;rcases a with(h|h)|h|h|h
 ·exact(hP c h).imp (λh=>.inl (.inl h)) id
 ·exact .inl (.inl (.inr h))
 ·exact .inl (.inr (.inl h))
 ·exact .inl (.inr (.inr (.inl h)))
 ·exact .inl (.inr (.inr (.inr h)))
theorem JO (o:QP σ0 U L H held s0 P gb km fm x qb Qq Qr qs rs q)(gc:Gc σ0)(x0:0<=x.no/\x.no<=100000)(thread size align:Int){R:Int->Int->Hp->Prop}
 (h0:∀w,mr size align=false->aF U w->R 0 1 w)
 (h1:∀e w H',mr size align=true->e≠0->KO H thread 0 (zA align+Zk size+16) (zA align) 0 H' 0 e->fR H H'->H'.live=H.live->QO σ0 U w L.p gb km fm qb (kv P gb km fm qb Qq Qr) H' x q->R 0 e w)
 (h2:∀b w H1,vv H x size align b H1->KO H thread 0 (zA align+Zk size+16) (zA align) 0 H1 b.2.2.1 0->fR H H1->QO σ0 U w L.p gb km fm qb (kv P gb km fm qb Qq Qr) {H1 with sp:=jU H1.sp b} (x.eH b) q->R b.1 0 w) :
 Wp.c (aW qb) thread size align U R:=by
 refine Wp.o ?_;unfold Wp.v;refine V2 o (cD rfl (bL (o.b.rP rfl (Sj o.p gc x0 thread size align h0 (λe w ts H' a m P' z j d op y i g r=>?_) λb w ts H1 a m P' s d op i g r=>?_))))
 ·exact h1 e w H' z j d op y (o.ue (L':={L with ts:=ts}) rfl (i.sub λc u=>.inl u) g r)
 ·exact h2 b w H1 s d op (o.ue (L':={L with ts:=ts}) rfl i g r)
theorem Ev (o:QP σ0 U L H held s0 P gb km fm x qb Qq Qr qs rs q)(s:QS x q)(addr:Int)(ha:addr<=9223372036854775807){R:Int->Int->Hp->Prop}(ht:∀w,UH x q addr=true->aF U w->R 0 9 w)(h0:∀e w,UH x q addr=false->e≠0->aF U w->pK H x addr e->R 0 e w)
 (h1:∀w,UH x q addr=false->aF U w->pK H x addr 0->R (QZ H.sp addr) (eO H.sp addr) w):WG.c (aW qb) addr U R:=by
 refine WG.o ?_;unfold WG.v;refine V2 o (cD rfl (JN o s.xi s.kl s.qa addr λw e=>cR (λh=>ht w h e) λh=>?_));have o1:=o.fr e;exact bL (o1.b.rP rfl (Ψ o1.p s.xi addr ha (λi d g e2 a=>h0 i d h g (e.trans e2) a) λd e2 a=>h1 d h (e.trans e2) a))
theorem Rm (o:QP σ0 U L H held s0 P gb km fm x qb Qq Qr qs rs q)(gc:Gc σ0)(s:QS x q)(addr u:Int)(ha:addr<=9223372036854775807){R:aN}(ht:∀w,UH x q addr=true->aF U w->R 9 w)(h0:∀e w,UH x q addr=false->e≠0->aF U w->pK H x addr e->R e w)
 (h1:∀w,UH x q addr=false->pK H x addr 0->QO σ0 U w L.p gb km fm qb (kv P gb km fm qb Qq Qr) {H with sp:=ZL H.sp addr u} x q->R (eO H.sp addr) w):WQ.c (aW qb) addr u U R:=by
 refine WQ.o ?_;unfold WQ.v;refine V2 o (cD rfl (JN o s.xi s.kl s.qa addr λw e=>cR (λh=>ht w h e) λh=>?_));have o1:=o.fr e;refine bL (o1.b.rP rfl (Oo o1.p gc s.xi addr u ha (λm g i e2 a=>h0 m g h i (e.trans e2) a) λg s2 P2 a e2 r j=>h1 g h a ?_));exact QO.then (T:=kv P gb km fm qb Qq Qr) (aF.to e) (λc d=>.inl d) (o1.ue rfl (e2.sub λc d=>.inl d) r j)
theorem I2 (p:GP σ0 U L H held s0 P gb km fm x)(WW bytes:Int){R:Option Addr->Int->Hp->Prop}(h0:¬(0<=WW/\WW<=64/\0<=bytes/\bytes<=16384)->R none 1 U)
 (h1:0<=WW/\WW<=64/\0<=bytes/\bytes<=16384->∀w,aF U w->QP σ0 w L H held s0 P gb km fm x U.size (λ_=>False) (λ_=>False) ⟨none,0,0⟩ ⟨none,0,0⟩ ⟨WW,bytes,[],[]⟩->R (some ⟨U.size,0,none⟩) 0 w) :
 Zv.c (aW gb) WW bytes U R:=by
 refine Zv.o ?_;unfold Zv.v;refine AN p (KP (λr w=>w=U/\r=decide (WW<0)) (λr w ⟨d,g⟩=>?_) λJ a=>cD rfl (a _ _ ⟨rfl,rfl⟩));rw[d,g];refine KP (λr w=>w=U/\r=decide (WW<0\/WW>64)) (λr w ⟨d,g⟩=>?_) λJ a=>cN (λh=>a _ _ ⟨rfl,by rw[zI (.inl h)]⟩) λh=>a _ _ ⟨rfl,by rw[kU,decide_eq_true_iff,decide_eq_true_iff];omega⟩;rw[d,g];refine KP (λr w=>w=U/\r=decide (WW<0\/WW>64\/bytes<0)) (λr w ⟨d,g⟩=>?_) λJ a=>cN (λh=>a _ _ ⟨rfl,by rw[zI O]⟩) λh=>a _ _ ⟨rfl,by rw[kU,decide_eq_true_iff,decide_eq_true_iff];omega⟩;rw[d,g];refine KP (λr w=>w=U/\r=decide (WW<0\/WW>64\/bytes<0\/bytes>16384)) (λr w ⟨d,g⟩=>?_) λJ a=>cN (λh=>a _ _ ⟨rfl,by rw[zI O]⟩) λh=>a _ _ ⟨rfl,by rw[kU,decide_eq_true_iff,decide_eq_true_iff];omega⟩;rw[d,g];refine cN (λh=>h0 O) λh=>?_;refine nw (cs:=[.pointer (some ⟨gb,0,none⟩),.int .i64 WW,.int .i64 bytes,.slice none 0 0,.slice none 0 0]) λw m e i=>h1 O w e ?_;exact⟨p.fr e,i,⟨rfl,.inl ⟨rfl,rfl⟩⟩,⟨rfl,.inl ⟨rfl,rfl⟩⟩,⟨p.e.1,λj=>by have:=uL p j;omega,id,id⟩,λb i=>i.elim,λb i=>i.elim,λb i=>i.elim,⟨by show 0<=WW/\WW<=64;omega,by show 0<=bytes/\bytes<=16384;omega,by simp,by simp,by simp⟩⟩
theorem Rl (n:Nat):(List.replicate n [Value.int .i64 0,.int .i64 0]).flatten=gR (List.replicate n (0,0)):=by
 induction n with
 | zero=>rfl
 | succ n ih=>rw[r9,r9,vq,ih];rfl
theorem I3 (o:QP σ0 U L H held s0 P gb km fm x qb Qq Qr qs rs q){R:Sl->Hp->Prop}(hR:∀s w Q,aF U w->bT s 2 (gR q.rs) w Q->(∀c,Q c->U.size<=c/\c<w.size)->R s w):WD.c (aW qb) U R:=by
 refine WD.o ?_;unfold WD.v;have d:=o.rr.kf;have u:=o.i.rl;refine V2 o (cD rfl (bL (o.b.rS rfl (mk aC aC λv y e m=>?_))));have o1:=o.fr e;rw[Rl]at m;have a:=UM q.rs;refine bL (o1.b.rS rfl ⟨gR q.rs,by rw[a];simp only;omega,o1.rr.rd,Lw _,?_⟩);simp only at m ⊢;refine V8 m (by rw[a,UM,List.length_replicate];omega) λp o2 j=>?_;have g:List.take (0+0) (gR (List.replicate rs.len (0,0)))++gR q.rs++List.drop (0+0+(gR q.rs).length) (gR (List.replicate rs.len (0,0)))=gR q.rs:=by
  rw[List.drop_eq_nil_of_le (by rw[a,UM,List.length_replicate];omega)];simp
 rw[g]at j;refine hR _ p (· = U.size) (Ext.fresh e o2.ext λi (hi:i=U.size)=>O) ⟨by rw[a,d],.inr ⟨U.size,_,rfl,rfl,j,zD _,by rw[a,d],lY⟩⟩ λc r=>?_;have:=j.lt;omega
theorem ON {a b:Sl}{xs ys:List P2}(ha:cV a 2 (gR xs) U F)(hb:cV b 2 (gR ys) U Q)(hl:xs.length<=1000000){R:aO}(hR:xs=ys->R true U)(he:xs=ys):Xk.c a b U R:=by
 subst he;refine Xk.o ?_;unfold Xk.v;have d:a.len=xs.length:=by have:=ha.1;rw[UM]at this;omega
 have p:b.len=xs.length:=by have:=hb.1;rw[UM]at this;omega
 rw[d,p];refine cD aA (Qj (a:=bO) (λ(i:Int) w=>w=U/\∃k:Nat,i=k/\k<=xs.length) (λi _=>xs.length-i.toNat) ⟨rfl,0,rfl,O⟩ ?_);rintro(i:Int) w ⟨rfl,k,rfl,hk⟩;refine cN (λu=>?_) λx=>hR rfl;have g:xs[k]?=some (xs[k]' O):=cW _;generalize (xs[k]' O)=r at g;rw[←d];refine tM ha g λz o1 s=>eN (s 0 _ rfl) (eN (s 1 _ rfl) ?_);rw[d,←p];refine tM hb g λy o2 j=>eN (j 0 _ rfl) (eN (j 1 _ rfl) ?_);exact cD aA (cT (m:=k+1) O O ⟨⟨rfl,k+1,rfl,O⟩,O⟩)
end Go.Ar
namespace Go.Proofs
open Go.Vc
set_option maxRecDepth 100000
def Yg.h:Hn:=.q .o2 (.q (.q .o2 .aK) (.q .o3 (.q (.q .o2 .aK) (.q .o7 (.q .o9 (.q (.q (.cU (.seq [.op,.op,.op,.cY false 2 [.op,.op]])) .aK) (.q .o5 .l)))))))
def Yg.v (a b c d e f g h:Int)(i:Hp)(j:Option Addr->Hp->Prop):Prop:=aV #[.I a,.I b,.I c,.I d,.I e,.I f] 25 i λk l=>aQ k 0 l λm=>aQ k 1 l λn=>aQ k 2 l λo=>aQ k 3 l λp=>aQ k 4 l λq=>aQ k 5 l λr=>Xb.c m n o p q r l λs t=>If s (j none t) (aQ k 0 t λu=>aQ k 1 t λv=>aQ k 2 t λw=>aQ k 3 t λx=>aQ k 4 t λy=>aQ k 5 t λz=>WN.c u v w x y z t λaa ab=>If aa.isNone (j none ab) (Kg.c aa ab λac ad ae=>Zv.c ac g h ae λaf ag ah=>bX (λai aj=>If ai (j none aj) (aV #[.pointer aa,.pointer af,.slice none 0 0,.slice none 0 0] 35 aj λak al=>j (some ak) al)) λam=>If (ag != 0) (am true ah) (am af.isNone ah)))
theorem Yg.o {a b c d e f g h i j}(k:Yg.v a b c d e f g h i j):Yg.c a b c d e f g h i j:=Wa Tryz.func13 (x:=Yg.h) (R0 k)
def Xz.h:Hn:=.q .o1 (.q .o2 (.q (.q .o2 .aK) (.q .o7 (.q .o7 (.q (.q (.cU (.seq [.op,.op,.op,.cY false 2 [.op,.op]])) .aK) (.q .o7 (.q .o7 (.q .o7 (.q (.q (.cU (.seq [.op,.op,.op,.op,.op,.cY false 4 (RI.ops 4),.op,.cY false 7 (RI.ops 7),.op,.cY false 3 (RI.ops 3),.op,.cY false 4 (RI.ops 4)])) .aK) (.q .o8 (.q (.q (.cU (.seq [.op,.op,.op,.cY false 4 (RI.ops 4),.op,.cY false 7 (RI.ops 7),.op,.cY false 4 (RI.ops 4)])) .aK) (.q .o7 (.q (.cU (.seq [.op,.op,.op,.cY true 2 [.op,.op],.op,.cY true 7 (RI.ops 7),.op])) .l)))))))))))))
def Xz.v (a:Hp)(b:aO):Prop:=XQ.c a λc d=>If c.isNone (b false d) (Kg.c c d λe f g=>Zv.c e 2 1000 g λh i j=>bX (λk l=>If k (b false l) (Wp.c h 0 24 8 l λm n o=>Wp.c h 0 24 8 o λp q r=>Wp.c h 0 24 8 r λs t u=>Wj.c h 0 m u λv w=>bX (λx y=>bX (λz aa=>bX (λab ac=>bX (λad ae=>If ad (b false ae) (WG.c h m ae λaf ag ah=>bX (λai aj=>bX (λak al=>bX (λam an=>If am (b false an) (Wx.c h 0 an λao ap aq=>bX (λar au=>bX (λav aw=>b av aw) λax=>If ar (WD.c h au λay az=>aV #[.I p,.I p] 62 az λa0 a1=>Xk.c ay ⟨some a0,1,1⟩ a1 λa2 a3=>ax a2 a3) (ax false au)) λa4=>If (ao==2) (a4 (ap==0) aq) (a4 false aq))) λa5=>If ak (a5 true al) (Xy.c c p 3 al λa6 a7=>a5 (a6 != 0) a7)) λa8=>If ai (a8 true aj) (WH.c h aj λa9 ba=>aV #[.I p,.I s] 3 ba λbb bc=>XN.c a9 ⟨some bb,2,2⟩ bc λbd be=>a8 (!bd) be)) λbf=>If (ag != 9) (bf true ah) (Wj.c h 0 s ah λbg bh=>bf (bg != 0) bh))) λbi=>If ab (bi true ac) (Wj.c h 0 m ac λbj bk=>bi (bj != 9) bk)) λbl=>If z (bl true aa) (WB.c h aa λbm bn=>bl (bm != 48) bn)) λbo=>If x (bo true y) (WH.c h y λbp bq=>aV #[.I m,.I p] 3 bq λbr bs=>XN.c bp ⟨some br,2,2⟩ bs λbt bu=>bo (!bt) bu)) λbv=>If (v != 0) (bv true w) (Wj.c h 0 p w λbw bx=>bv (bw != 0) bx))) λbz=>If (i != 0) (bz true j) (bz h.isNone j))
theorem Xz.o {a b}(c:Xz.v a b):Xz.c a b:=Wa Tryz.func15 (x:=Xz.h) (R0 c)
def Xp.h:Hn:=.q .o2 (.q (.cU (.tail 5 (RI.ops 5) [.op,.op])) (.q (.q .o2 (.k (.q .o2 (.c (.q (.cU (.held true [10] (.tk [0,1,2,3,4,5,6,7,8,9] (.all [(10,.tk [11,12,13,14,15] (.done))])))) (.q (.q .o2 (.c (.o 11) .l)) .aL)) (.q .o2 (.c (.q (.cU (.tail 7 (RI.ops 7) [.op,.op])) (.q (.q .o2 (.c (.o 11) .l)) .aL)) (.q .o2 (.c (.q (.cU (.held true [6] (.tk [0,1,2,3,4,5] (.all [(6,.tk [7,8,9,10,11] (.done))])))) .aL) (.q .o2 (.c (.q (.o 11) .aL) (.q .o2 (.c (.q (.cU (.tail 7 (RI.ops 7) [.op,.op])) .l) .l)))))))))))) .aM))
def Xp.v (a:R2)(b c d e f g h:Int)(i:ByteArray)(j:Hp)(k:aN):Prop:=aV #[.I b,.I c,.I d,.I e,.I f,.I g,.I h,.string i] 40 j λl m=>bF a 2 m λo=>aQ l 0 m λp=>aQ l 1 m λq=>aQ l 2 m λr=>aQ l 3 m λs=>aQ l 4 m λt=>aQ l 5 m λu=>aQ l 6 m λv=>bD l 7 m λw=>Zh.c o p q r s t u v w m λx y=>aQ l 0 y λz=>If (z==40) (dS y λaa=>bW a λab=>aU aa ab 1 λac=>aS aa l 1 λad=>aS aa l 2 λae=>aS aa l 3 λaf=>Wp.c ac ad ae af y λag ah ai=>If (ah==0) (bF a 2 ai λak=>aV #[.I ag] 3 ai λal am=>App ak 1 8 3 [.I 0] ⟨some al,1,1⟩ am λan ao=>bW a λap=>aR ap 2 (.slice an.a an.len an.cap) ao λaq=>k ah aq) (k ah ai)) (If (z==41) (bG a 1 y λau=>aQ l 1 y λav=>Wj.c au av x y λaw ax=>If (aw==0) (bF a 3 ax λaz=>aV #[.I x] 3 ax λa0 a1=>App az 1 8 3 [.I 0] ⟨some a0,1,1⟩ a1 λa2 a3=>bW a λa4=>aR a4 3 (.slice a2.a a2.len a2.cap) a3 λa5=>k aw a5) (k aw ax)) (If (z==42) (dS y λa6=>bW a λa7=>aU a6 a7 1 λa8=>aS a6 l 1 λa9=>Wx.c a8 a9 y λba bb bc=>k bb bc) (If (z==43) (bG a 1 y λbe=>WG.c be x y λbf bg bh=>k bg bh) (If (z==44) (bG a 1 y λbj=>
 aQ l 6 y λbk=>WQ.c bj x bk y λbl bm=>k bl bm) (k 0 y)))))
theorem Xp.o {a b c d e f g h i j k}(l:Xp.v a b c d e f g h i j k):Xp.c a b c d e f g h i j k:=Wa Tryz.func17 (x:=Xp.h) (R0 l)
def Ya.h:Hn:=.q .o2 (.q (.q .o3 .aK) (.q .o5 (.q (.q .o2 .aK) (.q (.q .o1 (.k (.loop [(12,.I)] (.q (.q .o4 (.c .l .l)) (.q (.k .o6) .o3))))) .aL))))
def Ya.v (a b c d e f g h:Int)(i:Sl)(j:Int)(k:Hp)(l:Option Addr->Hp->Prop):Prop:=aV #[.I a,.I b,.I c,.I d,.I e,.I f] 25 k λm n=>Ye.c i j n λo p=>If o (l none p) (aQ m 0 p λq=>aQ m 1 p λr=>aQ m 2 p λs=>aQ m 3 p λt=>aQ m 4 p λu=>aQ m 5 p λv=>Yg.c q r s t u v g h p λw x=>If w.isNone (l none x) (XS [bO] (λy=>y 0 x) λz (aa:Int) ab=>If (aa<((i.len:Nat):Int)) (Ix i.a i.len aa 8 λac=>aQ ac 0 ab λad=>aQ ac 1 ab λae=>aQ ac 2 ab λaf=>aQ ac 3 ab λag=>aQ ac 4 ab λah=>aQ ac 5 ab λai=>aQ ac 6 ab λaj=>bD ac 7 ab λak=>Xp.c w ad ae af ag ah ai aj ak ab λal am=>bM (aa+1) λan=>z an am) (l w ab)))
theorem Ya.o {a b c d e f g h i j k l}(m:Ya.v a b c d e f g h i j k l):Ya.c a b c d e f g h i j k l:=Wa Tryz.func20 (x:=Ya.h) (R0 m)
end Go.Proofs
namespace Go.Ar
open Go Go.Vc Go.Proofs
open Go.Vc (bU dA cO)
variable {thread:Int}{U σ0 v w w':Hp}{F P Q X T T' Tc Qa Qf:Rg}{L:dE}{H H' H1:Hw}{held:List Pc}{s0 sp:Sp}{t n:Nat}{gb km fm m pp xb:Nat}{x y x':Gu}{b:B5}{qb:Nat}{Qq Qr:Rg}{qs rs addrs fl:Sl}{ad fd:List Int}{q q':Qu}
def QB (σ0 U:Hp)(pp gb km fm qb:Nat)(T:Rg)(H:Hw)(x:Gu)(q:Qu):Prop:=
 ∃L held s0 P Qq Qr qs rs,QP σ0 U L H held s0 P gb km fm x qb Qq Qr qs rs q/\L.p=pp/\T=kv P gb km fm qb Qq Qr
theorem QB.fr (o:QB σ0 U pp gb km fm qb T H x q)(e:aF U w):QB σ0 w pp gb km fm qb T H x q:=by
 obtain⟨L,a,s0,P,Qq,Qr,qs,d,h,b,g⟩:=o;exact⟨L,a,s0,P,Qq,Qr,qs,d,h.fr e,b,g⟩
theorem QB.out (o:QB σ0 U pp gb km fm qb T H x q)(e:Ext X U w)(hX:∀b,b<U.size->X b->¬T b/\σ0.size<=b):QB σ0 w pp gb km fm qb T H x q:=by
 obtain⟨L,a,s0,P,Qq,Qr,qs,g,h,d,rfl⟩:=o;exact⟨L,a,s0,P,Qq,Qr,qs,g,h.out e hX,d,rfl⟩
theorem QB.lt (o:QB σ0 U pp gb km fm qb T H x q){c:Nat}(h:T c):σ0.size<=c/\c<U.size:=by
 obtain⟨L,a,s0,P,Qq,Qr,qs,g,b,d,rfl⟩:=o;exact JA b h
theorem QB.e (o:QB σ0 U pp gb km fm qb T H x q):aF σ0 U:=by
 obtain⟨L,a,s0,P,Qq,Qr,qs,g,b,d,rfl⟩:=o;exact b.p.e
theorem QB.hi (o:QB σ0 U pp gb km fm qb T H x q):∃held s0,HI H held s0:=by
 obtain⟨L,held,s0,P,Qq,Qr,qs,d,a,b,rfl⟩:=o;exact⟨held,s0,a.p.hi⟩
theorem QB.cf (o:QB σ0 U pp gb km fm qb T H x q):iY H:=by
 obtain⟨L,a,s0,P,Qq,Qr,qs,g,b,d,rfl⟩:=o;exact b.p.cf
theorem QB.qi (o:QB σ0 U pp gb km fm qb T H x q):oR q:=by
 obtain⟨L,a,s0,P,Qq,Qr,qs,g,b,d,rfl⟩:=o;exact b.i
theorem QO.tb (o:QO σ0 U w pp gb km fm qb Tc H x q):∃T',QB σ0 w pp gb km fm qb T' H x q/\Ext Tc U w/\∀c,T' c->Tc c\/U.size<=c:=by
 obtain⟨L',a,g,P',Qq',Qr',d,b,h,m,j,i⟩:=o;exact⟨_,⟨L',a,g,P',Qq',Qr',d,b,h,m,rfl⟩,j,i⟩
def yU (hp qb:Nat)(addrs fl:Sl):List Value:=[.pointer (some ⟨hp,0,none⟩),.pointer (some ⟨qb,0,none⟩),.slice addrs.a addrs.len addrs.cap,.slice fl.a fl.len fl.cap]
def qB (T:Rg)(xb:Nat)(Qa Qf:Rg):Rg:=λb=>T b\/b=xb\/Qa b\/Qf b
structure OQ (σ0 U:Hp) (xb pp gb km fm qb:Nat) (T Qa Qf:Rg) (H:Hw) (x:Gu) (q:Qu) (addrs:Sl) (ad:List Int) (fl:Sl) (fd:List Int):Prop where
 p:QB σ0 U pp gb km fm qb T H x q
 b:bY U xb (yU pp qb addrs fl)
 ra:bT addrs 1 (Wu ad) U Qa
 rf:bT fl 1 (Wu fd) U Qf
 rh:σ0.size<=xb/\¬T xb/\¬Qa xb/\¬Qf xb
 qa:∀b,Qa b->σ0.size<=b/\b<U.size/\¬T b
 qf:∀b,Qf b->σ0.size<=b/\b<U.size/\¬T b
 dj:∀b,Qa b->¬Qf b
theorem OQ.oe (o:OQ σ0 U xb pp gb km fm qb T Qa Qf H x q addrs ad fl fd)(e:aF U w):OQ σ0 w xb pp gb km fm qb T Qa Qf H x q addrs ad fl fd:=
 ⟨o.p.fr e,e.bV o.b id,aI.bP o.ra e,aI.bP o.rf e,o.rh,λb a=>by have h:=o.qa b a;have:=e.1;exact⟨h.1,O,h.2.2⟩,λb a=>by have h:=o.qf b a;have:=e.1;exact⟨h.1,O,h.2.2⟩,o.dj⟩
theorem OQ.fA (o:OQ σ0 U xb pp gb km fm qb T Qa Qf H x q addrs ad fl fd)(e:Ext T U w)(p':QB σ0 w pp gb km fm qb T' H' x' q')(hT:∀c,T' c->T c\/U.size<=c):OQ σ0 w xb pp gb km fm qb T' Qa Qf H' x' q' addrs ad fl fd:=by
 have z:=e.1;have j:=o.b.lt;obtain⟨s,m,r,y⟩:=o.rh;have i:∀b,b<U.size->¬T b->¬T' b:=λb A u p=>(hT b p).elim u λh=>by omega
 exact⟨p',e.bV o.b m,aI.bS o.ra e λb _ a g=>(o.qa b a).2.2 g,aI.bS o.rf e λb _ a g=>(o.qf b a).2.2 g,⟨s,i _ j m,r,y⟩,λb d=>by have h:=o.qa b d;exact⟨h.1,O,i b h.2.1 h.2.2⟩,λb d=>by have h:=o.qf b d;exact⟨h.1,O,i b h.2.1 h.2.2⟩,o.dj⟩
theorem OQ.cE (o:OQ σ0 U xb pp gb km fm qb T Qa Qf H x q addrs ad fl fd){s':Sl}{ad':List Int}(e:Ext Qa U w)(hr:bT s' 1 (Wu ad') w λb=>Qa b\/U.size<=b/\b<w.size){K:aP}
 (hK:∀u,Ext (· = xb) w u->OQ σ0 u xb pp gb km fm qb T (λb=>Qa b\/U.size<=b/\b<w.size) Qf H x q s' ad' fl fd->K u):dF (Addr.add ⟨xb,0,none⟩ 2) (.slice s'.a s'.len s'.cap) w K:=by
 have L:=e.1;have J:=o.b.lt;obtain⟨A,r,z,y⟩:=o.rh;have E:=o.p.e.1;have D:=o.p.out e λb _ d=>⟨(o.qa b d).2.2,(o.qa b d).1⟩;have j:=aI.bS o.rf e λb _ g F=>o.dj b F g;refine(e.bV o.b z).s1 (by simp[yU]) λu s b=>?_;have i:=s.ext;have G:=s.1;have B:¬(Qa xb\/U.size<=xb/\xb<w.size):=λh=>h.elim z λh=>by omega
 refine hK u i ⟨D.out i λb _ (d:b=xb)=>by subst d;exact⟨r,A⟩,b,aI.bS hr i λb _ m (d:b=xb)=>B (d▸m),aI.bS j i λb _ m (d:b=xb)=>y (d▸m),⟨A,r,B,y⟩,λb d=>?_,λb d=>by have h:=o.qf b d;exact⟨h.1,O,h.2.2⟩,λb d g=>?_⟩
 ·rcases d with d|d
  ·have h:=o.qa b d;exact⟨h.1,O,h.2.2⟩
  ·exact⟨O,O,λC=>by have:=o.p.lt C;omega⟩
 ·rcases d with d|d
  ·exact o.dj b d g
  ·have:=(o.qf b g).2.1;omega
theorem OQ.Ct (o:OQ σ0 U xb pp gb km fm qb T Qa Qf H x q addrs ad fl fd){s':Sl}{fd':List Int}(e:Ext Qf U w)(hr:bT s' 1 (Wu fd') w λb=>Qf b\/U.size<=b/\b<w.size){K:aP}
 (hK:∀u,Ext (· = xb) w u->OQ σ0 u xb pp gb km fm qb T Qa (λb=>Qf b\/U.size<=b/\b<w.size) H x q addrs ad s' fd'->K u):dF (Addr.add ⟨xb,0,none⟩ 3) (.slice s'.a s'.len s'.cap) w K:=by
 have L:=e.1;have J:=o.b.lt;obtain⟨A,r,z,y⟩:=o.rh;have E:=o.p.e.1;have D:=o.p.out e λb _ d=>⟨(o.qf b d).2.2,(o.qf b d).1⟩;have j:=aI.bS o.ra e λb _ F g=>o.dj b F g;refine(e.bV o.b y).s1 (by simp[yU]) λu s b=>?_;have i:=s.ext;have G:=s.1;have B:¬(Qf xb\/U.size<=xb/\xb<w.size):=λh=>h.elim y λh=>by omega
 refine hK u i ⟨D.out i λb _ (d:b=xb)=>by subst d;exact⟨r,A⟩,b,aI.bS j i λb _ m (d:b=xb)=>z (d▸m),aI.bS hr i λb _ m (d:b=xb)=>B (d▸m),⟨A,r,z,B⟩,λb d=>by have h:=o.qa b d;exact⟨h.1,O,h.2.2⟩,λb d=>?_,λb d g=>?_⟩
 ·rcases d with d|d
  ·have h:=o.qf b d;exact⟨h.1,O,h.2.2⟩
  ·exact⟨O,O,λC=>by have:=o.p.lt C;omega⟩
 ·rcases g with g|g
  ·exact o.dj b d g
  ·have:=(o.qa b d).2.1;omega
inductive kN (H:Hw) (x:Gu) (q:Qu) (d:fC) (a:Int):Hw->Gu->Qu->Int->Option Int->Option Int->Prop
 | same (e:Int):(e=0->d.kd≠40/\d.kd≠41/\d.kd≠42)->kN H x q d a H x q e none none
 | full {H':Hw} {e:Int}:d.kd=40->mr d.a d.b=true->e≠0->KO H d.th 0 (zA d.b+Zk d.a+16) (zA d.b) 0 H' 0 e->fR H H'->H'.live=H.live->kN H x q d a H' x q e none none
 | eH {b:B5} {H1:Hw}:d.kd=40->vv H x d.a d.b b H1->KO H d.th 0 (zA d.b+Zk d.a+16) (zA d.b) 0 H1 b.2.2.1 0->fR H H1->kN H x q d a {H1 with sp:=jU H1.sp b} (x.eH b) q 0 (some b.1) none
 | nj {b:B5} {H':Hw} {x':Gu} {q':Qu}:d.kd=41->bU x.kn a=some b->mW H x q d.th a=0->iH d.th (dP H b) x {q with q:=q.q++[(a,b.2.1)]} H' x' q'->kN H x q d a H' x' q' 0 none (some a)
 | drain {H':Hw} {x':Gu} {q':Qu}:d.kd=42->ZX H d.th=0->iQ d.th H x q H' x' q'->kN H x q d a H' x' q' 0 none none
 | wrote:d.kd=44->UH x q a=false->pK H x a 0->kN H x q d a {H with sp:=ZL H.sp a d.va} x q (eO H.sp a) none none
set_option maxRecDepth 16000 in
theorem TR (o:OQ σ0 U xb pp gb km fm qb T Qa Qf H x q addrs ad fl fd)(gc:Gc σ0)(s:QS x q)(x0:0<=x.no/\x.no<=100000)(hq:q.q.length<=65)(hrl:q.rs.length+q.q.length<=8000)(hal:ad.length<=100000)(hfl:fd.length<=100000)(d:fC)(di:kR d){R:aN}
 (hR:∀e w T' H' x' q' Qa' Qf' addrs' fr' add del,OQ σ0 w xb pp gb km fm qb T' Qa' Qf' H' x' q' addrs' (ad++Option.toList add) fr' (fd++Option.toList del)->kN H x q d (sT ad d) H' x' q' e add del->Ext (qB T xb Qa Qf) U w->(∀b,qB T' xb Qa' Qf' b->qB T xb Qa Qf b\/U.size<=b)->R e w) :
 Xp.c (aW xb) d.kd d.th d.a d.b d.of d.pl d.va d.s U R:=by
 refine Xp.o ?_;unfold Xp.v;have tT:∀{u u':Hp},Ext T u u'->Ext (qB T xb Qa Qf) u u':=λe=>e.sub λb j=>.inl j;have tX:∀{u u':Hp},Ext (· = xb) u u'->Ext (qB T xb Qa Qf) u u':=λe=>e.sub λb j=>.inr (.inl j);have tA:∀{u u':Hp},Ext Qa u u'->Ext (qB T xb Qa Qf) u u':=λe=>e.sub λb j=>.inr (.inr (.inl j));have tF:∀{u u':Hp},Ext Qf u u'->Ext (qB T xb Qa Qf) u u':=λe=>e.sub λb j=>.inr (.inr (.inr j));have hxb:=o.b.lt;have h00:=o.p.e.1;refine nw (cs:=uI d) λv hz e j=>bL ((o.oe e).b.rS rfl (j.rI rfl (j.rI rfl (j.rI rfl (j.rI rfl (j.rI rfl (j.rI rfl (j.rI rfl (j.rT rfl ?_)))))))));have o1:=o.oe e;refine RW (bT.fW o1.ra) d λN e1=>?_;have o2:=o1.oe e1;have A:=e.trans e1;have zv:U.size<=N.size:=A.1;have z:=e1.bV j id;have E:=Mq (ad:=ad) di;generalize hx:sT ad d=ax at E hR;have a0:ad++Option.toList (none:Option Int)=ad:=by simp
 have Z:fd++Option.toList (none:Option Int)=fd:=by simp
 have same:∀e w,(e=0->d.kd≠40/\d.kd≠41/\d.kd≠42)->aF N w->R e w:=λe w he g=>by
  have B:=o.oe (A.trans g);refine hR e w T H x q Qa Qf addrs fl none none ?_ (.same e he) (aF.to (A.trans g)) λ_=>.inl;rw[a0,Z];exact B
 have G:∀e w H' x' q',QO σ0 N w pp gb km fm qb T H' x' q'->kN H x q d ax H' x' q' e none none->R e w:=λe w H' x' q' B out=>by
  obtain⟨T',V,D,F⟩:=B.tb;have o3:=o2.fA D V F;refine hR e w T' H' x' q' Qa Qf addrs fl none none (by rw[a0,Z];exact o3) out ((aF.to A).trans (tT D)) λc S=>?_;rcases S with h|h|h|h
  ·exact(F c h).imp .inl λh=>by omega
  ·exact .inl (.inr (.inl h))
  ·exact .inl (.inr (.inr (.inl h)))
  ·exact .inl (.inr (.inr (.inr h)))
 have hnT:¬T U.size:=λhm=>by have:=o.p.lt hm;omega
 obtain⟨L,held,s0,P,Qq,Qr,qs,rs,W,rfl,rfl⟩:=o2.p;refine z.rI rfl (cR (λK=>?_) λhk0=>?_)
 ·have C:d.kd=40:=by simpa using K
  refine⟨λm=>aF N m,Ext.refl _ _,bL (gI (c:=.p) (y:=some ⟨qb,0,none⟩) (λm e=>e.bV o2.b id) rfl (gI (c:=bO) (y:=d.th) (λm e=>e.bV z id) rfl (gI (c:=bO) (y:=d.a) (λm e=>e.bV z id) rfl (gI (c:=bO) (y:=d.b) (λm e=>e.bV z id) rfl ?_))))⟩;refine JO W gc x0 d.th d.a d.b (λw Q g=>?_) (λe w H' Q r hw op hl B=>?_) λb w H1 gr hw op B=>?_
  ·exact cD aB (same 1 w (λh=>by cases h) g)
  ·exact cD (by simpa using r) (G e w H' x q B (.full C Q r hw op hl))
  ·refine cF rfl ?_;obtain⟨T',V,D,F⟩:=B.tb;have o3:=o2.fA D V F;refine bL (o3.b.rS rfl (wo o3.ra O b.1 λs' u1 M J=>bL (o3.cE M J λu2 e5 o5=>?_)));have z3:=D.1;have z4:=M.1;refine hR 0 u2 T' _ _ _ _ Qf s' fl (some b.1) none (by rw[Z];exact o5) (.eH C gr hw op) ((((aF.to A).trans (tT D)).trans (tA M)).trans (tX e5)) λc S=>?_;rcases S with h|h|h|h
   ·exact(F c h).imp .inl λh=>by omega
   ·exact .inl (.inr (.inl h))
   ·exact h.imp (λh=>.inr (.inr (.inl h))) λh=>by omega
   ·exact .inl (.inr (.inr (.inr h)))
 have k0:d.kd≠40:=by simpa using hk0
 refine cR (λK=>?_) λY=>?_
 ·have C:d.kd=41:=by simpa using K
  refine bL (o2.b.rP rfl (z.rI rfl ?_));refine HJ W gc s hq hrl d.th E (λw r g=>cD (by simpa using r) (same _ w (λh=>absurd h r) g)) λw b H' x' q' hm h0 ov B=>cF rfl ?_;obtain⟨T',V,D,F⟩:=B.tb;have o3:=o2.fA D V F;refine bL (o3.b.rS rfl (wo o3.rf O ax λs' u1 M J=>bL (o3.Ct M J λu2 e5 o5=>?_)));have z3:=D.1;have z4:=M.1;refine hR 0 u2 T' _ _ _ Qa _ addrs s' none (some ax) (by rw[a0];exact o5) (.nj C hm h0 ov) ((((aF.to A).trans (tT D)).trans (tF M)).trans (tX e5)) λc S=>?_;rcases S with h|h|h|h
  ·exact(F c h).imp .inl λh=>by omega
  ·exact .inl (.inr (.inl h))
  ·exact .inl (.inr (.inr (.inl h)))
  ·exact h.imp (λh=>.inr (.inr (.inr h))) λh=>by omega
 have k1:d.kd≠41:=by simpa using Y
 refine cR (λK=>?_) λhk2=>?_
 ·have C:d.kd=42:=by simpa using K
  refine⟨λm=>aF N m,Ext.refl _ _,bL (gI (c:=.p) (y:=some ⟨qb,0,none⟩) (λm e=>e.bV o2.b id) rfl (gI (c:=bO) (y:=d.th) (λm e=>e.bV z id) rfl ?_))⟩;exact B9 W gc s d.th (λw r g=>same _ w (λh=>absurd h r) g) λw H' x' q' h0 dr B=>G 0 w H' x' q' B (.drain C h0 dr)
 have k2:d.kd≠42:=by simpa using hk2
 have X:d.kd≠40/\d.kd≠41/\d.kd≠42:=⟨k0,k1,k2⟩;refine cR (λ_=>bL (o2.b.rP rfl (Ev W s ax E.2 (λw _ g=>same 9 w (λh=>by cases h) g) (λe w _ _ g _=>same e w (λ_=>X) g) λw _ g _=>same _ w (λ_=>X) g))) λ_=>?_;refine cR (λK=>bL (o2.b.rP rfl (z.rI rfl (Rm W gc s ax d.va E.2 (λw _ g=>same 9 w (λh=>by cases h) g) (λe w _ _ g _=>same e w (λ_=>X) g) λw ht wd B=>G _ w _ x q B (.wrote (by simpa using K) ht wd))))) λ_=>same 0 N (λ_=>X) (Ext.refl _ _)
end Go.Ar
namespace Go.Ar
open Go Go.Vc Go.Proofs
open Go.Vc (bU dA cO)
variable {thread:Int}{H H' H1 H2:Hw}{held held1:List Pc}{s0 s1 sp:Sp}{x y x' x1 x2:Gu}{b:B5}{q q' q1 q2:Qu}{ad fd:List Int}{W:Int->List Int}{l l':List P2}{d:fC}{a:Int}{bl by':Int}
theorem E8 {α:Type}:∀{l:List (Int×α)} {a:Int} {b:α},(l.map (·.1)).Nodup->(a,b)∈l->(cO l a).length+1=l.length
 | [],_,_,_,h=>by simp at h
 | y::l,a,b,hn,h=>by
  rw[zR,zr]at hn;show((y::l).filter λz=>!(z.1==a)).length+1=_;rcases zW.1 h with rfl|h
  ·rw[ve aA,qH.2 λz hz=>?_,zS];have:z.1≠a:=λe=>hn.1 (zE.2 ⟨z,hz,e⟩);simpa using this
  ·have d:y.1≠a:=λe=>hn.1 (by rw[e];exact zE.2 ⟨(a,b),h,rfl⟩);rw[uZ (by simpa using d),zS,zS];exact congrArg (· + 1) (E8 hn.2 h)
theorem Tv (g:dR H x)(g':dR H' x')(hi:HI H held s0)(hi':HI H' held1 s1){e:Int×B5}(he:e∈x.kn)(k:Kept H x H' x' e):qF H'.sp e.2=qF H.sp e.2:=by
 unfold qF;refine vP λz a=>?_;rw[g.acc hi he (.inr a),g'.acc hi' k.1 (.inr a),k.2 z a]
theorem Kept.trans {e:Int×B5}(h:Kept H x H1 x1 e)(h':Kept H1 x1 H2 x2 e):Kept H x H2 x2 e:=⟨h'.1,λz a=>(h'.2 z a).trans (h.2 z a)⟩
theorem Kept.refl {e:Int×B5}(h:e∈x.kn):Kept H x H x e:=⟨h,λ_ _=>rfl⟩
structure KQ (W:Int->List Int) (H:Hw) (x:Gu) (l:List P2):Prop where
 g:dR H x
 k:∀e∈l,∃b,bU x.kn e.1=some b/\e.2=b.2.1/\qF H.sp b=W e.1
 nd:(l.map (·.1)).Nodup
theorem KQ.step (kq:KQ W H x l)(hi:HI H held s0)(hi':HI H' held1 s1)(g':dR H' x')(hk:∀e∈x.kn,e.1∈l.map (·.1)->Kept H x H' x' e):KQ W H' x' l:=⟨g',λe i=>by
 obtain⟨b,p,m,j⟩:=kq.k e i;have a:=Qi p;have d:=hk (e.1,b) a (zE.2 ⟨e,i,rfl⟩);exact⟨b,Qg g'.nd d.1,m,by rw[←j];exact Tv kq.g g' hi hi' a d⟩,kq.nd⟩
theorem KQ.tail {e:P2}(kq:KQ W H x (e::l)):KQ W H x l:=⟨kq.g,λk a=>kq.k k (mj _ a),(zr.1 kq.nd).2⟩
def lh (W:Int->List Int)(l:List P2):List P2:=l.flatMap λe=>if W e.1=[]then[]else[(e.1,lz (W e.1))]
theorem Mp (l l':List P2):lh W (l++l')=lh W l++lh W l':=by simp[lh]
structure nW (W:Int->List Int) (thread:Int) (H:Hw) (x:Gu) (q:Qu) (H':Hw) (x':Gu) (q':Qu):Prop where
 hi:∃held' s0',HI H' held' s0'
 rd:ZX H' thread=0
 kp:Q2 H' H
 kq:KQ W H' x' q'.q
 bb:q'.bl=q.bl/\q'.by'=q.by'
 no:x'.no=x.no
 kn:x'.kn.length+q.q.length=x.kn.length+q'.q.length
 sf:∃l,q.q=l++q'.q/\(∀k∈x.kn,k.1∉l.map (·.1)->Kept H x H' x' k)/\q'.rs=q.rs++lh W l
theorem nW.refl (kq:KQ W H x q.q)(hi:HI H held s0)(hrd:ZX H thread=0):nW W thread H x q H x q:=
 ⟨⟨held,s0,hi⟩,hrd,Q2.refl _,kq,⟨rfl,rfl⟩,rfl,rfl,[],rfl,λk a _=>Kept.refl a,by simp[lh]⟩
theorem nW.trans (a:nW W thread H x q H1 x1 q1)(c:nW W thread H1 x1 q1 H2 x2 q2):nW W thread H x q H2 x2 q2:=by
 obtain⟨l,r,p,g⟩:=a.sf;obtain⟨i,j,k2,k3⟩:=c.sf;refine⟨c.hi,c.rd,a.kp.trans c.kp,c.kq,⟨c.bb.1.trans a.bb.1,c.bb.2.trans a.bb.2⟩,c.no.trans a.no,by have:=a.kn;have:=c.kn;omega,l++i,by rw[r,j,zl],λk m b=>?_,by rw[k3,g,Mp,zl]⟩;rw[zj,zM]at b;have d:=p k m λh=>b (.inl h);exact d.trans (k2 k d.1 λh=>b (.inr h))
theorem KQ.ck (kq:KQ W H x l)(hi:HI H held s0){e:P2}(he:e∈l):kV H x e.1=0:=by
 obtain⟨b,a,_,_⟩:=kq.k e he;unfold kV;rw[a];simp only;rw[kq.g.lost hi (Qi a)];rfl
theorem gN.st (r:gN thread H x q H' x' q')(kq:KQ W H x q.q)(hi:HI H held s0)(hcf:iY H)(hrd:ZX H thread=0):nW W thread H x q H' x' q':=by
 cases r with
 | none h1 h2=>
  rename_i e r;have j:e∈q.q:=by rw[h1];exact mJ
  obtain⟨b,m,_,_⟩:=kq.k e j;rcases h2 with h2|h2
  ·rw[m]at h2;cases h2
  ·exact absurd (kq.ck hi j) h2
 | stay h1 h2 h3 h4=>
  refine absurd ?_ h4;unfold lT;rw[zB (by rw[hrd];decide),h2];simp only;rw[kq.g.lost hi (Qi h2)];rfl
 | free h1 h2 h3 h4 hw op fe=>
  rename_i e r b er;have j:e∈q.q:=by rw[h1];exact mJ
  obtain⟨E,m,D,B⟩:=kq.k e j;rw[h2]at m;cases m;obtain⟨C,z⟩:=kq.g.free hi h2 hw op fe hrd hcf.2.1;obtain⟨d,s1,i⟩:=op.hi;have a:=Qi h2;have w:e.1∉r.map (·.1):=by
   have:=kq.nd;rw[h1,zR,zr]at this;exact this.1
  have y:Kw H b=W e.1:=by
   unfold Kw;rw[kq.g.broken hi a,B];rfl
  refine⟨⟨d,s1,i⟩,?_,op.kp,?_,⟨rfl,rfl⟩,rfl,?_,[e],?_,λk s A=>z k s λh=>A (by simp[h]),?_⟩
  ·rw[Sz op];exact hrd
  ·have p:KQ W H x r:=by rw[h1]at kq;exact kq.tail
   exact p.step hi i C λk s u=>z k s λh=>w (h▸u)
  ·have:=E8 kq.g.nd a;show(cO x.kn e.1).length+q.q.length=x.kn.length+r.length;rw[h1,zS];omega
  ·rw[h1];rfl
  ·show(if Kw H b=[]then q.rs else q.rs++[(e.1,lz (Kw H b))])=_
   rw[y];simp only[lh,pt,List.flatMap_nil,kC];split<;>simp
theorem iH.st (r:iH thread H x q H' x' q')(kq:KQ W H x q.q)(hi:HI H held s0)(hcf:iY H)(hrd:ZX H thread=0):nW W thread H x q H' x' q'/\Hj q'=false:=by
 induction r generalizing held s0 with
 | stop h=>exact⟨nW.refl kq hi hrd,h⟩
 | next h f _ ih=>
  have s1:=f.st kq hi hcf hrd;obtain⟨b,g,a⟩:=s1.hi;obtain⟨s2,d⟩:=ih s1.kq a (hcf.bS s1.kp) s1.rd;exact⟨s1.trans s2,d⟩
theorem iQ.st (r:iQ thread H x q H' x' q')(kq:KQ W H x q.q)(hi:HI H held s0)(hcf:iY H)(hrd:ZX H thread=0):nW W thread H x q H' x' q'/\q'.q=[]:=by
 induction r generalizing held s0 with
 | stop h=>exact⟨nW.refl kq hi hrd,h⟩
 | next f _ ih=>
  have s1:=f.st kq hi hcf hrd;obtain⟨b,g,a⟩:=s1.hi;obtain⟨s2,d⟩:=ih s1.kq a (hcf.bS s1.kp) s1.rd;exact⟨s1.trans s2,d⟩
theorem dR.Jp (g:dR H x)(hi:HI H held s0)(hm:(a,b)∈x.kn):dR (dP H b) x/\(∀e∈x.kn,e.1≠a->Kept H x (dP H b) x e)/\qF (dP H b).sp b=[]:=by
 have s:=(g.i _ hm).2;have r:=Ea s;have p:∀e∈x.kn,∀z,(z∈Zl e.2\/z∈Xr e.2)->(e.1=a->z∈Zl e.2)->QZ (dP H b).sp z=QZ H.sp z:=λe j z d B=>by
  obtain⟨⟨w,rfl⟩,y,C⟩:=(g.i e j).2.word d;show QZ (iI H.sp (Xr b) λ_=>Ho) _=_;rw[Va r,zB];rintro⟨hw,_⟩;have m:=s.word (.inr hw);have:=g.apart hi j hm y C m.2.1 m.2.2;subst this;exact s.nw (B rfl) hw
 obtain⟨s1,A⟩:∃s1,HI (dP H b) held s1:=HI.iI _ _ hi;have E:dR (dP H b) x:=⟨g.live,λe j z d=>by rw[p e j z (.inl d) λ_=>d];exact g.can e j z d,g.ph,g.i,g.nd⟩;refine⟨E,λe j u=>⟨j,λz d=>p e j z (.inr d) λh=>absurd h u⟩,?_⟩;unfold qF;rw[C9];intro z d;rw[E.acc A hm (.inr d)];obtain⟨⟨w,rfl⟩,y,C⟩:=s.word (.inr d);have D:=g.map hi hm y C;have:QZ (dP H b).sp ((8*w:Nat):Int)=Ho:=by
  show QZ (iI H.sp (Xr b) λ_=>Ho) _=_;rw[Va r,zC ⟨d,D⟩]
 rw[this];simp
abbrev W0:Int->List Int:=λ_=>[]
theorem IZ (l:List P2):lh W0 l=[]:=by simp[lh]
structure AQ (bl by':Int) (H:Hw) (x:Gu) (q:Qu) (ad fd:List Int):Prop where
 kq:KQ W0 H x q.q
 n0:0<=x.no
 nl:(ad.length:Int)<=x.no
 rs:q.rs=[]
 ov:Hj q=false
 sx:∃l,fd=l++q.q.map (·.1)
 vC:x.kn.length+fd.length=ad.length+q.q.length
 th:1<=H.cf.threads
 bb:q.bl=bl/\q.by'=by'
theorem AQ.lens (al:AQ bl by' H x q ad fd):q.q.length<=fd.length/\x.kn.length<=ad.length:=by
 obtain⟨l,h⟩:=al.sx;have a:=congrArg List.length h;rw[zK,zk]at a;have:=al.vC;omega
theorem AQ.ql (al:AQ bl by' H x q ad fd)(hi:oR q):q.q.length<=64:=by
 have h:=al.ov;unfold Hj at h;rw[Aj,decide_eq_false_iff_not,decide_eq_false_iff_not]at h;have:=hi.bl;omega
theorem AQ.qs (al:AQ bl by' H x q ad fd)(hi:oR q)(h:ad.length<=1000):QS x q:=⟨al.kq.g.i,by have:=al.lens;omega,λe a=>by
 obtain⟨b,d,_,_⟩:=al.kq.k e a;have h:e.1=b.1/\gL b:=al.kq.g.i _ (Qi d);have A:=h.1;have y:=h.2.z;have r:=h.2.base;have u:=h.2.t;have w:=h.2.m;have j:=h.2.s;have p:=ZE (n:=b.2.1) O;unfold jA;omega,by rw[al.rs];have:=al.ql hi;simp;omega⟩
theorem EH {addr:Int}(hm:bU x.kn addr=some b)(h:mW H x q thread addr=0):ZX H thread=0/\addr∉q.q.map (·.1):=by
 unfold mW at h;by_cases h1:ZX H thread=0
 ·refine⟨h1,λa=>?_⟩;rw[zB (by rw[h1];decide),zC a]at h;cases h
 ·rw[zC h1]at h;exact absurd h h1
theorem AQ.out (al:AQ bl by' H x q ad fd)(hi:HI H held s0)(cf:iY H)(qi:oR q){e:Int}{add del:Option Int}(o:kN H x q d a H' x' q' e add del):AQ bl by' H' x' q' (ad++add.toList) (fd++del.toList)/\x'.no<=x.no+1:=by
 have C:ad++Option.toList (none:Option Int)=ad:=by simp
 have J:fd++Option.toList (none:Option Int)=fd:=by simp
 have g:=al.kq.g;cases o with
 | same e j=>rw[C,J];exact⟨al,O⟩
 | full hk hgk hne hw op hl=>
  rw[C,J];obtain⟨w,B⟩:=g.same hi op hl;obtain⟨r,s1,m⟩:=op.hi;exact⟨⟨al.kq.step hi m w λe j _=>B e j,al.n0,al.nl,al.rs,al.ov,al.sx,al.vC,by rw[op.kp.2.1];exact al.th,al.bb⟩,O⟩
 | eH hk gr hw op=>
  rename_i b H1;rw[J];obtain⟨r,s1,m⟩:=op.hi;obtain⟨w,gk,U,_,_⟩:=g.eH hi gr op m;have L:(x.eH b).no=x.no+1:=rfl;have Q:∃s2,HI {H1 with sp:=jU H1.sp b} r s2:=by
   obtain⟨s2,R⟩:=HI.iI jy (Zl b) m;exact HI.iI (λ_=>0) (Xr b) R
  obtain⟨s2,S⟩:=Q;refine⟨⟨al.kq.step hi S w λe j _=>U e j,by have:=al.n0;omega,?_,al.rs,al.ov,al.sx,?_,by show 1<=H1.cf.threads;rw[op.kp.2.1];exact al.th,al.bb⟩,O⟩
  ·rw[L,zK];have:=al.nl;simp;omega
  ·rw[gk,zK,zK];have:=al.vC;simp;omega
 | nj hk K hf ov=>
  rename_i b;rw[C];obtain⟨y,E⟩:=EH K hf;have D:=Qi K;obtain⟨w,B,U⟩:=g.Jp hi D;obtain⟨s1,F⟩:∃s1,HI (dP H b) held s1:=HI.iI _ _ hi;have M:KQ W0 (dP H b) x (q.q++[(a,b.2.1)]):=by
   have k0:=al.kq.step hi F w λe j z=>B e j λh=>E (h▸z);refine⟨w,λe j=>?_,?_⟩
   ·rcases zM.1 j with j|j
    ·exact k0.k e j
    ·rw[zN]at j;subst j;exact⟨b,K,rfl,U⟩
   ·rw[zj,nb];refine⟨al.kq.nd,by simp,λu hu c hc=>?_⟩;simp only[zR,oW,zN]at hc;subst hc;exact λh=>E (h▸hu)
  have A:ZX (dP H b) d.th=0:=y;obtain⟨st,V⟩:=ov.st M F cf A;obtain⟨l,Z,R,W⟩:=st.sf;have G:=st.kn;simp only[zK,sv]at G;refine⟨⟨st.kq,by rw[st.no];exact al.n0,by rw[st.no];exact al.nl,?_,V,?_,?_,?_,⟨st.bb.1.trans al.bb.1,st.bb.2.trans al.bb.2⟩⟩,by rw[st.no];omega⟩
  ·rw[W,IZ,kC];exact al.rs
  ·obtain⟨l2,h4⟩:=al.sx;refine⟨l2++l.map (·.1),?_⟩;rw[h4,zl,zl,←zj,←Z];simp
  ·have:=al.vC;simp only[rk,zK,sv];omega
  ·rw[st.kp.2.1];exact al.th
 | drain hk y dr=>
  rw[C,J];obtain⟨st,s⟩:=dr.st al.kq hi cf y;obtain⟨l,Z,R,W⟩:=st.sf;have G:=st.kn;have aa:=al.lens;refine⟨⟨st.kq,by rw[st.no];exact al.n0,by rw[st.no];exact al.nl,?_,?_,⟨fd,by rw[s];simp⟩,?_,?_,⟨st.bb.1.trans al.bb.1,st.bb.2.trans al.bb.2⟩⟩,by rw[st.no];omega⟩
  ·rw[W,IZ,kC];exact al.rs
  ·have P:=st.bb.1;have N:=st.bb.2;have:=qi.bl;have:=qi.by';unfold Hj;rw[s,Aj];exact⟨zL (by rw[P];simp;omega),zL (by rw[N];simp[iA];omega)⟩
  ·have:=al.vC;omega
  ·rw[st.kp.2.1];exact al.th
 | wrote hk ht wd=>
  rw[C,J];rcases wd with⟨h,_⟩|⟨k,hk,hin,h8,_⟩
  ·cases h
  ·have Y:=g.i k hk;obtain⟨i1,i2⟩:=hin;have hz:a∈Xr k.2:=dR.jx Y.2 i1 i2 h8;obtain⟨w,B,_⟩:=g.write hi hk hz (v:=d.va);obtain⟨s1,m⟩:∃s1,HI {H with sp:=ZL H.sp a d.va} held s1:=HI.iI (λ_=>d.va) [a] hi;refine⟨⟨al.kq.step hi m w λe j z=>B e j λh=>?_,al.n0,al.nl,al.rs,al.ov,al.sx,al.vC,al.th,al.bb⟩,O⟩;subst h;obtain⟨p,hp,X⟩:=zE.1 z;have K:bU x.kn p.1=some e.2:=by rw[X];exact Qg g.nd (show(e.1,e.2)∈x.kn from j)
   have:UH x q a=true:=by
    unfold UH;rw[zy];exact⟨p,hp,by rw[K];exact zI hz⟩
   rw[ht]at this;cases this
theorem AQ.ready (al:AQ bl by' H x q ad fd):ZX H 0=0:=by
 have b:=al.th;unfold ZX;rw[zB O,H7];have a:(if 0<=(0:Int)/\(0:Int)<(H.bR.length:Int)then fK H (0:Int).toNat else none)=none:=by
  split
  ·exact al.kq.g.ph _
  ·rfl
 rw[a];rfl
end Go.Ar
namespace Go.Ar
open Go Go.Vc Go.Proofs
open Go.Vc (bU dA cO)
variable {thread:Int}{U σ0 v w w':Hp}{F P Q X T Tc:Rg}{L:dE}{H H' H1:Hw}{held:List Pc}{s0 sp:Sp}{t n:Nat}{gb km fm m pp:Nat}{x y x':Gu}{b:B5}{qb:Nat}{Qq Qr:Rg}{qs rs:Sl}{q q':Qu}
theorem gN.ub {e:P2}{r:List P2}{H2:Hw}{e2:Int}(hq:q.q=e::r)(hm:bU x.kn e.1=some b)(hck:kV H x e.1=0)(hfr:lT H x thread e.1 false=0)(hw:KO (dP H b) thread 1 0 0 b.2.2.1 H2 0 e2)(h:gN thread H x q H' x' q') :
 H'=H2/\x'=x.gone e.1/\q'=⟨q.bl,q.by',r,if Kw H b=[]then q.rs else q.rs++[(e.1,lz (Kw H b))]⟩:=by
 cases h with
 | none h1 h2=>
  rw[hq]at h1;cases h1;rcases h2 with h2|h2
  ·rw[hm]at h2;cases h2
  ·exact absurd hck h2
 | stay h1 h2 h3 h4=>
  rw[hq]at h1;cases h1;exact absurd hfr h4
 | free h1 h2 h3 h4 hw'=>
  rw[hq]at h1;cases h1;rw[hm]at h2;cases h2;exact⟨(hw'.xX hw).1,rfl,rfl⟩
theorem iH.lM (h:iH thread H x q H' x' q')(ho:Hj q=false):H'=H/\x'=x/\q'=q:=by
 cases h with
 | stop _=>exact⟨rfl,rfl,rfl⟩
 | next h _ _=>rw[ho]at h;cases h
theorem iH.ns (h:iH thread H x q H' x' q')(ho:Hj q=true):∃H1 x1 q1,gN thread H x q H1 x1 q1/\iH thread H1 x1 q1 H' x' q':=by
 cases h with
 | stop h=>rw[ho]at h;cases h
 | next _ h1 h2=>exact⟨_,_,_,h1,h2⟩
theorem iQ.lM (h:iQ thread H x q H' x' q')(ho:q.q=[]):H'=H/\x'=x/\q'=q:=by
 cases h with
 | stop _=>exact⟨rfl,rfl,rfl⟩
 | next h _=>obtain⟨_,_,_,_,e,a⟩:=h.len;rw[ho]at a;cases a
theorem iQ.ns (h:iQ thread H x q H' x' q')(ho:q.q≠[]):∃H1 x1 q1,gN thread H x q H1 x1 q1/\iQ thread H1 x1 q1 H' x' q':=by
 cases h with
 | stop h=>exact absurd h ho
 | next h1 h2=>exact⟨_,_,_,h1,h2⟩
theorem Ge {H:Hw}{th kind size align addr:Int}{k:Hw×Int×Int}{r:Int×Int}(hk:k=(UR H th kind size align addr).getD (w0,0,99))(h2:k.2=r)(hr:r≠(0,99)):KO H th kind size align addr k.1 r.1 r.2:=by
 subst hk;cases hw:UR H th kind size align addr with
 | none=>rw[hw]at h2;exact absurd h2.symm hr
 | some s=>
  rw[hw]at h2;have:=FG hw;have e1:s.2=r:=h2;rw[←e1];exact this
def bB:B5:=(4176,24,4160,64,2)
def cB:B5:=(4240,24,4224,64,3)
def k2:Hw×Int×Int:=(UR wq 0 0 56 16 0).getD (w0,0,99)
def xN:Hw:={k2.1 with sp:=jU k2.1.sp bB}
def k3:Hw×Int×Int:=(UR xN 0 0 56 16 0).getD (w0,0,99)
def uJ:Hw:={k3.1 with sp:=jU k3.1.sp cB}
def ML:Gu:=gX.eH bB
def kX:Gu:=ML.eH cB
def uo:Hw:=dP uJ gB
def sC:Hw:=dP uo bB
def sP:Hw:=dP sC cB
def k4:Hw×Int×Int:=(UR (dP sP gB) 0 1 0 0 4096).getD (w0,0,99)
def qX:Hw:={k4.1 with sp:=ZL k4.1.sp 4176 3}
def k6:Hw×Int×Int:=(UR (dP qX bB) 0 1 0 0 4160).getD (w0,0,99)
def k7:Hw×Int×Int:=(UR (dP k6.1 cB) 0 1 0 0 4224).getD (w0,0,99)
theorem wG:k2.2=(4160,0)/\Kx k2.1 4160=some 64:=by decide +kernel
theorem yl:k3.2=(4224,0)/\Kx k3.1 4224=some 64:=by decide +kernel
abbrev q0:Qu:=⟨2,1000,[],[]⟩
abbrev q1:Qu:=⟨2,1000,[(4112,24)],[]⟩
abbrev q2:Qu:=⟨2,1000,[(4112,24),(4176,24)],[]⟩
abbrev q3:Qu:=⟨2,1000,[(4112,24),(4176,24),(4240,24)],[]⟩
abbrev q4:Qu:=⟨2,1000,[(4176,24),(4240,24)],[]⟩
theorem DG:mW uJ kX q0 0 4112=0:=by decide +kernel
theorem Dq:mW uo kX q1 0 4176=0:=by decide +kernel
theorem p8:mW sC kX q2 0 4112=9/\mW sC kX q2 0 4240=0/\UH kX q2 4112=true:=by decide +kernel
theorem oE:kV sP kX 4112=0/\lT sP kX 0 4112 false=0/\Kw sP gB=[]/\k4.2=(0,0):=by decide +kernel
abbrev vB:Gu:=kX.gone 4112
theorem Co:eO k4.1.sp 4176=0:=by decide +kernel
theorem pc:ZX qX 0=0/\kV qX vB 4176=0/\lT qX vB 0 4176 false=0/\Kw qX bB=[4176]/\k6.2=(0,0):=by decide +kernel
abbrev DR:Gu:=vB.gone 4176
theorem qL:kV k6.1 DR 4240=0/\lT k6.1 DR 0 4240 false=0/\Kw k6.1 cB=[]/\k7.2=(0,0):=by decide +kernel
theorem Bn:kX.kn=[(4112,gB),(4176,bB),(4240,cB)]:=by decide +kernel
theorem xr:∀e∈kX.kn,e.1=e.2.1/\gL e.2:=λe a=>by
 rw[Bn]at a;simp only[zW,Ay,or_false]at a;rcases a with rfl|rfl|rfl<;>exact⟨rfl,⟨by decide,by decide⟩,⟨by decide,by decide⟩,⟨by decide,by decide,by decide⟩,⟨by decide,by decide⟩,by decide⟩
theorem pL {q:Qu}(h1:∀e∈q.q,0<=e.1/\e.1<=5000)(h2:q.rs.length+q.q.length<=9000):QS kX q:=⟨xr,by rw[Bn];decide,λe a=>by have:=h1 e a;exact⟨O,O⟩,h2⟩
theorem RK {q:Qu}(h1:∀e∈q.q,0<=e.1/\e.1<=5000)(h2:q.rs.length+q.q.length<=9000):QS vB q:=⟨λe a=>xr e (zJ.1 (show e∈cO kX.kn 4112 from a)).1,ku (oF _ _) (by rw[Bn];decide),λe a=>by have:=h1 e a;exact⟨O,O⟩,h2⟩
theorem qN:bU kX.kn 4112=some gB/\bU kX.kn 4176=some bB/\bU kX.kn 4240=some cB:=by decide +kernel
theorem R3:bU vB.kn 4176=some bB:=by decide +kernel
theorem R5:bU DR.kn 4240=some cB:=by decide +kernel
attribute [local irreducible] w0 gm wq k2 xN k3 uJ uo sC sP k4 qX k6 k7
theorem Sf:wq = {gm.1 with sp:=jU gm.1.sp gB}:=by unfold wq;rfl
theorem MH:xN = {k2.1 with sp:=jU k2.1.sp bB}:=by unfold xN;rfl
theorem PC:uJ = {k3.1 with sp:=jU k3.1.sp cB}:=by unfold uJ;rfl
theorem No:uo=dP uJ gB:=by unfold uo;rfl
theorem LL:sC=dP uo bB:=by unfold sC;rfl
theorem N7:sP=dP sC cB:=by unfold sP;rfl
theorem WoE:qX = {k4.1 with sp:=ZL k4.1.sp 4176 3}:=by unfold qX;rfl
theorem By:KO wq 0 0 56 16 0 k2.1 4160 0:=Ge (by unfold k2;rfl) wG.1 aB
theorem B2:KO xN 0 0 56 16 0 k3.1 4224 0:=Ge (by unfold k3;rfl) yl.1 aB
theorem Dy:KO (dP sP gB) 0 1 0 0 4096 k4.1 0 0:=Ge (by unfold k4;rfl) oE.2.2.2 aB
theorem Br:KO (dP qX bB) 0 1 0 0 4160 k6.1 0 0:=Ge (by unfold k6;rfl) pc.2.2.2.2 aB
theorem BF:KO (dP k6.1 cB) 0 1 0 0 4224 k7.1 0 0:=Ge (by unfold k7;rfl) qL.2.2.2 aB
theorem qM (o:QP σ0 U L H held s0 P gb km fm x qb Qq Qr qs rs q)(gc:Gc σ0)(hno:0<=x.no/\x.no<=100000){b:B5}{H1:Hw}(hw:KO H 0 0 56 16 0 H1 b.2.2.1 0)(hu:Kx H1 b.2.2.1=some b.2.2.2.1)(hb:b.1=b.2.2.1+16/\b.2.1=24/\b.2.2.2.2=x.no+1){R:Int->Int->Hp->Prop}
 (hR:∀w,QO σ0 U w L.p gb km fm qb (kv P gb km fm qb Qq Qr) {H1 with sp:=jU H1.sp b} (x.eH b) q->R b.1 0 w):Wp.c (aW qb) 0 24 8 U R:=by
 refine JO o gc hno 0 24 8 (λw A=>absurd A aB) (λe w H' _ m g=>?_) λc w H2 j g op z=>?_
 ·exact absurd (g.xX hw).2.2 m
 ·obtain⟨rfl,d,_⟩:=g.xX hw;have y:c=b:=by
   have i:=j.u;rw[d,hu]at i;have r:=j.a;rw[d]at r;exact Prod.ext (r.trans hb.1.symm) (Prod.ext (j.s.trans hb.2.1.symm) (Prod.ext d (Prod.ext (Option.some.inj i).symm (j.n.trans hb.2.2.symm))))
  subst y;exact hR w z
set_option maxRecDepth 16000 in
theorem J6 (gl:Gl U)(gc:Gc U){R:aO}(hR:∀σ',aF U σ'->R true σ'):Xz.c U R:=by
 refine Xz.o ?_;unfold Xz.v;refine Wk4 gl gc.gd λv L N e hsN hNv h0=>cD rfl ?_;have hn:=SA;have hc0:w0.cf.aG=64:=by have:=hn.pg;omega
 refine Lh e h0.cut hn.hi hn.cf O (λb hb=>⟨by have:N<=b:=hb.1;omega,hb.2⟩) (Dg gl gc.gd) λw gb km Z e1 _ p=>?_;refine I2 p 2 1000 (λh=>absurd h aB) λ_ w1 e2 o=>?_;generalize w.size=qb at o;refine bX.intro (cD rfl (cD rfl ?_));refine qM (b:=gB) o gc ⟨by decide,by decide⟩ Ch CW ⟨by decide,by decide,by decide⟩ λw2 a=>?_;obtain⟨L1,held1,s1,P1,Qq1,Qr1,qs1,rs1,o1,hp1, -, -⟩:=a;rw[←Sf]at o1;refine qM (b:=bB) o1 gc ⟨by decide,by decide⟩ By wG.2 ⟨by decide,by decide,by decide⟩ λw3 a=>?_;obtain⟨L2,held2,s2,P2,Qq2,Qr2,qs2,rs2,o2,kj, -, -⟩:=a;rw[←MH]at o2;refine qM (b:=cB) o2 gc ⟨by decide,by decide⟩ B2 yl.2 ⟨by decide,by decide,by decide⟩ λw4 a=>?_;obtain⟨L3,y,s3,P3,Qq3,Qr3,qs3,rs3,o3,hp3, -, -⟩:=a;rw[←PC]at o3;have o3:QP U w4 L3 uJ y s3 P3 gb km Z kX qb Qq3 Qr3 qs3 rs3 q0:=o3;show Wj.c (aW qb) 0 4112 w4 _;refine HJ o3 gc (pL (λe he=>by simp at he) aB) aB aB 0 ⟨by decide,by decide⟩ (λw h=>absurd DG h) λw5 b H1 x1 r d _ m a=>?_;rw[qN.1]at d;cases d;obtain⟨rfl,rfl,rfl⟩:=m.lM aB;obtain⟨L5,s,s5,P5,Qq5,Qr5,qs5,rs5,o5,hp5, -, -⟩:=a;rw[←No]at o5;have o5:QP U w5 L5 uo s s5 P5 gb km Z kX qb Qq5 Qr5 qs5 rs5 q1:=o5;refine bX.intro (cD rfl ?_);show Wj.c (aW qb) 0 4176 w5 _;refine HJ o5 gc (pL aB aB) aB aB 0 ⟨by decide,by decide⟩ (λw h=>absurd Dq h) λw6 b H1 x1 r d _ m a=>?_;rw[qN.2.1]at d;cases d;obtain⟨rfl,rfl,rfl⟩:=m.lM aB;obtain⟨L6,u,s6,P6,Qq6,Qr6,qs6,rs6,o6,hp6, -, -⟩:=a;rw[←LL]at o6;have o6:QP U w6 L6 sC u s6 P6 gb km Z kX qb Qq6 Qr6 qs6 rs6 q2:=o6;refine bX.intro (cD rfl ?_);refine BS o6 λsl w7 Q7 e7 hs7 hQ7=>?_;have o7:=o6.fr e7;refine nw (cs:=[.int .i64 4112,.int .i64 4176]) λw8 hz8 e8 b8=>?_;have o8:=o7.fr e8;have hs8:=aI.bP hs7 e8;have ht8:cV ⟨some ⟨w7.size,0,none⟩,2,2⟩ 1 (Wu [4112,4176]) w8 (· = w7.size):=b8.fW rfl rfl λj hj=>by rw[zH];rfl
 refine EN (bT.fW hs8) ht8 aB ?_;refine bX.intro (cD aB ?_);refine JZ o8 λw9 e9=>?_;have o9:=o8.fr e9;refine bX.intro (cD aB ?_);show Wj.c (aW qb) 0 4112 w9 _;refine HJ o9 gc (pL aB aB) aB aB 0 ⟨by decide,by decide⟩ (λw10 _ e10=>?_) λw b H1 x1 r d h=>by rw[p8.1]at h;exact absurd h aB
 rw[p8.1];have gA:=o9.fr e10;refine cD aB ?_;show WG.c (aW qb) 4112 w10 _;refine Ev gA (pL aB aB) 4112 aB (λw11 _ e11=>?_) (λe w h=>by rw[p8.2.2]at h;cases h) λw h=>by rw[p8.2.2]at h;cases h
 have o11:=gA.fr e11;refine bX.intro (cD aB ?_);show Wj.c (aW qb) 0 4240 w11 _;refine HJ o11 gc (pL aB aB) aB aB 0 ⟨by decide,by decide⟩ (λw h=>absurd p8.2.1 h) λw12 b H1 x1 r d _ m a=>?_;rw[qN.2.2]at d;cases d;rw[←N7]at m;obtain⟨H2,x2,q2',fr,m⟩:=m.ns aB;obtain⟨rfl,rfl,rfl⟩:=fr.ub (b:=gB) rfl qN.1 oE.1 oE.2.1 Dy;obtain⟨rfl,rfl,rfl⟩:=m.lM (by rw[zC oE.2.2.1];decide);rw[zC oE.2.2.1]at a;obtain⟨L12,g,s12,P12,Qq12,Qr12,C,A,i,F, -, -⟩:=a;have i:QP U w12 L12 k4.1 g s12 P12 gb km Z vB qb Qq12 Qr12 C A q4:=i;refine bX.intro (cD rfl ?_);refine BS i λsl K Q13 e13 E hQ13=>?_;have o13:=i.fr e13;refine nw (cs:=[.int .i64 4176,.int .i64 4240]) λw14 hz14 P b14=>?_;have H:=o13.fr P;have S:=aI.bP E P;have z:cV ⟨some ⟨K.size,0,none⟩,2,2⟩ 1 (Wu [4176,4240]) w14 (· = K.size):=b14.fW rfl rfl λj hj=>by rw[zH];rfl
 refine EN (bT.fW S) z aB ?_;refine bX.intro (cD aB ?_);have hp:L.p=L12.p:=by rw[F,hp6,hp5,hp3,kj,hp1]
 rw[hp];refine H.p.write gc 4176 3 aB λw15 s15 P15 e15 p15 D=>?_;have Q:=H.fA (e15.sub λc hc=>.inl hc) p15 D;rw[Co];rw[←WoE]at Q;refine cD aB ?_;refine B9 Q gc (RK aB aB) 0 (λw h=>absurd pc.1 h) λw16 H3 x3 q3' _ x a=>?_;obtain⟨H4,x4,q4',fr,x⟩:=x.ns aA;obtain⟨rfl,rfl,rfl⟩:=fr.ub (b:=bB) rfl R3 pc.2.1 pc.2.2.1 Br;rw[pc.2.2.2.1]at x;obtain⟨H5,x5,q5',fr,x⟩:=x.ns aA;obtain⟨rfl,rfl,rfl⟩:=fr.ub (b:=cB) rfl R5 qL.1 qL.2.1 BF;rw[zC qL.2.2.1]at x;obtain⟨rfl,rfl,rfl⟩:=x.lM rfl;obtain⟨L16,Y,O8,P16,Qq16,Qr16,qs16,rs16,G,hp16, -, -⟩:=a;refine bX.intro (cF aB (bX.intro (cF rfl ?_)));refine I3 G λsl M Q17 e17 V hQ17=>?_;have o17:=G.fr e17;refine nw (cs:=[.int .i64 4176,.int .i64 4176]) λB hz18 X b18=>?_;have o18:=o17.fr X;have W:=aI.bP V X;have J:cV ⟨some ⟨M.size,0,none⟩,1,1⟩ 2 (gR [(4176,4176)]) B (· = M.size):=b18.fW rfl rfl λj hj=>by rw[zH];rfl
 refine ON (bT.fW W) J aB (λ_=>?_) rfl;exact hR B o18.p.e
end Go.Ar
namespace Go.Ar
open Go Go.Vc Go.Proofs
open Go.Vc (bU dA cO)
variable {thread:Int}{U σ0 v w w':Hp}{F P Q X T T' Tc Qa Qf:Rg}{L:dE}{H H' H1:Hw}{held:List Pc}{s0 sp:Sp}{t n:Nat}{gb km fm m pp xb:Nat}{x y x':Gu}{b:B5}{qb:Nat}{Qq Qr:Rg}{qs rs addrs fl l:Sl}{ad fd:List Int}{q q':Qu}{ds:List fC}{bl by':Int}
set_option maxRecDepth 8000 in
theorem PI (e00:aF σ0 U)(gl:Gl σ0)(gc:Gc σ0)(b b1 b2 b3 b4 b5 WW bytes:Int){R:Option Addr->Hp->Prop}(h0:∀σ',aF U σ'->R none σ')
 (h1:∀σ' xb pp gb km fm qb T H x q addrs fl,OQ σ0 σ' xb pp gb km fm qb T (λ_=>False) (λ_=>False) H x q addrs [] fl []->AQ WW bytes H x q [] []->x.no=0->q.q=[]->aF U σ'->R (some ⟨xb,0,none⟩) σ'):Yg.c b b1 b2 b3 b4 b5 WW bytes U R:=by
 refine Yg.o ?_;unfold Yg.v;refine nw (cs:=[.int .i64 b,.int .i64 b1,.int .i64 b2,.int .i64 b3,.int .i64 b4,.int .i64 b5]) λv Z e a=>a.rI rfl (a.rI rfl (a.rI rfl (a.rI rfl (a.rI rfl (a.rI rfl (Xb.o ?_))))));unfold Xb.v;refine nw (cs:=[.int .i64 b,.int .i64 b1,.int .i64 b2,.int .i64 b3,.int .i64 b4,.int .i64 b5]) λG J e1 s=>s.fD rfl ?_;have d:=e.trans e1;have i:=e1.bV a id;refine cN (λ_=>h0 G d) λW=>?_;refine i.rI rfl (i.rI rfl (i.rI rfl (i.rI rfl (i.rI rfl (i.rI rfl ?_)))));refine Wn6 (gl.bP (e00.trans d)) (gc.bP (e00.trans d)).gd b b1 b2 b3 b4 b5 (λC e2=>cF rfl (h0 C (d.trans e2))) λC L0 N H0 e2 L Q E m=>cD rfl ?_;have z:=(e00.trans d).trans e2;have X:=(e00.trans d).1;refine Lh z E.cut m.hi m.cf (by have:=m.pg;omega) (λb a=>⟨by have:N<=b:=a.1;omega,a.2⟩) (Dg gl gc.gd) λw gb km fm V hm p=>?_;have E3:=(d.trans e2).trans (p.e.trans (Ext.refl _ _) |> λ_=>V);refine I2 p WW bytes (λ_=>bX.intro (cF rfl (cF rfl (h0 w E3)))) λS D Y o=>bX.intro (cD rfl (cD rfl ?_));generalize hqb:w.size=qb at o;refine nw (cs:=yU L0.p qb ⟨none,0,0⟩ ⟨none,0,0⟩) λB P A y=>?_;have o5:=o.fr A;have F:QB σ0 B L0.p gb km fm qb _ H0 oY ⟨WW,bytes,[],[]⟩:=⟨L0,_,_,_,_,_,_,_,o5,rfl,rfl⟩;have u:=o.p.e.1;have K:dR H0 oY:=⟨by rw[m.live];rfl,λe r=>by simp[oY]at r,λj=>by
  unfold fK;cases hj:H0.bR[j]? with
  | none=>rfl
  | some g=>exact m.ph g (zG hj),λe r=>by simp[oY]at r,by simp[oY]⟩
 refine h1 B D.size L0.p gb km fm qb _ H0 oY ⟨WW,bytes,[],[]⟩ _ _ ⟨F,y,⟨rfl,.inl ⟨rfl,rfl⟩⟩,⟨rfl,.inl ⟨rfl,rfl⟩⟩,⟨u,λM=>?_,id,id⟩,λb a=>a.elim,λb a=>a.elim,λb a=>a.elim⟩ ⟨⟨K,λe r=>by simp at r,by simp⟩,by simp[oY],by simp[oY],rfl,?_,⟨[],rfl⟩,rfl,m.th,rfl,rfl⟩ rfl rfl ((E3.trans Y).trans A)
 ·have:=JA o M;omega
 ·unfold Hj;rw[Aj];exact⟨zL aE,zL (by simp[iA];omega)⟩
structure PQ (σ0 U:Hp) (WW bytes:Int) (n:Nat) (xb pp gb km fm qb:Nat) (T Qa Qf:Rg) (H:Hw) (x:Gu) (q:Qu) (addrs:Sl) (ad:List Int) (fl:Sl) (fd:List Int):Prop where
 o:OQ σ0 U xb pp gb km fm qb T Qa Qf H x q addrs ad fl fd
 al:AQ WW bytes H x q ad fd
 no:x.no<=n
 fn:fd.length<=n
theorem PQ.oe (p:PQ σ0 U bl by' n xb pp gb km fm qb T Qa Qf H x q addrs ad fl fd)(e:aF U w):PQ σ0 w bl by' n xb pp gb km fm qb T Qa Qf H x q addrs ad fl fd:=⟨p.o.oe e,p.al,p.no,p.fn⟩
theorem PQ.Jv (p:PQ σ0 U bl by' n xb pp gb km fm qb T Qa Qf H x q addrs ad fl fd)(hn:n<=1000):QS x q:=p.al.qs p.o.p.qi (by have:=p.al.nl;have:=p.no;omega)
theorem PQ.RM (p:PQ σ0 U bl by' n xb pp gb km fm qb T Qa Qf H x q addrs ad fl fd)(gc:Gc σ0)(hn:n<=900)(d:fC)(di:kR d){R:aN}
 (hR:∀e w T' H' x' q' Qa' Qf' addrs' fl' add del,PQ σ0 w bl by' (n+1) xb pp gb km fm qb T' Qa' Qf' H' x' q' addrs' (ad++Option.toList add) fl' (fd++Option.toList del)->kN H x q d (sT ad d) H' x' q' e add del->Ext (qB T xb Qa Qf) U w->(∀b,qB T' xb Qa' Qf' b->qB T xb Qa Qf b\/U.size<=b)->R e w) :
 Xp.c (aW xb) d.kd d.th d.a d.b d.of d.pl d.va d.s U R:=by
 have n0:=p.al.n0;have nl:=p.al.nl;have m:=p.no;have u:=p.fn;have y:=p.al.ql p.o.p.qi;refine TR p.o gc (p.Jv O) ⟨n0,O⟩ O (by rw[p.al.rs,lg];omega) O O d di λe w T' H' x' q' Qa' Qf' addrs' fl' add del A out z r=>?_;obtain⟨i,s0,hi⟩:=p.o.p.hi;obtain⟨g,j⟩:=p.al.out hi p.o.p.cf p.o.p.qi out;refine hR e w T' H' x' q' Qa' Qf' addrs' fl' add del ⟨A,g,O,?_⟩ out z r;rw[zK];cases del<;>simp<;>omega
theorem PQ.mono {k:Nat}(p:PQ σ0 U bl by' n xb pp gb km fm qb T Qa Qf H x q addrs ad fl fd)(h:n<=k):PQ σ0 U bl by' k xb pp gb km fm qb T Qa Qf H x q addrs ad fl fd:=⟨p.o,p.al,by have:=p.no;omega,by have:=p.fn;omega⟩
set_option maxRecDepth 8000 in
theorem RT (gl:Gl U)(gc:Gc U)(b b1 b2 b3 b4 b5 WW bytes:Int)(hd:jz U l ds)(most:Int)(hmost:most<=60){R:Option Addr->Hp->Prop}(h0:∀σ',aF U σ'->R none σ')
 (h1:∀σ' xb pp gb km fm qb T Qa Qf H x q addrs ad fl fd,PQ U σ' WW bytes 60 xb pp gb km fm qb T Qa Qf H x q addrs ad fl fd->R (some ⟨xb,0,none⟩) σ'):Ya.c b b1 b2 b3 b4 b5 WW bytes l most U R:=by
 refine Ya.o ?_;unfold Ya.v;have Z:=hd.len;have C:=hd.A3;refine nw (cs:=[.int .i64 b,.int .i64 b1,.int .i64 b2,.int .i64 b3,.int .i64 b4,.int .i64 b5]) λv Y e s=>RX (cN (λ_=>h0 v e) λL=>?_);refine s.rI rfl (s.rI rfl (s.rI rfl (s.rI rfl (s.rI rfl (s.rI rfl ?_)))));refine PI (σ0:=U) e gl gc b b1 b2 b3 b4 b5 WW bytes (λB e1=>cF rfl (h0 B (e.trans e1))) λB xb pp gb km fm qb T H x q addrs fl o M D F e1=>cD rfl ?_;refine Qj (a:=bO) (λ(z:Int) u=>∃(i:Nat) (T Qa Qf:Rg) (H:Hw) (x:Gu) (q:Qu) (addrs:Sl) (ad:List Int) (fl:Sl) (fd:List Int),z=i/\i<=ds.length/\PQ U u WW bytes i xb pp gb km fm qb T Qa Qf H x q addrs ad fl fd) (λz _=>ds.length-z.toNat)
  ⟨0,T,_,_,H,x,q,addrs,[],fl,[],rfl,O,⟨o,M,O,by simp⟩⟩ ?_
 rintro(z:Int) u ⟨i,T,Qa,Qf,H,x,q,addrs,ad,fl,fd,rfl,hi,p⟩;have j:=p.o.p.e;refine cN (λG=>?_) λN=>h1 u xb pp gb km fm qb T Qa Qf H x q addrs ad fl fd (p.mono O);have y:ds[i]?=some (ds[i]' O):=cW _;generalize (ds[i]' O)=d at y;have w:=hd.i _ (zG y);refine hd.rd j y λX W r=>eN (r _ j 0 _ rfl) (eN (r _ j 1 _ rfl) (eN (r _ j 2 _ rfl) (eN (r _ j 3 _ rfl) (eN (r _ j 4 _ rfl) (eN (r _ j 5 _ rfl) (eN (r _ j 6 _ rfl) (BM (r _ j 7 _ rfl) ?_)))))));exact p.RM gc O d w λP V T' H' J K Qa' Qf' g A add del E out S Q=>cT (m:=i+1) O O ⟨⟨i+1,T',Qa',Qf',H',J,K,g,_,A,_,rfl,O,E⟩,O⟩
end Go.Ar
namespace Go.Proofs
open Go.Vc
set_option maxRecDepth 100000
end Go.Proofs
namespace Go.Ar
open Go Go.Vc Go.Proofs
open Go.Vc (bU dA cO)
variable {thread a bl by':Int}{U σ0 v w w':Hp}{F P Q X T T' Tc Qa Qf:Rg}{L:dE}{H H' H1:Hw}{held:List Pc}{s0 sp:Sp}{t n:Nat}{gb km fm m pp xb:Nat}{x y x':Gu}{b:B5}{qb:Nat}{Qq Qr:Rg}{qs rs addrs fl l:Sl}{ad fd:List Int}{q q':Qu}{ds:List fC}
theorem KQ.free (kq:KQ W0 H x q.q)(hi:HI H held s0)(cf:iY H)(hm:bU x.kn a=some b)(hf:mW H x q thread a=0)(ov:iH thread (dP H b) x {q with q:=q.q++[(a,b.2.1)]} H' x' q') :
 nW W0 thread (dP H b) x {q with q:=q.q++[(a,b.2.1)]} H' x' q'/\Hj q'=false/\∀e∈x.kn,e.1≠a->Kept H x (dP H b) x e:=by
 obtain⟨r,j⟩:=EH hm hf;have i:=Qi hm;obtain⟨A,y,C⟩:=kq.g.Jp hi i;obtain⟨s1,m⟩:∃s1,HI (dP H b) held s1:=HI.iI _ _ hi;have p:KQ W0 (dP H b) x (q.q++[(a,b.2.1)]):=by
  have D:=kq.step hi m A λe d w=>y e d λh=>j (h▸w);refine⟨A,λe d=>?_,?_⟩
  ·rcases zM.1 d with d|d
   ·exact D.k e d
   ·rw[zN]at d;subst d;exact⟨b,hm,rfl,C⟩
  ·rw[zj,nb];refine⟨kq.nd,by simp,λu B c z=>?_⟩;simp only[zR,oW,zN]at z;subst z;exact λh=>j (h▸B)
 obtain⟨st,s⟩:=ov.st p m cf r;exact⟨st,s,y⟩
theorem KQ.mW {lq:List P2}(kq:KQ W0 H x lq)(hi:HI H held s0)(hrd:ZX H thread=0)(hm:(a,b)∈x.kn)(hnq:a∉q.q.map (·.1)):mW H x q thread a=0:=by
 unfold Go.Ar.mW;rw[zB (by rw[hrd];decide),zB hnq,Qg kq.g.nd hm];simp only;rw[kq.g.lost hi hm,kq.g.broken hi hm];rfl
theorem PQ.drain (p:PQ σ0 U bl by' n xb pp gb km fm qb T Qa Qf H x q addrs ad fl fd)(gc:Gc σ0)(hn:n<=900){R:Int->Int->Hp->Prop}
 (hR:∀w T' H' x' q',PQ σ0 w bl by' (n+1) xb pp gb km fm qb T' Qa Qf H' x' q' addrs ad fl fd->iQ 0 H x q H' x' q'->q'.q=[]->R (q.q.length:Int) 0 w):Wx.c (aW qb) 0 U R:=by
 have b:=p.al.ready;obtain⟨m,K,hi⟩:=p.o.p.hi;have i:=p.o.p.cf;have s:=p.o.p.qi;have C:=p.o.p;have E:=p.Jv O;obtain⟨L,u,s0,P,Qq,Qr,qs,M,D,rfl,rfl⟩:=C;refine B9 D gc E 0 (λw h=>absurd b h) λw H' x' q' _ j B=>?_;obtain⟨T',z,F,A⟩:=B.tb;obtain⟨g,y⟩:=p.al.out (d:=⟨42,0,0,0,0,0,0,.empty⟩) (a:=0) hi i s (.drain rfl b j);have r:=j.st p.al.kq hi i b;refine hR w T' H' x' q' ⟨p.o.fA F z A,?_,by have:=p.no;omega,by have:=p.fn;omega⟩ j r.2;have G:ad++Option.toList (none:Option Int)=ad:=by simp
 have J:fd++Option.toList (none:Option Int)=fd:=by simp
 rw[G,J]at g;exact g
theorem Ty (z:Int)(h0:0<=z)(h1:z<=1000000){R:aN}(hR:R (Zk z) U):Y7.c z U R:=by
 refine Y7.o ?_;unfold Y7.v;refine ar O O (ar O O (nz aB (ar (by rw[Yj O];omega) (by rw[Yj O];omega) ?_)));rw[Yj O];refine ar O O ?_;have:(z+8-1)/8*8=Zk z:=by unfold Zk;omega
 rw[this];exact hR
theorem BE {K:eT [.ad,.i .i64]}{body:eT [.ad,.i .i64]->Prop}(P:Addr->Int->Hp->Prop)(h1:∀r s w,P r s w->K r s w)(h2:∀J:eT [.ad,.i .i64],(∀r s w,P r s w->J r s w)->body J):Jn [.ad,.i .i64] K body:=Jn.intro (h2 K h1)
theorem χ {ty:Nat}{S:aP}(hS:∀u,aF U u->S u){a b c d:Int}{K:Addr->Hp->Prop}(hK:∀w',aF U w'->bY w' U.size (jZ (a,b,c,d))->K ⟨U.size,0,none⟩ w'):Nw (.cells #[.int .i64 0,.int .i64 0,.int .i64 0,.int .i64 0] ty (0,0)) U λn v20=>And (S v20)<|dF (n.add 0) (.int .i64 a) v20 λv21=>dF (n.add 1) (.int .i64 b) v21 λv22=>dF (n.add 2) (.int .i64 c) v22 λv23=>dF (n.add 3) (.int .i64 d) v23 λv24=>K n v24:=
 nw (cs:=[.int .i64 0,.int .i64 0,.int .i64 0,.int .i64 0]) λv20 A g s=>⟨hS _ g,s.s1 aA λv21 w x=>x.s1 aA λv22 z r=>r.s1 aA λv23 y p=>p.s1 aA λv24 m j=>
  hK v24 (Ext.fresh g (((w.ext.trans z.ext).trans y.ext).trans m.ext) λi (hi:i=U.size)=>O) j⟩
theorem Fs {u:Hp}{c:Nat}{y0 y1 y2 y3 a0 a1 a2 a3:Int}(e:aF U u)(hc:U.size<=c)(hb:bY u c [.int .i64 y0,.int .i64 y1,.int .i64 y2,.int .i64 y3]){K:aP}(hK:∀w',aF U w'->bY w' c (jZ (a0,a1,a2,a3))->K w'):dF (Addr.add ⟨c,0,none⟩ 0) (.int .i64 a0) u λv21=>dF (Addr.add ⟨c,0,none⟩ 1) (.int .i64 a1) v21 λv22=>dF (Addr.add ⟨c,0,none⟩ 2) (.int .i64 a2) v22 λv23=>dF (Addr.add ⟨c,0,none⟩ 3) (.int .i64 a3) v23 K:=
 hb.s1 aA λv21 j m=>m.s1 aA λv22 s r=>r.s1 aA λv23 p d=>d.s1 aA λg b a=>
  hK g (Ext.fresh e (((j.ext.trans s.ext).trans p.ext).trans b.ext) λi (hi:i=c)=>O) a
theorem Sb (bi:gL b){R:Sl->Hp->Prop}(hR:∀s w Q,aF U w->bT s 1 (Wu (Xr b)) w Q->(∀c,Q c->U.size<=c/\c<w.size)->R s w):XP.c b.1 b.2.1 b.2.2.1 b.2.2.2.1 U R:=by
 refine XP.o ?_;unfold XP.v;have bb:=bi.base;have N:=bi.z;have M:=bi.m;have L:=bi.t;have K:=bi.s;have F:=ZE (n:=b.2.1) O;have J:(ZM b:Int)*8=Zk b.2.1:=by unfold ZM;omega
 let wl:Nat->List Int:=λi=>(List.range i).map λ(i:Nat)=>b.1+8*(i:Int)
 have r:∀i,wl (i+1)=wl i++[b.1+8*(i:Int)]:=λi=>by show List.map _ _=_;rw[oU,zj];rfl
 have g:∀i,(wl i).length=i:=λi=>by show(List.map _ _).length=i;simp
 have x:wl (ZM b)=Xr b:=rfl
 clear_value wl
 refine nw (cs:=jZ (b.1,b.2.1,b.2.2.1,b.2.2.2.1)) λv H e A=>A.rI rfl ?_;refine Uo (a:=.s) (bb:=bO) (λ(out:Sl) (z:Int) u=>aF v u/\∃(i:Nat) (Q:Rg),z=b.1+8*(i:Int)/\i<=ZM b/\bT out 1 (Wu (wl i)) u Q/\∀c,Q c->v.size<=c/\c<u.size) (λ_ z _=>(b.1+Zk b.2.1-z).toNat)
  ⟨Ext.refl _ _,0,λ_=>False,by simp,O,by rw[si (g 0)];exact⟨rfl,.inl ⟨rfl,rfl⟩⟩,λc d=>d.elim⟩ ?_
 rintro(out:Sl) (z:Int) u ⟨eu,i,Q,rfl,hi,hr,hQ⟩;have P:=eu.1;have j:=eu.bV A id;refine⟨λm=>aF u m,Ext.refl _ _,gI (c:=bO) (y:=b.1) (λm e=>e.bV j id) rfl (gI (c:=bO) (y:=b.2.1) (λm e=>e.bV j id) rfl (Ty _ O O ⟨Ext.refl _ _,ar O O (cN (λC=>?_) λE=>?_)⟩))⟩
 ·have D:out.len=i:=by have:=hr.1;simp[Wu,g]at this;omega
  refine wo hr (by rw[g];omega) _ λG w B p=>?_;refine ar O O ⟨⟨Ext.fresh eu B λc d=>(hQ c d).1,i+1,_,O,O,by rw[r];exact p,λc d=>?_⟩,O⟩;have:=B.1;rcases d with d|d
  ·have:=hQ c d;omega
  ·omega
 ·have:i=ZM b:=by unfold ZM at hi ⊢;omega
  subst this;rw[x]at hr;exact hR out u Q (e.trans eu) hr λc d=>by have:=hQ c d;omega
theorem Ba (p:GP σ0 U L H held s0 P gb km fm x)(g:dR H x){k:Int×B5}(hk:k∈x.kn){R:Int->Int->Int->Int->Int->Hp->Prop}(hR:∀w,aF U w->R k.2.1 k.2.2.1 k.2.2.2.1 k.2.2.2.2.1 0 w):Xa.c (aW gb) k.1 U R:=by
 have b:=g.i k hk;have E:=b.1;have F:=b.2.s;refine WjP p g.i k.1 (λw y m=>?_) λj w y d u=>?_
 ·exact absurd ⟨O,by show k.1<k.2.1+k.2.2.1;omega⟩ (m k hk)
 ·have r:j=k:=by
   have a:=g.i j d;obtain⟨D,A⟩:=u;have A:k.1<j.2.1+j.2.2.1:=A;have C:=ZE (n:=k.2.2.1) O;have B:=a.2.s;have G:=ZE (n:=j.2.2.1) O;have K:=b.2.z;have J:=b.2.t;have M:=a.2.z;have N:=a.2.t;exact g.apart p.hi d hk (z:=k.1) O O O O
  subst r;exact hR w y
theorem WoC (qp:QP σ0 U L H held s0 P gb km fm x qb Qq Qr qs rs q)(g:dR H x){k:Int×B5}(hk:k∈x.kn){ty:Nat}{S:aP}(hS:∀u,aF U u->S u){J:Addr->Int->Hp->Prop}(hJ:∀c w,aF U w->U.size<=c->bY w c (jZ (b4 k))->J ⟨c,0,none⟩ 0 w) :
 (Wy.c (aW qb) U λt44 v10=>
  And (S v10) <|
   (Xa.c t44 k.1 v10 λt49 t491 t492 t493 t494 v11=>
   And (S v11) <|
   Nw (.cells #[.int .i64 0,.int .i64 0,.int .i64 0,.int .i64 0] ty (0,0)) v11 λn12 v12=>
   And (S v12) <|
   dF (n12.add 0) (.int .i64 t49) v12 λv13=>
   dF (n12.add 1) (.int .i64 t491) v13 λv14=>
   dF (n12.add 2) (.int .i64 t492) v14 λv15=>
   dF (n12.add 3) (.int .i64 t493) v15 λv16=>
   J n12 t494 v16) ∧
   (Nw (.cells #[.int .i64 0,.int .i64 0,.int .i64 0,.int .i64 0] ty (0,0)) v10 λn121 v17=>
   And (S v17) <|
   Xa.c t44 k.1 v17 λt495 t496 t497 t498 t499 v18=>
   And (S v18) <|
   dF (n121.add 0) (.int .i64 t495) v18 λv19=>
   dF (n121.add 1) (.int .i64 t496) v19 λv20=>
   dF (n121.add 2) (.int .i64 t497) v20 λv21=>
   dF (n121.add 3) (.int .i64 t498) v21 λv22=>
   J n121 t499 v22)) ∧
 (Nw (.cells #[.int .i64 0,.int .i64 0,.int .i64 0,.int .i64 0] ty (0,0)) U λn122 v23=>
  And (S v23) <|
  Wy.c (aW qb) v23 λt441 v24=>
  And (S v24) <|
  Xa.c t441 k.1 v24 λt4910 t4911 t4912 t4913 t4914 v25=>
  And (S v25) <|
  dF (n122.add 0) (.int .i64 t4910) v25 λv26=>
  dF (n122.add 1) (.int .i64 t4911) v26 λv27=>
  dF (n122.add 2) (.int .i64 t4912) v27 λv28=>
  dF (n122.add 3) (.int .i64 t4913) v28 λv29=>
  J n122 t4914 v29):=by
 have j:S U:=hS U (Ext.refl _ _);refine⟨Ik qp ⟨j,?_,?_⟩,?_⟩
 ·refine Ba qp.p g hk λw a=>⟨hS w a,χ (λu r=>hS u (a.trans r)) λm b i=>hJ _ _ (a.trans b) a.1 i⟩
 ·refine nw (cs:=[.int .i64 0,.int .i64 0,.int .i64 0,.int .i64 0]) λv17 s e1 d=>⟨hS _ e1,Ba (qp.fr e1).p g hk λw a=>⟨hS w (e1.trans a),?_⟩⟩;exact Fs (e1.trans a) (zD _) (a.bV d id) λm b i=>hJ _ _ b (zD _) i
 ·refine nw (cs:=[.int .i64 0,.int .i64 0,.int .i64 0,.int .i64 0]) λv17 s e1 d=>⟨hS _ e1,Ik (qp.fr e1) ⟨hS _ e1,Ba (qp.fr e1).p g hk λw a=>⟨hS w (e1.trans a),?_⟩⟩⟩;exact Fs (e1.trans a) (zD _) (a.bV d id) λm b i=>hJ _ _ b (zD _) i
theorem ym {s:Sl}{xs:List Int}(h:bT s 1 (Wu xs) U Q){i:Nat}{z:Int}(hx:xs[i]?=some z){S:aP}(hS:∀m,S m->aF U m){K:Int->Prop}(hK:K z):Ix s.a s.len (i:Int) 1 λa=>gC S bO a K:=by
 have g:=bT.fW h;have r:=(cX.1 hx).1;have y:s.len=xs.length:=by have:=h.1;simp[Wu]at this;omega
 have u:(Wu xs)[i]?=some (.int .i64 z):=by unfold Wu;rw[zZ,hx];rfl
 obtain⟨b,o,x,d⟩:=g.cell (j:=i) u;have p:b<U.size:=by
  unfold cell at d;split at d
  ·rename_i h;exact(jT.1 h).1
  ·cases d
 rw[x];refine ix O O ⟨z,λm w=>?_,hK⟩;rw[add_lit,KF (hS m w) p id,show o+(i:Int).toNat*1=o+i by omega];exact d
end Go.Ar
namespace Go.Proofs
open Go.Vc
set_option maxRecDepth 100000
def WR.h:Hn:=.q .o2 (.q .o6 (.q (.q .o2 .aJ) (.q .o6 (.q (.q .o1 (.k (.loop [(11,.I)] (.q (.q .o4 (.c .l .l)) (.q (.k (.q (.cU (.gK true [14] [(12,.one .ad),(13,.I)] (.tk [0,1,2,3,5,6,7,8] (.all [(4,.all [(9,.tk [10,11,12] (.all [(13,.all [(14,.take 15 (.done))])])),(13,.all [(9,.tk [10,11,12] (.all [(14,.take 15 (.done))]))])]),(13,.all [(4,.all [(9,.tk [10,11,12] (.all [(14,.take 15 (.done))]))])])])))) (.q (.q .o2 .aK) (.q .o3 (.q .o1 (.k (.loop [(15,.I)] (.q (.q .o4 (.c .l .l)) (.q (.k (.q (.cU (.held true [8] (.tk [0,1,2,3,4,5,6,7] (.all [(8,.tk [9,10,11,12,13] (.done))])))) (.q (.cU (.seq [.op,.op,.op,.cY false 2 [.op,.op]])) .aK))) .o3))))))))) .o3))))) (.q .gA (.q (.cU (.seq [.op,.op,.op,.cY true 7 (RI.ops 7),.op,.cY true 1 [.op],.op])) .l))))))
def WR.v (a b c d e f g h:Int)(i:Sl)(j:Hp)(k:aO):Prop:=aV #[.I a,.I b,.I c,.I d,.I e,.I f] 25 j λl m=>aQ l 0 m λn=>aQ l 1 m λo=>aQ l 2 m λp=>aQ l 3 m λq=>aQ l 4 m λr=>aQ l 5 m λs=>Ya.c n o p q r s g h i 50 m λt u=>If t.isNone (Xz.c u λv w=>k v w) (bG t 1 u λy=>WH.c y u λz aa=>XS [bO] (λab=>ab 0 aa) λac (ad:Int) ae=>If (ad<((z.len:Nat):Int)) (Jn [.ad,bO] (λ(af:Addr) (ag:Int) ah=>If (ag != 0) (k false ah) (aQ af 0 ah λai=>aQ af 1 ah λaj=>aQ af 2 ah λak=>aQ af 3 ah λal=>XP.c ai aj ak al ah λam an=>XS [bO] (λao=>ao 0 an) λap (aq:Int) ar=>If (aq<((am.len:Nat):Int)) (dS ar λau=>bW t λav=>aU au av 0 λaw=>Ix am.a am.len aq 1 λax=>gC au bO ax λ(ay:Int)=>Yd.c aw ay ar λaz a0 a1=>bX (λa2 a3=>If a2 (k false a3) (bM (aq+1) λa4=>ap a4 a3)) λa5=>If (a0 != 0) (a5 true a1) (a5 (az != (-1234567)) a1)) (bM (ad+1) λa6=>ac a6 ar))) λa7=>dS ae λa8=>bW t λa9=>aU a8 a9 1 λba=>Ix z.a z.len ad 1 λbb=>gC a8 bO bb λ(bc:Int)=>(Wy.c ba ae λbd be=>And (a8 be) <| (Xa.c bd bc be λbf bg bh bi bj bk=>And (a8 bk) <| aV #[.I 0,.I 0,.I 0,.I 0] 48 bk λbl bm=>And (a8 bm) <| aR bl 0 (.I bf) bm λbn=>aR bl 1 (.I bg) bn λbo=>aR bl 2 (.I bh) bo λbp=>aR bl 3 (.I bi) bp λbq=>
 a7 bl bj bq) ∧ (aV #[.I 0,.I 0,.I 0,.I 0] 48 be λbr bs=>And (a8 bs) <| Xa.c bd bc bs λbt bu bv bw bx bz=>And (a8 bz) <| aR br 0 (.I bt) bz λb0=>aR br 1 (.I bu) b0 λb1=>aR br 2 (.I bv) b1 λb2=>aR br 3 (.I bw) b2 λb3=>a7 br bx b3)) ∧ (aV #[.I 0,.I 0,.I 0,.I 0] 48 ae λb4 b5=>And (a8 b5) <| Wy.c ba b5 λb6 b7=>And (a8 b7) <| Xa.c b6 bc b7 λb8 b9 ca cb cc cd=>And (a8 cd) <| aR b4 0 (.I b8) cd λce=>aR b4 1 (.I b9) ce λcf=>aR b4 2 (.I ca) cf λcg=>aR b4 3 (.I cb) cg λch=>a7 b4 cc ch)) (bG t 1 ae λcj=>Wx.c cj 0 ae λck cl cm=>bX (λcn co=>bX (λcp cq=>k cp cq) λcr=>If cn (Xz.c co λcs ct=>cr cs ct) (cr false co)) λcu=>If (cl==0) (bG t 1 cm λcw=>WD.c cw cm λcx cy=>cu (((cx.len:Nat):Int)==0) cy) (cu false cm)))
theorem WR.o {a b c d e f g h i j k}(l:WR.v a b c d e f g h i j k):WR.c a b c d e f g h i j k:=Wa Tryz.func7 (x:=WR.h) (R0 l)
end Go.Proofs
namespace Go.Ar
open Go Go.Vc Go.Proofs
open Go.Vc (bU dA cO)
variable {a:Int}{U σ0 v w w':Hp}{F P Q X T T':Rg}{H H' H1:Hw}{held:List Pc}{s0 sp:Sp}{x y x':Gu}{b:B5}{l:Sl}{ds:List fC}{q q':Qu}
theorem NM (g:dR H x)(hi:HI H held s0){k:Int×B5}(hk:k∈x.kn)(hu:qF H.sp k.2=[]){z:Int}(hz:z∈Xr k.2):QZ H.sp z=Ho:=by
 unfold qF at hu;rw[C9]at hu;have:=hu z hz;rw[g.acc hi hk (.inr hz)]at this;simpa using this
set_option maxRecDepth 16000 in
theorem SL (gl:Gl U)(gc:Gc U)(b b1 b2 b3 b4 b5 WW bytes:Int)(hd:jz U l ds){R:aO}(hR:∀σ',aF U σ'->R true σ'):WR.c b b1 b2 b3 b4 b5 WW bytes l U R:=by
 refine WR.o ?_;unfold WR.v;refine nw (cs:=[.int .i64 b,.int .i64 b1,.int .i64 b2,.int .i64 b3,.int .i64 b4,.int .i64 b5]) λv hz e d=>d.rI rfl (d.rI rfl (d.rI rfl (d.rI rfl (d.rI rfl (d.rI rfl ?_)))));have F:=gl.bP e;have B:=gc.bP e;refine RT F B b b1 b2 b3 b4 b5 WW bytes (hd.bP e) 50 aB (λv1 e1=>?_) λv1 xb pp gb km fm qb T Qa Qf H x q W ad fl fd p=>cD rfl ?_
 ·exact cF rfl (J6 (F.bP e1) (B.bP e1) λv2 e2=>hR v2 ((e.trans e1).trans e2))
 refine bL (p.o.b.rP rfl ?_);obtain⟨L0,hh0,s00,P0,Qq0,Qr0,qs0,rs0,L,G,_⟩:=p.o.p;refine BS L λsb v3 Qb eb M hQb=>?_;have hsl:sb.len=q.q.length:=by have:=M.1;simp[Wu]at this;omega
 have g:=p.al.kq.g;have hql:=p.al.ql p.o.p.qi;refine Qj (a:=bO) (λ(z:Int) u=>aF v3 u/\∃i:Nat,z=i/\i<=q.q.length) (λz _=>q.q.length-z.toNat) ⟨Ext.refl _ _,0,rfl,O⟩ ?_;rintro(z:Int) u ⟨eu,i,rfl,hi⟩;have Q:=(p.oe eb).oe eu;have N:=(L.fr eb).fr eu;have hsu:=aI.bP M eu;refine cN (λY=>?_) λhge=>?_
 ·have Z:q.q[i]?=some (q.q[i]' O):=cW _;generalize (q.q[i]' O)=ee at Z;obtain⟨bk,hm,_,hus⟩:=p.al.kq.k ee (zG Z);have P:(ee.1,bk)∈x.kn:=Qi hm;have hx1:(q.q.map (·.1))[i]?=some ee.1:=by rw[zZ,Z];rfl
  have j:gL bk:=(g.i _ P).2;refine BE (λa e w=>aF u w/\e=0/\∃c,a=⟨c,0,none⟩/\bY w c (jZ (Go.Ar.b4 (ee.1,bk)))) (λa e w ⟨K,he,c,ha,d⟩=>?_) λJ hJ=>⟨λm=>aF u m,Ext.refl _ _,bL (gI (c:=.p) (y:=some ⟨qb,0,none⟩) (λm e=>e.bV Q.o.b id) rfl (ym hsu hx1 (λm h=>h) (WoC N g P (λV e=>e) λc w K _ d=>hJ _ _ _ ⟨K,rfl,c,rfl,d⟩)))⟩;subst he ha;refine cD rfl (d.rI rfl (d.rI rfl (d.rI rfl (d.rI rfl (Sb j λsw w6 Qw e6 D hQw=>?_)))));have hswl:sw.len=(Xr bk).length:=by have:=D.1;simp[Wu]at this;omega
  have hwn:(Xr bk).length=ZM bk:=by simp[Xr]
  have hwn2:ZM bk<=200:=by
   have:=j.s;have:=ZE (n:=bk.2.1) O;unfold ZM;omega
  refine Qj (a:=bO) (λ(z:Int) V=>aF w6 V/\∃k:Nat,z=k/\k<=ZM bk) (λz _=>ZM bk-z.toNat) ⟨Ext.refl _ _,0,rfl,O⟩ ?_;rintro(z:Int) V ⟨eu',k,rfl,hk'⟩;have A:=((N.fr K).fr e6).fr eu';have p':=((Q.oe K).oe e6).oe eu';refine cN (λY=>?_) λhge=>?_
  ·have r:(Xr bk)[k]?=some ((Xr bk)[k]' O):=cW _;generalize ((Xr bk)[k]' O)=zz at r;have C:=zG r;have hzi:=U8 j C;have b1:=j.base;have b2:=j.z;have b3:=j.t;have b4:=j.m;refine⟨λm=>aF V m,Ext.refl _ _,bL (gI (c:=.p) (y:=some ⟨pp,0,none⟩) (λm e=>e.bV p'.o.b id) rfl (ym (aI.bP D eu') r (λm h=>h) ?_))⟩;rw[←G];refine Gb A.p.h zz O λw7 e7=>?_;rw[g.acc A.p.hi P (.inr C),NM g A.p.hi P hus C];exact bX.intro (cD rfl (cD rfl (cT (m:=k+1) O O ⟨⟨eu'.trans e7,k+1,rfl,O⟩,O⟩)))
  ·exact cT (m:=i+1) O O ⟨⟨((eu.trans K).trans e6).trans eu',i+1,rfl,O⟩,O⟩
 ·refine bL (Q.o.b.rP rfl (Q.drain B aB λv4 T1 H1 x1 q1 S dr hnil=>?_));refine bX.intro (cF rfl (bL (S.o.b.rP rfl ?_)));obtain⟨L1,hh1,s01,P1,Qq1,Qr1,qs1,rs1,X,hpp1,hT1⟩:=S.o.p;refine I3 X λsr w7 Q7 e7 hs7 _=>?_;have h0:=hs7.kf;rw[S.al.rs]at h0;rw[h0];have E:=e.trans (S.oe e7).o.p.e;exact bX.intro (cF rfl (J6 (gl.bP E) (gc.bP E) λu2 e2=>hR u2 (E.trans e2)))
end Go.Ar
namespace Go.Ar
open Go Go.Vc Go.Proofs Go.ChangeShapes Go.WideShapes Go.RowKit Go.Deep
theorem G4 {H:Type}{enc:TypeId×Value->H}{P:Program}{w:World}{base:Nat}{sp:Nat->Bool}{held:Bool}{fuel:Nat}{t:TypeId}{c:Value}{y:DataW H×List MemPlace}
 (ht:P.underlying t=some .bool) (h:DataW.trod enc P w base sp held fuel t [c]=some y):∃n,c=.bool n/\y=(.lit (.bool n),[]):=by
 cases fuel with
 | zero=>simp[DataW.trod]at h
 | succ fuel=>
  cases c<;>simp[DataW.trod,ht]at h
  rename_i n;exact⟨n,rfl,by simpa using h.symm⟩
theorem Bm {P:Program}{w:World}{t:TypeId}{f0 f1:Field}{cs:Array Value}{fuel:Nat}{p:List MemPlace}{x y:Bool}(ht:P.underlying t=some (.struct #[f0,f1]))(hone:oneCellFields P #[f0,f1]=true)(hC:P.cellsOf t=2)
 (h0:P.underlying f0.type=some .bool) (h1:P.underlying f1.type=some .bool) (h:DataW.trod (λ_=>()) P w 0 (λ_=>true) false fuel t cs.toList=some (.agg [.lit (.bool x),.lit (.bool y)],p)):cs = #[.bool x,.bool y]:=by
 obtain⟨s,n,A,i,b,g,a⟩:=DataW.trod_struct ht h;obtain⟨l⟩:=cs;have d:l.length=2:=by rw[←hC];simpa using b
 match l,d with
 | [c0,c1],_=>
  have m:=a 0 f0 rfl;have j:=a 1 f1 rfl;obtain⟨r,q0⟩:=hone_of hone 0 f0 rfl;obtain⟨o1,q1⟩:=hone_of hone 1 f1 rfl;rw[r,q0]at m;rw[o1,q1]at j
  match s,g with
  | [y0,y1],_=>
   obtain⟨B,rfl,u⟩:=G4 h0 (c:=c0) (y:=y0) (by simpa using m);obtain⟨z,rfl,e1⟩:=G4 h1 (c:=c1) (y:=y1) (by simpa using j);subst u;subst e1;simp at i;obtain⟨⟨rfl,rfl⟩,_⟩:=i;rfl
theorem GD {w:World}{a:Addr}{v:Value}(h:w.cell? a=some v):cell w.heap a=some v:=h
section
variable {H:Type}{enc:TypeId×Value->H}{P:Program}{w:World}
theorem MB {x:Int}(h:(Lit.int .i64 x).wf=true):jA x:=by
 unfold jA;simp[Lit.wf,IntKind.min,IntKind.max,IntKind.bits,IntKind.signed]at h;omega
theorem δ {t:TypeId}{f0 f1 f2 f3 f4 f5 f6 f7:Field}{fuel:Nat}{cs:List Value}{y:DataW H×List MemPlace}
 (ht:P.underlying t=some (.struct #[f0,f1,f2,f3,f4,f5,f6,f7])) (hone:oneCellFields P #[f0,f1,f2,f3,f4,f5,f6,f7]=true) (hC:P.cellsOf t=8)
 (h0:P.underlying f0.type=some (.int .i64)) (h1:P.underlying f1.type=some (.int .i64)) (h2:P.underlying f2.type=some (.int .i64)) (h3:P.underlying f3.type=some (.int .i64)) (h4:P.underlying f4.type=some (.int .i64)) (h5:P.underlying f5.type=some (.int .i64)) (h6:P.underlying f6.type=some (.int .i64)) (h7:P.underlying f7.type=some .string)
 (h:DataW.trod enc P w 0 (λ_=>true) true fuel t cs=some y):∃d:fC,cs=uI d/\kR d:=by
 obtain⟨A,n,W,V,b,u,i⟩:=DataW.trod_struct ht h;have r:cs.length=8:=by rw[←hC];exact b
 match cs,r with
 | [c0,c1,c2,c3,c4,c5,c6,c7],_=>
  have one:∀(j:Nat) (f:Field) (c:Value),(#[f0,f1,f2,f3,f4,f5,f6,f7]:Array Field)[j]?=some f->[c0,c1,c2,c3,c4,c5,c6,c7][j]?=some c->∃z,DataW.trod enc P w 0 (λ_=>true) true n f.type [c]=some z:=by
   intro j f c hj hc;obtain⟨E,L⟩:=hone_of hone j f hj;have h3:=i j f hj;rw[E,L]at h3;have g:=(cX.1 hc).1;have e1:([c0,c1,c2,c3,c4,c5,c6,c7].drop j).take 1=[c]:=by
    rw[wL g,vL,wm,(cX.1 hc).2]
   rw[e1]at h3;have p:A[j]?=some (A[j]'(by rw[u];simp at g ⊢;omega)):=cW _;rw[p]at h3;exact⟨_,h3⟩
  have int:∀(j:Nat) (f:Field) (c:Value),(#[f0,f1,f2,f3,f4,f5,f6,f7]:Array Field)[j]?=some f->[c0,c1,c2,c3,c4,c5,c6,c7][j]?=some c->P.underlying f.type=some (.int .i64)->∃x:Int,c=.int .i64 x/\jA x:=by
   intro j f c hj hc hu;obtain⟨z,m⟩:=one j f c hj hc;obtain⟨x,a,_,D⟩:=DataW.trod_int hu m;simp only[List.cons.injEq,and_true]at a;exact⟨x,a,MB D⟩
  obtain⟨G,rfl,_⟩:=int 0 f0 c0 rfl rfl h0;obtain⟨S,rfl,_⟩:=int 1 f1 c1 rfl rfl h1;obtain⟨K,rfl,J⟩:=int 2 f2 c2 rfl rfl h2;obtain⟨R,rfl,C⟩:=int 3 f3 c3 rfl rfl h3;obtain⟨N,rfl,_⟩:=int 4 f4 c4 rfl rfl h4;obtain⟨Q,rfl,F⟩:=int 5 f5 c5 rfl rfl h5;obtain⟨U,rfl,M⟩:=int 6 f6 c6 rfl rfl h6;obtain⟨z,m⟩:=one 7 f7 c7 rfl rfl;obtain⟨s,B,_⟩:=DataW.trod_string h7 m;simp only[List.cons.injEq,and_true]at B;subst B;exact⟨⟨G,S,K,R,N,Q,U,s⟩,rfl,J,C,F,M⟩
theorem MV {t e:TypeId}{f0 f1 f2 f3 f4 f5 f6 f7:Field}{a:Option Addr}{len cap:Nat}{d:DataW H}{ps:List MemPlace}
 (htl:P.underlying t=some (.slice e)) (ht:P.underlying e=some (.struct #[f0,f1,f2,f3,f4,f5,f6,f7])) (hone:oneCellFields P #[f0,f1,f2,f3,f4,f5,f6,f7]=true) (hC:P.cellsOf e=8)
 (h0:P.underlying f0.type=some (.int .i64)) (h1:P.underlying f1.type=some (.int .i64)) (h2:P.underlying f2.type=some (.int .i64)) (h3:P.underlying f3.type=some (.int .i64)) (h4:P.underlying f4.type=some (.int .i64)) (h5:P.underlying f5.type=some (.int .i64)) (h6:P.underlying f6.type=some (.int .i64)) (h7:P.underlying f7.type=some .string)
 (h:DataW.Trod enc P w 0 (λ_=>true) true t (.slice a len cap) d ps):∃ds,jz w.heap ⟨a,len,cap⟩ ds:=by
 obtain⟨M,S⟩:=h;rcases open_slice htl S with⟨r,_⟩|⟨ad,len',cap',m,n,D,Pl,r,_,hl,hm,hmm,y,hi⟩
 ·simp[Value.cells]at r;obtain⟨rfl,rfl,rfl⟩:=r;exact⟨[],rfl,λi x y=>by simp at y,by simp,by simp⟩
 ·simp[Value.cells]at r;obtain⟨rfl,rfl,rfl⟩:=r;have U:m=cap:=by simpa using hmm
  have key:∀i,i<len->∃u:fC,(∀j v,(uI u)[j]?=some v->cell w.heap ((ad.add (i*8)).add j)=some v)/\kR u:=by
   intro i p;obtain⟨V,C,F⟩:=hi i O;rw[hC]at C;obtain⟨x,r,G⟩:=δ ht hone hC h0 h1 h2 h3 h4 h5 h6 h7 F;obtain⟨_,R,J⟩:=World.cells?_some C;refine⟨x,λj v B=>?_,G⟩;have Q:=(cX.1 B).1;have:=J j (by simpa[uI]using Q);rw[r]at this;rw[B]at this;exact this
  let g:Nat->fC:=λi=>if hi:i<len then(key i hi).choose else⟨0,0,0,0,0,0,0,ByteArray.empty⟩
  have N:∀i,(hi:i<len)->g i=(key i hi).choose:=λi hi=>by simp only[g,hi,dif_pos]
  refine⟨(List.range len).map g,by simp,λi x y=>?_,λx y=>?_,?_⟩
  ·have p:i<len:=by
    have:=(cX.1 y).1;simpa using this
   have A:g i=x:=by simpa[p]using y
   rw[N i p]at A;have E:=(key i p).choose_spec;rw[A]at E;obtain⟨C,_⟩:=E;have L:=(key 0 O).choose_spec.1;have K:=L 0 _ rfl;have z:=En K;simp only[uW,Addr.add_zero']at z;obtain⟨b,o,s⟩:=ad;have E:s=none:=z.2;subst E;refine⟨b,o,rfl,z.1,λj v B=>?_⟩;have:=C j v B;rw[add_lit,add_lit]at this;exact this
  ·obtain⟨i,hi,rfl⟩:=zE.1 y;have p:=zg.1 hi;rw[N i p];exact(key i p).choose_spec.2
  ·have:maxLen=9223372036854775807:=rfl;simp;omega
theorem WgN {b0:Nat}{t:TypeId}{f0 f1 g0 g1 g2 g3 g4:Field}{v:Value}{d:DataW H}{ps:List MemPlace}
 (ht:P.underlying t=some (.struct #[f0,f1])) (hC:P.cellsOf t=6) (ho:f0.offset=0/\P.cellsOf f0.type=1/\f1.offset=1/\P.cellsOf f1.type=5)
 (h0:P.underlying f0.type=some (.int .i64)) (h1:P.underlying f1.type=some (.struct #[g0,g1,g2,g3,g4])) (hone:oneCellFields P #[g0,g1,g2,g3,g4]=true)
 (k0:P.underlying g0.type=some (.int .i64)) (k1:P.underlying g1.type=some (.int .i64)) (k2:P.underlying g2.type=some (.int .i64)) (k3:P.underlying g3.type=some (.int .i64)) (k4:P.underlying g4.type=some (.int .i64))
 (hval:Value.okWide P w .any b0 t v) (h:DataW.Trod enc P w 0 (λ_=>true) true t v d ps):∃(x0 x1 x2 x3 x4 x5:Int),v=.agg #[.int .i64 x0,.int .i64 x1,.int .i64 x2,.int .i64 x3,.int .i64 x4,.int .i64 x5]:=by
 unfold Value.okWide at hval;rw[ht]at hval;obtain⟨K,rfl,p,_⟩:=hval;obtain⟨b,C⟩:=h;obtain⟨l⟩:=K;have s:l.length=6:=by rw[←hC];simpa using p
 obtain⟨y,A,D,z⟩:=ho
 match l,s with
 | [c0,c1,c2,c3,c4,c5],_=>
  have C:DataW.trod enc P w 0 (λ_=>true) true b t [c0,c1,c2,c3,c4,c5]=some (d,ps):=C;obtain⟨y0,y1,n,_,_,q0,q1⟩:=trod_struct2 ht C;rw[y,A]at q0;rw[D,z]at q1;have E:DataW.trod enc P w 0 (λ_=>true) true n f0.type [c0]=some y0:=q0;have r:DataW.trod enc P w 0 (λ_=>true) true n f1.type [c1,c2,c3,c4,c5]=some y1:=q1;obtain⟨x0,a,_,_⟩:=DataW.trod_int h0 E;simp only[List.cons.injEq,and_true]at a;subst a;obtain⟨J,n,N,M,G,F,B⟩:=DataW.trod_struct h1 r;have int:∀(j:Nat) (f:Field) (c:Value),(#[g0,g1,g2,g3,g4]:Array Field)[j]?=some f->[c1,c2,c3,c4,c5][j]?=some c->P.underlying f.type=some (.int .i64)->∃x:Int,c=.int .i64 x:=by
   intro j f c hj hc hu;obtain⟨ho,L⟩:=hone_of hone j f hj;have i:=B j f hj;rw[ho,L]at i;have g:=(cX.1 hc).1;have e1:([c1,c2,c3,c4,c5].drop j).take 1=[c]:=by
    rw[wL g,vL,wm,(cX.1 hc).2]
   rw[e1]at i;have u:J[j]?=some (J[j]'(by rw[F];simp at g ⊢;omega)):=cW _;rw[u]at i;obtain⟨x,m,_,_⟩:=DataW.trod_int hu i;exact⟨x,by simpa using m⟩
  obtain⟨x1,rfl⟩:=int 0 g0 c1 rfl rfl k0;obtain⟨x2,rfl⟩:=int 1 g1 c2 rfl rfl k1;obtain⟨x3,rfl⟩:=int 2 g2 c3 rfl rfl k2;obtain⟨x4,rfl⟩:=int 3 g3 c4 rfl rfl k3;obtain⟨x5,rfl⟩:=int 4 g4 c5 rfl rfl k4;exact⟨x0,x1,x2,x3,x4,x5,rfl⟩
end
end Go.Ar