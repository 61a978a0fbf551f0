/- Texts joined. -/
import Derived.Test.YtoeidadjhkkioaaGreatDoorRows
import Derived.ChangeVars
import Derived.JoinedOf
import Derived.RowKit
import Derived.WalkKit
import Derived.ProofKit
import Derived.OpenShut
import Derived.ChangeOld
import Derived.Carry
import Derived.Test.YtoeidadjhkkioaaGreatDoorU7
set_option linter.unusedVariables false
set_option linter.unusedSimpArgs false
namespace Go.Ar
open Go Go.Vc Go.Proofs
open Go.Vc (bU dA cN)
variable {U σ0 v w w':Hp}{F P Q X T:Rg}{L:dE}{H H' H1:Hw}{held:List Pc}{s0 sp:Sp}{t n:Nat}{gb km fm m:Nat}{x y:Gu}{b:B5}{qb:Nat}{Qq Qr:Rg}{qs rs:Sl}{q:Qu}
theorem VY (o:QP σ0 U L H held s0 P gb km fm x qb Qq Qr qs rs q){R:aO}(hR:R true U):Wm.c (aW qb) U R:=by
 refine Wm.o ?_;unfold Wm.v;exact bX.intro (cE rfl (bL (o.b.rP rfl hR)))
theorem Ni (o:QP σ0 U L H held s0 P gb km fm x qb Qq Qr qs rs q){R:Option Addr->Hp->Prop}(hR:R (some ⟨gb,0,none⟩) U):WO.c (aW qb) U R:=by
 refine WO.o ?_;unfold WO.v;exact VY o (cD rfl (bL (o.b.rP rfl hR)))
theorem IP (o:QP σ0 U L H held s0 P gb km fm x qb Qq Qr qs rs q)(thread:Int){R:aN}(hR:∀σ',aF U σ'->R (ZG H thread) σ'):WL.c (aW qb) thread U R:=by
 refine WL.o ?_;unfold WL.v;refine VY o (cD rfl (bL (o.b.rP rfl (yM o.p ?_))));refine KD (λr u=>aF U u/\r=decide (thread<0\/thread≥(H.cf.threads:Int))) (λr u ⟨d,i⟩=>?_) λJ g=>?_
 ·by_cases hc:thread<0\/thread≥(H.cf.threads:Int)
  ·have a:=hR u d;unfold ZG at a;rw[zC hc]at a;exact cE (by rw[i];exact zI hc) a
  ·have j:=o.p.fr d;refine cD (by rw[i];exact zL hc) (F4 j.h thread λs m e2 w=>?_);have a:=hR m (d.trans e2);unfold ZG at a;rw[zB hc]at a;rw[w];cases hp:UE H thread with
   | none=>rw[hp]at a;exact cD rfl a
   | some q=>rw[hp]at a;exact cE rfl a
 ·refine cP (λh=>g _ _ ⟨Ext.refl _ _,by rw[zI];exact .inl h⟩) λh=>GD o.p.h λu e=>g _ _ ⟨e,?_⟩;rw[kW,decide_eq_true_iff,decide_eq_true_iff];exact⟨.inr,λy=>y.resolve_left h⟩
theorem LV {s:Sl}{l:List P2}(h:cV s 2 (gQ l) U F)(hl:s.len<=1000000){R:Sl->Hp->Prop}(hR:∀s' σ',aF U σ'->bT s' 2 (gQ l) σ' (λb=>U.size<=b)->R s' σ'):Wh.c s U R:=by
 refine Wh.o ?_;unfold Wh.v;exact Cs h aB rfl (LD l) aB hl λs' σ' _ e a=>hR s' σ' e a
theorem OH {s:Sl}{xs:List Int}(h:cV s 1 (Wy xs) U F)(hl:xs.length<=1000000)(hne:xs≠[]){R:aN}(hR:R (kI xs) U):W7.c s U R:=by
 refine W7.o ?_;unfold W7.v;have b:s.len=xs.length:=by have:=h.1;simp[Wy]at this;omega
 have r:=oa.2 hne;refine Jn.intro (cD (zL O) ?_);obtain⟨a,l,rfl⟩:=List.exists_cons_of_ne_nil hne;have w:(a::l)[0]?=some a:=rfl;refine cV.lL (i:=0) h w ?_;refine UI (a:=bO) (bb:=bO) (λ(m i:Int) u=>u=U/\∃k:Nat,i=k+1/\k<=l.length/\m=(l.take k).foldl (λm z=>if z<m then z else m) a) (λ_ i _=>l.length+1-i.toNat) ⟨rfl,0,rfl,O,rfl⟩ ?_
 rintro(m:Int) (i:Int) u ⟨rfl,k,rfl,hk,rfl⟩;refine cP (λA=>?_) λx=>?_
 ·have p:k<l.length:=by simp only[zS]at b;omega
  have j:l[k]?=some l[k]:=cW p;have d:(a::l)[k+1]?=some l[k]:=by rw[AD,j]
  generalize l[k]=y at j d;rw[show((k:Int)+1)=((k+1:Nat):Int) by omega];refine h.lL d (cT (m:=k+2) O O ⟨⟨rfl,k+1,O,O,?_⟩,O⟩);rw[kC,j,q8,vK];rfl
 ·have g:k=l.length:=by simp only[zS]at b;omega
  subst g;rw[lV];exact hR
theorem Wn7 {s:Sl}{bs:List Bk}(h:cV s 4 (jo bs) U F)(hl:bs.length<=1000000)(hs:bs.Pairwise λa c=>a.1<c.1)(hi:∀k∈bs,0<=k.1/\k.1<=1000000){a:Int}(ha:jx a){R:Int->Bool->Hp->Prop}
 (h1:∀w (i:Nat) k,aF U w->bs[i]?=some k->k.1=a->R (i:Int) true w) (h0:∀w i,aF U w->(∀k∈bs,k.1≠a)->R i false w) :
 Wf.c s a ⟨117,#[],#[]⟩ U R:=by
 refine Wf.o ?_;unfold Wf.v;have S:s.len=bs.length:=by have:=h.1;rw[Cn]at this;omega
 obtain⟨ha1,ha2⟩:=ha;have J:∀(k:Bk) (v:Hp) (K:aN),(∀D,aF v D->K (IntKind.i64.wrap (k.1-a)) D) →
  VJ Tryz.prog ⟨117,#[],#[]⟩ [.agg #[.int .i64 k.1,.int .i64 k.2.1,.int .i64 k.2.2.1,.int .i64 k.2.2.2],.int .i64 a] [.one bO] v K:=by
  intro k v K hK;refine Gp (all := #[.agg #[.int .i64 k.1,.int .i64 k.2.1,.int .i64 k.2.2.1,.int .i64 k.2.2.2],.int .i64 a]) (by kernel_rfl) aA ?_;refine WX.o ?_;unfold WX.v;exact nw (cs:=lM k) λZ hz e hb=>hb.rI rfl (vI (hK Z e))
 have w0:∀k∈bs,(IntKind.i64.wrap (k.1-a)==0)=decide (k.1=a):=λk x=>by
  have:=hi k x;rw[kW,zU,decide_eq_true_iff];unfold IntKind.wrap;simp[IntKind.bits,IntKind.signed];omega
 have A:∀{i j:Nat} {k r:Bk},bs[i]?=some k->bs[j]?=some r->i<j->k.1<r.1:=λ{i j k r} h1 N Q=>by
  obtain⟨l1,e1⟩:=cY.1 h1;obtain⟨l2,e2⟩:=cY.1 N;have:=mC.1 hs i j l1 l2 Q;rw[e1,e2]at this;exact this
 refine UI (a:=bO) (bb:=bO) (λ(i j:Int) v=>∃c d:Nat,i=(c:Int)/\j=(d:Int)/\c<=d/\d<=bs.length/\aF U v/\∀(p:Nat) k,bs[p]?=some k->k.1=a->c<=p/\p<=d) (λi j _=>j.toNat-i.toNat) ⟨0,bs.length,rfl,by rw[S],O,O,Ext.refl _ _,λp k g _=>by have:=(cY.1 g).1;omega⟩ ?_;rintro(i:Int) (j:Int) v ⟨c,d,rfl,rfl,hcd,hdl,ev,hpp⟩;refine cP (λhlt=>?_) λY=>?_
 ·refine cT (m:=c+d) O O ?_;have hw:IntKind.u64.wrap ((c+d:Nat):Int)=((c+d:Nat):Int):=by
   unfold IntKind.wrap;simp[IntKind.bits,IntKind.signed];omega
  refine vI ?_;rw[hw];refine nn O ?_;have V:min (1:Int).toNat IntKind.u64.bits=1:=by decide
  rw[V,B9];have M:(((c+d:Nat):Int)/2^1)=(((c+d)/2:Nat):Int):=by omega
  refine cT (m:=(c+d)/2) M O ?_;have B:(c+d)/2<bs.length:=by omega
  have x:bs[(c+d)/2]?=some bs[(c+d)/2]:=cW B;generalize bs[(c+d)/2]=k at x;have C:=zG x;have hki:=hi k C;refine Cw (aH.bP h ev) x λbb o z=>eB (z 0 _ rfl) (eB (z 1 _ rfl) (eB (z 2 _ rfl) (eB (z 3 _ rfl) (J k v _ λD E=>?_))));have y:∀{p:Nat} {r:Bk},bs[p]?=some r->r.1=a->IntKind.i64.wrap (k.1-a)=k.1-a:=λ{p r} g b=>by
   have:=hi r (zG g);exact Us O O
  show If (decide (IntKind.i64.wrap (k.1-a)<0)) _ _;refine cP (λG=>?_) λL=>?_
  ·refine cT (m:=(c+d)/2+1) O O ⟨⟨_,d,rfl,rfl,O,hdl,ev.trans E,λp r g b=>⟨?_,(hpp p r g b).2⟩⟩,O⟩;rw[y g b]at G;apply Classical.byContradiction;intro hx;rcases kv p ((c+d)/2)with N|N
   ·have:=A g x N;omega
   ·have:p=(c+d)/2:=by omega
    subst this;rw[x]at g;cases g;omega
  ·refine⟨⟨c,_,rfl,rfl,O,O,ev.trans E,λp r g b=>⟨(hpp p r g b).1,?_⟩⟩,O⟩;rw[y g b]at L;apply Classical.byContradiction;intro hx;have:=A x g O;omega
 ·have H:c=d:=by omega
  subst H;refine bX.intro (cP (λX=>?_) λW=>?_)
  ·have B:c<bs.length:=by omega
   have x:bs[c]?=some bs[c]:=cW B;generalize bs[c]=k at x;have C:=zG x;refine Cw (aH.bP h ev) x λbb o z=>eB (z 0 _ rfl) (eB (z 1 _ rfl) (eB (z 2 _ rfl) (eB (z 3 _ rfl) (J k v _ λD E=>?_))));rw[w0 k C];by_cases hka:k.1=a
   ·rw[zI hka];exact h1 D c k (ev.trans E) x hka
   ·rw[zL hka];refine h0 D _ (ev.trans E) λr b u=>?_;obtain⟨p,g⟩:=zP b;have:=hpp p r g u;have P:p=c:=by omega
    subst P;rw[x]at g;cases g;exact hka u
  ·refine h0 v _ ev λr b u=>?_;obtain⟨p,g⟩:=zP b;have:=hpp p r g u;have:=(cY.1 g).1;omega
theorem BR (bi:gK b){R:Sl->Hp->Prop}(hR:∀s w Q,aF U w->bT s 1 (Wy (XC b)) w Q->(∀c,Q c->U.size<=c/\c<w.size)->R s w):XR.c b.1 b.2.1 b.2.2.1 b.2.2.2.1 U R:=by
 refine XR.o ?_;unfold XR.v;have bb:=bi.base;have J:=bi.z;have N:=bi.m;have G:=bi.t;have E:=bi.s;have F:=ZE (n:=b.2.1) O;have K:(QA b:Int)*8=Yd b.2.1:=by unfold QA;omega
 let wl:Nat->List Int:=λi=>(List.range i).map λ(i:Nat)=>b.1+8*(i:Int)
 have p:∀i,wl (i+1)=wl i++[b.1+8*(i:Int)]:=λi=>by show List.map _ _=_;rw[qQ,zo];rfl
 have g:∀i,(wl i).length=i:=λi=>by show(List.map _ _).length=i;simp
 have A:wl (QA b)=XC b:=rfl
 clear_value wl
 refine nw (cs:=lM (b.1,b.2.1,b.2.2.1,b.2.2.2.1)) λv M e D=>?_;refine UI (a:=.s) (bb:=bO) (λ(out:Sl) (z:Int) u=>aF v u/\∃(i:Nat) (Q:Rg),z=8*(i:Int)/\i<=QA b/\bT out 1 (Wy (wl i)) u Q/\∀c,Q c->v.size<=c/\c<u.size) (λ_ z _=>(Yd b.2.1-z).toNat)
  ⟨Ext.refl _ _,0,λ_=>False,rfl,O,by rw[uO (g 0)];exact⟨rfl,.inl ⟨rfl,rfl⟩⟩,λc d=>d.elim⟩ ?_
 rintro(out:Sl) (z:Int) u ⟨eu,i,Q,rfl,hi,hr,hQ⟩;have L:=eu.1;have j:=eu.bV D id;refine j.rI rfl (cP (λx=>?_) λr=>?_)
 ·simp only at x;have C:out.len=i:=by have:=hr.1;simp[Wy,g]at this;omega
  refine j.rI rfl (ar aC aC ?_);refine xC hr (by rw[g];omega) _ λH w B y=>?_;refine ar O O ⟨⟨Ext.fresh eu B λc d=>(hQ c d).1,i+1,_,O,O,by rw[p];exact y,λc d=>?_⟩,O⟩;have:=B.1;rcases d with d|d
  ·have:=hQ c d;omega
  ·omega
 ·simp only at r;have:i=QA b:=by unfold QA at hi ⊢;omega
  subst this;rw[A]at hr;exact hR out u Q (e.trans eu) hr λc d=>by have:=hQ c d;omega
theorem DZ (o:QP σ0 U L H held s0 P gb km fm x qb Qq Qr qs rs q)(xi:∀e∈x.kn,e.1=e.2.1/\gK e.2)(hkl:x.kn.length<=1000000){a:Int}(ha:jx a){R:Int->Int->Int->Int->Bool->Hp->Prop}
 (h0:∀w,aF U w->bU x.kn a=none->R 0 0 0 0 false w) (h1:∀w b,aF U w->bU x.kn a=some b->R b.1 b.2.1 b.2.2.1 b.2.2.2.1 true w):WD.c (aW qb) a U R:=by
 refine WD.o ?_;unfold WD.v;refine nw (cs:=[.int .i64 0,.int .i64 0,.int .i64 0,.int .i64 0]) λv hz e hb=>?_;have o1:=o.fr e;have nd:(x.kn.map (·.1)).Nodup:=o.p.m.nodup;refine bL (o1.b.rP rfl (Rp o1.p xi hkl λs v1 es e1 u B=>?_));have S:=e1.bV hb id;have A:∀{w:Hp} {a b c d:Int} {K:Int->Int->Int->Int->Hp->Prop},aF v1 w->(∀g,aF U g->K a b c d g) →
  dQ (Addr.add ⟨U.size,0,none⟩ 0) (.int .i64 a) w λv7=>dQ (Addr.add ⟨U.size,0,none⟩ 1) (.int .i64 b) v7 λv8=>dQ (Addr.add ⟨U.size,0,none⟩ 2) (.int .i64 c) v8 λv9=>dQ (Addr.add ⟨U.size,0,none⟩ 3) (.int .i64 d) v9 λv10=>
  gI .i64 (Addr.add ⟨U.size,0,none⟩ 0) v10 λr0=>gI .i64 (Addr.add ⟨U.size,0,none⟩ 1) v10 λr1=>gI .i64 (Addr.add ⟨U.size,0,none⟩ 2) v10 λr2=>gI .i64 (Addr.add ⟨U.size,0,none⟩ 3) v10 λr3=>K r0 r1 r2 r3 v10:=λ{w a b c d K} D hK=>
  (D.bV S id).s1 aA λw1 o1 b1=>b1.s1 aA λw2 o2 b2=>b2.s1 aA λw3 o3 b3=>b3.s1 aA λw4 o4 b4=>b4.rI rfl (b4.rI rfl (b4.rI rfl (b4.rI rfl (hK w4 (Ext.fresh ((e.trans e1).trans D) (((o1.ext.trans o2.ext).trans o3.ext).trans o4.ext) λi (hi:i=U.size)=>O)))))
 have r:∀k∈es,k∈x.kn:=λk j=>u.p.mem_iff.1 j;have N:(es.map Go.Ar.b4).length<=1000000:=by rw[zk,u.p.length_eq];exact hkl
 refine Wn7 (bT.fW B) N ?_ ?_ ha (λw i k D j C=>?_) λw i D X=>?_
 ·rw[rp];refine u.s.imp_of_mem λ{k W} h1 Z hlt=>?_;have e1:=(xi k (r k h1)).1;have e2:=(xi W (r W Z)).1;show k.2.1<W.2.1;omega
 ·intro k j;obtain⟨y,G,rfl⟩:=zE.1 j;have E:=(xi y (r y G)).2;have h1:=E.base;have Z:=E.z;have h3:=E.m;have h4:=E.t;have h5:=E.s;have h6:=ZE (n:=y.2.2.1) O;show 0<=y.2.1/\y.2.1<=1000000;omega
 ·rw[zZ,oH]at j;obtain⟨y,G,rfl⟩:=j;have F:=r y (zG G);have V:y.1=a:=by rw[(xi y F).1];exact C
  have hg:bU x.kn a=some y.2:=by rw[←V];exact Qe nd (show(y.1,y.2)∈x.kn from F)
  have Y:(es.map Go.Ar.b4)[i]?=some (Go.Ar.b4 y):=by rw[zZ,G];rfl
  refine cD rfl (Cw (aH.bP (bT.fW B) D) Y λbb oo J=>eB (J 0 _ rfl) (eB (J 1 _ rfl) (eB (J 2 _ rfl) (eB (J 3 _ rfl) ?_))));exact A (K:=λa b c d g=>R a b c d true g) D λg M=>h1 g y.2 M hg
 ·refine cE rfl (A (K:=λa b c d g=>R a b c d false g) D λg M=>h0 g M ?_);rw[Gh];intro k j C;have Q:k∈es:=u.p.mem_iff.2 j;exact X (Go.Ar.b4 k) (zE.2 ⟨k,Q,rfl⟩) (by show k.2.1=a;rw[←(xi k j).1];exact C)
theorem SN (o:QP σ0 U L H held s0 P gb km fm x qb Qq Qr qs rs q)(a:Int){R:aO}(hR:∀w,aF U w->R (decide (a∈q.q.map (·.1))) w):WR.c (aW qb) a U R:=by
 refine WR.o ?_;unfold WR.v;refine nw (cs:=[.int .i64 a]) λv W e Q=>?_;have o1:=o.fr e;refine bL (o1.b.rS rfl (Wb.o ?_));unfold Wb.v;refine We.o ?_;unfold We.v;have K:=o.rq.jn;have G:=o.i.ql;refine Qz (a:=bO) (λ(i:Int) u=>aF v u/\∃k:Nat,i=k/\k<=q.q.length/\∀j e,j<k->q.q[j]?=some e->e.1≠a) (λi _=>q.q.length-i.toNat) ⟨Ext.refl _ _,0,rfl,O,λj e s=>O⟩ ?_;rintro(i:Int) u ⟨eu,k,rfl,hk,hno⟩;have z:=eu.bV Q id;refine cP (λg=>?_) λA=>?_
 ·have r:q.q[k]?=some (q.q[k]'(by simp only at g;omega)):=cW _;generalize (q.q[k]'(by simp only at g;omega))=y at r;refine tu (bT.fW (o1.fr eu).rq) r λV S F=>eB (F 0 _ rfl) (eB (F 1 _ rfl) ?_);refine Gp (all := #[.agg #[.int .i64 y.1,.int .i64 y.2],.pointer (some ⟨U.size,0,none⟩)]) (by kernel_rfl) aA (W5.o ?_);unfold W5.v;refine nw (cs:=lG y) λv3 M C D=>D.rI rfl ((C.bV z id).uW rfl (cO (λp=>?_) λE=>?_))
  ·have d:y.1=a:=by simpa using p
   have:=hR v3 ((e.trans eu).trans C);rw[zI (zE.2 ⟨y,zG r,d⟩)]at this;show R (decide ((k:Int)≥0)) v3;rw[zI (show(k:Int)≥0 by omega)];exact this
  ·have d:y.1≠a:=by simpa using E
   exact cT (m:=k+1) O O ⟨⟨eu.trans C,k+1,rfl,by simp only at g;omega,λj e s p=>by
    by_cases hjk:j=k
    ·subst hjk;rw[r]at p;cases p;exact d
    ·exact hno j e O p⟩,by simp only at g;omega⟩
 ·have B:k=q.q.length:=by simp only at A;omega
  subst B;have:=hR u (e.trans eu);rw[zL λN=>by
   obtain⟨y,J,d⟩:=zE.1 N;obtain⟨j,s⟩:=zP J;exact hno j y (cY.1 s).1 s d]at this
  exact this
def UG (x:Gu)(q:Qu)(a:Int):Bool:=q.q.any λe=>match bU x.kn e.1 with
 | some b=>decide (a∈XC b)
 | none=>false
theorem Fj (o:QP σ0 U L H held s0 P gb km fm x qb Qq Qr qs rs q)(xi:∀e∈x.kn,e.1=e.2.1/\gK e.2)(hkl:x.kn.length<=1000000)(hqi:∀e∈q.q,jx e.1)(a:Int){R:aO}(hR:∀w,aF U w->R (UG x q a) w):WK.c (aW qb) a U R:=by
 refine WK.o ?_;unfold WK.v;refine nw (cs:=[.pointer (some ⟨qb,0,none⟩)]) λv0 hz0 e0 hb0=>nw (cs:=[.int .i64 a]) λv hz e hb=>?_;have E:=e0.trans e;have o1:=o.fr E;have g:=e.bV hb0 id;refine g.pY rfl (bL (o1.b.rS rfl (Wb.o ?_)));unfold Wb.v;refine We.o ?_;unfold We.v;have hql:=o.rq.jn;have hq66:=o.i.ql
 let f:P2->Bool:=λe=>match bU x.kn e.1 with
  | some b=>decide (a∈XC b)
  | none=>false
 have J:UG x q a=q.q.any f:=rfl;have hf1:∀(e:P2) b,bU x.kn e.1=some b->f e=decide (a∈XC b):=λe b h=>by show(match bU x.kn e.1 with|some b=>decide (a∈XC b)|none=>false)=_;rw[h]
 have Y:∀(e:P2),bU x.kn e.1=none->f e=false:=λe h=>by show(match bU x.kn e.1 with|some b=>decide (a∈XC b)|none=>false)=_;rw[h]
 clear_value f
 refine Qz (a:=bO) (λ(i:Int) u=>aF v u/\∃k:Nat,i=k/\k<=q.q.length/\∀j e,j<k->q.q[j]?=some e->f e=false) (λi _=>q.q.length-i.toNat) ⟨Ext.refl _ _,0,rfl,O,λj e M=>O⟩ ?_;rintro(i:Int) u ⟨eu,k,rfl,hk,hno⟩;have V:=eu.bV hb id;have A:=eu.bV g id;have ou:=o1.fr eu;refine cP (λd=>?_) λhge=>?_
 ·have B:q.q[k]?=some (q.q[k]'(by simp only at d;omega)):=cW _;generalize (q.q[k]'(by simp only at d;omega))=y at B;have hyi:=hqi y (zG B);refine tu (bT.fW ou.rq) B λbb oo hc=>eB (hc 0 _ rfl) (eB (hc 1 _ rfl) ?_);refine Gp (all := #[.agg #[.int .i64 y.1,.int .i64 y.2],.pointer (some ⟨U.size,0,none⟩),.pointer (some ⟨v0.size,0,none⟩)]) (by kernel_rfl) aA (WY.o ?_);unfold WY.v;refine nw (cs:=lG y) λv3 hz3 z hb3=>(z.bV A id).pY rfl (hb3.rI rfl ?_);have o3:=ou.fr z;have go:∀G (r:Bool),aF u G->r=f y->If r (R (decide ((k:Int)≥0)) G) (Ar .i64 ((k:Int)+1) λD=>(λ(i:Int) u=>aF v u/\∃k:Nat,i=k/\k<=q.q.length/\∀j e,j<k->q.q[j]?=some e->f e=false) D G/\q.q.length-D.toNat<q.q.length-(k:Int).toNat):=λG r S hr=>by
   subst hr;refine cO (λht=>?_) λhf=>?_
   ·have:=hR G ((E.trans eu).trans S);rw[J,zy.2 ⟨y,zG B,ht⟩]at this;rw[zI (show(k:Int)≥0 by omega)];exact this
   ·exact cT (m:=k+1) O O ⟨⟨eu.trans S,k+1,rfl,by simp only at d;omega,λj e M he=>by
     by_cases hjk:j=k
     ·subst hjk;rw[B]at he;cases he;exact hf
     ·exact hno j e O he⟩,by simp only at d;omega⟩
  have box:∀{ty:Nat} {w:Hp} {W a2 a3 a4:Int} {K:Addr->Hp->Prop},(∀w7,aF w w7->bY w7 w.size (lM (W,a2,a3,a4))->K ⟨w.size,0,none⟩ w7) →
   Nw (.cells #[.int .i64 0,.int .i64 0,.int .i64 0,.int .i64 0] ty (0,0)) w λC v2=>dQ (C.add 0) (.int .i64 W) v2 λv3=>dQ (C.add 1) (.int .i64 a2) v3 λv4=>dQ (C.add 2) (.int .i64 a3) v4 λv5=>dQ (C.add 3) (.int .i64 a4) v5 λv6=>K C v6:=λ{ty w W a2 a3 a4 K} hK=>
   nw (cs:=[.int .i64 0,.int .i64 0,.int .i64 0,.int .i64 0]) λv2 hz2 e2 N=>N.s1 aA λv3 o3 b3=>b3.s1 aA λv4 o4 b4=>b4.s1 aA λv5 o5 b5=>b5.s1 aA λv6 o6 b6=>
    hK v6 (Ext.fresh e2 (((o3.ext.trans o4.ext).trans o5.ext).trans o6.ext) λi (hi:i=w.size)=>O) b6
  refine DZ o3 xi hkl hyi (λw1 e1 hn=>box λp e2 N=>Jn.intro ?_) λw1 bk e1 hg=>box λp e2 N=>Jn.intro ?_
  ·exact⟨λm=>aF p m,Ext.refl _ _,cD rfl (go p false ((z.trans e1).trans e2) (Y y hn).symm)⟩
  ·have bi:gK bk:=(xi _ (ZY hg)).2;have Q:∀m,aF p m->bY m w1.size (lM (bk.1,bk.2.1,bk.2.2.1,bk.2.2.2.1)):=λm e=>e.bV N id;have hS2:∀m,aF p m->bY m v0.size [.int .i64 a]:=λm S=>(((z.trans e1).trans e2).trans S).bV V id;refine⟨λm=>aF p m,Ext.refl _ _,cE rfl (gM (c:=bO) (y:=bk.1) Q rfl (gM (c:=bO) (y:=bk.2.1) Q rfl (gM (c:=bO) (y:=bk.2.2.1) Q rfl (gM (c:=bO) (y:=bk.2.2.2.1) Q rfl (rZ (c:=bO) (y:=a) hS2 rfl ?_)))))⟩;refine BR bi λs w4 Q4 Z X _=>⟨Z,?_⟩;have hwl:(XC bk).length<=1000000000:=by
    have:=bi.s;have:=ZE (n:=bk.2.1) O;simp[XC,QA];omega
   exact G3 (bT.fW X) hwl a ⟨Z,go w4 _ (((z.trans e1).trans e2).trans Z) (by rw[hf1 y bk hg];simp)⟩
 ·have hkn:k=q.q.length:=by simp only at hge;omega
  subst hkn;have:=hR u (E.trans eu);rw[J,my.2 λy hy F=>by
   obtain⟨j,M⟩:=zP hy;rw[hno j y (cY.1 M).1 M]at F;cases F]at this
  exact this
theorem IF (o:QP σ0 U L H held s0 P gb km fm x qb Qq Qr qs rs q){R:aN}(hR:∀w,aF U w->R (iC q.q) w):WC.c (aW qb) U R:=by
 refine WC.o ?_;unfold WC.v;have D:=o.rq.jn;have A:=o.i.ql;refine VY o (cD rfl (bL (o.b.rS rfl ?_)));refine UI (a:=bO) (bb:=bO) (λ(z i:Int) u=>aF U u/\∃k:Nat,i=k/\k<=q.q.length/\z=iC (q.q.take k)) (λ_ i _=>q.q.length-i.toNat) ⟨Ext.refl _ _,0,rfl,O,rfl⟩ ?_;rintro(z:Int) (i:Int) u ⟨eu,k,rfl,hk,rfl⟩;refine cP (λd=>?_) λp=>?_
 ·have g:q.q[k]?=some (q.q[k]'(by simp only at d;omega)):=cW _;generalize (q.q[k]'(by simp only at d;omega))=y at g;have F:=o.i.qs y (zG g);have s:=Mh (l:=q.q.take k) λe E=>o.i.qs e (vV E);rw[zY]at s;refine tu (bT.fW (o.fr eu).rq) g λbb J B=>eB (B 0 _ rfl) (eB (B 1 _ rfl) (uK λw G _ r=>r.rI rfl ?_));have C:iC (q.q.take (k+1))=iC (q.q.take k)+y.2:=by rw[kC,g,q8,NP]
  exact ar O O (cT (m:=k+1) O O ⟨⟨eu.trans G,k+1,rfl,by simp only at d;omega,C.symm⟩,by simp only at d;omega⟩)
 ·have j:k=q.q.length:=by simp only at p;omega
  subst j;rw[lV];exact hR u eu
theorem As (o:QP σ0 U L H held s0 P gb km fm x qb Qq Qr qs rs q){R:Sl->Hp->Prop}(hR:∀s w Q,aF U w->bT s 1 (Wy (q.q.map (·.1))) w Q->(∀c,Q c->U.size<=c/\c<w.size)->R s w):Wz.c (aW qb) U R:=by
 refine Wz.o ?_;unfold Wz.v;have G:=o.rq.jn;have M:=o.i.ql;refine VY o (cD rfl (bL (o.b.rS rfl (mk aC aC λv Z e N=>?_))));have o1:=o.fr e;have z:(List.replicate qs.len [Value.int .i64 0]).flatten=Wy ((q.q.map (·.1)).take 0++List.replicate (q.q.length-0) 0):=by
  rw[G];simp[Wy]
 rw[z]at N;refine bL (o1.b.rS rfl ?_);refine Qz (a:=bO) (λ(i:Int) u=>∃k:Nat,i=k/\k<=q.q.length/\aF U u/\bY u U.size (Wy ((q.q.map (·.1)).take k++List.replicate (q.q.length-k) 0))) (λi _=>q.q.length-i.toNat) ⟨0,rfl,O,e,N⟩ ?_;rintro(i:Int) u ⟨k,rfl,hk,eu,hbu⟩;refine cP (λr=>?_) λC=>?_
 ·have p:k<q.q.length:=by simp only at r;omega
  have F:q.q[k]?=some q.q[k]:=cW p;have A:(q.q.map (·.1))[k]?=some q.q[k].1:=by rw[zZ,F];rfl
  generalize q.q[k]=y at F A;refine tu (bT.fW (o.fr eu).rq) F λY X J=>eB (J 0 _ rfl) (eB (J 1 _ rfl) (uK λw S _ E=>E.rI rfl (ix O aC ?_)));rw[add_lit,show 0+(k:Int).toNat*1=k by omega];have B:=S.bV hbu id;have g:(Wy ((q.q.map (·.1)).take k++List.replicate (q.q.length-k) 0)).length=q.q.length:=by simp[Wy];omega
  refine B.s0 (by rw[g];exact p) λW o2 K=>?_;have d:(Wy ((q.q.map (·.1)).take k++List.replicate (q.q.length-k) 0)).set k (.int .i64 y.1)=Wy ((q.q.map (·.1)).take (k+1)++List.replicate (q.q.length-(k+1)) 0):=by
   unfold Wy;rw[←wz,C3 _ _ (by rw[zY];omega),kC,A,q8,zl]
   congr 2
   rw[zY,zk,qI O,pK];obtain⟨n,V⟩:∃n,q.q.length-k=n+1:=⟨q.q.length-k-1,O⟩;rw[V,show q.q.length-(k+1)=n by omega,tx];rfl
  rw[d]at K;exact cT (m:=k+1) O O ⟨⟨k+1,rfl,O,Ext.fresh (eu.trans S) o2.ext λi (hi:i=U.size)=>O,K⟩,by simp only at r;omega⟩
 ·have D:k=q.q.length:=by simp only at C;omega
  subst D;have j:(q.q.map (·.1)).take q.q.length++List.replicate (q.q.length-q.q.length) 0=q.q.map (·.1):=by
   rw[pK,List.replicate_zero,kE,lI aA]
  rw[j]at hbu;refine hR _ u (· = U.size) eu ⟨by simp[Wy];omega,.inr ⟨U.size,_,rfl,rfl,hbu,zD _,by simp[Wy];omega,lV⟩⟩ λc J=>?_;have:=hbu.lt;omega
end Go.Ar
namespace Go.Ar
open Go Go.Vc Go.Proofs
open Go.Vc (bU dA cN)
variable {thread:Int}{U σ0 v w w':Hp}{F P Q X T Tc:Rg}{L:dE}{H H' H1:Hw}{held:List Pc}{s0 sp:Sp}{t n:Nat}{gb km fm m pp:Nat}{x y x':Gu}{b:B5}{qb:Nat}{Qq Qr:Rg}{qs rs:Sl}{q q':Qu}
def QO (σ0 U w:Hp)(pp gb km fm qb:Nat)(Tc:Rg)(H':Hw)(x':Gu)(q':Qu):Prop:=
 ∃L' held' s0' P' Qq' Qr' qs' rs',QP σ0 w L' H' held' s0' P' gb km fm x' qb Qq' Qr' qs' rs' q'/\L'.p=pp/\Ext Tc U w/\∀c,jW P' gb km fm qb Qq' Qr' c->Tc c\/U.size<=c
theorem QO.fr (o:QO σ0 U w pp gb km fm qb Tc H x q)(e:aF w w'):QO σ0 U w' pp gb km fm qb Tc H x q:=by
 obtain⟨L',a,g,P',Qq',Qr',d,b,h,i,m,j⟩:=o;exact⟨L',a,g,P',Qq',Qr',d,b,h.fr e,i,m.fY e,j⟩
theorem QP.qo (o:QP σ0 U L H held s0 P gb km fm x qb Qq Qr qs rs q)(e:aF U w):QO σ0 U w L.p gb km fm qb (jW P gb km fm qb Qq Qr) H x q:=
 ⟨L,held,s0,P,Qq,Qr,qs,rs,o.fr e,rfl,aF.to e,λc a=>.inl a⟩
theorem QO.then (e:Ext Tc U v)(hc:∀c,T c->Tc c\/U.size<=c)(o:QO σ0 v w pp gb km fm qb T H x q):QO σ0 U w pp gb km fm qb Tc H x q:=by
 obtain⟨L',a,g,P',Qq',Qr',d,b,h,j,m,i⟩:=o;have p:=e.1;exact⟨L',a,g,P',Qq',Qr',d,b,h,j,Ext.dW e m λc h=>hc c h,λc h=>(i c h).elim (hc c) λh=>.inr O⟩
theorem gE.bS (r:gE thread H x q H' x' q'):Q2 H' H:=by
 cases r with
 | none h1 h2=>exact Q2.refl _
 | stay h1 h2 h3 h4=>exact Q2.refl _
 | free h1 h2 h3 h4 hw op fe=>exact op.kp
theorem gE.len (r:gE thread H x q H' x' q'):q'.q.length+1=q.q.length/\q'.bl=q.bl/\q'.by'=q.by'/\q'.rs.length<=q.rs.length+1/\∃e,q.q=e::q'.q:=by
 cases r with
 | none h1 h2=>rw[h1];exact⟨rfl,rfl,rfl,Nat.le_succ _,_,rfl⟩
 | stay h1 h2 h3 h4=>
  rw[h1];refine⟨rfl,rfl,rfl,?_,_,rfl⟩;show(if _ then _ else _:List P2).length<=_
  split
  ·omega
  ·simp
 | free h1 h2 h3 h4 hw op fe=>
  rw[h1];refine⟨rfl,rfl,rfl,?_,_,rfl⟩;show(if _ then _ else _:List P2).length<=_
  split
  ·omega
  ·simp
theorem gE.kn (r:gE thread H x q H' x' q'):∀e∈x'.kn,e∈x.kn:=by
 cases r with
 | none h1 h2=>exact λe h=>h
 | stay h1 h2 h3 h4=>exact λe h=>h
 | free h1 h2 h3 h4 hw op fe=>exact λk a=>(zJ.1 (show k∈x.kn.filter _ from a)).1
theorem gE.kl (r:gE thread H x q H' x' q'):x'.kn.length<=x.kn.length:=by
 cases r with
 | none h1 h2=>exact zD _
 | stay h1 h2 h3 h4=>exact zD _
 | free h1 h2 h3 h4 hw op fe=>exact pM _ _
theorem gE.qi (r:gE thread H x q H' x' q')(hi:nJ q)(hr:q.rs.length<10000):nJ q':=by
 obtain⟨i,b,d,j,e,a⟩:=r.len;exact⟨by rw[b];exact hi.bl,by rw[d];exact hi.by',by have:=hi.ql;omega,λk g=>hi.qs k (by rw[a];exact lg _ g),O⟩
set_option maxRecDepth 16000 in
theorem EP (o:QP σ0 U L H held s0 P gb km fm x qb Qq Qr qs rs q)(gc:Gc σ0)(xi:∀e∈x.kn,e.1=e.2.1/\gK e.2)(hkl:x.kn.length<=1000000)(hqi:∀e∈q.q,jx e.1)(hq:q.q≠[])(hrl:q.rs.length<10000){R:aP}
 (hR:∀w H' x' q',gE thread H x q H' x' q'->QO σ0 U w L.p gb km fm qb (jW P gb km fm qb Qq Qr) H' x' q'->R w):WE.c (aW qb) thread U R:=by
 refine WE.o ?_;unfold WE.v;obtain⟨e,r,g⟩:=List.exists_cons_of_ne_nil hq;have hql:=o.rq.jn;rw[g,zS]at hql;have h0:q.q[0]?=some e:=by rw[g];rfl
 have hI:=o.i;have hes:=hI.qs e (by rw[g];exact lW);have hei:=hqi e (by rw[g];exact lW);have F:nJ {q with q:=r}:=⟨hI.bl,hI.by',by have:=hI.ql;rw[g,zS]at this;show r.length<=66;omega,λk hk=>hI.qs k (by rw[g];exact lg _ hk),hI.rl⟩;refine bL (o.b.rS rfl (tu (i:=0) (bT.fW o.rq) h0 λbb oo d=>eB (d 0 _ rfl) (eB (d 1 _ rfl) (uK λv2 e2 z2 b2=>?_))));have o2:=o.fr e2;have hcap:qs.len<=qs.cap:=bT.pW o2.rq;refine bL (o2.b.rS rfl (jy (lo:=1) aC aC aC ?_));have V:=cV.sub (bT.fW o2.rq) (lo:=1) (hi:=qs.len) (mx:=qs.cap) O (zD _) hcap;have sd:((gQ q.q).drop (1*2)).take ((qs.len-1)*2)=gQ r:=by
  rw[←Fu,g,vD,A4,lI (by rw[UV];omega)]
 rw[sd]at V;refine LV V (by simp only;have:=hI.ql;rw[g,zS]at this;omega) λs3 v3 e3 r3=>?_;have E3:=e2.trans e3;have r3':=aI.cut r3;have z2':=e2.1;have z3:=e3.1;have hqbl:=o.b.lt;refine bL (o2.xF (aF.to e3) r3' (λc d=>.inr d) F λv4 e4 o4=>?_);have b4:=e4.bV (e3.bV b2 id) (λ(h:U.size=qb)=>O);have E4:Ext (jW P gb km fm qb Qq Qr) U v4:=(aF.to E3).trans (e4.sub λc d=>.inr (.inl d));have z4:=e4.1;have base:∀{P' Qr':Rg},(∀c,P' c->P c\/v4.size<=c)->(∀c,Qr' c->Qr c\/v4.size<=c)->∀c,jW P' gb km fm qb (Cut (λb=>v2.size<=b) v3) Qr' c->jW P gb km fm qb Qq Qr c\/U.size<=c:=λ{P' Qr'} hP hQ c d=>by
  rcases d with(h|h)|h|h|h
  ·exact(hP c h).imp (λh=>.inl (.inl h)) λh=>by omega
  ·exact .inl (.inl (.inr h))
  ·exact .inl (.inr (.inl h))
  ·right;have:v2.size<=c:=h.1;omega
  ·exact(hQ c h).imp (λh=>.inr (.inr (.inr h))) λh=>by omega
 have Z:∀w,aF v4 w->(bU x.kn e.1=none\/k9 H x e.1≠0)->R w:=λw E hx=>hR w H x {q with q:=r} (.none g hx) ⟨L,held,s0,P,_,Qr,s3,rs,o4.fr E,rfl,E4.fY E,base (λc d=>.inl d) λc d=>.inl d⟩;refine b4.rI rfl (DZ o4 xi hkl hei (λw5 e5 hn=>pZ λw6 e6 b6=>cE rfl (Z w6 (e5.trans e6) (.inl hn))) λw5 bk e5 hg=>pZ λv10 e10 b10=>cD rfl ?_);have bi:gK bk:=(xi _ (ZY hg)).2;have bb':=bi.base;have bz:=bi.z;have bm:=bi.m;have bt:=bi.t;have bs:=bi.s;have hww:=ZE (n:=bk.2.1) O;have E510:=e5.trans e10;have gA:=o4.fr E510;have b4':=E510.bV b4 id;refine⟨λm=>aF v10 m,Ext.refl _ _,bL (gM (c:=.p) (y:=some ⟨gb,0,none⟩) (λm e=>e.bV gA.b id) rfl (gM (c:=bO) (y:=e.1) (λm e=>e.bV b4' id) rfl ?_))⟩;refine Eu gA.p xi e.1 λs11 v11 Q11 G S hQ11=>cO (λB=>Z v11 (E510.trans G) (.inr (by simpa using B))) λhe0=>?_;have j:k9 H x e.1=0:=by simpa using he0
 have hlo:UJ H bk=false:=by
  unfold k9 at j;rw[hg]at j;simp only at j;cases hl:UJ H bk with
  | false=>rfl
  | true=>rw[hl]at j;simp at j
 have hckl:wB H x e.1=QT H.sp bk:=by
  unfold wB;rw[hg];simp only;rw[hlo];rfl
 rw[hckl]at S;have A:=G.bV b10 id;refine A.rI rfl (A.rI rfl (A.rI rfl (A.rI rfl (BR bi λs12 v12 Q12 N Y Q=>?_))));have hwn:(XC bk).length=QA bk:=by simp[XC]
 have hwn2:QA bk<=200:=by unfold QA;omega
 have hbl:(QT H.sp bk).length<=40000:=by
  have:=pM (jL H.sp) (Zk bk);have hz:=GL bk;have h3:VK bk<=250:=by unfold VK;omega
  have h4:oy bk<=33750:=by unfold oy;omega
  unfold QT;omega
 have hs12l:s12.len=QA bk:=by have:=Y.1;simp[Wy,hwn]at this;omega
 have hs11':=aI.bP S N;have E12:=(E510.trans G).trans N
 let f:Int->Bool:=λz=>eM H.sp z != 0||QY H.sp z != Ui
 have hfu:(XC bk).filter f=qE H.sp bk:=rfl;have hfe:∀z,f z=(eM H.sp z != 0||QY H.sp z != Ui):=λz=>rfl
 clear_value f
 have z10:=E510.1;have z11:=G.1;have z12:=N.1;refine UI (a:=.s) (bb:=bO) (λ(wr:Sl) (z:Int) u=>aF v10 u/\v12.size<=u.size/\bT s12 1 (Wy (XC bk)) u Q12/\∃(i:Nat) (Qw:Rg),z=i/\i<=QA bk/\bT wr 1 (Wy (QT H.sp bk++((XC bk).take i).filter f)) u Qw/\∀c,Qw c->v10.size<=c/\c<u.size/\¬Q12 c) (λ_ z _=>QA bk-z.toNat)
  ⟨G.trans N,zD _,Y,0,Q11,rfl,O,by rw[wk,List.filter_nil,kE];exact hs11',λc d=>by have:=hQ11 c d;exact⟨O,O,λh=>by have:=Q c h;omega⟩⟩ ?_
 rintro(wr:Sl) (z:Int) u ⟨eu,zu,hs12u,i,Qw,rfl,hi,hrw,hQw⟩;have E12u:=E510.trans eu;have K:=o4.fr E12u;have hfl:(((XC bk).take i).filter f).length<=i:=ky (pM _ _) (by rw[zY];omega);refine cP (λhlt=>?_) λhge=>?_
 ·have hx:(XC bk)[i]?=some ((XC bk)[i]' O):=cW _;generalize ((XC bk)[i]' O)=zz at hx;have hzi:=Hi bi (zG hx);have htk:((XC bk).take (i+1)).filter f=((XC bk).take i).filter f++(if f zz then[zz]else[]):=by
   rw[kC,hx,q8,xq]
   congr 1
   by_cases h:f zz=true
   ·rw[uf h,zC h];rfl
   ·rw[tM h,zB h];rfl
  refine(bT.fW hs12u).lL hx (bL (K.b.rP rfl (yM K.p (BW K.p.h zz O λw13 D=>?_))));refine KD (λr w=>w=w13/\r=f zz) (λr w ⟨hw,hr⟩=>?_) λJ hJ=>cO (λh=>hJ _ _ ⟨rfl,by rw[hfe,h];rfl⟩) λh=>hJ _ _ ⟨rfl,by rw[hfe,h];rfl⟩;rw[hw,hr];have z13:=D.1;have W:=aI.bP hs12u D;refine cO (λht=>?_) λhf=>cT (m:=i+1) O O ⟨⟨eu.trans D,O,W,i+1,Qw,rfl,O,by rw[htk,hf];simpa using aI.bP hrw D,λc d=>by have:=hQw c d;exact⟨this.1,O,this.2.2⟩⟩,O⟩;refine xC (aI.bP hrw D) (by rw[zK];omega) zz λs' w14 e14 hr14=>?_;have z14:=e14.1;refine cT (m:=i+1) O O ⟨⟨Ext.fresh (eu.trans D) e14 λc d=>(hQw c d).1,O,aI.bS W e14 λc _ h1 h2=>(hQw c h2).2.2 h1,i+1,_,rfl,O,by rw[htk,ht,zC rfl,←zl];exact hr14,λc d=>?_⟩,O⟩;rcases d with d|d
  ·have:=hQw c d;exact⟨this.1,O,this.2.2⟩
  ·exact⟨by have:=eu.1;omega,d.2,λh=>by have:=Q c h;omega⟩
 ·have hin:i=QA bk:=by omega
  subst hin;have hwr:QT H.sp bk++((XC bk).take (QA bk)).filter f=Ku H bk:=by
   rw[lI O,hfu];rfl
  rw[hwr]at hrw;have hwl:wr.len=(Ku H bk).length:=by have:=hrw.1;simp[Wy]at this;omega
  have hwb:(Ku H bk).length<=1000000:=by rw[←hwr,zK];omega
  have C:=eu.bV b4' id;refine tK (λw=>bY w U.size [.int .i64 e.1,.int .i64 e.2]/\Ext (jW P gb km fm qb Qq Qr) U w/\v4.size<=w.size/\∃Qr' M,(∀c,Qr' c->Qr c\/v4.size<=c)/\QP σ0 w L H held s0 P gb km fm x qb (Cut (λb=>v2.size<=b) v3) Qr' s3 M ⟨q.bl,q.by',r,if Ku H bk=[]then q.rs else q.rs++[(e.1,kI (Ku H bk))]⟩) (λw ⟨bw,Ew,zw,Qr',M,X,ow⟩=>?_) λJ hJ=>?_
  ·refine bL (ow.b.rP rfl (bw.rI rfl (Zl.o ?_)));unfold Zl.v;refine JZ ow.p gc xi thread e.1 false (λw2 B e2=>?_) λb2 w2 ts H1 aa s0' P' er hm hf hw op fe e2 p2 hP2=>?_
   ·refine hR w2 H x _ (.stay g hg j B) ⟨L,held,s0,P,_,Qr',s3,M,ow.fr e2,rfl,Ew.fY e2,base (λc d=>.inl d) X⟩
   ·rw[hg]at hm;cases hm;have ab:=ow.eV e2 p2 hP2;refine hR w2 H1 _ _ (.free g hg j hf hw op fe) ⟨{L with ts:=ts},aa,s0',P',_,Qr',s3,M,ab,rfl,Ew.trans (e2.sub λc d=>.inl d),base (λc d=>(hP2 c d).imp id λh=>O) X⟩
  ·refine cP (λhpos=>?_) λhneg=>?_
   ·have B:Ku H bk≠[]:=λh=>by rw[h]at hwl;simp at hwl;omega
    refine⟨λm=>bY m qb (vF gb {q with q:=r} s3 rs)/\bY m U.size [.int .i64 e.1,.int .i64 e.2],⟨K.b,C⟩,bL (gM (c:=.s) (y:=rs) (λm hm=>hm.1) rfl (gM (c:=bO) (y:=e.1) (λm hm=>hm.2) rfl ?_))⟩;refine OH (bT.fW hrw) hwb B ⟨⟨K.b,C⟩,?_⟩;have nr1:¬Qr qb:=o.tG.2.2.2;have nr2:¬Qr U.size:=λh=>by have:=(o.qr _ h).2.1;omega
    refine IM K.rr (by show q.rs.length<=100000;omega) (e.1,kI (Ku H bk)) (λw E=>⟨E.bV K.b id,E.bV C id⟩) λs' w E hr'=>⟨⟨E.bV K.b nr1,E.bV C nr2⟩,?_⟩;have qi2:nJ {({q with q:=r}:Qu)with rs:=q.rs++[(e.1,kI (Ku H bk))]}:=⟨F.bl,F.by',F.ql,F.qs,by show(q.rs++[_]).length<=10000;rw[zK,s8];omega⟩;refine bL (K.gF E hr' (λc d=>d) qi2 λw2 e2 ab=>hJ w2 ?_);have zw:=E.1;have zw2:=e2.1;refine⟨e2.bV (E.bV C nr2) (λ(h:U.size=qb)=>O),((E4.fY E12u).trans (E.sub λc d=>.inr (.inr (.inr d)))).trans (e2.sub λc d=>.inr (.inl d)),by have:=E12u.1;omega,_,s',λc (d:Qr c\/u.size<=c/\c<w.size)=>d.imp id λh=>(by have:=E12u.1;omega),?_⟩;rw[zB B];exact ab
   ·have hnil:Ku H bk=[]:=uO O;refine hJ u ⟨C,E4.fY E12u,by have:=E12u.1;omega,Qr,rs,λc d=>.inl d,?_⟩;rw[zC hnil];exact K
structure QS (x:Gu) (q:Qu):Prop where
 xi:∀e∈x.kn,e.1=e.2.1/\gK e.2
 kl:x.kn.length<=1000000
 qa:∀e∈q.q,jx e.1
 rl:q.rs.length+q.q.length<=9000
theorem gE.side (r:gE thread H x q H' x' q')(h:QS x q):QS x' q':=by
 obtain⟨g,_,_,i,e,a⟩:=r.len;exact⟨λe b=>h.xi e (r.kn e b),ky r.kl h.kl,λk d=>h.qa k (by rw[a];exact lg _ d),by have:=h.rl;omega⟩
theorem RU (hi:nJ q)(h:Hj q=true):q.q≠[]:=λe=>by
 unfold Hj at h;rw[e]at h;have:=hi.bl;have:=hi.by';simp[iC]at h;omega
theorem RV {thread:Int}{K:aP}(o:QP σ0 U L H held s0 P gb km fm x qb Qq Qr qs rs q)(gc:Gc σ0)(s:QS x q)
 (hR:∀w H' x' q',iL thread H x q H' x' q'->QO σ0 U w L.p gb km fm qb (jW P gb km fm qb Qq Qr) H' x' q'->K w) :
 Yf [] (λI1=>I1 U) λJ1 v17=>Jn [.b] (λ(t99:Bool) v18=>If t99 (WE.c (aW qb) thread v18 λv19=>J1 v19) (K v18)) λJ2=>
  dY v17 λS1=>bW (some ⟨qb,0,none⟩) λa82=>gJ S1 .s (a82.add 3) λ(t84:Sl)=>bW (some ⟨qb,0,none⟩) λa87=>gJ S1 bO (a87.add 1) λ(t89:Int)=>If (decide (((t84.len:Nat):Int)>t89)) (J2 true v17)
   (bW (some ⟨qb,0,none⟩) λa95=>gJ S1 bO (a95.add 2) λ(t97:Int)=>WC.c (aW qb) v17 λt93 v20=>And (S1 v20)<|J2 (decide (t93>t97)) v20):=by
 refine DS (λn u=>∃H1 C q1,n=q1.q.length/\QO σ0 U u L.p gb km fm qb (jW P gb km fm qb Qq Qr) H1 C q1/\(∀H' x' q',iL thread H1 C q1 H' x' q'->iL thread H x q H' x' q')/\QS C q1) ⟨_,H,x,q,rfl,o.qo (Ext.refl _ _),λ_ _ _ h=>h,s⟩ ?_;rintro n u ⟨H1,C,q1,rfl,S,R,s1⟩ J1 M;obtain⟨L1,a,N,P1,Qq1,Qr1,d,z,o1,D,F,B⟩:=S;refine Bg (λr w=>aF u w/\r=Hj q1) (λr w ⟨g,j⟩=>?_) λJ2 E=>?_
 ·have ow:=o1.fr g;refine cO (λV=>?_) λZ=>hR w H1 C q1 (R _ _ _ (.stop (by rw[←j];exact Z))) ⟨L1,a,N,P1,Qq1,Qr1,d,z,ow,D,F.fY g,B⟩;have A:Hj q1=true:=by rw[←j];exact V
  have Y:=s1.rl;refine EP ow gc s1.xi s1.kl s1.qa (RU o1.i A) O λX H2 W q2 fr G=>?_;have Q:=fr.len;refine M q2.q.length X O ⟨H2,W,q2,rfl,?_,λ_ _ _ h=>R _ _ _ (.next A fr h),fr.side s1⟩;rw[D]at G;exact QO.then (F.fY g) B G
 ·have J:∀m,aF u m->bY m qb (vF gb q1 d z):=λm e=>e.bV o1.b id;have Q:=o1.rq.jn;refine⟨λm=>aF u m,Ext.refl _ _,bL (gM (c:=.s) (y:=d) J rfl (bL (gM (c:=bO) (y:=q1.bl) J rfl (cP (λh=>E _ _ ⟨Ext.refl _ _,?_⟩) λh=>bL (gM (c:=bO) (y:=q1.by') J rfl (IF o1 λw g=>⟨g,E _ _ ⟨g,?_⟩⟩))))))⟩
  ·unfold Hj;rw[zI (show(q1.q.length:Int)>q1.bl by rw[←Q];exact h)];rfl
  ·unfold Hj;rw[zL (show ¬(q1.q.length:Int)>q1.bl by rw[←Q];exact h),xz]
theorem HG (o:QP σ0 U L H held s0 P gb km fm x qb Qq Qr qs rs q)(gc:Gc σ0)(s:QS x q)(thread:Int){R:Int->Int->Hp->Prop}(h0:∀w,ZG H thread≠0->aF U w->R 0 (ZG H thread) w)
 (h1:∀w H' x' q',ZG H thread=0->iE thread H x q H' x' q'->QO σ0 U w L.p gb km fm qb (jW P gb km fm qb Qq Qr) H' x' q'->R (q.q.length:Int) 0 w):Wx.c (aW qb) thread U R:=by
 refine Wx.o ?_;unfold Wx.v;refine IP o thread λv e=>cO (λd=>h0 v (by simpa using d) e) λK=>?_;have J:ZG H thread=0:=by simpa using K
 have o1:=o.fr e;have D:=o.rq.jn;refine bL (o1.b.rS rfl ?_);refine DS (λn u=>∃H1 m q1,n=q1.q.length/\QO σ0 U u L.p gb km fm qb (jW P gb km fm qb Qq Qr) H1 m q1/\(∀H' x' q',iE thread H1 m q1 H' x' q'->iE thread H x q H' x' q')/\QS m q1) ⟨_,H,x,q,rfl,o.qo e,λ_ _ _ h=>h,s⟩ ?_;rintro n u ⟨H1,m,q1,rfl,N,M,s1⟩ J1 E;obtain⟨L1,a,G,P1,Qq1,Qr1,F,C,o1,z,A,i⟩:=N;have y:=o1.rq.jn;refine bL (o1.b.rS rfl (cP (λj=>?_) λr=>?_))
 ·have d:q1.q≠[]:=λh=>by rw[h]at y;simp at y;simp only at j;omega
  have V:=s1.rl;refine EP o1 gc s1.xi s1.kl s1.qa d O λS H2 Q q2 fr B=>?_;have W:=fr.len;refine E q2.q.length S O ⟨H2,Q,q2,rfl,?_,λ_ _ _ h=>M _ _ _ (.next fr h),fr.side s1⟩;rw[z]at B;exact QO.then A i B
 ·have g:q1.q=[]:=uO (by simp only at r;omega);have:=h1 u H1 m q1 J (M _ _ _ (.stop g)) ⟨L1,a,G,P1,Qq1,Qr1,F,C,o1,z,A,i⟩;rw[←D]at this;exact this
def mY (H:Hw)(x:Gu)(q:Qu)(thread addr:Int):Int:=
 if ZG H thread≠0 then ZG H thread else if addr∈q.q.map (·.1)then 9 else match bU x.kn addr with
 | none=>mf H x thread addr true
 | some b=>if UJ H b then 5 else if QT H.sp b≠[]then 10 else 0
theorem N8 {sp:Sp}{l:List Int}{n:Nat}{z:Int}(h:l[n]?=some z)(f:Int->Int):iF sp (l.take (n+1)) f=Zm (iF sp (l.take n) f) z (f z):=by
 rw[kC,h,q8,DB]
set_option maxRecDepth 16000 in
theorem H9 (o:QP σ0 U L H held s0 P gb km fm x qb Qq Qr qs rs q)(gc:Gc σ0)(s:QS x q)(hq:q.q.length<=65)(hrl:q.rs.length+q.q.length<=8000)(thread:Int){addr:Int}(ha:jx addr){R:aN}(h0:∀w,mY H x q thread addr≠0->aF U w->R (mY H x q thread addr) w)
 (h1:∀w b H' x' q',bU x.kn addr=some b->mY H x q thread addr=0->iL thread (dP H b) x {q with q:=q.q++[(addr,b.2.1)]} H' x' q'->QO σ0 U w L.p gb km fm qb (jW P gb km fm qb Qq Qr) H' x' q'->R 0 w):Wj.c (aW qb) thread addr U R:=by
 refine Wj.o ?_;unfold Wj.v;unfold mY at h0 h1;refine IP o thread λv e=>cO (λj=>?_) λheq=>?_
 ·have hn:ZG H thread≠0:=by simpa using j
  rw[zC hn]at h0;exact h0 v hn e
 have hrd:ZG H thread=0:=by simpa using heq
 rw[zB (by rw[hrd];decide)]at h0 h1;have o1:=o.fr e;refine SN o1 addr λv1 e1=>cO (λhh=>?_) λhh=>?_
 ·have J:addr∈q.q.map (·.1):=by simpa using hh
  rw[zC J]at h0;exact h0 v1 aB (e.trans e1)
 have J:¬addr∈q.q.map (·.1):=by simpa using hh
 rw[zB J]at h0 h1;have o2:=o1.fr e1;refine DZ o2 s.xi s.kl ha (λw2 e2 hn=>pZ λw3 e3 b3=>cE rfl ?_) λw2 bk e2 C=>pZ λw3 e3 b3=>cD rfl ?_
 ·rw[hn]at h0;have o3:=(o2.fr e2).fr e3;refine bL (o3.b.rP rfl (OX (JZ o3.p gc s.xi thread addr true (λw4 j N=>h0 w4 j ((((e.trans e1).trans e2).trans e3).trans N)) λb w ts H1 held' B P' e W=>by rw[hn]at W;cases W)))
 rw[C]at h0;simp only at h0;have F:gK bk:=(s.xi _ (ZY C)).2;have bb':=F.base;have bz:=F.z;have bm:=F.m;have bt:=F.t;have bs:=F.s;have hww:=ZE (n:=bk.2.1) O;have E3:=((e.trans e1).trans e2).trans e3;have o3:=o.fr E3;refine bL (o3.b.rP rfl (Eu o3.p s.xi addr λs4 v4 Q4 N V _=>cO (λj=>?_) λhe0=>?_))
 ·have d:k9 H x addr≠0:=by simpa using j
  have Q:UJ H bk=true:=by
   unfold k9 at d;rw[C]at d;simp only at d;cases Q:UJ H bk with
   | true=>rfl
   | false=>rw[Q]at d;simp at d
  have:k9 H x addr=5:=by unfold k9;rw[C];simp only;rw[Q];rfl
  rw[this];rw[Q]at h0;exact h0 v4 aA (E3.trans N)
 have d:k9 H x addr=0:=by simpa using he0
 have G:UJ H bk=false:=by
  unfold k9 at d;rw[C]at d;simp only at d;cases Q:UJ H bk with
  | false=>rfl
  | true=>rw[Q]at d;simp at d
 have Y:wB H x addr=QT H.sp bk:=by
  unfold wB;rw[C];simp only;rw[G];rfl
 rw[Y]at V;rw[G]at h0;simp only[za,jX]at h0;have E:s4.len=(QT H.sp bk).length:=by have:=V.1;simp[Wy]at this;omega
 refine cP (λhpos=>?_) λhneg=>?_
 ·have j:QT H.sp bk≠[]:=λh=>by rw[h]at E;simp at E;omega
  rw[zC j]at h0;exact h0 v4 aB (E3.trans N)
 have X:QT H.sp bk=[]:=uO O;have h1:=λw H' x' q'=>h1 w bk H' x' q' C (by rw[C];simp only;rw[G,X];rfl);have b4:=N.bV b3 id;have E4:=E3.trans N;have o4:=o.fr E4;refine b4.rI rfl (b4.rI rfl (b4.rI rfl (b4.rI rfl (BR F λs5 v5 Q5 e5 aa hQ5=>?_))));have hwn:(XC bk).length=QA bk:=by simp[XC]
 have hwn2:QA bk<=200:=by unfold QA;omega
 have hs5l:s5.len=QA bk:=by have:=aa.1;simp[Wy,hwn]at this;omega
 have b5:=e5.bV b4 id;have E5:=E4.trans e5;have o5:=o.fr E5;have z4:=E4.1;have z5:=e5.1;have S:=b5.lt;have M:U.size<=w2.size:=by have:=e.1;have:=e1.1;have:=e2.1;omega
 have Z:∀c,U.size<=c->c<v5.size->¬Mg P gb km fm c:=λc h1 h2 hM=>by have:=uX o.p hM;omega
 have hnP:∀{P':Rg},(∀c,P' c->P c\/v5.size<=c)->∀c,U.size<=c->c<v5.size->¬P' c:=λhP c h1 h2 hp=>by
  rcases hP c hp with h|h
  ·have:=(o.p.pP c h).2;omega
  ·omega
 refine Qz (a:=bO) (λ(z:Int) u=>∃(i:Nat) (B:Sp) (P':Rg),z=i/\i<=QA bk/\Ext (Mg P gb km fm) v5 u/\QP σ0 u L {H with sp:=iF H.sp ((XC bk).take i) λ_=>Ui} held B P' gb km fm x qb Qq Qr qs rs q/\∀c,P' c->P c\/v5.size<=c) (λz _=>QA bk-z.toNat)
  ⟨0,s0,P,rfl,O,Ext.refl _ _,by rw[wk];exact o5,λc g=>.inl g⟩ ?_
 rintro(z:Int) u ⟨i,B,P',rfl,hi,eu,A,hP'⟩;have zu:=eu.1;have hs5u:bT s5 1 (Wy (XC bk)) u Q5:=aI.bS aa eu λc _ g hM=>by have:=hQ5 c g;exact Z c O this.2 hM
 refine cP (λhlt=>?_) λhge=>?_
 ·have hx:(XC bk)[i]?=some ((XC bk)[i]' O):=cW _;generalize ((XC bk)[i]' O)=zz at hx;have hzi:=Hi F (zG hx);refine(bT.fW hs5u).lL hx (bL (A.b.rP rfl (yM A.p ?_)));refine A.p.write gc zz (-1234567) O λw6 s6 P6 e6 p6 hP6=>?_;have o6:=A.eV (e6.sub λc g=>.inl g) p6 hP6;refine cT (m:=i+1) O O ⟨⟨i+1,s6,P6,rfl,O,Ext.dW eu e6 λc g=>(hP' c g).imp .inl id,?_,λc g=>?_⟩,O⟩
  ·rw[N8 hx];exact o6
  ·rcases hP6 c g with h|h
   ·exact hP' c h
   ·exact .inr O
 ·have hin:i=QA bk:=by omega
  subst hin;rw[lI O]at A;have A:QP σ0 u L (dP H bk) held B P' gb km fm x qb Qq Qr qs rs q:=A;have K:=eu.bV b5 (Z _ M S);have nq:¬Qq w2.size:=λh=>by have:=(o.qq _ h).2.1;omega
  refine⟨λm=>bY m qb (vF gb q qs rs)/\bY m w2.size (lM (bk.1,bk.2.1,bk.2.2.1,bk.2.2.2.1)),⟨A.b,K⟩,bL (gM (c:=.s) (y:=qs) (λm J=>J.1) rfl (gM (c:=bO) (y:=bk.2.1) (λm J=>J.2) rfl ?_))⟩;refine IM A.rq (by have:=o.i.ql;omega) (addr,bk.2.1) (λw D=>⟨D.bV A.b id,D.bV K id⟩) λs' w D hr'=>⟨⟨D.bV A.b o.tG.2.2.1,D.bV K nq⟩,?_⟩;have qi2:nJ {q with q:=q.q++[(addr,bk.2.1)]}:=⟨o.i.bl,o.i.by',by show(q.q++[_]).length<=66;rw[zK,s8];omega,λk r=>by
   rcases zM.1 r with r|r
   ·exact o.i.qs k r
   ·rw[zN]at r;subst r;exact bs,o.i.rl⟩
  refine bL (A.xF D hr' (λc g=>g) qi2 λw2' e2' o2'=>?_);have qs2:QS x {q with q:=q.q++[(addr,bk.2.1)]}:=⟨s.xi,s.kl,λk r=>by
   rcases zM.1 r with r|r
   ·exact s.qa k r
   ·rw[zN]at r;subst r;exact ha,by show q.rs.length+(q.q++[_]).length<=9000;rw[zK,s8];omega⟩
  have zw:=D.1;refine RV o2' gc qs2 λw3' H' x' q' hov oo=>h1 w3' H' x' q' hov ?_;refine QO.then (v:=w2') (T:=jW P' gb km fm qb (λb=>Qq b\/u.size<=b/\b<w.size) Qr) ((((aF.to E5).trans (eu.sub λc g=>.inl g)).trans (D.sub λc g=>.inr (.inr (.inl g)))).trans (e2'.sub λc g=>.inr (.inl g))) (λc g=>?_) oo;have:=E5.1;rcases g with(h|h)|h|h|h
  ·exact(hP' c h).imp (λh=>.inl (.inl h)) λh=>by omega
  ·exact .inl (.inl (.inr h))
  ·exact .inl (.inr (.inl h))
  ·exact h.imp (λh=>.inr (.inr (.inl h))) λh=>by omega
  ·exact .inl (.inr (.inr (.inr h)))
end Go.Ar
namespace Go.Proofs
open Go.Vc
set_option maxRecDepth 100000
def Xi.h:Hn:=.q .o1 (.q (.q .o5 .aK) (.q (.q .o1 (.k (.loop [(5,.I)] (.q (.q .o4 (.c .l .l)) (.q (.k (.q (.oq 9) .aK)) .o3))))) .aM))
def Xi.v (a b:Sl)(c:Hp)(d:aO):Prop:=If (((a.len:Nat):Int) != ((b.len:Nat):Int)) (d false c) (Yf [bO] (λe=>e 0 c) λf (g:Int) h=>If (g<((a.len:Nat):Int)) (Ix a.a a.len g 2 λi=>aQ i 0 h λj=>aQ i 1 h λk=>Ix b.a b.len g 2 λl=>aQ l 0 h λm=>aQ l 1 h λn=>If (!((j==m)&&((k==n)&&true))) (d false h) (bM (g+1) λo=>f o h)) (d true h))
theorem Xi.o {a b c d}(e:Xi.v a b c d):Xi.c a b c d:=Wa Tryz.func54 (x:=Xi.h) (R0 e)
end Go.Proofs
namespace Go.Ar
open Go Go.Vc Go.Proofs
open Go.Vc (bU dA cN)
variable {thread:Int}{U σ0 v w w':Hp}{F P Q X T Tc:Rg}{L:dE}{H H' H1:Hw}{held:List Pc}{s0 sp:Sp}{t n:Nat}{gb km fm m pp:Nat}{x y x':Gu}{b:B5}{qb:Nat}{Qq Qr:Rg}{qs rs:Sl}{q q':Qu}
theorem QP.ux (o:QP σ0 U L H held s0 P gb km fm x qb Qq Qr qs rs q){L':dE}{held':List Pc}{s0':Sp}{P':Rg}(hp:L'.p=L.p)(e:Ext (Mg P gb km fm) U w)(p':GP σ0 w L' H' held' s0' P' gb km fm y)(hP:∀b,P' b->P b\/U.size<=b) :
 QO σ0 U w L.p gb km fm qb (jW P gb km fm qb Qq Qr) H' y q:=by
 refine⟨L',held',s0',P',Qq,Qr,qs,rs,o.eV e p' hP,hp,e.sub λc a=>.inl a,λc a=>?_⟩;rcases a with(h|h)|h|h|h
 ·exact(hP c h).imp (λh=>.inl (.inl h)) id
 ·exact .inl (.inl (.inr h))
 ·exact .inl (.inr (.inl h))
 ·exact .inl (.inr (.inr (.inl h)))
 ·exact .inl (.inr (.inr (.inr h)))
theorem EZ (o:QP σ0 U L H held s0 P gb km fm x qb Qq Qr qs rs q)(gc:Gc σ0)(x0:0<=x.no/\x.no<=100000)(thread size align:Int){R:Int->Int->Hp->Prop}
 (h0:∀w,mB size align=false->aF U w->R 0 1 w)
 (h1:∀e w H',mB size align=true->e≠0->KN H thread 0 (zA align+Yd size+16) (zA align) 0 H' 0 e->fS H H'->H'.live=H.live->QO σ0 U w L.p gb km fm qb (jW P gb km fm qb Qq Qr) H' x q->R 0 e w)
 (h2:∀b w H1,vA H x size align b H1->KN H thread 0 (zA align+Yd size+16) (zA align) 0 H1 b.2.2.1 0->fS H H1->QO σ0 U w L.p gb km fm qb (jW P gb km fm qb Qq Qr) {H1 with sp:=jT H1.sp b} (x.dZ b) q->R b.1 0 w) :
 Wp.c (aW qb) thread size align U R:=by
 refine Wp.o ?_;unfold Wp.v;refine VY o (cD rfl (bL (o.b.rP rfl (SU o.p gc x0 thread size align h0 (λe w ts H' a d P' y m g op z r i j=>?_) λb w ts H1 a d P' s g op r i j=>?_))))
 ·exact h1 e w H' y m g op z (o.ux (L':={L with ts:=ts}) rfl (r.sub λc u=>.inl u) i j)
 ·exact h2 b w H1 s g op (o.ux (L':={L with ts:=ts}) rfl r i j)
theorem EL (o:QP σ0 U L H held s0 P gb km fm x qb Qq Qr qs rs q)(s:QS x q)(addr:Int)(ha:addr<=9223372036854775807){R:Int->Int->Hp->Prop}(ht:∀w,UG x q addr=true->aF U w->R 0 9 w)(h0:∀e w,UG x q addr=false->e≠0->aF U w->pH H x addr e->R 0 e w)
 (h1:∀w,UG x q addr=false->aF U w->pH H x addr 0->R (QY H.sp addr) (eM H.sp addr) w):WG.c (aW qb) addr U R:=by
 refine WG.o ?_;unfold WG.v;refine VY o (cD rfl (Fj o s.xi s.kl s.qa addr λw e=>cO (λh=>ht w h e) λh=>?_));have o1:=o.fr e;exact bL (o1.b.rP rfl (Wj4 o1.p s.xi addr ha (λi d g e2 a=>h0 i d h g (e.trans e2) a) λd e2 a=>h1 d h (e.trans e2) a))
theorem Θ (o:QP σ0 U L H held s0 P gb km fm x qb Qq Qr qs rs q)(gc:Gc σ0)(s:QS x q)(addr u:Int)(ha:addr<=9223372036854775807){R:aN}(ht:∀w,UG x q addr=true->aF U w->R 9 w)(h0:∀e w,UG x q addr=false->e≠0->aF U w->pH H x addr e->R e w)
 (h1:∀w,UG x q addr=false->pH H x addr 0->QO σ0 U w L.p gb km fm qb (jW P gb km fm qb Qq Qr) {H with sp:=Zm H.sp addr u} x q->R (eM H.sp addr) w):WP.c (aW qb) addr u U R:=by
 refine WP.o ?_;unfold WP.v;refine VY o (cD rfl (Fj o s.xi s.kl s.qa addr λw e=>cO (λh=>ht w h e) λh=>?_));have o1:=o.fr e;refine bL (o1.b.rP rfl (MY o1.p gc s.xi addr u ha (λm g i e2 d=>h0 m g h i (e.trans e2) d) λg s2 P2 d e2 r j=>h1 g h d ?_));exact QO.then (T:=jW P gb km fm qb Qq Qr) (aF.to e) (λc a=>.inl a) (o1.ux rfl (e2.sub λc a=>.inl a) r j)
theorem Io (p:GP σ0 U L H held s0 P gb km fm x)(WW bytes:Int){R:Option Addr->Int->Hp->Prop}(h0:¬(0<=WW/\WW<=64/\0<=bytes/\bytes<=16384)->R none 1 U)
 (h1:0<=WW/\WW<=64/\0<=bytes/\bytes<=16384->∀w,aF U w->QP σ0 w L H held s0 P gb km fm x U.size (λ_=>False) (λ_=>False) ⟨none,0,0⟩ ⟨none,0,0⟩ ⟨WW,bytes,[],[]⟩->R (some ⟨U.size,0,none⟩) 0 w) :
 Zz.c (aW gb) WW bytes U R:=by
 refine Zz.o ?_;unfold Zz.v;refine yM p (KD (λr w=>w=U/\r=decide (WW<0)) (λr w ⟨d,g⟩=>?_) λJ a=>cD rfl (a _ _ ⟨rfl,rfl⟩));rw[d,g];refine KD (λr w=>w=U/\r=decide (WW<0\/WW>64)) (λr w ⟨d,g⟩=>?_) λJ a=>cP (λh=>a _ _ ⟨rfl,by rw[zI (.inl h)]⟩) λh=>a _ _ ⟨rfl,by rw[kW,decide_eq_true_iff,decide_eq_true_iff];omega⟩;rw[d,g];refine KD (λr w=>w=U/\r=decide (WW<0\/WW>64\/bytes<0)) (λr w ⟨d,g⟩=>?_) λJ a=>cP (λh=>a _ _ ⟨rfl,by rw[zI O]⟩) λh=>a _ _ ⟨rfl,by rw[kW,decide_eq_true_iff,decide_eq_true_iff];omega⟩;rw[d,g];refine KD (λr w=>w=U/\r=decide (WW<0\/WW>64\/bytes<0\/bytes>16384)) (λr w ⟨d,g⟩=>?_) λJ a=>cP (λh=>a _ _ ⟨rfl,by rw[zI O]⟩) λh=>a _ _ ⟨rfl,by rw[kW,decide_eq_true_iff,decide_eq_true_iff];omega⟩;rw[d,g];refine cP (λh=>h0 O) λh=>?_;refine nw (cs:=[.pointer (some ⟨gb,0,none⟩),.int .i64 WW,.int .i64 bytes,.slice none 0 0,.slice none 0 0]) λw m e i=>h1 O w e ?_;exact⟨p.fr e,i,⟨rfl,.inl ⟨rfl,rfl⟩⟩,⟨rfl,.inl ⟨rfl,rfl⟩⟩,⟨p.e.1,λj=>by have:=uX p j;omega,id,id⟩,λb i=>i.elim,λb i=>i.elim,λb i=>i.elim,⟨by show 0<=WW/\WW<=64;omega,by show 0<=bytes/\bytes<=16384;omega,by simp,by simp,by simp⟩⟩
theorem MU (n:Nat):(List.replicate n [Value.int .i64 0,.int .i64 0]).flatten=gQ (List.replicate n (0,0)):=by
 induction n with
 | zero=>rfl
 | succ n ih=>rw[tx,tx,vE,ih];rfl
theorem Hx (o:QP σ0 U L H held s0 P gb km fm x qb Qq Qr qs rs q){R:Sl->Hp->Prop}(hR:∀s w Q,aF U w->bT s 2 (gQ q.rs) w Q->(∀c,Q c->U.size<=c/\c<w.size)->R s w):Ww.c (aW qb) U R:=by
 refine Ww.o ?_;unfold Ww.v;have d:=o.rr.jn;have u:=o.i.rl;refine VY o (cD rfl (bL (o.b.rS rfl (mk aC aC λv y e m=>?_))));have o1:=o.fr e;rw[MU]at m;have a:=UV q.rs;refine bL (o1.b.rS rfl ⟨gQ q.rs,by rw[a];simp only;omega,o1.rr.rd,LD _,?_⟩);simp only at m ⊢;refine V4 m (by rw[a,UV,List.length_replicate];omega) λp o2 j=>?_;have g:List.take (0+0) (gQ (List.replicate rs.len (0,0)))++gQ q.rs++List.drop (0+0+(gQ q.rs).length) (gQ (List.replicate rs.len (0,0)))=gQ q.rs:=by
  rw[List.drop_eq_nil_of_le (by rw[a,UV,List.length_replicate];omega)];simp
 rw[g]at j;refine hR _ p (· = U.size) (Ext.fresh e o2.ext λi (hi:i=U.size)=>O) ⟨by rw[a,d],.inr ⟨U.size,_,rfl,rfl,j,zD _,by rw[a,d],lV⟩⟩ λc r=>?_;have:=j.lt;omega
theorem LU {a b:Sl}{xs ys:List P2}(ha:cV a 2 (gQ xs) U F)(hb:cV b 2 (gQ ys) U Q)(hl:xs.length<=1000000){R:aO}(hR:xs=ys->R true U)(he:xs=ys):Xi.c a b U R:=by
 subst he;refine Xi.o ?_;unfold Xi.v;have d:a.len=xs.length:=by have:=ha.1;rw[UV]at this;omega
 have j:b.len=xs.length:=by have:=hb.1;rw[UV]at this;omega
 rw[d,j];refine cD aA (Qz (a:=bO) (λ(i:Int) w=>w=U/\∃k:Nat,i=k/\k<=xs.length) (λi _=>xs.length-i.toNat) ⟨rfl,0,rfl,O⟩ ?_);rintro(i:Int) w ⟨rfl,k,rfl,hk⟩;refine cP (λu=>?_) λx=>hR rfl;have g:xs[k]?=some (xs[k]' O):=cW _;generalize (xs[k]' O)=r at g;rw[←d];refine tu ha g λz o1 p=>eB (p 0 _ rfl) (eB (p 1 _ rfl) ?_);rw[d,←j];refine tu hb g λy o2 s=>eB (s 0 _ rfl) (eB (s 1 _ rfl) ?_);exact cD aA (cT (m:=k+1) O O ⟨⟨rfl,k+1,rfl,O⟩,O⟩)
end Go.Ar
namespace Go.Proofs
open Go.Vc
set_option maxRecDepth 100000
def X7.h:Hn:=.q .o2 (.q (.q .o2 .aK) (.q .o3 (.q (.q .o2 .aK) (.q .o7 (.q .o9 (.q (.q (.cU (.seq [.op,.op,.op,.cX false 2 [.op,.op]])) .aK) (.q .o5 .l)))))))
def X7.v (a b c d e f g h:Int)(i:Hp)(j:Option Addr->Hp->Prop):Prop:=aV #[.I a,.I b,.I c,.I d,.I e,.I f] 25 i λk l=>aQ k 0 l λm=>aQ k 1 l λn=>aQ k 2 l λo=>aQ k 3 l λp=>aQ k 4 l λq=>aQ k 5 l λr=>Xa.c m n o p q r l λs t=>If s (j none t) (aQ k 0 t λu=>aQ k 1 t λv=>aQ k 2 t λw=>aQ k 3 t λx=>aQ k 4 t λy=>aQ k 5 t λz=>WM.c u v w x y z t λaa ab=>If aa.isNone (j none ab) (Kf.c aa ab λac ad ae=>Zz.c ac g h ae λaf ag ah=>bX (λai aj=>If ai (j none aj) (aV #[.pointer aa,.pointer af,.slice none 0 0,.slice none 0 0] 35 aj λak al=>j (some ak) al)) λam=>If (ag != 0) (am true ah) (am af.isNone ah)))
theorem X7.o {a b c d e f g h i j}(k:X7.v a b c d e f g h i j):X7.c a b c d e f g h i j:=Wa Tryz.func13 (x:=X7.h) (R0 k)
def Xn.h:Hn:=.q .o1 (.q .o2 (.q (.q .o2 .aK) (.q .o7 (.q .o7 (.q (.q (.cU (.seq [.op,.op,.op,.cX false 2 [.op,.op]])) .aK) (.q .o7 (.q .o7 (.q .o7 (.q (.q (.cU (.seq [.op,.op,.op,.op,.op,.cX false 4 (RI.ops 4),.op,.cX false 7 (RI.ops 7),.op,.cX false 3 (RI.ops 3),.op,.cX false 4 (RI.ops 4)])) .aK) (.q .o8 (.q (.q (.cU (.seq [.op,.op,.op,.cX false 4 (RI.ops 4),.op,.cX false 7 (RI.ops 7),.op,.cX false 4 (RI.ops 4)])) .aK) (.q .o7 (.q (.cU (.seq [.op,.op,.op,.cX true 2 [.op,.op],.op,.cX true 7 (RI.ops 7),.op])) .l)))))))))))))
def Xn.v (a:Hp)(b:aO):Prop:=XO.c a λc d=>If c.isNone (b false d) (Kf.c c d λe f g=>Zz.c e 2 1000 g λh i j=>bX (λk l=>If k (b false l) (Wp.c h 0 24 8 l λm n o=>Wp.c h 0 24 8 o λp q r=>Wp.c h 0 24 8 r λs t u=>Wj.c h 0 m u λv w=>bX (λx y=>bX (λz aa=>bX (λab ac=>bX (λad ae=>If ad (b false ae) (WG.c h m ae λaf ag ah=>bX (λai aj=>bX (λak al=>bX (λam an=>If am (b false an) (Wx.c h 0 an λao ap aq=>bX (λar au=>bX (λav aw=>b av aw) λax=>If ar (Ww.c h au λay az=>aV #[.I p,.I p] 62 az λa0 a1=>Xi.c ay ⟨some a0,1,1⟩ a1 λa2 a3=>ax a2 a3) (ax false au)) λa4=>If (ao==2) (a4 (ap==0) aq) (a4 false aq))) λa5=>If ak (a5 true al) (Xr.c c p 3 al λa6 a7=>a5 (a6 != 0) a7)) λa8=>If ai (a8 true aj) (Wz.c h aj λa9 ba=>aV #[.I p,.I s] 3 ba λbb bc=>XK.c a9 ⟨some bb,2,2⟩ bc λbd be=>a8 (!bd) be)) λbf=>If (ag != 9) (bf true ah) (Wj.c h 0 s ah λbg bh=>bf (bg != 0) bh))) λbi=>If ab (bi true ac) (Wj.c h 0 m ac λbj bk=>bi (bj != 9) bk)) λbl=>If z (bl true aa) (WC.c h aa λbm bn=>bl (bm != 48) bn)) λbo=>If x (bo true y) (Wz.c h y λbp bq=>aV #[.I m,.I p] 3 bq λbr bs=>XK.c bp ⟨some br,2,2⟩ bs λbt bu=>bo (!bt) bu)) λbv=>If (v != 0) (bv true w) (Wj.c h 0 p w λbw bx=>bv (bw != 0) bx))) λbz=>If (i != 0) (bz true j) (bz h.isNone j))
theorem Xn.o {a b}(c:Xn.v a b):Xn.c a b:=Wa Tryz.func15 (x:=Xn.h) (R0 c)
def Xq.h:Hn:=.q .o2 (.q (.cU (.tail 5 (RI.ops 5) [.op,.op])) (.q (.q .o2 (.k (.q .o2 (.c (.q (.cU (.held true [10] (.tk [0,1,2,3,4,5,6,7,8,9] (.all [(10,.tk [11,12,13,14,15] (.done))])))) (.q (.q .o2 (.c (.o 11) .l)) .aL)) (.q .o2 (.c (.q (.cU (.tail 7 (RI.ops 7) [.op,.op])) (.q (.q .o2 (.c (.o 11) .l)) .aL)) (.q .o2 (.c (.q (.cU (.held true [6] (.tk [0,1,2,3,4,5] (.all [(6,.tk [7,8,9,10,11] (.done))])))) .aL) (.q .o2 (.c (.q (.o 11) .aL) (.q .o2 (.c (.q (.cU (.tail 7 (RI.ops 7) [.op,.op])) .l) .l)))))))))))) .aM))
def Xq.v (a:R2)(b c d e f g h:Int)(i:ByteArray)(j:Hp)(k:aN):Prop:=aV #[.I b,.I c,.I d,.I e,.I f,.I g,.I h,.string i] 40 j λl m=>bF a 2 m λo=>aQ l 0 m λp=>aQ l 1 m λq=>aQ l 2 m λr=>aQ l 3 m λs=>aQ l 4 m λt=>aQ l 5 m λu=>aQ l 6 m λv=>bD l 7 m λw=>Zf.c o p q r s t u v w m λx y=>aQ l 0 y λz=>If (z==40) (dY y λaa=>bW a λab=>aU aa ab 1 λac=>aS aa l 1 λad=>aS aa l 2 λae=>aS aa l 3 λaf=>Wp.c ac ad ae af y λag ah ai=>If (ah==0) (bF a 2 ai λak=>aV #[.I ag] 3 ai λal am=>App ak 1 8 3 [.I 0] ⟨some al,1,1⟩ am λan ao=>bW a λap=>aR ap 2 (.slice an.a an.len an.cap) ao λaq=>k ah aq) (k ah ai)) (If (z==41) (bG a 1 y λau=>aQ l 1 y λav=>Wj.c au av x y λaw ax=>If (aw==0) (bF a 3 ax λaz=>aV #[.I x] 3 ax λa0 a1=>App az 1 8 3 [.I 0] ⟨some a0,1,1⟩ a1 λa2 a3=>bW a λa4=>aR a4 3 (.slice a2.a a2.len a2.cap) a3 λa5=>k aw a5) (k aw ax)) (If (z==42) (dY y λa6=>bW a λa7=>aU a6 a7 1 λa8=>aS a6 l 1 λa9=>Wx.c a8 a9 y λba bb bc=>k bb bc) (If (z==43) (bG a 1 y λbe=>WG.c be x y λbf bg bh=>k bg bh) (If (z==44) (bG a 1 y λbj=>
 aQ l 6 y λbk=>WP.c bj x bk y λbl bm=>k bl bm) (k 0 y)))))
theorem Xq.o {a b c d e f g h i j k}(l:Xq.v a b c d e f g h i j k):Xq.c a b c d e f g h i j k:=Wa Tryz.func17 (x:=Xq.h) (R0 l)
def X6.h:Hn:=.q .o2 (.q (.q .o3 .aK) (.q .o5 (.q (.q .o2 .aK) (.q (.q .o1 (.k (.loop [(12,.I)] (.q (.q .o4 (.c .l .l)) (.q (.k .o6) .o3))))) .aL))))
def X6.v (a b c d e f g h:Int)(i:Sl)(j:Int)(k:Hp)(l:Option Addr->Hp->Prop):Prop:=aV #[.I a,.I b,.I c,.I d,.I e,.I f] 25 k λm n=>X8.c i j n λo p=>If o (l none p) (aQ m 0 p λq=>aQ m 1 p λr=>aQ m 2 p λs=>aQ m 3 p λt=>aQ m 4 p λu=>aQ m 5 p λv=>X7.c q r s t u v g h p λw x=>If w.isNone (l none x) (Yf [bO] (λy=>y 0 x) λz (aa:Int) ab=>If (aa<((i.len:Nat):Int)) (Ix i.a i.len aa 8 λac=>aQ ac 0 ab λad=>aQ ac 1 ab λae=>aQ ac 2 ab λaf=>aQ ac 3 ab λag=>aQ ac 4 ab λah=>aQ ac 5 ab λai=>aQ ac 6 ab λaj=>bD ac 7 ab λak=>Xq.c w ad ae af ag ah ai aj ak ab λal am=>bM (aa+1) λan=>z an am) (l w ab)))
theorem X6.o {a b c d e f g h i j k l}(m:X6.v a b c d e f g h i j k l):X6.c a b c d e f g h i j k l:=Wa Tryz.func20 (x:=X6.h) (R0 m)
end Go.Proofs
namespace Go.Ar
open Go Go.Vc Go.Proofs
open Go.Vc (bU dA cN)
variable {thread:Int}{U σ0 v w w':Hp}{F P Q X T T' Tc Qa Qf:Rg}{L:dE}{H H' H1:Hw}{held:List Pc}{s0 sp:Sp}{t n:Nat}{gb km fm m pp xb:Nat}{x y x':Gu}{b:B5}{qb:Nat}{Qq Qr:Rg}{qs rs addrs fl:Sl}{ad fd:List Int}{q q':Qu}
def QB (σ0 U:Hp)(pp gb km fm qb:Nat)(T:Rg)(H:Hw)(x:Gu)(q:Qu):Prop:=
 ∃L held s0 P Qq Qr qs rs,QP σ0 U L H held s0 P gb km fm x qb Qq Qr qs rs q/\L.p=pp/\T=jW P gb km fm qb Qq Qr
theorem QB.fr (o:QB σ0 U pp gb km fm qb T H x q)(e:aF U w):QB σ0 w pp gb km fm qb T H x q:=by
 obtain⟨L,a,s0,P,Qq,Qr,qs,d,h,b,g⟩:=o;exact⟨L,a,s0,P,Qq,Qr,qs,d,h.fr e,b,g⟩
theorem QB.out (o:QB σ0 U pp gb km fm qb T H x q)(e:Ext X U w)(hX:∀b,b<U.size->X b->¬T b/\σ0.size<=b):QB σ0 w pp gb km fm qb T H x q:=by
 obtain⟨L,a,s0,P,Qq,Qr,qs,g,h,d,rfl⟩:=o;exact⟨L,a,s0,P,Qq,Qr,qs,g,h.out e hX,d,rfl⟩
theorem QB.lt (o:QB σ0 U pp gb km fm qb T H x q){c:Nat}(h:T c):σ0.size<=c/\c<U.size:=by
 obtain⟨L,a,s0,P,Qq,Qr,qs,g,b,d,rfl⟩:=o;exact Lg b h
theorem QB.e (o:QB σ0 U pp gb km fm qb T H x q):aF σ0 U:=by
 obtain⟨L,a,s0,P,Qq,Qr,qs,g,b,d,rfl⟩:=o;exact b.p.e
theorem QB.hi (o:QB σ0 U pp gb km fm qb T H x q):∃held s0,HI H held s0:=by
 obtain⟨L,held,s0,P,Qq,Qr,qs,d,a,b,rfl⟩:=o;exact⟨held,s0,a.p.hi⟩
theorem QB.cf (o:QB σ0 U pp gb km fm qb T H x q):iT H:=by
 obtain⟨L,a,s0,P,Qq,Qr,qs,g,b,d,rfl⟩:=o;exact b.p.cf
theorem QB.qi (o:QB σ0 U pp gb km fm qb T H x q):nJ q:=by
 obtain⟨L,a,s0,P,Qq,Qr,qs,g,b,d,rfl⟩:=o;exact b.i
theorem QO.tb (o:QO σ0 U w pp gb km fm qb Tc H x q):∃T',QB σ0 w pp gb km fm qb T' H x q/\Ext Tc U w/\∀c,T' c->Tc c\/U.size<=c:=by
 obtain⟨L',a,g,P',Qq',Qr',d,b,h,i,m,j⟩:=o;exact⟨_,⟨L',a,g,P',Qq',Qr',d,b,h,i,rfl⟩,m,j⟩
def Aw (hp qb:Nat)(addrs fl:Sl):List Value:=[.pointer (some ⟨hp,0,none⟩),.pointer (some ⟨qb,0,none⟩),.slice addrs.a addrs.len addrs.cap,.slice fl.a fl.len fl.cap]
def qz (T:Rg)(xb:Nat)(Qa Qf:Rg):Rg:=λb=>T b\/b=xb\/Qa b\/Qf b
structure OQ (σ0 U:Hp) (xb pp gb km fm qb:Nat) (T Qa Qf:Rg) (H:Hw) (x:Gu) (q:Qu) (addrs:Sl) (ad:List Int) (fl:Sl) (fd:List Int):Prop where
 p:QB σ0 U pp gb km fm qb T H x q
 b:bY U xb (Aw pp qb addrs fl)
 ra:bT addrs 1 (Wy ad) U Qa
 rf:bT fl 1 (Wy fd) U Qf
 r8:σ0.size<=xb/\¬T xb/\¬Qa xb/\¬Qf xb
 qa:∀b,Qa b->σ0.size<=b/\b<U.size/\¬T b
 qf:∀b,Qf b->σ0.size<=b/\b<U.size/\¬T b
 dj:∀b,Qa b->¬Qf b
theorem OQ.oK (o:OQ σ0 U xb pp gb km fm qb T Qa Qf H x q addrs ad fl fd)(e:aF U w):OQ σ0 w xb pp gb km fm qb T Qa Qf H x q addrs ad fl fd:=
 ⟨o.p.fr e,e.bV o.b id,aI.bP o.ra e,aI.bP o.rf e,o.r8,λb a=>by have h:=o.qa b a;have:=e.1;exact⟨h.1,O,h.2.2⟩,λb a=>by have h:=o.qf b a;have:=e.1;exact⟨h.1,O,h.2.2⟩,o.dj⟩
theorem OQ.eV (o:OQ σ0 U xb pp gb km fm qb T Qa Qf H x q addrs ad fl fd)(e:Ext T U w)(p':QB σ0 w pp gb km fm qb T' H' x' q')(hT:∀c,T' c->T c\/U.size<=c):OQ σ0 w xb pp gb km fm qb T' Qa Qf H' x' q' addrs ad fl fd:=by
 have A:=e.1;have d:=o.b.lt;obtain⟨p,m,s,r⟩:=o.r8;have j:∀b,b<U.size->¬T b->¬T' b:=λb z u y=>(hT b y).elim u λh=>by omega
 exact⟨p',e.bV o.b m,aI.bS o.ra e λb _ i a=>(o.qa b i).2.2 a,aI.bS o.rf e λb _ i a=>(o.qf b i).2.2 a,⟨p,j _ d m,s,r⟩,λb g=>by have h:=o.qa b g;exact⟨h.1,O,j b h.2.1 h.2.2⟩,λb g=>by have h:=o.qf b g;exact⟨h.1,O,j b h.2.1 h.2.2⟩,o.dj⟩
theorem OQ.cF (o:OQ σ0 U xb pp gb km fm qb T Qa Qf H x q addrs ad fl fd){s':Sl}{ad':List Int}(e:Ext Qa U w)(hr:bT s' 1 (Wy ad') w λb=>Qa b\/U.size<=b/\b<w.size){K:aP}
 (hK:∀u,Ext (· = xb) w u->OQ σ0 u xb pp gb km fm qb T (λb=>Qa b\/U.size<=b/\b<w.size) Qf H x q s' ad' fl fd->K u):dQ (Addr.add ⟨xb,0,none⟩ 2) (.slice s'.a s'.len s'.cap) w K:=by
 have L:=e.1;have F:=o.b.lt;obtain⟨B,A,y,s⟩:=o.r8;have G:=o.p.e.1;have C:=o.p.out e λb _ d=>⟨(o.qa b d).2.2,(o.qa b d).1⟩;have m:=aI.bS o.rf e λb _ g J=>o.dj b J g;refine(e.bV o.b y).s1 (by simp[Aw]) λu r b=>?_;have i:=r.ext;have E:=r.1;have z:¬(Qa xb\/U.size<=xb/\xb<w.size):=λh=>h.elim y λh=>by omega
 refine hK u i ⟨C.out i λb _ (d:b=xb)=>by subst d;exact⟨A,B⟩,b,aI.bS hr i λb _ j (d:b=xb)=>z (d▸j),aI.bS m i λb _ j (d:b=xb)=>s (d▸j),⟨B,A,z,s⟩,λb d=>?_,λb d=>by have h:=o.qf b d;exact⟨h.1,O,h.2.2⟩,λb d g=>?_⟩
 ·rcases d with d|d
  ·have h:=o.qa b d;exact⟨h.1,O,h.2.2⟩
  ·exact⟨O,O,λD=>by have:=o.p.lt D;omega⟩
 ·rcases d with d|d
  ·exact o.dj b d g
  ·have:=(o.qf b g).2.1;omega
theorem OQ.Ea (o:OQ σ0 U xb pp gb km fm qb T Qa Qf H x q addrs ad fl fd){s':Sl}{fd':List Int}(e:Ext Qf U w)(hr:bT s' 1 (Wy fd') w λb=>Qf b\/U.size<=b/\b<w.size){K:aP}
 (hK:∀u,Ext (· = xb) w u->OQ σ0 u xb pp gb km fm qb T Qa (λb=>Qf b\/U.size<=b/\b<w.size) H x q addrs ad s' fd'->K u):dQ (Addr.add ⟨xb,0,none⟩ 3) (.slice s'.a s'.len s'.cap) w K:=by
 have L:=e.1;have F:=o.b.lt;obtain⟨B,A,y,s⟩:=o.r8;have G:=o.p.e.1;have C:=o.p.out e λb _ d=>⟨(o.qf b d).2.2,(o.qf b d).1⟩;have m:=aI.bS o.ra e λb _ J g=>o.dj b J g;refine(e.bV o.b s).s1 (by simp[Aw]) λu r b=>?_;have i:=r.ext;have E:=r.1;have z:¬(Qf xb\/U.size<=xb/\xb<w.size):=λh=>h.elim s λh=>by omega
 refine hK u i ⟨C.out i λb _ (d:b=xb)=>by subst d;exact⟨A,B⟩,b,aI.bS m i λb _ j (d:b=xb)=>y (d▸j),aI.bS hr i λb _ j (d:b=xb)=>z (d▸j),⟨B,A,y,z⟩,λb d=>by have h:=o.qa b d;exact⟨h.1,O,h.2.2⟩,λb d=>?_,λb d g=>?_⟩
 ·rcases d with d|d
  ·have h:=o.qf b d;exact⟨h.1,O,h.2.2⟩
  ·exact⟨O,O,λD=>by have:=o.p.lt D;omega⟩
 ·rcases g with g|g
  ·exact o.dj b d g
  ·have:=(o.qa b d).2.1;omega
inductive jQ (H:Hw) (x:Gu) (q:Qu) (d:eW) (a:Int):Hw->Gu->Qu->Int->Option Int->Option Int->Prop
 | same (e:Int):(e=0->d.kd≠40/\d.kd≠41/\d.kd≠42)->jQ H x q d a H x q e none none
 | full {H':Hw} {e:Int}:d.kd=40->mB d.a d.b=true->e≠0->KN H d.th 0 (zA d.b+Yd d.a+16) (zA d.b) 0 H' 0 e->fS H H'->H'.live=H.live->jQ H x q d a H' x q e none none
 | dZ {b:B5} {H1:Hw}:d.kd=40->vA H x d.a d.b b H1->KN H d.th 0 (zA d.b+Yd d.a+16) (zA d.b) 0 H1 b.2.2.1 0->fS H H1->jQ H x q d a {H1 with sp:=jT H1.sp b} (x.dZ b) q 0 (some b.1) none
 | mc {b:B5} {H':Hw} {x':Gu} {q':Qu}:d.kd=41->bU x.kn a=some b->mY H x q d.th a=0->iL d.th (dP H b) x {q with q:=q.q++[(a,b.2.1)]} H' x' q'->jQ H x q d a H' x' q' 0 none (some a)
 | drain {H':Hw} {x':Gu} {q':Qu}:d.kd=42->ZG H d.th=0->iE d.th H x q H' x' q'->jQ H x q d a H' x' q' 0 none none
 | wrote:d.kd=44->UG x q a=false->pH H x a 0->jQ H x q d a {H with sp:=Zm H.sp a d.va} x q (eM H.sp a) none none
set_option maxRecDepth 16000 in
theorem LR (o:OQ σ0 U xb pp gb km fm qb T Qa Qf H x q addrs ad fl fd)(gc:Gc σ0)(s:QS x q)(x0:0<=x.no/\x.no<=100000)(hq:q.q.length<=65)(hrl:q.rs.length+q.q.length<=8000)(hal:ad.length<=100000)(hfl:fd.length<=100000)(d:eW)(di:kU d){R:aN}
 (hR:∀e w T' H' x' q' Qa' Qf' addrs' fr' add del,OQ σ0 w xb pp gb km fm qb T' Qa' Qf' H' x' q' addrs' (ad++Option.toList add) fr' (fd++Option.toList del)->jQ H x q d (tH ad d) H' x' q' e add del->Ext (qz T xb Qa Qf) U w->(∀b,qz T' xb Qa' Qf' b->qz T xb Qa Qf b\/U.size<=b)->R e w) :
 Xq.c (aW xb) d.kd d.th d.a d.b d.of d.pl d.va d.s U R:=by
 refine Xq.o ?_;unfold Xq.v;have Z:∀{u u':Hp},Ext T u u'->Ext (qz T xb Qa Qf) u u':=λe=>e.sub λb j=>.inl j;have tX:∀{u u':Hp},Ext (· = xb) u u'->Ext (qz T xb Qa Qf) u u':=λe=>e.sub λb j=>.inr (.inl j);have tA:∀{u u':Hp},Ext Qa u u'->Ext (qz T xb Qa Qf) u u':=λe=>e.sub λb j=>.inr (.inr (.inl j));have tF:∀{u u':Hp},Ext Qf u u'->Ext (qz T xb Qa Qf) u u':=λe=>e.sub λb j=>.inr (.inr (.inr j));have hxb:=o.b.lt;have h00:=o.p.e.1;refine nw (cs:=vd d) λv hz e j=>bL ((o.oK e).b.rS rfl (j.rI rfl (j.rI rfl (j.rI rfl (j.rI rfl (j.rI rfl (j.rI rfl (j.rI rfl (j.rT rfl ?_)))))))));have o1:=o.oK e;refine Oe (bT.fW o1.ra) d λN e1=>?_;have o2:=o1.oK e1;have C:=e.trans e1;have zv:U.size<=N.size:=C.1;have z:=e1.bV j id;have E:=Ra (ad:=ad) di;generalize hx:tH ad d=ax at E hR;have a0:ad++Option.toList (none:Option Int)=ad:=by simp
 have f0:fd++Option.toList (none:Option Int)=fd:=by simp
 have same:∀e w,(e=0->d.kd≠40/\d.kd≠41/\d.kd≠42)->aF N w->R e w:=λe w he g=>by
  have A:=o.oK (C.trans g);refine hR e w T H x q Qa Qf addrs fl none none ?_ (.same e he) (aF.to (C.trans g)) λ_=>.inl;rw[a0,f0];exact A
 have K:∀e w H' x' q',QO σ0 N w pp gb km fm qb T H' x' q'->jQ H x q d ax H' x' q' e none none->R e w:=λe w H' x' q' A out=>by
  obtain⟨T',V,D,F⟩:=A.tb;have o3:=o2.eV D V F;refine hR e w T' H' x' q' Qa Qf addrs fl none none (by rw[a0,f0];exact o3) out ((aF.to C).trans (Z D)) λc Q=>?_;rcases Q with h|h|h|h
  ·exact(F c h).imp .inl λh=>by omega
  ·exact .inl (.inr (.inl h))
  ·exact .inl (.inr (.inr (.inl h)))
  ·exact .inl (.inr (.inr (.inr h)))
 have hnT:¬T U.size:=λhm=>by have:=o.p.lt hm;omega
 obtain⟨L,held,s0,P,Qq,Qr,qs,rs,S,rfl,rfl⟩:=o2.p;refine z.rI rfl (cO (λJ=>?_) λhk0=>?_)
 ·have B:d.kd=40:=by simpa using J
  refine⟨λm=>aF N m,Ext.refl _ _,bL (gM (c:=.p) (y:=some ⟨qb,0,none⟩) (λm e=>e.bV o2.b id) rfl (gM (c:=bO) (y:=d.th) (λm e=>e.bV z id) rfl (gM (c:=bO) (y:=d.a) (λm e=>e.bV z id) rfl (gM (c:=bO) (y:=d.b) (λm e=>e.bV z id) rfl ?_))))⟩;refine EZ S gc x0 d.th d.a d.b (λw W g=>?_) (λe w H' W r hw op hl A=>?_) λb w H1 gr hw op A=>?_
  ·exact cD aB (same 1 w (λh=>by cases h) g)
  ·exact cD (by simpa using r) (K e w H' x q A (.full B W r hw op hl))
  ·refine cE rfl ?_;obtain⟨T',V,D,F⟩:=A.tb;have o3:=o2.eV D V F;refine bL (o3.b.rS rfl (xC o3.ra O b.1 λs' u1 G M=>bL (o3.cF G M λu2 e5 o5=>?_)));have z3:=D.1;have z4:=G.1;refine hR 0 u2 T' _ _ _ _ Qf s' fl (some b.1) none (by rw[f0];exact o5) (.dZ B gr hw op) ((((aF.to C).trans (Z D)).trans (tA G)).trans (tX e5)) λc Q=>?_;rcases Q with h|h|h|h
   ·exact(F c h).imp .inl λh=>by omega
   ·exact .inl (.inr (.inl h))
   ·exact h.imp (λh=>.inr (.inr (.inl h))) λh=>by omega
   ·exact .inl (.inr (.inr (.inr h)))
 have k0:d.kd≠40:=by simpa using hk0
 refine cO (λJ=>?_) λhk1=>?_
 ·have B:d.kd=41:=by simpa using J
  refine bL (o2.b.rP rfl (z.rI rfl ?_));refine H9 S gc s hq hrl d.th E (λw r g=>cD (by simpa using r) (same _ w (λh=>absurd h r) g)) λw b H' x' q' hm Y ov A=>cE rfl ?_;obtain⟨T',V,D,F⟩:=A.tb;have o3:=o2.eV D V F;refine bL (o3.b.rS rfl (xC o3.rf O ax λs' u1 G M=>bL (o3.Ea G M λu2 e5 o5=>?_)));have z3:=D.1;have z4:=G.1;refine hR 0 u2 T' _ _ _ Qa _ addrs s' none (some ax) (by rw[a0];exact o5) (.mc B hm Y ov) ((((aF.to C).trans (Z D)).trans (tF G)).trans (tX e5)) λc Q=>?_;rcases Q with h|h|h|h
  ·exact(F c h).imp .inl λh=>by omega
  ·exact .inl (.inr (.inl h))
  ·exact .inl (.inr (.inr (.inl h)))
  ·exact h.imp (λh=>.inr (.inr (.inr h))) λh=>by omega
 have k1:d.kd≠41:=by simpa using hk1
 refine cO (λJ=>?_) λhk2=>?_
 ·have B:d.kd=42:=by simpa using J
  refine⟨λm=>aF N m,Ext.refl _ _,bL (gM (c:=.p) (y:=some ⟨qb,0,none⟩) (λm e=>e.bV o2.b id) rfl (gM (c:=bO) (y:=d.th) (λm e=>e.bV z id) rfl ?_))⟩;exact HG S gc s d.th (λw r g=>same _ w (λh=>absurd h r) g) λw H' x' q' Y dr A=>K 0 w H' x' q' A (.drain B Y dr)
 have k2:d.kd≠42:=by simpa using hk2
 have X:d.kd≠40/\d.kd≠41/\d.kd≠42:=⟨k0,k1,k2⟩;refine cO (λ_=>bL (o2.b.rP rfl (EL S s ax E.2 (λw _ g=>same 9 w (λh=>by cases h) g) (λe w _ _ g _=>same e w (λ_=>X) g) λw _ g _=>same _ w (λ_=>X) g))) λ_=>?_;refine cO (λJ=>bL (o2.b.rP rfl (z.rI rfl (Θ S gc s ax d.va E.2 (λw _ g=>same 9 w (λh=>by cases h) g) (λe w _ _ g _=>same e w (λ_=>X) g) λw ht wd A=>K _ w _ x q A (.wrote (by simpa using J) ht wd))))) λ_=>same 0 N (λ_=>X) (Ext.refl _ _)
end Go.Ar
namespace Go.Ar
open Go Go.Vc Go.Proofs
open Go.Vc (bU dA cN)
variable {thread:Int}{H H' H1 H2:Hw}{held held1:List Pc}{s0 s1 sp:Sp}{x y x' x1 x2:Gu}{b:B5}{q q' q1 q2:Qu}{ad fd:List Int}{W:Int->List Int}{l l':List P2}{d:eW}{a:Int}{bl by':Int}
theorem Ep {α:Type}:∀{l:List (Int×α)} {a:Int} {b:α},(l.map (·.1)).Nodup->(a,b)∈l->(cN l a).length+1=l.length
 | [],_,_,_,h=>by simp at h
 | y::l,a,b,hn,h=>by
  rw[zR,zj]at hn;show((y::l).filter λz=>!(z.1==a)).length+1=_;rcases zW.1 h with rfl|h
  ·rw[tM aA,qB.2 λz hz=>?_,zS];have:z.1≠a:=λe=>hn.1 (zE.2 ⟨z,hz,e⟩);simpa using this
  ·have d:y.1≠a:=λe=>hn.1 (by rw[e];exact zE.2 ⟨(a,b),h,rfl⟩);rw[uf (by simpa using d),zS,zS];exact congrArg (· + 1) (Ep hn.2 h)
theorem F2 (g:dR H x)(g':dR H' x')(hi:HI H held s0)(hi':HI H' held1 s1){e:Int×B5}(he:e∈x.kn)(k:Kept H x H' x' e):qE H'.sp e.2=qE H.sp e.2:=by
 unfold qE;refine wA λz a=>?_;rw[g.acc hi he (.inr a),g'.acc hi' k.1 (.inr a),k.2 z a]
theorem Kept.trans {e:Int×B5}(h:Kept H x H1 x1 e)(h':Kept H1 x1 H2 x2 e):Kept H x H2 x2 e:=⟨h'.1,λz a=>(h'.2 z a).trans (h.2 z a)⟩
theorem Kept.refl {e:Int×B5}(h:e∈x.kn):Kept H x H x e:=⟨h,λ_ _=>rfl⟩
structure KQ (W:Int->List Int) (H:Hw) (x:Gu) (l:List P2):Prop where
 g:dR H x
 k:∀e∈l,∃b,bU x.kn e.1=some b/\e.2=b.2.1/\qE H.sp b=W e.1
 nd:(l.map (·.1)).Nodup
theorem KQ.step (kq:KQ W H x l)(hi:HI H held s0)(hi':HI H' held1 s1)(g':dR H' x')(hk:∀e∈x.kn,e.1∈l.map (·.1)->Kept H x H' x' e):KQ W H' x' l:=⟨g',λe i=>by
 obtain⟨b,p,j,m⟩:=kq.k e i;have a:=ZY p;have d:=hk (e.1,b) a (zE.2 ⟨e,i,rfl⟩);exact⟨b,Qe g'.nd d.1,j,by rw[←m];exact F2 kq.g g' hi hi' a d⟩,kq.nd⟩
theorem KQ.tail {e:P2}(kq:KQ W H x (e::l)):KQ W H x l:=⟨kq.g,λk a=>kq.k k (lg _ a),(zj.1 kq.nd).2⟩
def iZ (W:Int->List Int)(l:List P2):List P2:=l.flatMap λe=>if W e.1=[]then[]else[(e.1,kI (W e.1))]
theorem Nx (l l':List P2):iZ W (l++l')=iZ W l++iZ W l':=by simp[iZ]
structure n4 (W:Int->List Int) (thread:Int) (H:Hw) (x:Gu) (q:Qu) (H':Hw) (x':Gu) (q':Qu):Prop where
 hi:∃held' s0',HI H' held' s0'
 rd:ZG H' thread=0
 kp:Q2 H' H
 kq:KQ W H' x' q'.q
 bb:q'.bl=q.bl/\q'.by'=q.by'
 no:x'.no=x.no
 kn:x'.kn.length+q.q.length=x.kn.length+q'.q.length
 sf:∃l,q.q=l++q'.q/\(∀k∈x.kn,k.1∉l.map (·.1)->Kept H x H' x' k)/\q'.rs=q.rs++iZ W l
theorem n4.refl (kq:KQ W H x q.q)(hi:HI H held s0)(hrd:ZG H thread=0):n4 W thread H x q H x q:=
 ⟨⟨held,s0,hi⟩,hrd,Q2.refl _,kq,⟨rfl,rfl⟩,rfl,rfl,[],rfl,λk a _=>Kept.refl a,by simp[iZ]⟩
theorem n4.trans (a:n4 W thread H x q H1 x1 q1)(c:n4 W thread H1 x1 q1 H2 x2 q2):n4 W thread H x q H2 x2 q2:=by
 obtain⟨l,g,j,p⟩:=a.sf;obtain⟨i,m,k2,k3⟩:=c.sf;refine⟨c.hi,c.rd,a.kp.trans c.kp,c.kq,⟨c.bb.1.trans a.bb.1,c.bb.2.trans a.bb.2⟩,c.no.trans a.no,by have:=a.kn;have:=c.kn;omega,l++i,by rw[g,m,zl],λk r b=>?_,by rw[k3,p,Nx,zl]⟩;rw[zo,zM]at b;have d:=j k r λh=>b (.inl h);exact d.trans (k2 k d.1 λh=>b (.inr h))
theorem KQ.ck (kq:KQ W H x l)(hi:HI H held s0){e:P2}(he:e∈l):k9 H x e.1=0:=by
 obtain⟨b,a,_,_⟩:=kq.k e he;unfold k9;rw[a];simp only;rw[kq.g.lost hi (ZY a)];rfl
theorem gE.st (r:gE thread H x q H' x' q')(kq:KQ W H x q.q)(hi:HI H held s0)(hcf:iT H)(hrd:ZG H thread=0):n4 W thread H x q H' x' q':=by
 cases r with
 | none h1 h2=>
  rename_i e r;have m:e∈q.q:=by rw[h1];exact lW
  obtain⟨b,j,_,_⟩:=kq.k e m;rcases h2 with h2|h2
  ·rw[j]at h2;cases h2
  ·exact absurd (kq.ck hi m) h2
 | stay h1 h2 h3 h4=>
  refine absurd ?_ h4;unfold mf;rw[zB (by rw[hrd];decide),h2];simp only;rw[kq.g.lost hi (ZY h2)];rfl
 | free h1 h2 h3 h4 hw op fe=>
  rename_i e r b er;have m:e∈q.q:=by rw[h1];exact lW
  obtain⟨E,j,D,B⟩:=kq.k e m;rw[h2]at j;cases j;obtain⟨A,z⟩:=kq.g.free hi h2 hw op fe hrd hcf.2.1;obtain⟨d,s1,i⟩:=op.hi;have a:=ZY h2;have y:e.1∉r.map (·.1):=by
   have:=kq.nd;rw[h1,zR,zj]at this;exact this.1
  have p:Ku H b=W e.1:=by
   unfold Ku;rw[kq.g.broken hi a,B];rfl
  refine⟨⟨d,s1,i⟩,?_,op.kp,?_,⟨rfl,rfl⟩,rfl,?_,[e],?_,λk u C=>z k u λh=>C (by simp[h]),?_⟩
  ·rw[Ms op];exact hrd
  ·have w:KQ W H x r:=by rw[h1]at kq;exact kq.tail
   exact w.step hi i A λk u s=>z k u λh=>y (h▸s)
  ·have:=Ep kq.g.nd a;show(cN x.kn e.1).length+q.q.length=x.kn.length+r.length;rw[h1,zS];omega
  ·rw[h1];rfl
  ·show(if Ku H b=[]then q.rs else q.rs++[(e.1,kI (Ku H b))])=_
   rw[p];simp only[iZ,nY,List.flatMap_nil,kE];split<;>simp
theorem iL.st (r:iL thread H x q H' x' q')(kq:KQ W H x q.q)(hi:HI H held s0)(hcf:iT H)(hrd:ZG H thread=0):n4 W thread H x q H' x' q'/\Hj q'=false:=by
 induction r generalizing held s0 with
 | stop h=>exact⟨n4.refl kq hi hrd,h⟩
 | next h f _ ih=>
  have s1:=f.st kq hi hcf hrd;obtain⟨a,g,b⟩:=s1.hi;obtain⟨s2,d⟩:=ih s1.kq b (hcf.bS s1.kp) s1.rd;exact⟨s1.trans s2,d⟩
theorem iE.st (r:iE thread H x q H' x' q')(kq:KQ W H x q.q)(hi:HI H held s0)(hcf:iT H)(hrd:ZG H thread=0):n4 W thread H x q H' x' q'/\q'.q=[]:=by
 induction r generalizing held s0 with
 | stop h=>exact⟨n4.refl kq hi hrd,h⟩
 | next f _ ih=>
  have s1:=f.st kq hi hcf hrd;obtain⟨a,g,b⟩:=s1.hi;obtain⟨s2,d⟩:=ih s1.kq b (hcf.bS s1.kp) s1.rd;exact⟨s1.trans s2,d⟩
theorem dR.FN (g:dR H x)(hi:HI H held s0)(hm:(a,b)∈x.kn):dR (dP H b) x/\(∀e∈x.kn,e.1≠a->Kept H x (dP H b) x e)/\qE (dP H b).sp b=[]:=by
 have s:=(g.i _ hm).2;have r:=C0 s;have p:∀e∈x.kn,∀z,(z∈Zk e.2\/z∈XC e.2)->(e.1=a->z∈Zk e.2)->QY (dP H b).sp z=QY H.sp z:=λe j z d y=>by
  obtain⟨⟨w,rfl⟩,A,B⟩:=(g.i e j).2.word d;show QY (iF H.sp (XC b) λ_=>Ui) _=_;rw[KW r,zB];rintro⟨hw,_⟩;have m:=s.word (.inr hw);have:=g.apart hi j hm A B m.2.1 m.2.2;subst this;exact s.nw (y rfl) hw
 obtain⟨s1,C⟩:∃s1,HI (dP H b) held s1:=HI.iF _ _ hi;have E:dR (dP H b) x:=⟨g.live,λe j z d=>by rw[p e j z (.inl d) λ_=>d];exact g.can e j z d,g.ph,g.i,g.nd⟩;refine⟨E,λe j u=>⟨j,λz d=>p e j z (.inr d) λh=>absurd h u⟩,?_⟩;unfold qE;rw[Bf];intro z d;rw[E.acc C hm (.inr d)];obtain⟨⟨w,rfl⟩,A,B⟩:=s.word (.inr d);have D:=g.map hi hm A B;have:QY (dP H b).sp ((8*w:Nat):Int)=Ui:=by
  show QY (iF H.sp (XC b) λ_=>Ui) _=_;rw[KW r,zC ⟨d,D⟩]
 rw[this];simp
abbrev W0:Int->List Int:=λ_=>[]
theorem IS (l:List P2):iZ W0 l=[]:=by simp[iZ]
structure AQ (bl by':Int) (H:Hw) (x:Gu) (q:Qu) (ad fd:List Int):Prop where
 kq:KQ W0 H x q.q
 n0:0<=x.no
 nl:(ad.length:Int)<=x.no
 rs:q.rs=[]
 ov:Hj q=false
 sx:∃l,fd=l++q.q.map (·.1)
 wo:x.kn.length+fd.length=ad.length+q.q.length
 th:1<=H.cf.threads
 bb:q.bl=bl/\q.by'=by'
theorem AQ.lens (al:AQ bl by' H x q ad fd):q.q.length<=fd.length/\x.kn.length<=ad.length:=by
 obtain⟨l,h⟩:=al.sx;have a:=congrArg List.length h;rw[zK,zk]at a;have:=al.wo;omega
theorem AQ.ql (al:AQ bl by' H x q ad fd)(hi:nJ q):q.q.length<=64:=by
 have h:=al.ov;unfold Hj at h;rw[AN,decide_eq_false_iff_not,decide_eq_false_iff_not]at h;have:=hi.bl;omega
theorem AQ.qs (al:AQ bl by' H x q ad fd)(hi:nJ q)(h:ad.length<=1000):QS x q:=⟨al.kq.g.i,by have:=al.lens;omega,λe d=>by
 obtain⟨b,a,_,_⟩:=al.kq.k e d;have h:e.1=b.1/\gK b:=al.kq.g.i _ (ZY a);have j:=h.1;have r:=h.2.z;have u:=h.2.base;have y:=h.2.t;have p:=h.2.m;have A:=h.2.s;have w:=ZE (n:=b.2.1) O;unfold jx;omega,by rw[al.rs];have:=al.ql hi;simp;omega⟩
theorem Jg {addr:Int}(hm:bU x.kn addr=some b)(h:mY H x q thread addr=0):ZG H thread=0/\addr∉q.q.map (·.1):=by
 unfold mY at h;by_cases h1:ZG H thread=0
 ·refine⟨h1,λa=>?_⟩;rw[zB (by rw[h1];decide),zC a]at h;cases h
 ·rw[zC h1]at h;exact absurd h h1
theorem AQ.out (al:AQ bl by' H x q ad fd)(hi:HI H held s0)(cf:iT H)(qi:nJ q){e:Int}{add del:Option Int}(o:jQ H x q d a H' x' q' e add del):AQ bl by' H' x' q' (ad++add.toList) (fd++del.toList)/\x'.no<=x.no+1:=by
 have G:ad++Option.toList (none:Option Int)=ad:=by simp
 have A:fd++Option.toList (none:Option Int)=fd:=by simp
 have g:=al.kq.g;cases o with
 | same e j=>rw[G,A];exact⟨al,O⟩
 | full hk hgk hne hw op hl=>
  rw[G,A];obtain⟨w,J⟩:=g.same hi op hl;obtain⟨r,s1,m⟩:=op.hi;exact⟨⟨al.kq.step hi m w λe j _=>J e j,al.n0,al.nl,al.rs,al.ov,al.sx,al.wo,by rw[op.kp.2.1];exact al.th,al.bb⟩,O⟩
 | dZ hk gr hw op=>
  rename_i b H1;rw[A];obtain⟨r,s1,m⟩:=op.hi;obtain⟨w,gk,P,_,_⟩:=g.dZ hi gr op m;have S:(x.dZ b).no=x.no+1:=rfl;have R:∃s2,HI {H1 with sp:=jT H1.sp b} r s2:=by
   obtain⟨s2,X⟩:=HI.iF ju (Zk b) m;exact HI.iF (λ_=>0) (XC b) X
  obtain⟨s2,Q⟩:=R;refine⟨⟨al.kq.step hi Q w λe j _=>P e j,by have:=al.n0;omega,?_,al.rs,al.ov,al.sx,?_,by show 1<=H1.cf.threads;rw[op.kp.2.1];exact al.th,al.bb⟩,O⟩
  ·rw[S,zK];have:=al.nl;simp;omega
  ·rw[gk,zK,zK];have:=al.wo;simp;omega
 | mc hk E hf ov=>
  rename_i b;rw[G];obtain⟨y,D⟩:=Jg E hf;have C:=ZY E;obtain⟨w,J,P⟩:=g.FN hi C;obtain⟨s1,F⟩:∃s1,HI (dP H b) held s1:=HI.iF _ _ hi;have N:KQ W0 (dP H b) x (q.q++[(a,b.2.1)]):=by
   have k0:=al.kq.step hi F w λe j z=>J e j λh=>D (h▸z);refine⟨w,λe j=>?_,?_⟩
   ·rcases zM.1 j with j|j
    ·exact k0.k e j
    ·rw[zN]at j;subst j;exact⟨b,E,rfl,P⟩
   ·rw[zo,nf];refine⟨al.kq.nd,by simp,λu hu c hc=>?_⟩;simp only[zR,oL,zN]at hc;subst hc;exact λh=>D (h▸hu)
  have K:ZG (dP H b) d.th=0:=y;obtain⟨st,M⟩:=ov.st N F cf K;obtain⟨l,h1,X,L⟩:=st.sf;have B:=st.kn;simp only[zK,s8]at B;refine⟨⟨st.kq,by rw[st.no];exact al.n0,by rw[st.no];exact al.nl,?_,M,?_,?_,?_,⟨st.bb.1.trans al.bb.1,st.bb.2.trans al.bb.2⟩⟩,by rw[st.no];omega⟩
  ·rw[L,IS,kE];exact al.rs
  ·obtain⟨l2,h4⟩:=al.sx;refine⟨l2++l.map (·.1),?_⟩;rw[h4,zl,zl,←zo,←h1];simp
  ·have:=al.wo;simp only[q8,zK,s8];omega
  ·rw[st.kp.2.1];exact al.th
 | drain hk y dr=>
  rw[G,A];obtain⟨st,s⟩:=dr.st al.kq hi cf y;obtain⟨l,h1,X,L⟩:=st.sf;have B:=st.kn;have Z:=al.lens;refine⟨⟨st.kq,by rw[st.no];exact al.n0,by rw[st.no];exact al.nl,?_,?_,⟨fd,by rw[s];simp⟩,?_,?_,⟨st.bb.1.trans al.bb.1,st.bb.2.trans al.bb.2⟩⟩,by rw[st.no];omega⟩
  ·rw[L,IS,kE];exact al.rs
  ·have Y:=st.bb.1;have U:=st.bb.2;have:=qi.bl;have:=qi.by';unfold Hj;rw[s,AN];exact⟨zL (by rw[Y];simp;omega),zL (by rw[U];simp[iC];omega)⟩
  ·have:=al.wo;omega
  ·rw[st.kp.2.1];exact al.th
 | wrote hk ht wd=>
  rw[G,A];rcases wd with⟨h,_⟩|⟨k,hk,hin,h8,_⟩
  ·cases h
  ·have V:=g.i k hk;obtain⟨i1,i2⟩:=hin;have hz:a∈XC k.2:=dR.jz V.2 i1 i2 h8;obtain⟨w,J,_⟩:=g.write hi hk hz (v:=d.va);obtain⟨s1,m⟩:∃s1,HI {H with sp:=Zm H.sp a d.va} held s1:=HI.iF (λ_=>d.va) [a] hi;refine⟨⟨al.kq.step hi m w λe j z=>J e j λh=>?_,al.n0,al.nl,al.rs,al.ov,al.sx,al.wo,al.th,al.bb⟩,O⟩;subst h;obtain⟨p,hp,W⟩:=zE.1 z;have E:bU x.kn p.1=some e.2:=by rw[W];exact Qe g.nd (show(e.1,e.2)∈x.kn from j)
   have:UG x q a=true:=by
    unfold UG;rw[zy];exact⟨p,hp,by rw[E];exact zI hz⟩
   rw[ht]at this;cases this
theorem AQ.ready (al:AQ bl by' H x q ad fd):ZG H 0=0:=by
 have b:=al.th;unfold ZG;rw[zB O,UU];have a:(if 0<=(0:Int)/\(0:Int)<(H.bR.length:Int)then fE H (0:Int).toNat else none)=none:=by
  split
  ·exact al.kq.g.ph _
  ·rfl
 rw[a];rfl
end Go.Ar
namespace Go.Ar
open Go Go.Vc Go.Proofs
open Go.Vc (bU dA cN)
variable {thread:Int}{U σ0 v w w':Hp}{F P Q X T Tc:Rg}{L:dE}{H H' H1:Hw}{held:List Pc}{s0 sp:Sp}{t n:Nat}{gb km fm m pp:Nat}{x y x':Gu}{b:B5}{qb:Nat}{Qq Qr:Rg}{qs rs:Sl}{q q':Qu}
theorem gE.ua {e:P2}{r:List P2}{H2:Hw}{e2:Int}(hq:q.q=e::r)(hm:bU x.kn e.1=some b)(hck:k9 H x e.1=0)(hfr:mf H x thread e.1 false=0)(hw:KN (dP H b) thread 1 0 0 b.2.2.1 H2 0 e2)(h:gE thread H x q H' x' q') :
 H'=H2/\x'=x.gone e.1/\q'=⟨q.bl,q.by',r,if Ku H b=[]then q.rs else q.rs++[(e.1,kI (Ku H b))]⟩:=by
 cases h with
 | none h1 h2=>
  rw[hq]at h1;cases h1;rcases h2 with h2|h2
  ·rw[hm]at h2;cases h2
  ·exact absurd hck h2
 | stay h1 h2 h3 h4=>
  rw[hq]at h1;cases h1;exact absurd hfr h4
 | free h1 h2 h3 h4 hw'=>
  rw[hq]at h1;cases h1;rw[hm]at h2;cases h2;exact⟨(hw'.wR hw).1,rfl,rfl⟩
theorem iL.l0 (h:iL thread H x q H' x' q')(ho:Hj q=false):H'=H/\x'=x/\q'=q:=by
 cases h with
 | stop _=>exact⟨rfl,rfl,rfl⟩
 | next h _ _=>rw[ho]at h;cases h
theorem iL.nu (h:iL thread H x q H' x' q')(ho:Hj q=true):∃H1 x1 q1,gE thread H x q H1 x1 q1/\iL thread H1 x1 q1 H' x' q':=by
 cases h with
 | stop h=>rw[ho]at h;cases h
 | next _ h1 h2=>exact⟨_,_,_,h1,h2⟩
theorem iE.l0 (h:iE thread H x q H' x' q')(ho:q.q=[]):H'=H/\x'=x/\q'=q:=by
 cases h with
 | stop _=>exact⟨rfl,rfl,rfl⟩
 | next h _=>obtain⟨_,_,_,_,e,a⟩:=h.len;rw[ho]at a;cases a
theorem iE.nu (h:iE thread H x q H' x' q')(ho:q.q≠[]):∃H1 x1 q1,gE thread H x q H1 x1 q1/\iE thread H1 x1 q1 H' x' q':=by
 cases h with
 | stop h=>exact absurd h ho
 | next h1 h2=>exact⟨_,_,_,h1,h2⟩
theorem Ga {H:Hw}{th kind size align addr:Int}{k:Hw×Int×Int}{r:Int×Int}(hk:k=(UK H th kind size align addr).getD (w0,0,99))(h2:k.2=r)(hr:r≠(0,99)):KN H th kind size align addr k.1 r.1 r.2:=by
 subst hk;cases hw:UK H th kind size align addr with
 | none=>rw[hw]at h2;exact absurd h2.symm hr
 | some s=>
  rw[hw]at h2;have:=Fh hw;have e1:s.2=r:=h2;rw[←e1];exact this
def bB:B5:=(4176,24,4160,64,2)
def cB:B5:=(4240,24,4224,64,3)
def k2:Hw×Int×Int:=(UK ve 0 0 56 16 0).getD (w0,0,99)
def wJ:Hw:={k2.1 with sp:=jT k2.1.sp bB}
def k3:Hw×Int×Int:=(UK wJ 0 0 56 16 0).getD (w0,0,99)
def uG:Hw:={k3.1 with sp:=jT k3.1.sp cB}
def Si:Gu:=gX.dZ bB
def kX:Gu:=Si.dZ cB
def uc:Hw:=dP uG gB
def sE:Hw:=dP uc bB
def sF:Hw:=dP sE cB
def k4:Hw×Int×Int:=(UK (dP sF gB) 0 1 0 0 4096).getD (w0,0,99)
def rj:Hw:={k4.1 with sp:=Zm k4.1.sp 4176 3}
def k6:Hw×Int×Int:=(UK (dP rj bB) 0 1 0 0 4160).getD (w0,0,99)
def k7:Hw×Int×Int:=(UK (dP k6.1 cB) 0 1 0 0 4224).getD (w0,0,99)
theorem yg:k2.2=(4160,0)/\Kw k2.1 4160=some 64:=by decide +kernel
theorem xL:k3.2=(4224,0)/\Kw k3.1 4224=some 64:=by decide +kernel
abbrev q0:Qu:=⟨2,1000,[],[]⟩
abbrev q1:Qu:=⟨2,1000,[(4112,24)],[]⟩
abbrev q2:Qu:=⟨2,1000,[(4112,24),(4176,24)],[]⟩
abbrev q3:Qu:=⟨2,1000,[(4112,24),(4176,24),(4240,24)],[]⟩
abbrev q4:Qu:=⟨2,1000,[(4176,24),(4240,24)],[]⟩
theorem Dm:mY uG kX q0 0 4112=0:=by decide +kernel
theorem Cc:mY uc kX q1 0 4176=0:=by decide +kernel
theorem pV:mY sE kX q2 0 4112=9/\mY sE kX q2 0 4240=0/\UG kX q2 4112=true:=by decide +kernel
theorem qd:k9 sF kX 4112=0/\mf sF kX 0 4112 false=0/\Ku sF gB=[]/\k4.2=(0,0):=by decide +kernel
abbrev vf:Gu:=kX.gone 4112
theorem D5:eM k4.1.sp 4176=0:=by decide +kernel
theorem oY:ZG rj 0=0/\k9 rj vf 4176=0/\mf rj vf 0 4176 false=0/\Ku rj bB=[4176]/\k6.2=(0,0):=by decide +kernel
abbrev B3:Gu:=vf.gone 4176
theorem rz:k9 k6.1 B3 4240=0/\mf k6.1 B3 0 4240 false=0/\Ku k6.1 cB=[]/\k7.2=(0,0):=by decide +kernel
theorem Cm:kX.kn=[(4112,gB),(4176,bB),(4240,cB)]:=by decide +kernel
theorem xG:∀e∈kX.kn,e.1=e.2.1/\gK e.2:=λe a=>by
 rw[Cm]at a;simp only[zW,AZ,or_false]at a;rcases a with rfl|rfl|rfl<;>exact⟨rfl,⟨by decide,by decide⟩,⟨by decide,by decide⟩,⟨by decide,by decide,by decide⟩,⟨by decide,by decide⟩,by decide⟩
theorem po {q:Qu}(h1:∀e∈q.q,0<=e.1/\e.1<=5000)(h2:q.rs.length+q.q.length<=9000):QS kX q:=⟨xG,by rw[Cm];decide,λe a=>by have:=h1 e a;exact⟨O,O⟩,h2⟩
theorem OR {q:Qu}(h1:∀e∈q.q,0<=e.1/\e.1<=5000)(h2:q.rs.length+q.q.length<=9000):QS vf q:=⟨λe a=>xG e (zJ.1 (show e∈cN kX.kn 4112 from a)).1,ky (pM _ _) (by rw[Cm];decide),λe a=>by have:=h1 e a;exact⟨O,O⟩,h2⟩
theorem qW:bU kX.kn 4112=some gB/\bU kX.kn 4176=some bB/\bU kX.kn 4240=some cB:=by decide +kernel
theorem Nh:bU vf.kn 4176=some bB:=by decide +kernel
theorem WoP:bU B3.kn 4240=some cB:=by decide +kernel
attribute [local irreducible] w0 gm ve k2 wJ k3 uG uc sE sF k4 rj k6 k7
theorem Sf:ve = {gm.1 with sp:=jT gm.1.sp gB}:=by unfold ve;rfl
theorem Mz:wJ = {k2.1 with sp:=jT k2.1.sp bB}:=by unfold wJ;rfl
theorem Og:uG = {k3.1 with sp:=jT k3.1.sp cB}:=by unfold uG;rfl
theorem Nl:uc=dP uG gB:=by unfold uc;rfl
theorem Rz:sE=dP uc bB:=by unfold sE;rfl
theorem MJ:sF=dP sE cB:=by unfold sF;rfl
theorem Φ:rj = {k4.1 with sp:=Zm k4.1.sp 4176 3}:=by unfold rj;rfl
theorem Ch:KN ve 0 0 56 16 0 k2.1 4160 0:=Ga (by unfold k2;rfl) yg.1 aB
theorem Cb:KN wJ 0 0 56 16 0 k3.1 4224 0:=Ga (by unfold k3;rfl) xL.1 aB
theorem CG:KN (dP sF gB) 0 1 0 0 4096 k4.1 0 0:=Ga (by unfold k4;rfl) qd.2.2.2 aB
theorem DR:KN (dP rj bB) 0 1 0 0 4160 k6.1 0 0:=Ga (by unfold k6;rfl) oY.2.2.2.2 aB
theorem B7:KN (dP k6.1 cB) 0 1 0 0 4224 k7.1 0 0:=Ga (by unfold k7;rfl) rz.2.2.2 aB
theorem qM (o:QP σ0 U L H held s0 P gb km fm x qb Qq Qr qs rs q)(gc:Gc σ0)(hno:0<=x.no/\x.no<=100000){b:B5}{H1:Hw}(hw:KN H 0 0 56 16 0 H1 b.2.2.1 0)(hu:Kw H1 b.2.2.1=some b.2.2.2.1)(hb:b.1=b.2.2.1+16/\b.2.1=24/\b.2.2.2.2=x.no+1){R:Int->Int->Hp->Prop}
 (hR:∀w,QO σ0 U w L.p gb km fm qb (jW P gb km fm qb Qq Qr) {H1 with sp:=jT H1.sp b} (x.dZ b) q->R b.1 0 w):Wp.c (aW qb) 0 24 8 U R:=by
 refine EZ o gc hno 0 24 8 (λw A=>absurd A aB) (λe w H' _ m d=>?_) λc w H2 j d op z=>?_
 ·exact absurd (d.wR hw).2.2 m
 ·obtain⟨rfl,g,_⟩:=d.wR hw;have y:c=b:=by
   have i:=j.u;rw[g,hu]at i;have r:=j.a;rw[g]at r;exact Prod.ext (r.trans hb.1.symm) (Prod.ext (j.s.trans hb.2.1.symm) (Prod.ext g (Prod.ext (Option.some.inj i).symm (j.n.trans hb.2.2.symm))))
  subst y;exact hR w z
set_option maxRecDepth 16000 in
theorem GU (gl:Gl U)(gc:Gc U){R:aO}(hR:∀σ',aF U σ'->R true σ'):Xn.c U R:=by
 refine Xn.o ?_;unfold Xn.v;refine ι gl gc.gd λv L N e hsN hNv h0=>cD rfl ?_;have hn:=RR;have hc0:w0.cf.aG=64:=by have:=hn.pg;omega
 refine Iz e h0.cut hn.hi hn.cf O (λb hb=>⟨by have:N<=b:=hb.1;omega,hb.2⟩) (DU gl gc.gd) λw gb Z Y e1 _ p=>?_;refine Io p 2 1000 (λh=>absurd h aB) λ_ w1 e2 o=>?_;generalize w.size=qb at o;refine bX.intro (cD rfl (cD rfl ?_));refine qM (b:=gB) o gc ⟨by decide,by decide⟩ Cg Ed ⟨by decide,by decide,by decide⟩ λw2 a=>?_;obtain⟨L1,held1,s1,P1,Qq1,Qr1,qs1,rs1,o1,hp1, -, -⟩:=a;rw[←Sf]at o1;refine qM (b:=bB) o1 gc ⟨by decide,by decide⟩ Ch yg.2 ⟨by decide,by decide,by decide⟩ λw3 a=>?_;obtain⟨L2,held2,s2,P2,Qq2,Qr2,qs2,rs2,o2,kr, -, -⟩:=a;rw[←Mz]at o2;refine qM (b:=cB) o2 gc ⟨by decide,by decide⟩ Cb xL.2 ⟨by decide,by decide,by decide⟩ λw4 a=>?_;obtain⟨L3,r,s3,P3,Qq3,Qr3,qs3,rs3,o3,hp3, -, -⟩:=a;rw[←Og]at o3;have o3:QP U w4 L3 uG r s3 P3 gb Z Y kX qb Qq3 Qr3 qs3 rs3 q0:=o3;show Wj.c (aW qb) 0 4112 w4 _;refine H9 o3 gc (po (λe he=>by simp at he) aB) aB aB 0 ⟨by decide,by decide⟩ (λw h=>absurd Dm h) λw5 b H1 x1 u d _ m a=>?_;rw[qW.1]at d;cases d;obtain⟨rfl,rfl,rfl⟩:=m.l0 aB;obtain⟨L5,x,s5,P5,Qq5,Qr5,qs5,rs5,o5,hp5, -, -⟩:=a;rw[←Nl]at o5;have o5:QP U w5 L5 uc x s5 P5 gb Z Y kX qb Qq5 Qr5 qs5 rs5 q1:=o5;refine bX.intro (cD rfl ?_);show Wj.c (aW qb) 0 4176 w5 _;refine H9 o5 gc (po aB aB) aB aB 0 ⟨by decide,by decide⟩ (λw h=>absurd Cc h) λw6 b H1 x1 u d _ m a=>?_;rw[qW.2.1]at d;cases d;obtain⟨rfl,rfl,rfl⟩:=m.l0 aB;obtain⟨L6,y,s6,P6,Qq6,Qr6,qs6,rs6,o6,hp6, -, -⟩:=a;rw[←Rz]at o6;have o6:QP U w6 L6 sE y s6 P6 gb Z Y kX qb Qq6 Qr6 qs6 rs6 q2:=o6;refine bX.intro (cD rfl ?_);refine As o6 λsl w7 Q7 e7 hs7 hQ7=>?_;have o7:=o6.fr e7;refine nw (cs:=[.int .i64 4112,.int .i64 4176]) λw8 hz8 e8 b8=>?_;have o8:=o7.fr e8;have hs8:=aI.bP hs7 e8;have ht8:cV ⟨some ⟨w7.size,0,none⟩,2,2⟩ 1 (Wy [4112,4176]) w8 (· = w7.size):=b8.fW rfl rfl λj hj=>by rw[zH];rfl
 refine Ex (bT.fW hs8) ht8 aB ?_;refine bX.intro (cD aB ?_);refine IF o8 λw9 e9=>?_;have o9:=o8.fr e9;refine bX.intro (cD aB ?_);show Wj.c (aW qb) 0 4112 w9 _;refine H9 o9 gc (po aB aB) aB aB 0 ⟨by decide,by decide⟩ (λw10 _ e10=>?_) λw b H1 x1 u d h=>by rw[pV.1]at h;exact absurd h aB
 rw[pV.1];have gA:=o9.fr e10;refine cD aB ?_;show WG.c (aW qb) 4112 w10 _;refine EL gA (po aB aB) 4112 aB (λw11 _ e11=>?_) (λe w h=>by rw[pV.2.2]at h;cases h) λw h=>by rw[pV.2.2]at h;cases h
 have o11:=gA.fr e11;refine bX.intro (cD aB ?_);show Wj.c (aW qb) 0 4240 w11 _;refine H9 o11 gc (po aB aB) aB aB 0 ⟨by decide,by decide⟩ (λw h=>absurd pV.2.1 h) λw12 b H1 x1 u d _ m a=>?_;rw[qW.2.2]at d;cases d;rw[←MJ]at m;obtain⟨H2,x2,q2',fr,m⟩:=m.nu aB;obtain⟨rfl,rfl,rfl⟩:=fr.ua (b:=gB) rfl qW.1 qd.1 qd.2.1 CG;obtain⟨rfl,rfl,rfl⟩:=m.l0 (by rw[zC qd.2.2.1];decide);rw[zC qd.2.2.1]at a;obtain⟨L12,g,s12,P12,Qq12,Qr12,A,Q,i,C, -, -⟩:=a;have i:QP U w12 L12 k4.1 g s12 P12 gb Z Y vf qb Qq12 Qr12 A Q q4:=i;refine bX.intro (cD rfl ?_);refine As i λsl F Q13 e13 M hQ13=>?_;have o13:=i.fr e13;refine nw (cs:=[.int .i64 4176,.int .i64 4240]) λw14 hz14 W b14=>?_;have X:=o13.fr W;have E:=aI.bP M W;have G:cV ⟨some ⟨F.size,0,none⟩,2,2⟩ 1 (Wy [4176,4240]) w14 (· = F.size):=b14.fW rfl rfl λj hj=>by rw[zH];rfl
 refine Ex (bT.fW E) G aB ?_;refine bX.intro (cD aB ?_);have hp:L.p=L12.p:=by rw[C,hp6,hp5,hp3,kr,hp1]
 rw[hp];refine X.p.write gc 4176 3 aB λw15 s15 P15 e15 p15 J=>?_;have D:=X.eV (e15.sub λc hc=>.inl hc) p15 J;rw[D5];rw[←Φ]at D;refine cD aB ?_;refine HG D gc (OR aB aB) 0 (λw h=>absurd oY.1 h) λw16 H3 x3 q3' _ s a=>?_;obtain⟨H4,x4,q4',fr,s⟩:=s.nu aA;obtain⟨rfl,rfl,rfl⟩:=fr.ua (b:=bB) rfl Nh oY.2.1 oY.2.2.1 DR;rw[oY.2.2.2.1]at s;obtain⟨H5,x5,q5',fr,s⟩:=s.nu aA;obtain⟨rfl,rfl,rfl⟩:=fr.ua (b:=cB) rfl WoP rz.1 rz.2.1 B7;rw[zC rz.2.2.1]at s;obtain⟨rfl,rfl,rfl⟩:=s.l0 rfl;obtain⟨L16,aa,PT,P16,Qq16,Qr16,qs16,rs16,H,hp16, -, -⟩:=a;refine bX.intro (cE aB (bX.intro (cE rfl ?_)));refine Hx H λsl S Q17 e17 B hQ17=>?_;have o17:=H.fr e17;refine nw (cs:=[.int .i64 4176,.int .i64 4176]) λK hz18 V b18=>?_;have o18:=o17.fr V;have z:=aI.bP B V;have P:cV ⟨some ⟨S.size,0,none⟩,1,1⟩ 2 (gQ [(4176,4176)]) K (· = S.size):=b18.fW rfl rfl λj hj=>by rw[zH];rfl
 refine LU (bT.fW z) P aB (λ_=>?_) rfl;exact hR K o18.p.e
end Go.Ar
namespace Go.Ar
open Go Go.Vc Go.Proofs
open Go.Vc (bU dA cN)
variable {thread:Int}{U σ0 v w w':Hp}{F P Q X T T' Tc Qa Qf:Rg}{L:dE}{H H' H1:Hw}{held:List Pc}{s0 sp:Sp}{t n:Nat}{gb km fm m pp xb:Nat}{x y x':Gu}{b:B5}{qb:Nat}{Qq Qr:Rg}{qs rs addrs fl l:Sl}{ad fd:List Int}{q q':Qu}{ds:List eW}{bl by':Int}
set_option maxRecDepth 8000 in
theorem TN (e00:aF σ0 U)(gl:Gl σ0)(gc:Gc σ0)(b b1 b2 b3 b4 b5 WW bytes:Int){R:Option Addr->Hp->Prop}(h0:∀σ',aF U σ'->R none σ')
 (h1:∀σ' xb pp gb km fm qb T H x q addrs fl,OQ σ0 σ' xb pp gb km fm qb T (λ_=>False) (λ_=>False) H x q addrs [] fl []->AQ WW bytes H x q [] []->x.no=0->q.q=[]->aF U σ'->R (some ⟨xb,0,none⟩) σ'):X7.c b b1 b2 b3 b4 b5 WW bytes U R:=by
 refine X7.o ?_;unfold X7.v;refine nw (cs:=[.int .i64 b,.int .i64 b1,.int .i64 b2,.int .i64 b3,.int .i64 b4,.int .i64 b5]) λv hz e a=>a.rI rfl (a.rI rfl (a.rI rfl (a.rI rfl (a.rI rfl (a.rI rfl (Xa.o ?_))))));unfold Xa.v;refine nw (cs:=[.int .i64 b,.int .i64 b1,.int .i64 b2,.int .i64 b3,.int .i64 b4,.int .i64 b5]) λX M e1 z=>z.fD rfl ?_;have d:=e.trans e1;have i:=e1.bV a id;refine cP (λ_=>h0 X d) λE=>?_;refine i.rI rfl (i.rI rfl (i.rI rfl (i.rI rfl (i.rI rfl (i.rI rfl ?_)))));refine Pa (gl.bP (e00.trans d)) (gc.bP (e00.trans d)).gd b b1 b2 b3 b4 b5 (λA e2=>cE rfl (h0 A (d.trans e2))) λA L0 N H0 e2 K J V m=>cD rfl ?_;have s:=(e00.trans d).trans e2;have G:=(e00.trans d).1;refine Iz s V.cut m.hi m.cf (by have:=m.pg;omega) (λb a=>⟨by have:N<=b:=a.1;omega,a.2⟩) (DU gl gc.gd) λw gb km fm S Z p=>?_;have E3:=(d.trans e2).trans (p.e.trans (Ext.refl _ _) |> λ_=>S);refine Io p WW bytes (λ_=>bX.intro (cE rfl (cE rfl (h0 w E3)))) λD Y W o=>bX.intro (cD rfl (cD rfl ?_));generalize hqb:w.size=qb at o;refine nw (cs:=Aw L0.p qb ⟨none,0,0⟩ ⟨none,0,0⟩) λC L B y=>?_;have o5:=o.fr B;have P:QB σ0 C L0.p gb km fm qb _ H0 oT ⟨WW,bytes,[],[]⟩:=⟨L0,_,_,_,_,_,_,_,o5,rfl,rfl⟩;have u:=o.p.e.1;have Q:dR H0 oT:=⟨by rw[m.live];rfl,λe r=>by simp[oT]at r,λj=>by
  unfold fE;cases hj:H0.bR[j]? with
  | none=>rfl
  | some g=>exact m.ph g (zG hj),λe r=>by simp[oT]at r,by simp[oT]⟩
 refine h1 C Y.size L0.p gb km fm qb _ H0 oT ⟨WW,bytes,[],[]⟩ _ _ ⟨P,y,⟨rfl,.inl ⟨rfl,rfl⟩⟩,⟨rfl,.inl ⟨rfl,rfl⟩⟩,⟨u,λF=>?_,id,id⟩,λb a=>a.elim,λb a=>a.elim,λb a=>a.elim⟩ ⟨⟨Q,λe r=>by simp at r,by simp⟩,by simp[oT],by simp[oT],rfl,?_,⟨[],rfl⟩,rfl,m.th,rfl,rfl⟩ rfl rfl ((E3.trans W).trans B)
 ·have:=Lg o F;omega
 ·unfold Hj;rw[AN];exact⟨zL aE,zL (by simp[iC];omega)⟩
structure PQ (σ0 U:Hp) (WW bytes:Int) (n:Nat) (xb pp gb km fm qb:Nat) (T Qa Qf:Rg) (H:Hw) (x:Gu) (q:Qu) (addrs:Sl) (ad:List Int) (fl:Sl) (fd:List Int):Prop where
 o:OQ σ0 U xb pp gb km fm qb T Qa Qf H x q addrs ad fl fd
 al:AQ WW bytes H x q ad fd
 no:x.no<=n
 fn:fd.length<=n
theorem PQ.oK (p:PQ σ0 U bl by' n xb pp gb km fm qb T Qa Qf H x q addrs ad fl fd)(e:aF U w):PQ σ0 w bl by' n xb pp gb km fm qb T Qa Qf H x q addrs ad fl fd:=⟨p.o.oK e,p.al,p.no,p.fn⟩
theorem PQ.AX (p:PQ σ0 U bl by' n xb pp gb km fm qb T Qa Qf H x q addrs ad fl fd)(hn:n<=1000):QS x q:=p.al.qs p.o.p.qi (by have:=p.al.nl;have:=p.no;omega)
theorem PQ.T5 (p:PQ σ0 U bl by' n xb pp gb km fm qb T Qa Qf H x q addrs ad fl fd)(gc:Gc σ0)(hn:n<=900)(d:eW)(di:kU d){R:aN}
 (hR:∀e w T' H' x' q' Qa' Qf' addrs' fl' add del,PQ σ0 w bl by' (n+1) xb pp gb km fm qb T' Qa' Qf' H' x' q' addrs' (ad++Option.toList add) fl' (fd++Option.toList del)->jQ H x q d (tH ad d) H' x' q' e add del->Ext (qz T xb Qa Qf) U w->(∀b,qz T' xb Qa' Qf' b->qz T xb Qa Qf b\/U.size<=b)->R e w) :
 Xq.c (aW xb) d.kd d.th d.a d.b d.of d.pl d.va d.s U R:=by
 have n0:=p.al.n0;have nl:=p.al.nl;have r:=p.no;have y:=p.fn;have A:=p.al.ql p.o.p.qi;refine LR p.o gc (p.AX O) ⟨n0,O⟩ O (by rw[p.al.rs,lf];omega) O O d di λe w T' H' x' q' Qa' Qf' addrs' fl' add del z out m u=>?_;obtain⟨i,s0,hi⟩:=p.o.p.hi;obtain⟨g,j⟩:=p.al.out hi p.o.p.cf p.o.p.qi out;refine hR e w T' H' x' q' Qa' Qf' addrs' fl' add del ⟨z,g,O,?_⟩ out m u;rw[zK];cases del<;>simp<;>omega
theorem PQ.mono {k:Nat}(p:PQ σ0 U bl by' n xb pp gb km fm qb T Qa Qf H x q addrs ad fl fd)(h:n<=k):PQ σ0 U bl by' k xb pp gb km fm qb T Qa Qf H x q addrs ad fl fd:=⟨p.o,p.al,by have:=p.no;omega,by have:=p.fn;omega⟩
set_option maxRecDepth 8000 in
theorem LX (gl:Gl U)(gc:Gc U)(b b1 b2 b3 b4 b5 WW bytes:Int)(hd:jF U l ds)(most:Int)(hmost:most<=60){R:Option Addr->Hp->Prop}(h0:∀σ',aF U σ'->R none σ')
 (h1:∀σ' xb pp gb km fm qb T Qa Qf H x q addrs ad fl fd,PQ U σ' WW bytes 60 xb pp gb km fm qb T Qa Qf H x q addrs ad fl fd->R (some ⟨xb,0,none⟩) σ'):X6.c b b1 b2 b3 b4 b5 WW bytes l most U R:=by
 refine X6.o ?_;unfold X6.v;have S:=hd.len;have B:=hd.y5;refine nw (cs:=[.int .i64 b,.int .i64 b1,.int .i64 b2,.int .i64 b3,.int .i64 b4,.int .i64 b5]) λv Z e s=>NR (cP (λ_=>h0 v e) λM=>?_);refine s.rI rfl (s.rI rfl (s.rI rfl (s.rI rfl (s.rI rfl (s.rI rfl ?_)))));refine TN (σ0:=U) e gl gc b b1 b2 b3 b4 b5 WW bytes (λC e1=>cE rfl (h0 C (e.trans e1))) λC xb pp gb km fm qb T H x q addrs fl o D K F e1=>cD rfl ?_;refine Qz (a:=bO) (λ(z:Int) u=>∃(i:Nat) (T Qa Qf:Rg) (H:Hw) (x:Gu) (q:Qu) (addrs:Sl) (ad:List Int) (fl:Sl) (fd:List Int),z=i/\i<=ds.length/\PQ U u WW bytes i xb pp gb km fm qb T Qa Qf H x q addrs ad fl fd) (λz _=>ds.length-z.toNat)
  ⟨0,T,_,_,H,x,q,addrs,[],fl,[],rfl,O,⟨o,D,O,by simp⟩⟩ ?_
 rintro(z:Int) u ⟨i,T,Qa,Qf,H,x,q,addrs,ad,fl,fd,rfl,hi,p⟩;have j:=p.o.p.e;refine cP (λN=>?_) λL=>h1 u xb pp gb km fm qb T Qa Qf H x q addrs ad fl fd (p.mono O);have w:ds[i]?=some (ds[i]' O):=cW _;generalize (ds[i]' O)=d at w;have A:=hd.i _ (zG w);refine hd.rd j w λX V r=>eB (r _ j 0 _ rfl) (eB (r _ j 1 _ rfl) (eB (r _ j 2 _ rfl) (eB (r _ j 3 _ rfl) (eB (r _ j 4 _ rfl) (eB (r _ j 5 _ rfl) (eB (r _ j 6 _ rfl) (B1 (r _ j 7 _ rfl) ?_)))))));exact p.T5 gc O d A λP W T' H' G J Qa' Qf' g y add del E out Q Y=>cT (m:=i+1) O O ⟨⟨i+1,T',Qa',Qf',H',G,J,g,_,y,_,rfl,O,E⟩,O⟩
end Go.Ar
namespace Go.Proofs
open Go.Vc
set_option maxRecDepth 100000
end Go.Proofs
namespace Go.Ar
open Go Go.Vc Go.Proofs
open Go.Vc (bU dA cN)
variable {thread a bl by':Int}{U σ0 v w w':Hp}{F P Q X T T' Tc Qa Qf:Rg}{L:dE}{H H' H1:Hw}{held:List Pc}{s0 sp:Sp}{t n:Nat}{gb km fm m pp xb:Nat}{x y x':Gu}{b:B5}{qb:Nat}{Qq Qr:Rg}{qs rs addrs fl l:Sl}{ad fd:List Int}{q q':Qu}{ds:List eW}
theorem KQ.free (kq:KQ W0 H x q.q)(hi:HI H held s0)(cf:iT H)(hm:bU x.kn a=some b)(hf:mY H x q thread a=0)(ov:iL thread (dP H b) x {q with q:=q.q++[(a,b.2.1)]} H' x' q') :
 n4 W0 thread (dP H b) x {q with q:=q.q++[(a,b.2.1)]} H' x' q'/\Hj q'=false/\∀e∈x.kn,e.1≠a->Kept H x (dP H b) x e:=by
 obtain⟨w,m⟩:=Jg hm hf;have i:=ZY hm;obtain⟨y,z,C⟩:=kq.g.FN hi i;obtain⟨s1,j⟩:∃s1,HI (dP H b) held s1:=HI.iF _ _ hi;have r:KQ W0 (dP H b) x (q.q++[(a,b.2.1)]):=by
  have D:=kq.step hi j y λe d s=>z e d λh=>m (h▸s);refine⟨y,λe d=>?_,?_⟩
  ·rcases zM.1 d with d|d
   ·exact D.k e d
   ·rw[zN]at d;subst d;exact⟨b,hm,rfl,C⟩
  ·rw[zo,nf];refine⟨kq.nd,by simp,λu B c A=>?_⟩;simp only[zR,oL,zN]at A;subst A;exact λh=>m (h▸B)
 obtain⟨st,p⟩:=ov.st r j cf w;exact⟨st,p,z⟩
theorem KQ.mY {lq:List P2}(kq:KQ W0 H x lq)(hi:HI H held s0)(hrd:ZG H thread=0)(hm:(a,b)∈x.kn)(hnq:a∉q.q.map (·.1)):mY H x q thread a=0:=by
 unfold Go.Ar.mY;rw[zB (by rw[hrd];decide),zB hnq,Qe kq.g.nd hm];simp only;rw[kq.g.lost hi hm,kq.g.broken hi hm];rfl
theorem KQ.AX (kq:KQ W0 H x q.q)(hk:x.kn.length<=1000)(hr:q.rs.length+q.q.length<=9000):QS x q:=⟨kq.g.i,O,λe d=>by
 obtain⟨b,a,_,_⟩:=kq.k e d;have h:e.1=b.1/\gK b:=kq.g.i _ (ZY a);have j:=h.1;have r:=h.2.z;have u:=h.2.base;have y:=h.2.t;have p:=h.2.m;have A:=h.2.s;have w:=ZE (n:=b.2.1) O;unfold jx;omega,hr⟩
theorem PQ.drain (p:PQ σ0 U bl by' n xb pp gb km fm qb T Qa Qf H x q addrs ad fl fd)(gc:Gc σ0)(hn:n<=900){R:Int->Int->Hp->Prop}
 (hR:∀w T' H' x' q',PQ σ0 w bl by' (n+1) xb pp gb km fm qb T' Qa Qf H' x' q' addrs ad fl fd->iE 0 H x q H' x' q'->q'.q=[]->R (q.q.length:Int) 0 w):Wx.c (aW qb) 0 U R:=by
 have b:=p.al.ready;obtain⟨m,D,hi⟩:=p.o.p.hi;have i:=p.o.p.cf;have j:=p.o.p.qi;have G:=p.o.p;have E:=p.AX O;obtain⟨L,u,s0,P,Qq,Qr,qs,M,J,rfl,rfl⟩:=G;refine HG J gc E 0 (λw h=>absurd b h) λw H' x' q' _ s F=>?_;obtain⟨T',A,y,C⟩:=F.tb;obtain⟨g,z⟩:=p.al.out (d:=⟨42,0,0,0,0,0,0,.empty⟩) (a:=0) hi i j (.drain rfl b s);have r:=s.st p.al.kq hi i b;refine hR w T' H' x' q' ⟨p.o.eV y A C,?_,by have:=p.no;omega,by have:=p.fn;omega⟩ s r.2;have K:ad++Option.toList (none:Option Int)=ad:=by simp
 have B:fd++Option.toList (none:Option Int)=fd:=by simp
 rw[K,B]at g;exact g
theorem Sr (z:Int)(h0:0<=z)(h1:z<=1000000){R:aN}(hR:R (Yd z) U):Y6.c z U R:=by
 refine Y6.o ?_;unfold Y6.v;refine ar O O (ar O O (nz aB (ar (by rw[Ye O];omega) (by rw[Ye O];omega) ?_)));rw[Ye O];refine ar O O ?_;have:(z+8-1)/8*8=Yd z:=by unfold Yd;omega
 rw[this];exact hR
theorem Nu (p:GP σ0 U L H held s0 P gb km fm x)(g:dR H x){k:Int×B5}(hk:k∈x.kn){R:Int->Int->Int->Int->Int->Hp->Prop}(hR:∀w,aF U w->R k.2.1 k.2.2.1 k.2.2.2.1 k.2.2.2.2.1 0 w):Yt.c (aW gb) k.1 U R:=by
 have b:=g.i k hk;have K:=b.1;have F:=b.2.s;refine MO p g.i k.1 (λw A u=>?_) λd w A j r=>?_
 ·exact absurd ⟨O,by show k.1<k.2.1+k.2.2.1;omega⟩ (u k hk)
 ·have m:d=k:=by
   have a:=g.i d j;obtain⟨M,y⟩:=r;have y:k.1<d.2.1+d.2.2.1:=y;have N:=ZE (n:=k.2.2.1) O;have B:=a.2.s;have J:=ZE (n:=d.2.2.1) O;have D:=b.2.z;have E:=b.2.t;have C:=a.2.z;have G:=a.2.t;exact g.apart p.hi j hk (z:=k.1) O O O O
  subst m;exact hR w A
end Go.Ar
namespace Go.Proofs
open Go.Vc
set_option maxRecDepth 100000
end Go.Proofs
namespace Go.Ar
open Go Go.Vc Go.Proofs
open Go.Vc (bU dA cN)
variable {a bl by':Int}{U σ0 v w w':Hp}{F P Q X T T' Qa Qf:Rg}{H H' H1:Hw}{held:List Pc}{s0 sp:Sp}{x y x':Gu}{b:B5}{l:Sl}{ds:List eW}{q q':Qu}{n xb pp gb km fm qb:Nat}{addrs fl:Sl}{ad fd:List Int}{d:eW}{e:Int}{add del:Option Int}
theorem iE.nil {thread:Int}(h:iE thread H x q H' x' q'):q'.q=[]:=by
 induction h with
 | stop h=>exact h
 | next _ _ ih=>exact ih
theorem jQ.order (o:jQ H x q d a H' x' q' e add del)(h:d.kd≠42)(hd:del=none):q'=q:=by
 cases o with
 | same=>rfl
 | full=>rfl
 | dZ=>rfl
 | mc=>cases hd
 | drain hk=>exact absurd hk h
 | wrote=>rfl
end Go.Ar
namespace Go.Proofs
open Go.Vc
set_option maxRecDepth 100000
def WV.h:Hn:=.q .o2 (.q .o6 (.q (.q (.cU (.seq [.op,.op,.op,.cX false 7 (RI.ops 7),.op,.cX false 2 [.op,.op]])) .aJ) (.q (.cU (.held true [] (.tk [0,1,2,3,5,6,7,8] (.all [(4,.all [(9,.tk [10,11,12] (.done))])])))) (.q .o9 (.q (.o 13) (.q (.q (.cU (.seq [.op,.op,.op,.cX false 2 [.op,.op]])) .aK) (.q (.o 11) (.q (.q .o8 .aK) (.q .gA (.q .o6 (.q (.cU (.seq [.op,.op,.op,.op,.op,.cX true 2 [.op,.op],.op,.cX true 3 (RI.ops 3),.op,.cX true 7 (RI.ops 7),.op,.cX true 1 [.op],.op])) .l)))))))))))
def WV.v (a b c d e f g h:Int)(i:Sl)(j k l:Int)(m:Hp)(n:aO):Prop:=aV #[.I a,.I b,.I c,.I d,.I e,.I f] 25 m λo p=>aQ o 0 p λq=>aQ o 1 p λr=>aQ o 2 p λs=>aQ o 3 p λt=>aQ o 4 p λu=>aQ o 5 p λv=>X6.c q r s t u v g h i 40 p λw x=>bX (λy z=>bX (λaa ab=>If aa (Xn.c ab λac ad=>n ac ad) (dY ab λae=>bW w λaf=>aU ae af 1 λag=>bW w λah=>aU ae ah 1 λai=>Wz.c ag ab λaj ak=>And (ae ak) <| Ww.c ai ak λal am=>And (ae am) <| bM j λan=>Nz ((aj.len:Nat):Int) <| Ix aj.a aj.len (an.tmod ((aj.len:Nat):Int)) 1 λao=>bN ao am λap=>bG w 1 am λar=>WO.c ar am λau av=>Yt.c au ap av λaw ax ay az a0 a1=>aV #[.I 0,.I 0,.I 0,.I 0] 48 a1 λa2 a3=>aR a2 0 (.I aw) a3 λa4=>aR a2 1 (.I ax) a4 λa5=>aR a2 2 (.I ay) a5 λa6=>aR a2 3 (.I az) a6 λa7=>bX (λa8 a9=>If a8 (n false a9) (bM k λba=>aQ a2 1 a9 λbb=>Y6.c bb a9 λbc bd=>Nz 8<|bM (bc.tdiv 8) λbe=>Nz be <| bM (8*(ba.tmod be)) λbf=>bM (ap+bf) λbg=>bG w 0 bd λbi=>Xr.c bi bg l bd λbj bk=>If (bj != 0) (n false bk) (bG w 1 bk λbm=>Wx.c bm 0 bk λbn bo bp=>bG w 1 bp λbr=>Ww.c br bp λbs bt=>bX (λbu bv=>bX (λbw bx=>bX (λbz b0=>bX (λb1 b2=>n b1 b2) λb3=>If bz (Xn.c b0 λb4 b5=>b3 b4 b5) (b3 false b0)) λb6=>
 If bw (Ix bs.a bs.len 0 2 λb7=>aQ b7 0 bx λb8=>aQ b7 1 bx λb9=>b6 ((b8==ap)&&((b9==bg)&&true)) bx) (b6 false bx)) λca=>If bu (ca (((bs.len:Nat):Int)==1) bv) (ca false bv)) λcb=>If (bn==((aj.len:Nat):Int)) (cb (bo==0) bt) (cb false bt)))) λcc=>If (a0 != 0) (cc true a7) (cc (((al.len:Nat):Int) != 0) a7))) λcd=>If y (cd true z) (cd (l==(-1234567)) z)) λce=>If w.isNone (ce true x) (bG w 1 x λcg=>Wz.c cg x λch ci=>ce (((ch.len:Nat):Int)==0) ci)
theorem WV.o {a b c d e f g h i j k l m n}(o:WV.v a b c d e f g h i j k l m n):WV.c a b c d e f g h i j k l m n:=Wa Tryz.func6 (x:=WV.h) (R0 o)
end Go.Proofs
namespace Go.Ar
open Go Go.Vc Go.Proofs
open Go.Vc (bU dA cN)
variable {a:Int}{U σ0 v w w':Hp}{F P Q X T T' Qa Qf Qq Qr:Rg}{L:dE}{H H' H1:Hw}{held:List Pc}{s0 sp:Sp}{x y x':Gu}{b:B5}{l:Sl}{ds:List eW}{q q':Qu}{n xb pp gb km fm qb:Nat}{addrs fl qs rs:Sl}{ad fd:List Int}
theorem Gb {α:Type}[DecidableEq α]{p:α->Bool}{z:α}:∀{l:List α},l.Nodup->z∈l->(∀u∈l,p u=decide (u=z))->l.filter p=[z]
 | [],_,h,_=>by simp at h
 | y::l,hn,h,hp=>by
  rw[zj]at hn;by_cases hy:y=z
  ·subst hy;rw[uf (by rw[hp y lW];simp),Bf.2 λu hu=>?_];rw[hp u (lg _ hu),decide_eq_true_iff];exact λe=>hn.1 (e▸hu)
  ·rw[tM (by rw[hp y lW];simpa using hy)];exact Gb hn.2 ((zW.1 h).resolve_left λe=>hy e.symm) λu hu=>hp u (lg _ hu)
theorem WeU (b:B5):(XC b).Nodup:=by
 unfold XC;rw[List.nodup_iff_pairwise_ne,rp];exact(List.nodup_iff_pairwise_ne.1 List.nodup_range).imp λh e=>h O
theorem KQ.use (kq:KQ W0 H x q.q)(hi:HI H held s0){e:P2}(he:e∈q.q)(hm:bU x.kn e.1=some b){z value:Int}(hz:z∈XC b)(hv:value≠Ui):KQ (λa=>if a=e.1 then[z]else[]) {H with sp:=Zm H.sp z value} x q.q:=by
 have s:(e.1,b)∈x.kn:=ZY hm;obtain⟨r,D,B⟩:=kq.g.write hi s hz (v:=value);obtain⟨s1,j⟩:∃s1,HI {H with sp:=Zm H.sp z value} held s1:=HI.iF (λ_=>value) [z] hi;refine⟨r,λc C=>?_,kq.nd⟩;obtain⟨y,d,A,w⟩:=kq.k c C;refine⟨y,d,A,?_⟩;by_cases hce:c.1=e.1
 ·rw[zC hce];rw[hce,hm]at d;cases d;unfold qE;refine Gb (WeU b) hz λu m=>?_;rw[r.acc j s (.inr m)];show((0:Int) != 0||QY (Zm H.sp z value) u != Ui)=_;rw[B u m];by_cases huz:u=z
  ·rw[zC huz];simp[huz,hv]
  ·rw[zB huz];unfold qE at w;have p:=Bf.1 w u m;rw[kq.g.acc hi s (.inr m)]at p;simp at p;simp[huz,p]
 ·rw[zB hce];have i:(c.1,y)∈x.kn:=ZY d;refine Eq.trans ?_ w;exact F2 kq.g r hi j i (D _ i λh=>hce (Prod.mk.inj h).1)
theorem IC {c z:Int}:∀{l:List P2},(l.map (·.1)).Nodup->c∈l.map (·.1)->iZ (λa=>if a=c then[z]else[]) l=[(c,z)]
 | [],_,h=>by simp at h
 | e::l,hn,h=>by
  rw[zR,zj]at hn;have none:∀{l:List P2},c∉l.map (·.1)->iZ (λa=>if a=c then[z]else[]) l=[]:=λ{l} d=>by
   unfold iZ;rw[List.flatMap_eq_nil_iff];intro k hk;have:k.1≠c:=λe=>d (zE.2 ⟨k,hk,e⟩);simp[this]
  by_cases hc:e.1=c
  ·subst hc;have:=none hn.1;unfold iZ at this ⊢;rw[nY,this];simp[kI]
  ·have b:=IC (z:=z) hn.2 ((zW.1 h).resolve_left λe=>hc e.symm);unfold iZ at b ⊢;rw[nY,b];simp[hc]
set_option maxRecDepth 16000 in
theorem Ta (gl:Gl U)(gc:Gc U)(b b1 b2 b3 b4 b5 WW bytes:Int)(hd:jF U l ds){which word:Int}(hwh:0<=which/\which<=255)(hwd:0<=word/\word<=255)(value:Int){R:aO}(hR:∀σ',aF U σ'->R true σ'):WV.c b b1 b2 b3 b4 b5 WW bytes l which word value U R:=by
 refine WV.o ?_;unfold WV.v;refine nw (cs:=[.int .i64 b,.int .i64 b1,.int .i64 b2,.int .i64 b3,.int .i64 b4,.int .i64 b5]) λv hz e Y=>Y.rI rfl (Y.rI rfl (Y.rI rfl (Y.rI rfl (Y.rI rfl (Y.rI rfl ?_)))));have B:=gl.bP e;have a:=gc.bP e;refine LX B a b b1 b2 b3 b4 b5 WW bytes (hd.bP e) 40 aB (λv1 e1=>?_) λv1 xb pp gb km fm W T Qa Qf H x q addrs ad fl fd p=>?_
 ·exact bX.intro (cE rfl (bX.intro (cE rfl (cE rfl (GU (B.bP e1) (a.bP e1) λv2 e2=>hR v2 ((e.trans e1).trans e2))))))
 have E1:=p.o.p.e;obtain⟨L0,hh0,s00,P0,Qq0,Qr0,qs0,rs0,N,d,aa⟩:=p.o.p;have aw:∀u,aF v1 u->Xn.c u R:=λu K=>GU (B.bP (E1.trans K)) (a.bP (E1.trans K)) λv2 e2=>hR v2 ((e.trans (E1.trans K)).trans e2);refine KD (λr u=>aF v1 u/\(r=false->q.q≠[])) (λr u ⟨K,hr⟩=>?_) λJ hJ=>cD rfl (bL (p.o.b.rP rfl (As N λP v3 Qb L D hQb=>hJ _ _ ⟨L,λh hq=>?_⟩)))
 rotate_left
 ·have:=D.1;rw[hq]at this;simp[Wy]at this;simp[←this]at h
 refine KD (λr w=>w=u/\(r=false->q.q≠[]/\value≠Ui)) (λr w ⟨hw,hr⟩=>?_) λJ hJ=>cO (λh=>hJ _ _ ⟨rfl,λh=>by cases h⟩) λh=>hJ _ _ ⟨rfl,λh'=>⟨hr h,by simpa[Ui]using h'⟩⟩;subst hw;refine cO (λ_=>aw w K) λhrf=>?_;obtain⟨hne,hval⟩:=hr hrf;have pu:=p.oK K;have F:=N.fr K;have hrl:=(F.fr (Ext.refl _ _)).rr.jn;refine⟨λm=>aF w m,Ext.refl _ _,bL (gM (c:=.p) (y:=some ⟨W,0,none⟩) (λm e=>e.bV pu.o.b id) rfl (bL (gM (c:=.p) (y:=some ⟨W,0,none⟩) (λm e=>e.bV pu.o.b id) rfl (As F λP v5 Qb L D hQb=>⟨L,Hx (F.fr L) λsr v6 Qr6 e6 hsr _=>⟨L.trans e6,?_⟩⟩))))⟩;have hsl:P.len=q.q.length:=by have:=D.1;simp[Wy]at this;omega
 have hql:=p.al.ql N.i;have hpos:=oa.2 hne;have Z:sr.len=0:=by rw[hsr.jn,p.al.rs];rfl
 have hmod:which%(P.len:Int)<(P.len:Int):=Dd which O;have hmod0:0<=which%(P.len:Int):=Int.emod_nonneg which O;refine ar O O (nz O ?_);rw[Q1 hwh.1];obtain⟨i,hi⟩:∃i:Nat,which%(P.len:Int)=(i:Int):=⟨(which%(P.len:Int)).toNat,O⟩;rw[hi];have hx:q.q[i]?=some (q.q[i]' O):=cW _;generalize (q.q[i]' O)=ee at hx;have S:=zG hx;obtain⟨bk,hm,_,_⟩:=p.al.kq.k ee S;have hk:(ee.1,bk)∈x.kn:=ZY hm;have hx1:(q.q.map (·.1))[i]?=some ee.1:=by rw[zZ,hx];rfl
 have g:=p.al.kq.g;have hab:ee.1=bk.1:=(g.i _ hk).1;have X:gK bk:=(g.i _ hk).2;have kb:=X.base;have kz:=X.z;have kt:=X.t;have km':=X.m;have ks:=X.s;have kw:=ZE (n:=bk.2.1) O;have V:(Yd bk.2.1).tdiv 8=Yd bk.2.1/8:=Ye O;have htd1 : -9223372036854775808<=(Yd bk.2.1).tdiv 8:=by rw[V];omega
 have htd2:(Yd bk.2.1).tdiv 8<=9223372036854775807:=by rw[V];omega
 have p6:=(pu.oK L).oK e6;have Q:=(F.fr L).fr e6;refine(bT.fW (aI.bP D e6)).lL hx1 (bL (p6.o.b.rP rfl (Ni Q (Nu (k:=(ee.1,bk)) Q.p g hk λv8 e8=>pZ λv9 e9 hb9=>?_))));have p9:=(p6.oK e8).oK e9;have E:=(Q.fr e8).fr e9;have E9:=(((K.trans L).trans e6).trans e8).trans e9;refine bX.intro (cD rfl (cD (by rw[Z];rfl) (ar O O (hb9.rI rfl (Sr _ (by show 0<=bk.2.1;omega) (by show bk.2.1<=_;omega) (nz aB (ar htd1 htd2 ?_)))))));dsimp only;rw[V];have hwn:(QA bk:Int)=Yd bk.2.1/8:=by unfold QA;omega
 have hwn1:1<=Yd bk.2.1/8:=by omega
 refine nz O ?_;rw[Q1 hwd.1];have hm1:=Dd word (b:=Yd bk.2.1/8) O;have hm0:=Int.emod_nonneg word (b:=Yd bk.2.1/8) O;obtain⟨j,hj⟩:∃j:Nat,word%(Yd bk.2.1/8)=(j:Int):=⟨(word%(Yd bk.2.1/8)).toNat,O⟩;rw[hj];refine ar O O (ar O O ?_);have A:ee.1+8*(j:Int)∈XC bk:=by
  unfold XC;exact zE.2 ⟨j,ze.2 O,by rw[hab]⟩
 have hzi:=Hi X A;generalize ee.1+8*(j:Int)=vw at A hzi;refine bL (p9.o.b.pY rfl ?_);rw[←d];refine E.p.write a vw value O λw2 s2 P2 e2 pw hP2=>?_;rw[g.acc E.p.hi hk (.inr A)];have C:=E.eV (e2.sub λc G=>.inl G) pw hP2;have kq2:=p.al.kq.use E.p.hi S hm A hval;have hTc:∀c,jW P2 gb km fm W Qq0 Qr0 c->T c\/v9.size<=c:=λc G=>by
  rw[aa];rcases G with(h|h)|h|h|h
  ·exact(hP2 c h).imp (λh=>.inl (.inl h)) id
  ·exact .inl (.inl (.inr h))
  ·exact .inl (.inr (.inl h))
  ·exact .inl (.inr (.inr (.inl h)))
  ·exact .inl (.inr (.inr (.inr h)))
 have eT2:Ext T v9 w2:=e2.sub λc G=>by rw[aa];exact .inl (.inl G)
 have o2:=p9.o.eV eT2 (⟨_,_,_,_,_,_,_,_,C,d,rfl⟩:QB v w2 pp gb km fm W _ _ x q) hTc;refine cD rfl (bL (o2.b.rP rfl ?_));have hrd:ZG {H with sp:=Zm H.sp vw value} 0=0:=p.al.ready;have hqs:QS x q:=p.AX aB;refine HG C a hqs 0 (λw h=>absurd hrd h) λw3 H' x' q' _ dr oo=>?_;obtain⟨st,ab⟩:=dr.st kq2 C.p.hi C.p.cf hrd;obtain⟨l1,hl1,_,hl3⟩:=st.sf;rw[ab,kE]at hl1;subst hl1;rw[p.al.rs,rH,IC p.al.kq.nd (zE.2 ⟨ee,S,rfl⟩)]at hl3;have oo:QO v w2 w3 pp gb km fm W (jW P2 gb km fm W Qq0 Qr0) H' x' q':=by rw[←d];exact oo
 obtain⟨T3,p3,eT3,hT3⟩:=oo.tb;have o3:=o2.eV eT3 p3 hT3;have hp3:=p3;obtain⟨L3,hh3,s03,P3,Qq3,Qr3,qs3,rs3,qp3,hpp3,_⟩:=hp3;refine bL (o3.b.rP rfl (Hx qp3 λs4 w4 Q4 e4 M _=>?_));rw[hl3]at M;have hs4l:=M.jn;have E4:aF v w4:=(p3.fr e4).e;refine bX.intro (cE (by rw[hsl];simp) (bX.intro (cE rfl (bX.intro (cE (by rw[hs4l];rfl) ?_)))));refine tu (i:=0) (bT.fW M) rfl λbb oo' G=>eB (G 0 _ rfl) (eB (G 1 _ rfl) ?_);refine bX.intro (cE aA (GU (B.bP E4) (a.bP E4) λv2 e2=>hR v2 ((e.trans E4).trans e2)))
end Go.Ar
namespace Go.Ar
open Go Go.Vc Go.Proofs Go.ChangeShapes Go.WideShapes Go.RowKit Go.Deep
theorem G7 {H:Type}{enc:TypeId×Value->H}{P:Program}{w:World}{base:Nat}{sp:Nat->Bool}{held:Bool}{fuel:Nat}{t:TypeId}{c:Value}{y:DataW H×List MemPlace}
 (ht:P.underlying t=some .bool) (h:DataW.trod enc P w base sp held fuel t [c]=some y):∃n,c=.bool n/\y=(.lit (.bool n),[]):=by
 cases fuel with
 | zero=>simp[DataW.trod]at h
 | succ fuel=>
  cases c<;>simp[DataW.trod,ht]at h
  rename_i n;exact⟨n,rfl,by simpa using h.symm⟩
theorem Da {P:Program}{w:World}{t:TypeId}{f0 f1:Field}{cs:Array Value}{fuel:Nat}{p:List MemPlace}{x y:Bool}(ht:P.underlying t=some (.struct #[f0,f1]))(hone:oneCellFields P #[f0,f1]=true)(hC:P.cellsOf t=2)
 (h0:P.underlying f0.type=some .bool) (h1:P.underlying f1.type=some .bool) (h:DataW.trod (λ_=>()) P w 0 (λ_=>true) false fuel t cs.toList=some (.agg [.lit (.bool x),.lit (.bool y)],p)):cs = #[.bool x,.bool y]:=by
 obtain⟨s,n,B,i,a,g,b⟩:=DataW.trod_struct ht h;obtain⟨l⟩:=cs;have d:l.length=2:=by rw[←hC];simpa using a
 match l,d with
 | [c0,c1],_=>
  have m:=b 0 f0 rfl;have j:=b 1 f1 rfl;obtain⟨u,q0⟩:=hone_of hone 0 f0 rfl;obtain⟨o1,q1⟩:=hone_of hone 1 f1 rfl;rw[u,q0]at m;rw[o1,q1]at j
  match s,g with
  | [y0,y1],_=>
   obtain⟨A,rfl,r⟩:=G7 h0 (c:=c0) (y:=y0) (by simpa using m);obtain⟨z,rfl,e1⟩:=G7 h1 (c:=c1) (y:=y1) (by simpa using j);subst r;subst e1;simp at i;obtain⟨⟨rfl,rfl⟩,_⟩:=i;rfl
theorem GG {w:World}{a:Addr}{v:Value}(h:w.cell? a=some v):cell w.heap a=some v:=h
section
variable {H:Type}{enc:TypeId×Value->H}{P:Program}{w:World}
theorem Sh {x:Int}(h:(Lit.int .i64 x).wf=true):jx x:=by
 unfold jx;simp[Lit.wf,IntKind.min,IntKind.max,IntKind.bits,IntKind.signed]at h;omega
theorem Le {x:Int}(h:(Lit.int .u8 x).wf=true):0<=x/\x<=255:=by
 simp[Lit.wf,IntKind.min,IntKind.max,IntKind.bits,IntKind.signed]at h;omega
theorem MH {t:TypeId}{f0 f1 f2 f3 f4 f5 f6 f7:Field}{fuel:Nat}{cs:List Value}{y:DataW H×List MemPlace}
 (ht:P.underlying t=some (.struct #[f0,f1,f2,f3,f4,f5,f6,f7])) (hone:oneCellFields P #[f0,f1,f2,f3,f4,f5,f6,f7]=true) (hC:P.cellsOf t=8)
 (h0:P.underlying f0.type=some (.int .i64)) (h1:P.underlying f1.type=some (.int .i64)) (h2:P.underlying f2.type=some (.int .i64)) (h3:P.underlying f3.type=some (.int .i64)) (h4:P.underlying f4.type=some (.int .i64)) (h5:P.underlying f5.type=some (.int .i64)) (h6:P.underlying f6.type=some (.int .i64)) (h7:P.underlying f7.type=some .string)
 (h:DataW.trod enc P w 0 (λ_=>true) true fuel t cs=some y):∃d:eW,cs=vd d/\kU d:=by
 obtain⟨B,n,W,V,a,r,m⟩:=DataW.trod_struct ht h;have i:cs.length=8:=by rw[←hC];exact a
 match cs,i with
 | [c0,c1,c2,c3,c4,c5,c6,c7],_=>
  have one:∀(j:Nat) (f:Field) (c:Value),(#[f0,f1,f2,f3,f4,f5,f6,f7]:Array Field)[j]?=some f->[c0,c1,c2,c3,c4,c5,c6,c7][j]?=some c->∃z,DataW.trod enc P w 0 (λ_=>true) true n f.type [c]=some z:=by
   intro j f c hj hc;obtain⟨E,K⟩:=hone_of hone j f hj;have h3:=m j f hj;rw[E,K]at h3;have b:=(cY.1 hc).1;have e1:([c0,c1,c2,c3,c4,c5,c6,c7].drop j).take 1=[c]:=by
    rw[xK b,wm,wk,(cY.1 hc).2]
   rw[e1]at h3;have p:B[j]?=some (B[j]'(by rw[r];simp at b ⊢;omega)):=cW _;rw[p]at h3;exact⟨_,h3⟩
  have int:∀(j:Nat) (f:Field) (c:Value),(#[f0,f1,f2,f3,f4,f5,f6,f7]:Array Field)[j]?=some f->[c0,c1,c2,c3,c4,c5,c6,c7][j]?=some c->P.underlying f.type=some (.int .i64)->∃x:Int,c=.int .i64 x/\jx x:=by
   intro j f c hj hc hu;obtain⟨z,u⟩:=one j f c hj hc;obtain⟨x,g,_,G⟩:=DataW.trod_int hu u;simp only[List.cons.injEq,and_true]at g;exact⟨x,g,Sh G⟩
  obtain⟨J,rfl,_⟩:=int 0 f0 c0 rfl rfl h0;obtain⟨S,rfl,_⟩:=int 1 f1 c1 rfl rfl h1;obtain⟨R,rfl,C⟩:=int 2 f2 c2 rfl rfl h2;obtain⟨M,rfl,U⟩:=int 3 f3 c3 rfl rfl h3;obtain⟨L,rfl,_⟩:=int 4 f4 c4 rfl rfl h4;obtain⟨N,rfl,F⟩:=int 5 f5 c5 rfl rfl h5;obtain⟨Q,rfl,D⟩:=int 6 f6 c6 rfl rfl h6;obtain⟨z,u⟩:=one 7 f7 c7 rfl rfl;obtain⟨s,A,_⟩:=DataW.trod_string h7 u;simp only[List.cons.injEq,and_true]at A;subst A;exact⟨⟨J,S,R,M,L,N,Q,s⟩,rfl,C,U,F,D⟩
theorem RE {t e:TypeId}{f0 f1 f2 f3 f4 f5 f6 f7:Field}{a:Option Addr}{len cap:Nat}{d:DataW H}{ps:List MemPlace}
 (htl:P.underlying t=some (.slice e)) (ht:P.underlying e=some (.struct #[f0,f1,f2,f3,f4,f5,f6,f7])) (hone:oneCellFields P #[f0,f1,f2,f3,f4,f5,f6,f7]=true) (hC:P.cellsOf e=8)
 (h0:P.underlying f0.type=some (.int .i64)) (h1:P.underlying f1.type=some (.int .i64)) (h2:P.underlying f2.type=some (.int .i64)) (h3:P.underlying f3.type=some (.int .i64)) (h4:P.underlying f4.type=some (.int .i64)) (h5:P.underlying f5.type=some (.int .i64)) (h6:P.underlying f6.type=some (.int .i64)) (h7:P.underlying f7.type=some .string)
 (h:DataW.Trod enc P w 0 (λ_=>true) true t (.slice a len cap) d ps):∃ds,jF w.heap ⟨a,len,cap⟩ ds:=by
 obtain⟨M,U⟩:=h;rcases open_slice htl U with⟨r,_⟩|⟨ad,len',cap',m,n,D,Pl,r,_,hl,hm,hmm,y,hi⟩
 ·simp[Value.cells]at r;obtain⟨rfl,rfl,rfl⟩:=r;exact⟨[],rfl,λi x y=>by simp at y,by simp,by simp⟩
 ·simp[Value.cells]at r;obtain⟨rfl,rfl,rfl⟩:=r;have S:m=cap:=by simpa using hmm
  have key:∀i,i<len->∃u:eW,(∀j v,(vd u)[j]?=some v->cell w.heap ((ad.add (i*8)).add j)=some v)/\kU u:=by
   intro i p;obtain⟨Q,E,G⟩:=hi i O;rw[hC]at E;obtain⟨x,r,K⟩:=MH ht hone hC h0 h1 h2 h3 h4 h5 h6 h7 G;obtain⟨_,V,L⟩:=World.cells?_some E;refine⟨x,λj v B=>?_,K⟩;have R:=(cY.1 B).1;have:=L j (by simpa[vd]using R);rw[r]at this;rw[B]at this;exact this
  let g:Nat->eW:=λi=>if hi:i<len then(key i hi).choose else⟨0,0,0,0,0,0,0,ByteArray.empty⟩
  have N:∀i,(hi:i<len)->g i=(key i hi).choose:=λi hi=>by simp only[g,hi,dif_pos]
  refine⟨(List.range len).map g,by simp,λi x y=>?_,λx y=>?_,?_⟩
  ·have p:i<len:=by
    have:=(cY.1 y).1;simpa using this
   have A:g i=x:=by simpa[p]using y
   rw[N i p]at A;have C:=(key i p).choose_spec;rw[A]at C;obtain⟨E,_⟩:=C;have F:=(key 0 O).choose_spec.1;have J:=F 0 _ rfl;have z:=FJ J;simp only[vO,Addr.add_zero']at z;obtain⟨b,o,s⟩:=ad;have C:s=none:=z.2;subst C;refine⟨b,o,rfl,z.1,λj v B=>?_⟩;have:=E j v B;rw[add_lit,add_lit]at this;exact this
  ·obtain⟨i,hi,rfl⟩:=zE.1 y;have p:=ze.1 hi;rw[N i p];exact(key i p).choose_spec.2
  ·have:maxLen=9223372036854775807:=rfl;simp;omega
theorem Tm {b0:Nat}{t:TypeId}{f0 f1 g0 g1 g2 g3 g4:Field}{v:Value}{d:DataW H}{ps:List MemPlace}
 (ht:P.underlying t=some (.struct #[f0,f1])) (hC:P.cellsOf t=6) (ho:f0.offset=0/\P.cellsOf f0.type=1/\f1.offset=1/\P.cellsOf f1.type=5)
 (h0:P.underlying f0.type=some (.int .i64)) (h1:P.underlying f1.type=some (.struct #[g0,g1,g2,g3,g4])) (hone:oneCellFields P #[g0,g1,g2,g3,g4]=true)
 (k0:P.underlying g0.type=some (.int .i64)) (k1:P.underlying g1.type=some (.int .i64)) (k2:P.underlying g2.type=some (.int .i64)) (k3:P.underlying g3.type=some (.int .i64)) (k4:P.underlying g4.type=some (.int .i64))
 (hval:Value.okWide P w .any b0 t v) (h:DataW.Trod enc P w 0 (λ_=>true) true t v d ps):∃(x0 x1 x2 x3 x4 x5:Int),v=.agg #[.int .i64 x0,.int .i64 x1,.int .i64 x2,.int .i64 x3,.int .i64 x4,.int .i64 x5]:=by
 unfold Value.okWide at hval;rw[ht]at hval;obtain⟨L,rfl,D,_⟩:=hval;obtain⟨g,F⟩:=h;obtain⟨l⟩:=L;have s:l.length=6:=by rw[←hC];simpa using D
 obtain⟨C,p,B,r⟩:=ho
 match l,s with
 | [c0,c1,c2,c3,c4,c5],_=>
  have F:DataW.trod enc P w 0 (λ_=>true) true g t [c0,c1,c2,c3,c4,c5]=some (d,ps):=F;obtain⟨y0,y1,n,_,_,q0,q1⟩:=trod_struct2 ht F;rw[C,p]at q0;rw[B,r]at q1;have z:DataW.trod enc P w 0 (λ_=>true) true n f0.type [c0]=some y0:=q0;have m:DataW.trod enc P w 0 (λ_=>true) true n f1.type [c1,c2,c3,c4,c5]=some y1:=q1;obtain⟨x0,a,_,_⟩:=DataW.trod_int h0 z;simp only[List.cons.injEq,and_true]at a;subst a;obtain⟨G,n,N,M,J,u,y⟩:=DataW.trod_struct h1 m;have int:∀(j:Nat) (f:Field) (c:Value),(#[g0,g1,g2,g3,g4]:Array Field)[j]?=some f->[c1,c2,c3,c4,c5][j]?=some c->P.underlying f.type=some (.int .i64)->∃x:Int,c=.int .i64 x:=by
   intro j f c hj hc hu;obtain⟨ho,K⟩:=hone_of hone j f hj;have i:=y j f hj;rw[ho,K]at i;have b:=(cY.1 hc).1;have e1:([c1,c2,c3,c4,c5].drop j).take 1=[c]:=by
    rw[xK b,wm,wk,(cY.1 hc).2]
   rw[e1]at i;have A:G[j]?=some (G[j]'(by rw[u];simp at b ⊢;omega)):=cW _;rw[A]at i;obtain⟨x,E,_,_⟩:=DataW.trod_int hu i;exact⟨x,by simpa using E⟩
  obtain⟨x1,rfl⟩:=int 0 g0 c1 rfl rfl k0;obtain⟨x2,rfl⟩:=int 1 g1 c2 rfl rfl k1;obtain⟨x3,rfl⟩:=int 2 g2 c3 rfl rfl k2;obtain⟨x4,rfl⟩:=int 3 g3 c4 rfl rfl k3;obtain⟨x5,rfl⟩:=int 4 g4 c5 rfl rfl k4;exact⟨x0,x1,x2,x3,x4,x5,rfl⟩
end
end Go.Ar