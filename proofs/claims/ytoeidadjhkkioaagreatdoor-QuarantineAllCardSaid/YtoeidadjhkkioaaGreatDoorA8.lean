/- Texts joined. -/
import Derived.Test.YtoeidadjhkkioaaGreatDoorRows
import Derived.ChangeVars
import Derived.JoinedOf
import Derived.RowKit
import Derived.WalkKit
import Derived.ProofKit
import Derived.OpenShut
import Derived.ChangeOld
import Derived.Carry
import Derived.Test.YtoeidadjhkkioaaGreatDoorA7
set_option linter.unusedVariables false
set_option linter.unusedSimpArgs false
namespace Go.Ar
open Go Go.Vc Go.Proofs
open Go.Vc (bU dA cO)
variable {U σ0 v w w':Hp}{F P Q X T:Rg}{L:dE}{H H' H1:Hw}{held:List Pc}{s0 sp:Sp}{t n:Nat}{gb km fm m:Nat}{x y:Gu}{b:B5}{qb:Nat}{Qq Qr:Rg}{qs rs:Sl}{q:Qu}
theorem VY (o:QP σ0 U L H held s0 P gb km fm x qb Qq Qr qs rs q){R:aO}(hR:R true U):Wm.c (aW qb) U R:=by
 refine Wm.o ?_;unfold Wm.v;exact bX.intro (cF rfl (bL (o.b.rP rfl hR)))
theorem RN (o:QP σ0 U L H held s0 P gb km fm x qb Qq Qr qs rs q){R:Option Addr->Hp->Prop}(hR:R (some ⟨gb,0,none⟩) U):WO.c (aW qb) U R:=by
 refine WO.o ?_;unfold WO.v;exact VY o (cD rfl (bL (o.b.rP rfl hR)))
theorem Iw (o:QP σ0 U L H held s0 P gb km fm x qb Qq Qr qs rs q)(thread:Int){R:aN}(hR:∀σ',aF U σ'->R (ZH H thread) σ'):WJ.c (aW qb) thread U R:=by
 refine WJ.o ?_;unfold WJ.v;refine VY o (cD rfl (bL (o.b.rP rfl (yG o.p ?_))));refine KM (λr u=>aF U u/\r=decide (thread<0\/thread≥(H.cf.threads:Int))) (λr u ⟨d,i⟩=>?_) λJ g=>?_
 ·by_cases hc:thread<0\/thread≥(H.cf.threads:Int)
  ·have a:=hR u d;unfold ZH at a;rw[zC hc]at a;exact cF (by rw[i];exact zI hc) a
  ·have m:=o.p.fr d;refine cD (by rw[i];exact zM hc) (Lc m.h thread λs w e2 y=>?_);have a:=hR w (d.trans e2);unfold ZH at a;rw[zB hc]at a;rw[y];cases hp:UH H thread with
   | none=>rw[hp]at a;exact cD rfl a
   | some q=>rw[hp]at a;exact cF rfl a
 ·refine cN (λh=>g _ _ ⟨Ext.refl _ _,by rw[zI];exact .inl h⟩) λh=>Gw o.p.h λu e=>g _ _ ⟨e,?_⟩;rw[kW,decide_eq_true_iff,decide_eq_true_iff];exact⟨.inr,λj=>j.resolve_left h⟩
theorem χ {s:Sl}{l:List P2}(h:cV s 2 (gO l) U F)(hl:s.len<=1000000){R:Sl->Hp->Prop}(hR:∀s' σ',aF U σ'->bT s' 2 (gO l) σ' (λb=>U.size<=b)->R s' σ'):Wh.c s U R:=by
 refine Wh.o ?_;unfold Wh.v;exact Bi h aB rfl (Jq l) aB hl λs' σ' _ e a=>hR s' σ' e a
theorem Wmr {s:Sl}{xs:List Int}(h:cV s 1 (Wy xs) U F)(hl:xs.length<=1000000)(hne:xs≠[]){R:aN}(hR:R (lH xs) U):W7.c s U R:=by
 refine W7.o ?_;unfold W7.v;have d:s.len=xs.length:=by have:=h.1;simp[Wy]at this;omega
 have r:=pY.2 hne;refine Jn.intro (cD (zM O) ?_);obtain⟨a,l,rfl⟩:=List.exists_cons_of_ne_nil hne;have w:(a::l)[0]?=some a:=rfl;refine cV.lQ (i:=0) h w ?_;refine UC (a:=bO) (bb:=bO) (λ(m i:Int) u=>u=U/\∃k:Nat,i=k+1/\k<=l.length/\m=(l.take k).foldl (λm z=>if z<m then z else m) a) (λ_ i _=>l.length+1-i.toNat) ⟨rfl,0,rfl,O,rfl⟩ ?_
 rintro(m:Int) (i:Int) u ⟨rfl,k,rfl,hk,rfl⟩;refine cN (λA=>?_) λx=>?_
 ·have j:k<l.length:=by simp only[zS]at d;omega
  have p:l[k]?=some l[k]:=cW j;have b:(a::l)[k+1]?=some l[k]:=by rw[yY,p]
  generalize l[k]=y at p b;rw[show((k:Int)+1)=((k+1:Nat):Int) by omega];refine h.lQ b (cT (m:=k+2) O O ⟨⟨rfl,k+1,O,O,?_⟩,O⟩);rw[j6,p,qD,vp];rfl
 ·have g:k=l.length:=by simp only[zS]at d;omega
  subst g;rw[lL];exact hR
theorem Pf {s:Sl}{bs:List Bk}(h:cV s 4 (gQ bs) U F)(hl:bs.length<=1000000)(hs:bs.Pairwise λa c=>a.1<c.1)(hi:∀k∈bs,0<=k.1/\k.1<=1000000){a:Int}(ha:iN a){R:Int->Bool->Hp->Prop}
 (h1:∀w (i:Nat) k,aF U w->bs[i]?=some k->k.1=a->R (i:Int) true w) (h0:∀w i,aF U w->(∀k∈bs,k.1≠a)->R i false w) :
 Wf.c s a ⟨117,#[],#[]⟩ U R:=by
 refine Wf.o ?_;unfold Wf.v;have S:s.len=bs.length:=by have:=h.1;rw[Hh]at this;omega
 obtain⟨ha1,Z⟩:=ha;have M:∀(k:Bk) (v:Hp) (K:aN),(∀D,aF v D->K (IntKind.i64.wrap (k.1-a)) D) →
  VU Tryz.prog ⟨117,#[],#[]⟩ [.agg #[.int .i64 k.1,.int .i64 k.2.1,.int .i64 k.2.2.1,.int .i64 k.2.2.2],.int .i64 a] [.one bO] v K:=by
  intro k v K hK;refine G8 (all := #[.agg #[.int .i64 k.1,.int .i64 k.2.1,.int .i64 k.2.2.1,.int .i64 k.2.2.2],.int .i64 a]) (by kernel_rfl) aA ?_;refine WW.o ?_;unfold WW.v;exact nw (cs:=kM k) λv1 hz e hb=>hb.rI rfl (vz (hK v1 e))
 have w0:∀k∈bs,(IntKind.i64.wrap (k.1-a)==0)=decide (k.1=a):=λk u=>by
  have:=hi k u;rw[kW,zU,decide_eq_true_iff];unfold IntKind.wrap;simp[IntKind.bits,IntKind.signed];omega
 have A:∀{i j:Nat} {k r:Bk},bs[i]?=some k->bs[j]?=some r->i<j->k.1<r.1:=λ{i j k r} h1 N P=>by
  obtain⟨l1,e1⟩:=cX.1 h1;obtain⟨l2,e2⟩:=cX.1 N;have:=kS.1 hs i j l1 l2 P;rw[e1,e2]at this;exact this
 refine UC (a:=bO) (bb:=bO) (λ(i j:Int) v=>∃c d:Nat,i=(c:Int)/\j=(d:Int)/\c<=d/\d<=bs.length/\aF U v/\∀(p:Nat) k,bs[p]?=some k->k.1=a->c<=p/\p<=d) (λi j _=>j.toNat-i.toNat) ⟨0,bs.length,rfl,by rw[S],O,O,Ext.refl _ _,λp k g _=>by have:=(cX.1 g).1;omega⟩ ?_;rintro(i:Int) (j:Int) v ⟨c,d,rfl,rfl,hcd,hdl,ev,hpp⟩;refine cN (λaa=>?_) λab=>?_
 ·refine cT (m:=c+d) O O ?_;have hw:IntKind.u64.wrap ((c+d:Nat):Int)=((c+d:Nat):Int):=by
   unfold IntKind.wrap;simp[IntKind.bits,IntKind.signed];omega
  refine vz ?_;rw[hw];refine nn O ?_;have Q:min (1:Int).toNat IntKind.u64.bits=1:=by decide
  rw[Q,Dr];have J:(((c+d:Nat):Int)/2^1)=(((c+d)/2:Nat):Int):=by omega
  refine cT (m:=(c+d)/2) J O ?_;have B:(c+d)/2<bs.length:=by omega
  have u:bs[(c+d)/2]?=some bs[(c+d)/2]:=cW B;generalize bs[(c+d)/2]=k at u;have C:=zG u;have Y:=hi k C;refine An (aH.bP h ev) u λbb o z=>eD (z 0 _ rfl) (eD (z 1 _ rfl) (eD (z 2 _ rfl) (eD (z 3 _ rfl) (M k v _ λD H=>?_))));have y:∀{p:Nat} {r:Bk},bs[p]?=some r->r.1=a->IntKind.i64.wrap (k.1-a)=k.1-a:=λ{p r} g b=>by
   have:=hi r (zG g);exact Un O O
  show If (decide (IntKind.i64.wrap (k.1-a)<0)) _ _;refine cN (λG=>?_) λE=>?_
  ·refine cT (m:=(c+d)/2+1) O O ⟨⟨_,d,rfl,rfl,O,hdl,ev.trans H,λp r g b=>⟨?_,(hpp p r g b).2⟩⟩,O⟩;rw[y g b]at G;apply Classical.byContradiction;intro hx;rcases ku p ((c+d)/2)with N|N
   ·have:=A g u N;omega
   ·have:p=(c+d)/2:=by omega
    subst this;rw[u]at g;cases g;omega
  ·refine⟨⟨c,_,rfl,rfl,O,O,ev.trans H,λp r g b=>⟨(hpp p r g b).1,?_⟩⟩,O⟩;rw[y g b]at E;apply Classical.byContradiction;intro hx;have:=A u g O;omega
 ·have L:c=d:=by omega
  subst L;refine bX.intro (cN (λW=>?_) λX=>?_)
  ·have B:c<bs.length:=by omega
   have u:bs[c]?=some bs[c]:=cW B;generalize bs[c]=k at u;have C:=zG u;refine An (aH.bP h ev) u λbb o z=>eD (z 0 _ rfl) (eD (z 1 _ rfl) (eD (z 2 _ rfl) (eD (z 3 _ rfl) (M k v _ λD H=>?_))));rw[w0 k C];by_cases hka:k.1=a
   ·rw[zI hka];exact h1 D c k (ev.trans H) u hka
   ·rw[zM hka];refine h0 D _ (ev.trans H) λr b x=>?_;obtain⟨p,g⟩:=zP b;have:=hpp p r g x;have V:p=c:=by omega
    subst V;rw[u]at g;cases g;exact hka x
  ·refine h0 v _ ev λr b x=>?_;obtain⟨p,g⟩:=zP b;have:=hpp p r g x;have:=(cX.1 g).1;omega
theorem El (bi:gT b){R:Sl->Hp->Prop}(hR:∀s w Q,aF U w->bT s 1 (Wy (XP b)) w Q->(∀c,Q c->U.size<=c/\c<w.size)->R s w):XW.c b.1 b.2.1 b.2.2.1 b.2.2.2.1 U R:=by
 refine XW.o ?_;unfold XW.v;have bb:=bi.base;have K:=bi.z;have G:=bi.m;have F:=bi.t;have M:=bi.s;have H:=ZU (n:=b.2.1) O;have L:(QJ b:Int)*8=ZE b.2.1:=by unfold QJ;omega
 let wl:Nat->List Int:=λi=>(List.range i).map λ(i:Nat)=>b.1+8*(i:Int)
 have p:∀i,wl (i+1)=wl i++[b.1+8*(i:Int)]:=λi=>by show List.map _ _=_;rw[qR,zj];rfl
 have g:∀i,(wl i).length=i:=λi=>by show(List.map _ _).length=i;simp
 have x:wl (QJ b)=XP b:=rfl
 clear_value wl
 refine nw (cs:=kM (b.1,b.2.1,b.2.2.1,b.2.2.2.1)) λv J e D=>?_;refine UC (a:=.s) (bb:=bO) (λ(out:Sl) (z:Int) u=>aF v u/\∃(i:Nat) (Q:Rg),z=8*(i:Int)/\i<=QJ b/\bT out 1 (Wy (wl i)) u Q/\∀c,Q c->v.size<=c/\c<u.size) (λ_ z _=>(ZE b.2.1-z).toNat)
  ⟨Ext.refl _ _,0,λ_=>False,rfl,O,by rw[tz (g 0)];exact⟨rfl,.inl ⟨rfl,rfl⟩⟩,λc d=>d.elim⟩ ?_
 rintro(out:Sl) (z:Int) u ⟨eu,i,Q,rfl,hi,hr,hQ⟩;have N:=eu.1;have j:=eu.bV D id;refine j.rI rfl (cN (λA=>?_) λy=>?_)
 ·simp only at A;have C:out.len=i:=by have:=hr.1;simp[Wy,g]at this;omega
  refine j.rI rfl (ar aC aC ?_);refine wJ hr (by rw[g];omega) _ λE w B r=>?_;refine ar O O ⟨⟨Ext.fresh eu B λc d=>(hQ c d).1,i+1,_,O,O,by rw[p];exact r,λc d=>?_⟩,O⟩;have:=B.1;rcases d with d|d
  ·have:=hQ c d;omega
  ·omega
 ·simp only at y;have:i=QJ b:=by unfold QJ at hi ⊢;omega
  subst this;rw[x]at hr;exact hR out u Q (e.trans eu) hr λc d=>by have:=hQ c d;omega
theorem B9 (o:QP σ0 U L H held s0 P gb km fm x qb Qq Qr qs rs q)(xi:∀e∈x.kn,e.1=e.2.1/\gT e.2)(hkl:x.kn.length<=1000000){a:Int}(ha:iN a){R:Int->Int->Int->Int->Bool->Hp->Prop}
 (h0:∀w,aF U w->bU x.kn a=none->R 0 0 0 0 false w) (h1:∀w b,aF U w->bU x.kn a=some b->R b.1 b.2.1 b.2.2.1 b.2.2.2.1 true w):WC.c (aW qb) a U R:=by
 refine WC.o ?_;unfold WC.v;refine nw (cs:=[.int .i64 0,.int .i64 0,.int .i64 0,.int .i64 0]) λv hz e hb=>?_;have o1:=o.fr e;have nd:(x.kn.map (·.1)).Nodup:=o.p.m.nodup;refine bL (o1.b.rP rfl (Jy o1.p xi hkl λs v1 es e1 u B=>?_));have N:=e1.bV hb id;have A:∀{w:Hp} {a b c d:Int} {K:Int->Int->Int->Int->Hp->Prop},aF v1 w->(∀g,aF U g->K a b c d g) →
  dX (Addr.add ⟨U.size,0,none⟩ 0) (.int .i64 a) w λv7=>dX (Addr.add ⟨U.size,0,none⟩ 1) (.int .i64 b) v7 λv8=>dX (Addr.add ⟨U.size,0,none⟩ 2) (.int .i64 c) v8 λv9=>dX (Addr.add ⟨U.size,0,none⟩ 3) (.int .i64 d) v9 λv10=>
  gM .i64 (Addr.add ⟨U.size,0,none⟩ 0) v10 λr0=>gM .i64 (Addr.add ⟨U.size,0,none⟩ 1) v10 λr1=>gM .i64 (Addr.add ⟨U.size,0,none⟩ 2) v10 λr2=>gM .i64 (Addr.add ⟨U.size,0,none⟩ 3) v10 λr3=>K r0 r1 r2 r3 v10:=λ{w a b c d K} C hK=>
  (C.bV N id).s1 aA λw1 o1 b1=>b1.s1 aA λw2 o2 b2=>b2.s1 aA λw3 o3 b3=>b3.s1 aA λw4 o4 b4=>b4.rI rfl (b4.rI rfl (b4.rI rfl (b4.rI rfl (hK w4 (Ext.fresh ((e.trans e1).trans C) (((o1.ext.trans o2.ext).trans o3.ext).trans o4.ext) λi (hi:i=U.size)=>O)))))
 have r:∀k∈es,k∈x.kn:=λk j=>u.p.mem_iff.1 j;have Q:(es.map Go.Ar.b4).length<=1000000:=by rw[zk,u.p.length_eq];exact hkl
 refine Pf (bT.fW B) Q ?_ ?_ ha (λw i k C j D=>?_) λw i C X=>?_
 ·rw[q9];refine u.s.imp_of_mem λ{k W} h1 Z hlt=>?_;have e1:=(xi k (r k h1)).1;have e2:=(xi W (r W Z)).1;show k.2.1<W.2.1;omega
 ·intro k j;obtain⟨y,G,rfl⟩:=zD.1 j;have E:=(xi y (r y G)).2;have h1:=E.base;have Z:=E.z;have h3:=E.m;have h4:=E.t;have h5:=E.s;have h6:=ZU (n:=y.2.2.1) O;show 0<=y.2.1/\y.2.1<=1000000;omega
 ·rw[zZ,oz]at j;obtain⟨y,G,rfl⟩:=j;have F:=r y (zG G);have Y:y.1=a:=by rw[(xi y F).1];exact D
  have hg:bU x.kn a=some y.2:=by rw[←Y];exact ZA nd (show(y.1,y.2)∈x.kn from F)
  have S:(es.map Go.Ar.b4)[i]?=some (Go.Ar.b4 y):=by rw[zZ,G];rfl
  refine cD rfl (An (aH.bP (bT.fW B) C) S λbb oo J=>eD (J 0 _ rfl) (eD (J 1 _ rfl) (eD (J 2 _ rfl) (eD (J 3 _ rfl) ?_))));exact A (K:=λa b c d g=>R a b c d true g) C λg V=>h1 g y.2 V hg
 ·refine cF rfl (A (K:=λa b c d g=>R a b c d false g) C λg V=>h0 g V ?_);rw[Ge];intro k j D;have M:k∈es:=u.p.mem_iff.2 j;exact X (Go.Ar.b4 k) (zD.2 ⟨k,M,rfl⟩) (by show k.2.1=a;rw[←(xi k j).1];exact D)
theorem Η (o:QP σ0 U L H held s0 P gb km fm x qb Qq Qr qs rs q)(a:Int){R:aO}(hR:∀w,aF U w->R (decide (a∈q.q.map (·.1))) w):WS.c (aW qb) a U R:=by
 refine WS.o ?_;unfold WS.v;refine nw (cs:=[.int .i64 a]) λv W e N=>?_;have o1:=o.fr e;refine bL (o1.b.rS rfl (Wb.o ?_));unfold Wb.v;refine We.o ?_;unfold We.v;have J:=o.rq.kL;have G:=o.i.ql;refine Qv (a:=bO) (λ(i:Int) u=>aF v u/\∃k:Nat,i=k/\k<=q.q.length/\∀j e,j<k->q.q[j]?=some e->e.1≠a) (λi _=>q.q.length-i.toNat) ⟨Ext.refl _ _,0,rfl,O,λj e r=>O⟩ ?_;rintro(i:Int) u ⟨eu,k,rfl,hk,hno⟩;have C:=eu.bV N id;refine cN (λg=>?_) λE=>?_
 ·have s:q.q[k]?=some (q.q[k]'(by simp only at g;omega)):=cW _;generalize (q.q[k]'(by simp only at g;omega))=y at s;refine tQ (bT.fW (o1.fr eu).rq) s λV S F=>eD (F 0 _ rfl) (eD (F 1 _ rfl) ?_);refine G8 (all := #[.agg #[.int .i64 y.1,.int .i64 y.2],.pointer (some ⟨U.size,0,none⟩)]) (by kernel_rfl) aA (W5.o ?_);unfold W5.v;refine nw (cs:=lK y) λv3 M B D=>D.rI rfl ((B.bV C id).uj rfl (cQ (λp=>?_) λz=>?_))
  ·have d:y.1=a:=by simpa using p
   have:=hR v3 ((e.trans eu).trans B);rw[zI (zD.2 ⟨y,zG s,d⟩)]at this;show R (decide ((k:Int)≥0)) v3;rw[zI (show(k:Int)≥0 by omega)];exact this
  ·have d:y.1≠a:=by simpa using z
   exact cT (m:=k+1) O O ⟨⟨eu.trans B,k+1,rfl,by simp only at g;omega,λj e r p=>by
    by_cases hjk:j=k
    ·subst hjk;rw[s]at p;cases p;exact d
    ·exact hno j e O p⟩,by simp only at g;omega⟩
 ·have A:k=q.q.length:=by simp only at E;omega
  subst A;have:=hR u (e.trans eu);rw[zM λQ=>by
   obtain⟨y,K,d⟩:=zD.1 Q;obtain⟨j,r⟩:=zP K;exact hno j y (cX.1 r).1 r d]at this
  exact this
def UI (x:Gu)(q:Qu)(a:Int):Bool:=q.q.any λe=>match bU x.kn e.1 with
 | some b=>decide (a∈XP b)
 | none=>false
theorem En (o:QP σ0 U L H held s0 P gb km fm x qb Qq Qr qs rs q)(xi:∀e∈x.kn,e.1=e.2.1/\gT e.2)(hkl:x.kn.length<=1000000)(hqi:∀e∈q.q,iN e.1)(a:Int){R:aO}(hR:∀w,aF U w->R (UI x q a) w):WK.c (aW qb) a U R:=by
 refine WK.o ?_;unfold WK.v;refine nw (cs:=[.pointer (some ⟨qb,0,none⟩)]) λv0 hz0 e0 hb0=>nw (cs:=[.int .i64 a]) λv hz e hb=>?_;have E:=e0.trans e;have o1:=o.fr E;have g:=e.bV hb0 id;refine g.pf rfl (bL (o1.b.rS rfl (Wb.o ?_)));unfold Wb.v;refine We.o ?_;unfold We.v;have hql:=o.rq.kL;have hq66:=o.i.ql
 let f:P2->Bool:=λe=>match bU x.kn e.1 with
  | some b=>decide (a∈XP b)
  | none=>false
 have J:UI x q a=q.q.any f:=rfl;have hf1:∀(e:P2) b,bU x.kn e.1=some b->f e=decide (a∈XP b):=λe b h=>by show(match bU x.kn e.1 with|some b=>decide (a∈XP b)|none=>false)=_;rw[h]
 have hf0:∀(e:P2),bU x.kn e.1=none->f e=false:=λe h=>by show(match bU x.kn e.1 with|some b=>decide (a∈XP b)|none=>false)=_;rw[h]
 clear_value f
 refine Qv (a:=bO) (λ(i:Int) u=>aF v u/\∃k:Nat,i=k/\k<=q.q.length/\∀j e,j<k->q.q[j]?=some e->f e=false) (λi _=>q.q.length-i.toNat) ⟨Ext.refl _ _,0,rfl,O,λj e S=>O⟩ ?_;rintro(i:Int) u ⟨eu,k,rfl,hk,hno⟩;have hbu:=eu.bV hb id;have G:=eu.bV g id;have ou:=o1.fr eu;refine cN (λd=>?_) λV=>?_
 ·have A:q.q[k]?=some (q.q[k]'(by simp only at d;omega)):=cW _;generalize (q.q[k]'(by simp only at d;omega))=y at A;have W:=hqi y (zG A);refine tQ (bT.fW ou.rq) A λbb oo hc=>eD (hc 0 _ rfl) (eD (hc 1 _ rfl) ?_);refine G8 (all := #[.agg #[.int .i64 y.1,.int .i64 y.2],.pointer (some ⟨U.size,0,none⟩),.pointer (some ⟨v0.size,0,none⟩)]) (by kernel_rfl) aA (WX.o ?_);unfold WX.v;refine nw (cs:=lK y) λv3 hz3 F hb3=>(F.bV G id).pf rfl (hb3.rI rfl ?_);have o3:=ou.fr F;have go:∀C (r:Bool),aF u C->r=f y->If r (R (decide ((k:Int)≥0)) C) (Ar .i64 ((k:Int)+1) λD=>(λ(i:Int) u=>aF v u/\∃k:Nat,i=k/\k<=q.q.length/\∀j e,j<k->q.q[j]?=some e->f e=false) D C/\q.q.length-D.toNat<q.q.length-(k:Int).toNat):=λC r M hr=>by
   subst hr;refine cQ (λht=>?_) λhf=>?_
   ·have:=hR C ((E.trans eu).trans M);rw[J,jV.2 ⟨y,zG A,ht⟩]at this;rw[zI (show(k:Int)≥0 by omega)];exact this
   ·exact cT (m:=k+1) O O ⟨⟨eu.trans M,k+1,rfl,by simp only at d;omega,λj e S Z=>by
     by_cases hjk:j=k
     ·subst hjk;rw[A]at Z;cases Z;exact hf
     ·exact hno j e O Z⟩,by simp only at d;omega⟩
  have box:∀{ty:Nat} {w:Hp} {X a2 a3 Y:Int} {K:Addr->Hp->Prop},(∀w7,aF w w7->bZ w7 w.size (kM (X,a2,a3,Y))->K ⟨w.size,0,none⟩ w7) →
   Nw (.cells #[.int .i64 0,.int .i64 0,.int .i64 0,.int .i64 0] ty (0,0)) w λz v2=>dX (z.add 0) (.int .i64 X) v2 λv3=>dX (z.add 1) (.int .i64 a2) v3 λv4=>dX (z.add 2) (.int .i64 a3) v4 λv5=>dX (z.add 3) (.int .i64 Y) v5 λv6=>K z v6:=λ{ty w X a2 a3 Y K} hK=>
   nw (cs:=[.int .i64 0,.int .i64 0,.int .i64 0,.int .i64 0]) λv2 hz2 e2 N=>N.s1 aA λv3 o3 b3=>b3.s1 aA λv4 o4 b4=>b4.s1 aA λv5 o5 b5=>b5.s1 aA λv6 o6 b6=>
    hK v6 (Ext.fresh e2 (((o3.ext.trans o4.ext).trans o5.ext).trans o6.ext) λi (hi:i=w.size)=>O) b6
  refine B9 o3 xi hkl W (λw1 e1 hn=>box λp e2 N=>Jn.intro ?_) λw1 bk e1 hg=>box λp e2 N=>Jn.intro ?_
  ·exact⟨λm=>aF p m,Ext.refl _ _,cD rfl (go p false ((F.trans e1).trans e2) (hf0 y hn).symm)⟩
  ·have bi:gT bk:=(xi _ (Z9 hg)).2;have Q:∀m,aF p m->bZ m w1.size (kM (bk.1,bk.2.1,bk.2.2.1,bk.2.2.2.1)):=λm e=>e.bV N id;have hS2:∀m,aF p m->bZ m v0.size [.int .i64 a]:=λm M=>(((F.trans e1).trans e2).trans M).bV hbu id;refine⟨λm=>aF p m,Ext.refl _ _,cF rfl (gL (c:=bO) (y:=bk.1) Q rfl (gL (c:=bO) (y:=bk.2.1) Q rfl (gL (c:=bO) (y:=bk.2.2.1) Q rfl (gL (c:=bO) (y:=bk.2.2.2.1) Q rfl (rj (c:=bO) (y:=a) hS2 rfl ?_)))))⟩;refine El bi λs w4 Q4 e4 aa _=>⟨e4,?_⟩;have hwl:(XP bk).length<=1000000000:=by
    have:=bi.s;have:=ZU (n:=bk.2.1) O;simp[XP,QJ];omega
   exact G6 (bT.fW aa) hwl a ⟨e4,go w4 _ (((F.trans e1).trans e2).trans e4) (by rw[hf1 y bk hg];simp)⟩
 ·have hkn:k=q.q.length:=by simp only at V;omega
  subst hkn;have:=hR u (E.trans eu);rw[J,mC.2 λy hy B=>by
   obtain⟨j,S⟩:=zP hy;rw[hno j y (cX.1 S).1 S]at B;cases B]at this
  exact this
theorem D6 (o:QP σ0 U L H held s0 P gb km fm x qb Qq Qr qs rs q){R:aN}(hR:∀w,aF U w->R (iF q.q) w):Wx.c (aW qb) U R:=by
 refine Wx.o ?_;unfold Wx.v;have E:=o.rq.kL;have A:=o.i.ql;refine VY o (cD rfl (bL (o.b.rS rfl ?_)));refine UC (a:=bO) (bb:=bO) (λ(z i:Int) u=>aF U u/\∃k:Nat,i=k/\k<=q.q.length/\z=iF (q.q.take k)) (λ_ i _=>q.q.length-i.toNat) ⟨Ext.refl _ _,0,rfl,O,rfl⟩ ?_;rintro(z:Int) (i:Int) u ⟨eu,k,rfl,hk,rfl⟩;refine cN (λd=>?_) λs=>?_
 ·have g:q.q[k]?=some (q.q[k]'(by simp only at d;omega)):=cW _;generalize (q.q[k]'(by simp only at d;omega))=y at g;have C:=o.i.qs y (zG g);have p:=Ty (l:=q.q.take k) λe G=>o.i.qs e (vO G);rw[zY]at p;refine tQ (bT.fW (o.fr eu).rq) g λbb J B=>eD (B 0 _ rfl) (eD (B 1 _ rfl) (ur λw D _ r=>r.rI rfl ?_));have F:iF (q.q.take (k+1))=iF (q.q.take k)+y.2:=by rw[j6,g,qD,Oz]
  exact ar O O (cT (m:=k+1) O O ⟨⟨eu.trans D,k+1,rfl,by simp only at d;omega,F.symm⟩,by simp only at d;omega⟩)
 ·have j:k=q.q.length:=by simp only at s;omega
  subst j;rw[lL];exact hR u eu
theorem AG (o:QP σ0 U L H held s0 P gb km fm x qb Qq Qr qs rs q){R:Sl->Hp->Prop}(hR:∀s w Q,aF U w->bT s 1 (Wy (q.q.map (·.1))) w Q->(∀c,Q c->U.size<=c/\c<w.size)->R s w):Wz.c (aW qb) U R:=by
 refine Wz.o ?_;unfold Wz.v;have J:=o.rq.kL;have S:=o.i.ql;refine VY o (cD rfl (bL (o.b.rS rfl (mk aC aC λv Z e M=>?_))));have o1:=o.fr e;have d:(List.replicate qs.len [Value.int .i64 0]).flatten=Wy ((q.q.map (·.1)).take 0++List.replicate (q.q.length-0) 0):=by
  rw[J];simp[Wy]
 rw[d]at M;refine bL (o1.b.rS rfl ?_);refine Qv (a:=bO) (λ(i:Int) u=>∃k:Nat,i=k/\k<=q.q.length/\aF U u/\bZ u U.size (Wy ((q.q.map (·.1)).take k++List.replicate (q.q.length-k) 0))) (λi _=>q.q.length-i.toNat) ⟨0,rfl,O,e,M⟩ ?_;rintro(i:Int) u ⟨k,rfl,hk,eu,hbu⟩;refine cN (λB=>?_) λG=>?_
 ·have z:k<q.q.length:=by simp only at B;omega
  have E:q.q[k]?=some q.q[k]:=cW z;have p:(q.q.map (·.1))[k]?=some q.q[k].1:=by rw[zZ,E];rfl
  generalize q.q[k]=y at E p;refine tQ (bT.fW (o.fr eu).rq) E λX W D=>eD (D 0 _ rfl) (eD (D 1 _ rfl) (ur λw N _ F=>F.rI rfl (ix O aC ?_)));rw[add_lit,show 0+(k:Int).toNat*1=k by omega];have r:=N.bV hbu id;have A:(Wy ((q.q.map (·.1)).take k++List.replicate (q.q.length-k) 0)).length=q.q.length:=by simp[Wy];omega
  refine r.s0 (by rw[A];exact z) λY o2 K=>?_;have g:(Wy ((q.q.map (·.1)).take k++List.replicate (q.q.length-k) 0)).set k (.int .i64 y.1)=Wy ((q.q.map (·.1)).take (k+1)++List.replicate (q.q.length-(k+1)) 0):=by
   unfold Wy;rw[←vW,Ce _ _ (by rw[zY];omega),j6,p,qD,zl]
   congr 2
   rw[zY,zk,qW O,pS];obtain⟨n,V⟩:∃n,q.q.length-k=n+1:=⟨q.q.length-k-1,O⟩;rw[V,show q.q.length-(k+1)=n by omega,tD];rfl
  rw[g]at K;exact cT (m:=k+1) O O ⟨⟨k+1,rfl,O,Ext.fresh (eu.trans N) o2.ext λi (hi:i=U.size)=>O,K⟩,by simp only at B;omega⟩
 ·have C:k=q.q.length:=by simp only at G;omega
  subst C;have j:(q.q.map (·.1)).take q.q.length++List.replicate (q.q.length-q.q.length) 0=q.q.map (·.1):=by
   rw[pS,List.replicate_zero,kb,lN aA]
  rw[j]at hbu;refine hR _ u (· = U.size) eu ⟨by simp[Wy];omega,.inr ⟨U.size,_,rfl,rfl,hbu,zE _,by simp[Wy];omega,lL⟩⟩ λc D=>?_;have:=hbu.lt;omega
end Go.Ar
namespace Go.Ar
open Go Go.Vc Go.Proofs
open Go.Vc (bU dA cO)
variable {thread:Int}{U σ0 v w w':Hp}{F P Q X T Tc:Rg}{L:dE}{H H' H1:Hw}{held:List Pc}{s0 sp:Sp}{t n:Nat}{gb km fm m pp:Nat}{x y x':Gu}{b:B5}{qb:Nat}{Qq Qr:Rg}{qs rs:Sl}{q q':Qu}
def QO (σ0 U w:Hp)(pp gb km fm qb:Nat)(Tc:Rg)(H':Hw)(x':Gu)(q':Qu):Prop:=
 ∃L' held' s0' P' Qq' Qr' qs' rs',QP σ0 w L' H' held' s0' P' gb km fm x' qb Qq' Qr' qs' rs' q'/\L'.p=pp/\Ext Tc U w/\∀c,kz P' gb km fm qb Qq' Qr' c->Tc c\/U.size<=c
theorem QO.fr (o:QO σ0 U w pp gb km fm qb Tc H x q)(e:aF w w'):QO σ0 U w' pp gb km fm qb Tc H x q:=by
 obtain⟨L',a,g,P',Qq',Qr',b,d,h,i,j,m⟩:=o;exact⟨L',a,g,P',Qq',Qr',b,d,h.fr e,i,j.gp e,m⟩
theorem QP.qo (o:QP σ0 U L H held s0 P gb km fm x qb Qq Qr qs rs q)(e:aF U w):QO σ0 U w L.p gb km fm qb (kz P gb km fm qb Qq Qr) H x q:=
 ⟨L,held,s0,P,Qq,Qr,qs,rs,o.fr e,rfl,aF.to e,λc a=>.inl a⟩
theorem QO.then (e:Ext Tc U v)(hc:∀c,T c->Tc c\/U.size<=c)(o:QO σ0 v w pp gb km fm qb T H x q):QO σ0 U w pp gb km fm qb Tc H x q:=by
 obtain⟨L',a,i,P',Qq',Qr',d,g,h,m,j,b⟩:=o;have p:=e.1;exact⟨L',a,i,P',Qq',Qr',d,g,h,m,Ext.dQ e j λc h=>hc c h,λc h=>(b c h).elim (hc c) λh=>.inr O⟩
theorem gK.bS (r:gK thread H x q H' x' q'):Q0 H' H:=by
 cases r with
 | none h1 h2=>exact Q0.refl _
 | stay h1 h2 h3 h4=>exact Q0.refl _
 | free h1 h2 h3 h4 hw op fe=>exact op.kp
theorem gK.len (r:gK thread H x q H' x' q'):q'.q.length+1=q.q.length/\q'.bl=q.bl/\q'.by'=q.by'/\q'.rs.length<=q.rs.length+1/\∃e,q.q=e::q'.q:=by
 cases r with
 | none h1 h2=>rw[h1];exact⟨rfl,rfl,rfl,Nat.le_succ _,_,rfl⟩
 | stay h1 h2 h3 h4=>
  rw[h1];refine⟨rfl,rfl,rfl,?_,_,rfl⟩;show(if _ then _ else _:List P2).length<=_
  split
  ·omega
  ·simp
 | free h1 h2 h3 h4 hw op fe=>
  rw[h1];refine⟨rfl,rfl,rfl,?_,_,rfl⟩;show(if _ then _ else _:List P2).length<=_
  split
  ·omega
  ·simp
theorem gK.kn (r:gK thread H x q H' x' q'):∀e∈x'.kn,e∈x.kn:=by
 cases r with
 | none h1 h2=>exact λe h=>h
 | stay h1 h2 h3 h4=>exact λe h=>h
 | free h1 h2 h3 h4 hw op fe=>exact λk a=>(zL.1 (show k∈x.kn.filter _ from a)).1
theorem gK.kl (r:gK thread H x q H' x' q'):x'.kn.length<=x.kn.length:=by
 cases r with
 | none h1 h2=>exact zE _
 | stay h1 h2 h3 h4=>exact zE _
 | free h1 h2 h3 h4 hw op fe=>exact oV _ _
set_option maxRecDepth 16000 in
theorem ES (o:QP σ0 U L H held s0 P gb km fm x qb Qq Qr qs rs q)(gc:Gc σ0)(xi:∀e∈x.kn,e.1=e.2.1/\gT e.2)(hkl:x.kn.length<=1000000)(hqi:∀e∈q.q,iN e.1)(hq:q.q≠[])(hrl:q.rs.length<10000){R:aP}
 (hR:∀w H' x' q',gK thread H x q H' x' q'->QO σ0 U w L.p gb km fm qb (kz P gb km fm qb Qq Qr) H' x' q'->R w):WD.c (aW qb) thread U R:=by
 refine WD.o ?_;unfold WD.v;obtain⟨e,r,g⟩:=List.exists_cons_of_ne_nil hq;have hql:=o.rq.kL;rw[g,zS]at hql;have h0:q.q[0]?=some e:=by rw[g];rfl
 have hI:=o.i;have hes:=hI.qs e (by rw[g];exact mY);have hei:=hqi e (by rw[g];exact mY);have G:oK {q with q:=r}:=⟨hI.bl,hI.by',by have:=hI.ql;rw[g,zS]at this;show r.length<=66;omega,λk hk=>hI.qs k (by rw[g];exact mu _ hk),hI.rl⟩;refine bL (o.b.rS rfl (tQ (i:=0) (bT.fW o.rq) h0 λbb oo d=>eD (d 0 _ rfl) (eD (d 1 _ rfl) (ur λv2 e2 z2 b2=>?_))));have o2:=o.fr e2;have hcap:qs.len<=qs.cap:=bT.pv o2.rq;refine bL (o2.b.rS rfl (jA (lo:=1) aC aC aC ?_));have S:=cV.sub (bT.fW o2.rq) (lo:=1) (hi:=qs.len) (mx:=qs.cap) O (zE _) hcap;have q8:((gO q.q).drop (1*2)).take ((qs.len-1)*2)=gO r:=by
  rw[←IW,g,wq,yT,lN (by rw[UO];omega)]
 rw[q8]at S;refine χ S (by simp only;have:=hI.ql;rw[g,zS]at this;omega) λs3 v3 e3 r3=>?_;have E3:=e2.trans e3;have r3':=aI.cut r3;have z2':=e2.1;have z3:=e3.1;have hqbl:=o.b.lt;refine bL (o2.xh (aF.to e3) r3' (λc d=>.inr d) G λv4 e4 o4=>?_);have b4:=e4.bV (e3.bV b2 id) (λ(h:U.size=qb)=>O);have E4:Ext (kz P gb km fm qb Qq Qr) U v4:=(aF.to E3).trans (e4.sub λc d=>.inr (.inl d));have z4:=e4.1;have base:∀{P' Qr':Rg},(∀c,P' c->P c\/v4.size<=c)->(∀c,Qr' c->Qr c\/v4.size<=c)->∀c,kz P' gb km fm qb (Cut (λb=>v2.size<=b) v3) Qr' c->kz P gb km fm qb Qq Qr c\/U.size<=c:=λ{P' Qr'} hP hQ c d=>by
  rcases d with(h|h)|h|h|h
  ·exact(hP c h).imp (λh=>.inl (.inl h)) λh=>by omega
  ·exact .inl (.inl (.inr h))
  ·exact .inl (.inr (.inl h))
  ·right;have:v2.size<=c:=h.1;omega
  ·exact(hQ c h).imp (λh=>.inr (.inr (.inr h))) λh=>by omega
 have X:∀w,aF v4 w->(bU x.kn e.1=none\/kZ H x e.1≠0)->R w:=λw E hx=>hR w H x {q with q:=r} (.none g hx) ⟨L,held,s0,P,_,Qr,s3,rs,o4.fr E,rfl,E4.gp E,base (λc d=>.inl d) λc d=>.inl d⟩;refine b4.rI rfl (B9 o4 xi hkl hei (λw5 e5 hn=>sq λw6 e6 b6=>cF rfl (X w6 (e5.trans e6) (.inl hn))) λw5 bk e5 hg=>sq λv10 e10 b10=>cD rfl ?_);have bi:gT bk:=(xi _ (Z9 hg)).2;have bb':=bi.base;have bz:=bi.z;have bm:=bi.m;have bt:=bi.t;have bs:=bi.s;have hww:=ZU (n:=bk.2.1) O;have E510:=e5.trans e10;have fX:=o4.fr E510;have b4':=E510.bV b4 id;refine⟨λm=>aF v10 m,Ext.refl _ _,bL (gL (c:=.p) (y:=some ⟨gb,0,none⟩) (λm e=>e.bV fX.b id) rfl (gL (c:=bO) (y:=e.1) (λm e=>e.bV b4' id) rfl ?_))⟩;refine FR fX.p xi e.1 λs11 v11 Q11 F W hQ11=>cQ (λC=>X v11 (E510.trans F) (.inr (by simpa using C))) λhe0=>?_;have j:kZ H x e.1=0:=by simpa using he0
 have hlo:UK H bk=false:=by
  unfold kZ at j;rw[hg]at j;simp only at j;cases hl:UK H bk with
  | false=>rfl
  | true=>rw[hl]at j;simp at j
 have hckl:vN H x e.1=QV H.sp bk:=by
  unfold vN;rw[hg];simp only;rw[hlo];rfl
 rw[hckl]at W;have A:=F.bV b10 id;refine A.rI rfl (A.rI rfl (A.rI rfl (A.rI rfl (El bi λs12 v12 Q12 N Y V=>?_))));have hwn:(XP bk).length=QJ bk:=by simp[XP]
 have hwn2:QJ bk<=200:=by unfold QJ;omega
 have hbl:(QV H.sp bk).length<=40000:=by
  have:=oV (jL H.sp) (Zg bk);have hz:=Gi bk;have h3:VK bk<=250:=by unfold VK;omega
  have h4:oF bk<=33750:=by unfold oF;omega
  unfold QV;omega
 have hs12l:s12.len=QJ bk:=by have:=Y.1;simp[Wy,hwn]at this;omega
 have aa:=aI.bP W N;have E12:=(E510.trans F).trans N
 let f:Int->Bool:=λz=>eI H.sp z != 0||QZ H.sp z != Ga
 have hfu:(XP bk).filter f=tB H.sp bk:=rfl;have hfe:∀z,f z=(eI H.sp z != 0||QZ H.sp z != Ga):=λz=>rfl
 clear_value f
 have z10:=E510.1;have z11:=F.1;have z12:=N.1;refine UC (a:=.s) (bb:=bO) (λ(wr:Sl) (z:Int) u=>aF v10 u/\v12.size<=u.size/\bT s12 1 (Wy (XP bk)) u Q12/\∃(i:Nat) (Qw:Rg),z=i/\i<=QJ bk/\bT wr 1 (Wy (QV H.sp bk++((XP bk).take i).filter f)) u Qw/\∀c,Qw c->v10.size<=c/\c<u.size/\¬Q12 c) (λ_ z _=>QJ bk-z.toNat)
  ⟨F.trans N,zE _,Y,0,Q11,rfl,O,by rw[vA,List.filter_nil,kb];exact aa,λc d=>by have:=hQ11 c d;exact⟨O,O,λh=>by have:=V c h;omega⟩⟩ ?_
 rintro(wr:Sl) (z:Int) u ⟨eu,zu,hs12u,i,Qw,rfl,hi,hrw,hQw⟩;have E12u:=E510.trans eu;have K:=o4.fr E12u;have hfl:(((XP bk).take i).filter f).length<=i:=kx (oV _ _) (by rw[zY];omega);refine cN (λhlt=>?_) λhge=>?_
 ·have hx:(XP bk)[i]?=some ((XP bk)[i]' O):=cW _;generalize ((XP bk)[i]' O)=zz at hx;have hzi:=HT bi (zG hx);have htk:((XP bk).take (i+1)).filter f=((XP bk).take i).filter f++(if f zz then[zz]else[]):=by
   rw[j6,hx,qD,yl]
   congr 1
   by_cases h:f zz=true
   ·rw[vS h,zC h];rfl
   ·rw[vj h,zB h];rfl
  refine(bT.fW hs12u).lQ hx (bL (K.b.rP rfl (yG K.p (C6 K.p.h zz O λw13 B=>?_))));refine KM (λr w=>w=w13/\r=f zz) (λr w ⟨hw,hr⟩=>?_) λJ hJ=>cQ (λh=>hJ _ _ ⟨rfl,by rw[hfe,h];rfl⟩) λh=>hJ _ _ ⟨rfl,by rw[hfe,h];rfl⟩;rw[hw,hr];have z13:=B.1;have Z:=aI.bP hs12u B;refine cQ (λht=>?_) λhf=>cT (m:=i+1) O O ⟨⟨eu.trans B,O,Z,i+1,Qw,rfl,O,by rw[htk,hf];simpa using aI.bP hrw B,λc d=>by have:=hQw c d;exact⟨this.1,O,this.2.2⟩⟩,O⟩;refine wJ (aI.bP hrw B) (by rw[zJ];omega) zz λs' w14 ac hr14=>?_;have z14:=ac.1;refine cT (m:=i+1) O O ⟨⟨Ext.fresh (eu.trans B) ac λc d=>(hQw c d).1,O,aI.bS Z ac λc _ h1 h2=>(hQw c h2).2.2 h1,i+1,_,rfl,O,by rw[htk,ht,zC rfl,←zl];exact hr14,λc d=>?_⟩,O⟩;rcases d with d|d
  ·have:=hQw c d;exact⟨this.1,O,this.2.2⟩
  ·exact⟨by have:=eu.1;omega,d.2,λh=>by have:=V c h;omega⟩
 ·have hin:i=QJ bk:=by omega
  subst hin;have hwr:QV H.sp bk++((XP bk).take (QJ bk)).filter f=Ku H bk:=by
   rw[lN O,hfu];rfl
  rw[hwr]at hrw;have hwl:wr.len=(Ku H bk).length:=by have:=hrw.1;simp[Wy]at this;omega
  have hwb:(Ku H bk).length<=1000000:=by rw[←hwr,zJ];omega
  have D:=eu.bV b4' id;refine ue (λw=>bZ w U.size [.int .i64 e.1,.int .i64 e.2]/\Ext (kz P gb km fm qb Qq Qr) U w/\v4.size<=w.size/\∃Qr' M,(∀c,Qr' c->Qr c\/v4.size<=c)/\QP σ0 w L H held s0 P gb km fm x qb (Cut (λb=>v2.size<=b) v3) Qr' s3 M ⟨q.bl,q.by',r,if Ku H bk=[]then q.rs else q.rs++[(e.1,lH (Ku H bk))]⟩) (λw ⟨bw,Ew,zw,Qr',M,Q,ow⟩=>?_) λJ hJ=>?_
  ·refine bL (ow.b.rP rfl (bw.rI rfl (Zh.o ?_)));unfold Zh.v;refine IU ow.p gc xi thread e.1 false (λw2 C e2=>?_) λb2 w2 ts H1 ab s0' P' er hm hf hw op fe e2 p2 hP2=>?_
   ·refine hR w2 H x _ (.stay g hg j C) ⟨L,held,s0,P,_,Qr',s3,M,ow.fr e2,rfl,Ew.gp e2,base (λc d=>.inl d) Q⟩
   ·rw[hg]at hm;cases hm;have o2':=ow.eY e2 p2 hP2;refine hR w2 H1 _ _ (.free g hg j hf hw op fe) ⟨{L with ts:=ts},ab,s0',P',_,Qr',s3,M,o2',rfl,Ew.trans (e2.sub λc d=>.inl d),base (λc d=>(hP2 c d).imp id λh=>O) Q⟩
  ·refine cN (λhpos=>?_) λhneg=>?_
   ·have C:Ku H bk≠[]:=λh=>by rw[h]at hwl;simp at hwl;omega
    refine⟨λm=>bZ m qb (vC gb {q with q:=r} s3 rs)/\bZ m U.size [.int .i64 e.1,.int .i64 e.2],⟨K.b,D⟩,bL (gL (c:=.s) (y:=rs) (λm hm=>hm.1) rfl (gL (c:=bO) (y:=e.1) (λm hm=>hm.2) rfl ?_))⟩;refine Wmr (bT.fW hrw) hwb C ⟨⟨K.b,D⟩,?_⟩;have nr1:¬Qr qb:=o.sD.2.2.2;have nr2:¬Qr U.size:=λh=>by have:=(o.qr _ h).2.1;omega
    refine Fq K.rr (by show q.rs.length<=100000;omega) (e.1,lH (Ku H bk)) (λw E=>⟨E.bV K.b id,E.bV D id⟩) λs' w E hr'=>⟨⟨E.bV K.b nr1,E.bV D nr2⟩,?_⟩;have qi2:oK {({q with q:=r}:Qu)with rs:=q.rs++[(e.1,lH (Ku H bk))]}:=⟨G.bl,G.by',G.ql,G.qs,by show(q.rs++[_]).length<=10000;rw[zJ,qP];omega⟩;refine bL (K.gE E hr' (λc d=>d) qi2 λw2 e2 o2'=>hJ w2 ?_);have zw:=E.1;have zw2:=e2.1;refine⟨e2.bV (E.bV D nr2) (λ(h:U.size=qb)=>O),((E4.gp E12u).trans (E.sub λc d=>.inr (.inr (.inr d)))).trans (e2.sub λc d=>.inr (.inl d)),by have:=E12u.1;omega,_,s',λc (d:Qr c\/u.size<=c/\c<w.size)=>d.imp id λh=>(by have:=E12u.1;omega),?_⟩;rw[zB C];exact o2'
   ·have hnil:Ku H bk=[]:=tz O;refine hJ u ⟨D,E4.gp E12u,by have:=E12u.1;omega,Qr,rs,λc d=>.inl d,?_⟩;rw[zC hnil];exact K
structure QS (x:Gu) (q:Qu):Prop where
 xi:∀e∈x.kn,e.1=e.2.1/\gT e.2
 kl:x.kn.length<=1000000
 qa:∀e∈q.q,iN e.1
 rl:q.rs.length+q.q.length<=9000
theorem gK.side (r:gK thread H x q H' x' q')(h:QS x q):QS x' q':=by
 obtain⟨i,_,_,g,e,d⟩:=r.len;exact⟨λe a=>h.xi e (r.kn e a),kx r.kl h.kl,λk b=>h.qa k (by rw[d];exact mu _ b),by have:=h.rl;omega⟩
theorem Κ (hi:oK q)(h:Ut q=true):q.q≠[]:=λe=>by
 unfold Ut at h;rw[e]at h;have:=hi.bl;have:=hi.by';simp[iF]at h;omega
theorem SD {thread:Int}{K:aP}(o:QP σ0 U L H held s0 P gb km fm x qb Qq Qr qs rs q)(gc:Gc σ0)(s:QS x q)
 (hR:∀w H' x' q',iM thread H x q H' x' q'->QO σ0 U w L.p gb km fm qb (kz P gb km fm qb Qq Qr) H' x' q'->K w) :
 X6 [] (λI1=>I1 U) λJ1 v17=>Jn [.b] (λ(t99:Bool) v18=>If t99 (WD.c (aW qb) thread v18 λv19=>J1 v19) (K v18)) λJ2=>
  dY v17 λS1=>bW (some ⟨qb,0,none⟩) λa82=>gG S1 .s (a82.add 3) λ(t84:Sl)=>bW (some ⟨qb,0,none⟩) λa87=>gG S1 bO (a87.add 1) λ(t89:Int)=>If (decide (((t84.len:Nat):Int)>t89)) (J2 true v17)
   (bW (some ⟨qb,0,none⟩) λa95=>gG S1 bO (a95.add 2) λ(t97:Int)=>Wx.c (aW qb) v17 λt93 v20=>And (S1 v20)<|J2 (decide (t93>t97)) v20):=by
 refine CU (λn u=>∃H1 A q1,n=q1.q.length/\QO σ0 U u L.p gb km fm qb (kz P gb km fm qb Qq Qr) H1 A q1/\(∀H' x' q',iM thread H1 A q1 H' x' q'->iM thread H x q H' x' q')/\QS A q1) ⟨_,H,x,q,rfl,o.qo (Ext.refl _ _),λ_ _ _ h=>h,s⟩ ?_;rintro n u ⟨H1,A,q1,rfl,X,R,s1⟩ J1 J;obtain⟨L1,d,M,P1,Qq1,Qr1,a,D,o1,C,F,B⟩:=X;refine xV (λr w=>aF u w/\r=Ut q1) (λr w ⟨g,E⟩=>?_) λJ2 z=>?_
 ·have ow:=o1.fr g;refine cQ (λV=>?_) λZ=>hR w H1 A q1 (R _ _ _ (.stop (by rw[←E];exact Z))) ⟨L1,d,M,P1,Qq1,Qr1,a,D,ow,C,F.gp g,B⟩;have j:Ut q1=true:=by rw[←E];exact V
  have Y:=s1.rl;refine ES ow gc s1.xi s1.kl s1.qa (Κ o1.i j) O λS H2 W q2 fr G=>?_;have N:=fr.len;refine J q2.q.length S O ⟨H2,W,q2,rfl,?_,λ_ _ _ h=>R _ _ _ (.next j fr h),fr.side s1⟩;rw[C]at G;exact QO.then (F.gp g) B G
 ·have Q:∀m,aF u m->bZ m qb (vC gb q1 a D):=λm e=>e.bV o1.b id;have N:=o1.rq.kL;refine⟨λm=>aF u m,Ext.refl _ _,bL (gL (c:=.s) (y:=a) Q rfl (bL (gL (c:=bO) (y:=q1.bl) Q rfl (cN (λh=>z _ _ ⟨Ext.refl _ _,?_⟩) λh=>bL (gL (c:=bO) (y:=q1.by') Q rfl (D6 o1 λw g=>⟨g,z _ _ ⟨g,?_⟩⟩))))))⟩
  ·unfold Ut;rw[zI (show(q1.q.length:Int)>q1.bl by rw[←N];exact h)];rfl
  ·unfold Ut;rw[zM (show ¬(q1.q.length:Int)>q1.bl by rw[←N];exact h),wH]
theorem HM (o:QP σ0 U L H held s0 P gb km fm x qb Qq Qr qs rs q)(gc:Gc σ0)(s:QS x q)(thread:Int){R:Int->Int->Hp->Prop}(h0:∀w,ZH H thread≠0->aF U w->R 0 (ZH H thread) w)
 (h1:∀w H' x' q',ZH H thread=0->iS thread H x q H' x' q'->QO σ0 U w L.p gb km fm qb (kz P gb km fm qb Qq Qr) H' x' q'->R (q.q.length:Int) 0 w):Wt.c (aW qb) thread U R:=by
 refine Wt.o ?_;unfold Wt.v;refine Iw o thread λv e=>cQ (λa=>h0 v (by simpa using a) e) λF=>?_;have C:ZH H thread=0:=by simpa using F
 have o1:=o.fr e;have G:=o.rq.kL;refine bL (o1.b.rS rfl ?_);refine CU (λn u=>∃H1 m q1,n=q1.q.length/\QO σ0 U u L.p gb km fm qb (kz P gb km fm qb Qq Qr) H1 m q1/\(∀H' x' q',iS thread H1 m q1 H' x' q'->iS thread H x q H' x' q')/\QS m q1) ⟨_,H,x,q,rfl,o.qo e,λ_ _ _ h=>h,s⟩ ?_;rintro n u ⟨H1,m,q1,rfl,S,M,s1⟩ J1 D;obtain⟨L1,d,E,P1,Qq1,Qr1,K,J,o1,z,A,y⟩:=S;have g:=o1.rq.kL;refine bL (o1.b.rS rfl (cN (λi=>?_) λj=>?_))
 ·have a:q1.q≠[]:=λh=>by rw[h]at g;simp at g;simp only at i;omega
  have V:=s1.rl;refine ES o1 gc s1.xi s1.kl s1.qa a O λN H2 Q q2 fr B=>?_;have W:=fr.len;refine D q2.q.length N O ⟨H2,Q,q2,rfl,?_,λ_ _ _ h=>M _ _ _ (.next fr h),fr.side s1⟩;rw[z]at B;exact QO.then A y B
 ·have r:q1.q=[]:=tz (by simp only at j;omega);have:=h1 u H1 m q1 C (M _ _ _ (.stop r)) ⟨L1,d,E,P1,Qq1,Qr1,K,J,o1,z,A,y⟩;rw[←G]at this;exact this
def lZ (H:Hw)(x:Gu)(q:Qu)(thread addr:Int):Int:=
 if ZH H thread≠0 then ZH H thread else if addr∈q.q.map (·.1)then 9 else match bU x.kn addr with
 | none=>mi H x thread addr true
 | some b=>if UK H b then 5 else if QV H.sp b≠[]then 10 else 0
theorem R5 {sp:Sp}{l:List Int}{n:Nat}{z:Int}(h:l[n]?=some z)(f:Int->Int):iJ sp (l.take (n+1)) f=ZF (iJ sp (l.take n) f) z (f z):=by
 rw[j6,h,qD,Cq]
set_option maxRecDepth 16000 in
theorem Hk (o:QP σ0 U L H held s0 P gb km fm x qb Qq Qr qs rs q)(gc:Gc σ0)(s:QS x q)(hq:q.q.length<=65)(hrl:q.rs.length+q.q.length<=8000)(thread:Int){addr:Int}(ha:iN addr){R:aN}(h0:∀w,lZ H x q thread addr≠0->aF U w->R (lZ H x q thread addr) w)
 (h1:∀w b H' x' q',bU x.kn addr=some b->lZ H x q thread addr=0->iM thread (dO H b) x {q with q:=q.q++[(addr,b.2.1)]} H' x' q'->QO σ0 U w L.p gb km fm qb (kz P gb km fm qb Qq Qr) H' x' q'->R 0 w):Wj.c (aW qb) thread addr U R:=by
 refine Wj.o ?_;unfold Wj.v;unfold lZ at h0 h1;refine Iw o thread λv e=>cQ (λj=>?_) λheq=>?_
 ·have hn:ZH H thread≠0:=by simpa using j
  rw[zC hn]at h0;exact h0 v hn e
 have hrd:ZH H thread=0:=by simpa using heq
 rw[zB (by rw[hrd];decide)]at h0 h1;have o1:=o.fr e;refine Η o1 addr λv1 e1=>cQ (λhh=>?_) λhh=>?_
 ·have K:addr∈q.q.map (·.1):=by simpa using hh
  rw[zC K]at h0;exact h0 v1 aB (e.trans e1)
 have K:¬addr∈q.q.map (·.1):=by simpa using hh
 rw[zB K]at h0 h1;have o2:=o1.fr e1;refine B9 o2 s.xi s.kl ha (λw2 e2 hn=>sq λw3 e3 b3=>cF rfl ?_) λw2 bk e2 E=>sq λw3 e3 b3=>cD rfl ?_
 ·rw[hn]at h0;have o3:=(o2.fr e2).fr e3;refine bL (o3.b.rP rfl (M8 (IU o3.p gc s.xi thread addr true (λw4 j N=>h0 w4 j ((((e.trans e1).trans e2).trans e3).trans N)) λb w ts H1 held' B P' e hm'=>by rw[hn]at hm';cases hm')))
 rw[E]at h0;simp only at h0;have M:gT bk:=(s.xi _ (Z9 E)).2;have bb':=M.base;have bz:=M.z;have bm:=M.m;have bt:=M.t;have bs:=M.s;have hww:=ZU (n:=bk.2.1) O;have E3:=((e.trans e1).trans e2).trans e3;have o3:=o.fr E3;refine bL (o3.b.rP rfl (FR o3.p s.xi addr λs4 v4 Q4 N Y _=>cQ (λj=>?_) λhe0=>?_))
 ·have d:kZ H x addr≠0:=by simpa using j
  have Q:UK H bk=true:=by
   unfold kZ at d;rw[E]at d;simp only at d;cases Q:UK H bk with
   | true=>rfl
   | false=>rw[Q]at d;simp at d
  have:kZ H x addr=5:=by unfold kZ;rw[E];simp only;rw[Q];rfl
  rw[this];rw[Q]at h0;exact h0 v4 aA (E3.trans N)
 have d:kZ H x addr=0:=by simpa using he0
 have F:UK H bk=false:=by
  unfold kZ at d;rw[E]at d;simp only at d;cases Q:UK H bk with
  | false=>rfl
  | true=>rw[Q]at d;simp at d
 have X:vN H x addr=QV H.sp bk:=by
  unfold vN;rw[E];simp only;rw[F];rfl
 rw[X]at Y;rw[F]at h0;simp only[za,jT]at h0;have D:s4.len=(QV H.sp bk).length:=by have:=Y.1;simp[Wy]at this;omega
 refine cN (λhpos=>?_) λhneg=>?_
 ·have j:QV H.sp bk≠[]:=λh=>by rw[h]at D;simp at D;omega
  rw[zC j]at h0;exact h0 v4 aB (E3.trans N)
 have hnil:QV H.sp bk=[]:=tz O;have h1:=λw H' x' q'=>h1 w bk H' x' q' E (by rw[E];simp only;rw[F,hnil];rfl);have b4:=N.bV b3 id;have E4:=E3.trans N;have o4:=o.fr E4;refine b4.rI rfl (b4.rI rfl (b4.rI rfl (b4.rI rfl (El M λs5 V Q5 e5 W hQ5=>?_))));have hwn:(XP bk).length=QJ bk:=by simp[XP]
 have hwn2:QJ bk<=200:=by unfold QJ;omega
 have hs5l:s5.len=QJ bk:=by have:=W.1;simp[Wy,hwn]at this;omega
 have b5:=e5.bV b4 id;have E5:=E4.trans e5;have o5:=o.fr E5;have z4:=E4.1;have z5:=e5.1;have Z:=b5.lt;have G:U.size<=w2.size:=by have:=e.1;have:=e1.1;have:=e2.1;omega
 have aa:∀c,U.size<=c->c<V.size->¬Mg P gb km fm c:=λc h1 h2 hM=>by have:=uQ o.p hM;omega
 have hnP:∀{P':Rg},(∀c,P' c->P c\/V.size<=c)->∀c,U.size<=c->c<V.size->¬P' c:=λhP c h1 h2 hp=>by
  rcases hP c hp with h|h
  ·have:=(o.p.pP c h).2;omega
  ·omega
 refine Qv (a:=bO) (λ(z:Int) u=>∃(i:Nat) (B:Sp) (P':Rg),z=i/\i<=QJ bk/\Ext (Mg P gb km fm) V u/\QP σ0 u L {H with sp:=iJ H.sp ((XP bk).take i) λ_=>Ga} held B P' gb km fm x qb Qq Qr qs rs q/\∀c,P' c->P c\/V.size<=c) (λz _=>QJ bk-z.toNat)
  ⟨0,s0,P,rfl,O,Ext.refl _ _,by rw[vA];exact o5,λc g=>.inl g⟩ ?_
 rintro(z:Int) u ⟨i,B,P',rfl,hi,eu,A,hP'⟩;have zu:=eu.1;have S:bT s5 1 (Wy (XP bk)) u Q5:=aI.bS W eu λc _ g hM=>by have:=hQ5 c g;exact aa c O this.2 hM
 refine cN (λhlt=>?_) λhge=>?_
 ·have hx:(XP bk)[i]?=some ((XP bk)[i]' O):=cW _;generalize ((XP bk)[i]' O)=zz at hx;have hzi:=HT M (zG hx);refine(bT.fW S).lQ hx (bL (A.b.rP rfl (yG A.p ?_)));refine A.p.write gc zz (-1234567) O λw6 s6 P6 e6 p6 ab=>?_;have o6:=A.eY (e6.sub λc g=>.inl g) p6 ab;refine cT (m:=i+1) O O ⟨⟨i+1,s6,P6,rfl,O,Ext.dQ eu e6 λc g=>(hP' c g).imp .inl id,?_,λc g=>?_⟩,O⟩
  ·rw[R5 hx];exact o6
  ·rcases ab c g with h|h
   ·exact hP' c h
   ·exact .inr O
 ·have hin:i=QJ bk:=by omega
  subst hin;rw[lN O]at A;have A:QP σ0 u L (dO H bk) held B P' gb km fm x qb Qq Qr qs rs q:=A;have J:=eu.bV b5 (aa _ G Z);have nq:¬Qq w2.size:=λh=>by have:=(o.qq _ h).2.1;omega
  refine⟨λm=>bZ m qb (vC gb q qs rs)/\bZ m w2.size (kM (bk.1,bk.2.1,bk.2.2.1,bk.2.2.2.1)),⟨A.b,J⟩,bL (gL (c:=.s) (y:=qs) (λm K=>K.1) rfl (gL (c:=bO) (y:=bk.2.1) (λm K=>K.2) rfl ?_))⟩;refine Fq A.rq (by have:=o.i.ql;omega) (addr,bk.2.1) (λw C=>⟨C.bV A.b id,C.bV J id⟩) λs' w C hr'=>⟨⟨C.bV A.b o.sD.2.2.1,C.bV J nq⟩,?_⟩;have qi2:oK {q with q:=q.q++[(addr,bk.2.1)]}:=⟨o.i.bl,o.i.by',by show(q.q++[_]).length<=66;rw[zJ,qP];omega,λk r=>by
   rcases zK.1 r with r|r
   ·exact o.i.qs k r
   ·rw[zN]at r;subst r;exact bs,o.i.rl⟩
  refine bL (A.xh C hr' (λc g=>g) qi2 λw2' e2' o2'=>?_);have qs2:QS x {q with q:=q.q++[(addr,bk.2.1)]}:=⟨s.xi,s.kl,λk r=>by
   rcases zK.1 r with r|r
   ·exact s.qa k r
   ·rw[zN]at r;subst r;exact ha,by show q.rs.length+(q.q++[_]).length<=9000;rw[zJ,qP];omega⟩
  have zw:=C.1;refine SD o2' gc qs2 λw3' H' x' q' hov oo=>h1 w3' H' x' q' hov ?_;refine QO.then (v:=w2') (T:=kz P' gb km fm qb (λb=>Qq b\/u.size<=b/\b<w.size) Qr) ((((aF.to E5).trans (eu.sub λc g=>.inl g)).trans (C.sub λc g=>.inr (.inr (.inl g)))).trans (e2'.sub λc g=>.inr (.inl g))) (λc g=>?_) oo;have:=E5.1;rcases g with(h|h)|h|h|h
  ·exact(hP' c h).imp (λh=>.inl (.inl h)) λh=>by omega
  ·exact .inl (.inl (.inr h))
  ·exact .inl (.inr (.inl h))
  ·exact h.imp (λh=>.inr (.inr (.inl h))) λh=>by omega
  ·exact .inl (.inr (.inr (.inr h)))
end Go.Ar
namespace Go.Proofs
open Go.Vc
set_option maxRecDepth 100000
def Xh.h:Hn:=.q .o1 (.q (.q .o5 .aK) (.q (.q .o1 (.k (.loop [(5,.I)] (.q (.q .o4 (.c .l .l)) (.q (.k (.q (.oq 9) .aK)) .o3))))) .aM))
def Xh.v (a b:Sl)(c:Hp)(d:aO):Prop:=If (((a.len:Nat):Int) != ((b.len:Nat):Int)) (d false c) (X6 [bO] (λe=>e 0 c) λf (g:Int) h=>If (g<((a.len:Nat):Int)) (Ix a.a a.len g 2 λi=>aQ i 0 h λj=>aQ i 1 h λk=>Ix b.a b.len g 2 λl=>aQ l 0 h λm=>aQ l 1 h λn=>If (!((j==m)&&((k==n)&&true))) (d false h) (bM (g+1) λo=>f o h)) (d true h))
theorem Xh.o {a b c d}(e:Xh.v a b c d):Xh.c a b c d:=Wa Tryz.func54 (x:=Xh.h) (R0 e)
end Go.Proofs
namespace Go.Ar
open Go Go.Vc Go.Proofs
open Go.Vc (bU dA cO)
variable {thread:Int}{U σ0 v w w':Hp}{F P Q X T Tc:Rg}{L:dE}{H H' H1:Hw}{held:List Pc}{s0 sp:Sp}{t n:Nat}{gb km fm m pp:Nat}{x y x':Gu}{b:B5}{qb:Nat}{Qq Qr:Rg}{qs rs:Sl}{q q':Qu}
theorem QP.tJ (o:QP σ0 U L H held s0 P gb km fm x qb Qq Qr qs rs q){L':dE}{held':List Pc}{s0':Sp}{P':Rg}(hp:L'.p=L.p)(e:Ext (Mg P gb km fm) U w)(p':GP σ0 w L' H' held' s0' P' gb km fm y)(hP:∀b,P' b->P b\/U.size<=b) :
 QO σ0 U w L.p gb km fm qb (kz P gb km fm qb Qq Qr) H' y q:=by
 refine⟨L',held',s0',P',Qq,Qr,qs,rs,o.eY e p' hP,hp,e.sub λc a=>.inl a,λc a=>?_⟩;rcases a with(h|h)|h|h|h
 ·exact(hP c h).imp (λh=>.inl (.inl h)) id
 ·exact .inl (.inl (.inr h))
 ·exact .inl (.inr (.inl h))
 ·exact .inl (.inr (.inr (.inl h)))
 ·exact .inl (.inr (.inr (.inr h)))
theorem Iy (o:QP σ0 U L H held s0 P gb km fm x qb Qq Qr qs rs q)(gc:Gc σ0)(x0:0<=x.no/\x.no<=100000)(thread size align:Int){R:Int->Int->Hp->Prop}
 (h0:∀w,mw size align=false->aF U w->R 0 1 w)
 (h1:∀e w H',mw size align=true->e≠0->KK H thread 0 (zA align+ZE size+16) (zA align) 0 H' 0 e->fR H H'->H'.live=H.live->QO σ0 U w L.p gb km fm qb (kz P gb km fm qb Qq Qr) H' x q->R 0 e w)
 (h2:∀b w H1,vQ H x size align b H1->KK H thread 0 (zA align+ZE size+16) (zA align) 0 H1 b.2.2.1 0->fR H H1->QO σ0 U w L.p gb km fm qb (kz P gb km fm qb Qq Qr) {H1 with sp:=jR H1.sp b} (x.eH b) q->R b.1 0 w) :
 Wp.c (aW qb) thread size align U R:=by
 refine Wp.o ?_;unfold Wp.v;refine VY o (cD rfl (bL (o.b.rP rfl (Td o.p gc x0 thread size align h0 (λe w ts H' a g P' u d i op y j m r=>?_) λb w ts H1 a g P' z i op j m r=>?_))))
 ·exact h1 e w H' u d i op y (o.tJ (L':={L with ts:=ts}) rfl (j.sub λc s=>.inl s) m r)
 ·exact h2 b w H1 z i op (o.tJ (L':={L with ts:=ts}) rfl j m r)
theorem IV (o:QP σ0 U L H held s0 P gb km fm x qb Qq Qr qs rs q)(s:QS x q)(addr:Int)(ha:addr<=9223372036854775807){R:Int->Int->Hp->Prop}(ht:∀w,UI x q addr=true->aF U w->R 0 9 w)(h0:∀e w,UI x q addr=false->e≠0->aF U w->pc H x addr e->R 0 e w)
 (h1:∀w,UI x q addr=false->aF U w->pc H x addr 0->R (QZ H.sp addr) (eI H.sp addr) w):WF.c (aW qb) addr U R:=by
 refine WF.o ?_;unfold WF.v;refine VY o (cD rfl (En o s.xi s.kl s.qa addr λw e=>cQ (λh=>ht w h e) λh=>?_));have o1:=o.fr e;exact bL (o1.b.rP rfl (NZ o1.p s.xi addr ha (λi d a e2 g=>h0 i d h a (e.trans e2) g) λd e2 g=>h1 d h (e.trans e2) g))
theorem NY (o:QP σ0 U L H held s0 P gb km fm x qb Qq Qr qs rs q)(gc:Gc σ0)(s:QS x q)(addr u:Int)(ha:addr<=9223372036854775807){R:aN}(ht:∀w,UI x q addr=true->aF U w->R 9 w)(h0:∀e w,UI x q addr=false->e≠0->aF U w->pc H x addr e->R e w)
 (h1:∀w,UI x q addr=false->pc H x addr 0->QO σ0 U w L.p gb km fm qb (kz P gb km fm qb Qq Qr) {H with sp:=ZF H.sp addr u} x q->R (eI H.sp addr) w):WQ.c (aW qb) addr u U R:=by
 refine WQ.o ?_;unfold WQ.v;refine VY o (cD rfl (En o s.xi s.kl s.qa addr λw e=>cQ (λh=>ht w h e) λh=>?_));have o1:=o.fr e;refine bL (o1.b.rP rfl (PW o1.p gc s.xi addr u ha (λr d a e2 j=>h0 r d h a (e.trans e2) j) λd s2 P2 j e2 m g=>h1 d h j ?_));exact QO.then (T:=kz P gb km fm qb Qq Qr) (aF.to e) (λc i=>.inl i) (o1.tJ rfl (e2.sub λc i=>.inl i) m g)
theorem Lw (p:GP σ0 U L H held s0 P gb km fm x)(WV bytes:Int){R:Option Addr->Int->Hp->Prop}(h0:¬(0<=WV/\WV<=64/\0<=bytes/\bytes<=16384)->R none 1 U)
 (h1:0<=WV/\WV<=64/\0<=bytes/\bytes<=16384->∀w,aF U w->QP σ0 w L H held s0 P gb km fm x U.size (λ_=>False) (λ_=>False) ⟨none,0,0⟩ ⟨none,0,0⟩ ⟨WV,bytes,[],[]⟩->R (some ⟨U.size,0,none⟩) 0 w) :
 Zt.c (aW gb) WV bytes U R:=by
 refine Zt.o ?_;unfold Zt.v;refine yG p (KM (λr w=>w=U/\r=decide (WV<0)) (λr w ⟨i,g⟩=>?_) λJ a=>cD rfl (a _ _ ⟨rfl,rfl⟩));rw[i,g];refine KM (λr w=>w=U/\r=decide (WV<0\/WV>64)) (λr w ⟨i,g⟩=>?_) λJ a=>cN (λh=>a _ _ ⟨rfl,by rw[zI (.inl h)]⟩) λh=>a _ _ ⟨rfl,by rw[kW,decide_eq_true_iff,decide_eq_true_iff];omega⟩;rw[i,g];refine KM (λr w=>w=U/\r=decide (WV<0\/WV>64\/bytes<0)) (λr w ⟨i,g⟩=>?_) λJ a=>cN (λh=>a _ _ ⟨rfl,by rw[zI O]⟩) λh=>a _ _ ⟨rfl,by rw[kW,decide_eq_true_iff,decide_eq_true_iff];omega⟩;rw[i,g];refine KM (λr w=>w=U/\r=decide (WV<0\/WV>64\/bytes<0\/bytes>16384)) (λr w ⟨i,g⟩=>?_) λJ a=>cN (λh=>a _ _ ⟨rfl,by rw[zI O]⟩) λh=>a _ _ ⟨rfl,by rw[kW,decide_eq_true_iff,decide_eq_true_iff];omega⟩;rw[i,g];refine cN (λh=>h0 O) λh=>?_;refine nw (cs:=[.pointer (some ⟨gb,0,none⟩),.int .i64 WV,.int .i64 bytes,.slice none 0 0,.slice none 0 0]) λw m e d=>h1 O w e ?_;exact⟨p.fr e,d,⟨rfl,.inl ⟨rfl,rfl⟩⟩,⟨rfl,.inl ⟨rfl,rfl⟩⟩,⟨p.e.1,λj=>by have:=uQ p j;omega,id,id⟩,λb d=>d.elim,λb d=>d.elim,λb d=>d.elim,⟨by show 0<=WV/\WV<=64;omega,by show 0<=bytes/\bytes<=16384;omega,by simp,by simp,by simp⟩⟩
theorem Tm (n:Nat):(List.replicate n [Value.int .i64 0,.int .i64 0]).flatten=gO (List.replicate n (0,0)):=by
 induction n with
 | zero=>rfl
 | succ n ih=>rw[tD,tD,vv,ih];rfl
theorem WeY (o:QP σ0 U L H held s0 P gb km fm x qb Qq Qr qs rs q){R:Sl->Hp->Prop}(hR:∀s w Q,aF U w->bT s 2 (gO q.rs) w Q->(∀c,Q c->U.size<=c/\c<w.size)->R s w):WL.c (aW qb) U R:=by
 refine WL.o ?_;unfold WL.v;have g:=o.rr.kL;have u:=o.i.rl;refine VY o (cD rfl (bL (o.b.rS rfl (mk aC aC λv y e j=>?_))));have o1:=o.fr e;rw[Tm]at j;have a:=UO q.rs;refine bL (o1.b.rS rfl ⟨gO q.rs,by rw[a];simp only;omega,o1.rr.rd,Jq _,?_⟩);simp only at j ⊢;refine V9 j (by rw[a,UO,List.length_replicate];omega) λp o2 m=>?_;have d:List.take (0+0) (gO (List.replicate rs.len (0,0)))++gO q.rs++List.drop (0+0+(gO q.rs).length) (gO (List.replicate rs.len (0,0)))=gO q.rs:=by
  rw[List.drop_eq_nil_of_le (by rw[a,UO,List.length_replicate];omega)];simp
 rw[d]at m;refine hR _ p (· = U.size) (Ext.fresh e o2.ext λi (hi:i=U.size)=>O) ⟨by rw[a,g],.inr ⟨U.size,_,rfl,rfl,m,zE _,by rw[a,g],lL⟩⟩ λc r=>?_;have:=m.lt;omega
theorem Oa {a b:Sl}{xs ys:List P2}(ha:cV a 2 (gO xs) U F)(hb:cV b 2 (gO ys) U Q)(hl:xs.length<=1000000){R:aO}(hR:xs=ys->R true U)(he:xs=ys):Xh.c a b U R:=by
 subst he;refine Xh.o ?_;unfold Xh.v;have g:a.len=xs.length:=by have:=ha.1;rw[UO]at this;omega
 have s:b.len=xs.length:=by have:=hb.1;rw[UO]at this;omega
 rw[g,s];refine cD aA (Qv (a:=bO) (λ(i:Int) w=>w=U/\∃k:Nat,i=k/\k<=xs.length) (λi _=>xs.length-i.toNat) ⟨rfl,0,rfl,O⟩ ?_);rintro(i:Int) w ⟨rfl,k,rfl,hk⟩;refine cN (λx=>?_) λu=>hR rfl;have d:xs[k]?=some (xs[k]' O):=cW _;generalize (xs[k]' O)=r at d;rw[←g];refine tQ ha d λy o1 j=>eD (j 0 _ rfl) (eD (j 1 _ rfl) ?_);rw[g,←s];refine tQ hb d λz o2 p=>eD (p 0 _ rfl) (eD (p 1 _ rfl) ?_);exact cD aA (cT (m:=k+1) O O ⟨⟨rfl,k+1,rfl,O⟩,O⟩)
end Go.Ar
namespace Go.Proofs
open Go.Vc
set_option maxRecDepth 100000
def X7.h:Hn:=.q .o2 (.q (.q .o2 .aK) (.q .o3 (.q (.q .o2 .aK) (.q .o7 (.q .o9 (.q (.q (.cU (.seq [.op,.op,.op,.cY false 2 [.op,.op]])) .aK) (.q .o5 .l)))))))
def X7.v (a b c d e f g h:Int)(i:Hp)(j:Option Addr->Hp->Prop):Prop:=aV #[.I a,.I b,.I c,.I d,.I e,.I f] 25 i λk l=>aQ k 0 l λm=>aQ k 1 l λn=>aQ k 2 l λo=>aQ k 3 l λp=>aQ k 4 l λq=>aQ k 5 l λr=>W9.c m n o p q r l λs t=>If s (j none t) (aQ k 0 t λu=>aQ k 1 t λv=>aQ k 2 t λw=>aQ k 3 t λx=>aQ k 4 t λy=>aQ k 5 t λz=>WM.c u v w x y z t λaa ab=>If aa.isNone (j none ab) (Kf.c aa ab λac ad ae=>Zt.c ac g h ae λaf ag ah=>bX (λai aj=>If ai (j none aj) (aV #[.pointer aa,.pointer af,.slice none 0 0,.slice none 0 0] 35 aj λak al=>j (some ak) al)) λam=>If (ag != 0) (am true ah) (am af.isNone ah)))
theorem X7.o {a b c d e f g h i j}(k:X7.v a b c d e f g h i j):X7.c a b c d e f g h i j:=Wa Tryz.func13 (x:=X7.h) (R0 k)
def Xw.h:Hn:=.q .o1 (.q .o2 (.q (.q .o2 .aK) (.q .o7 (.q .o7 (.q (.q (.cU (.seq [.op,.op,.op,.cY false 2 [.op,.op]])) .aK) (.q .o7 (.q .o7 (.q .o7 (.q (.q (.cU (.seq [.op,.op,.op,.op,.op,.cY false 4 (RI.ops 4),.op,.cY false 7 (RI.ops 7),.op,.cY false 3 (RI.ops 3),.op,.cY false 4 (RI.ops 4)])) .aK) (.q .o8 (.q (.q (.cU (.seq [.op,.op,.op,.cY false 4 (RI.ops 4),.op,.cY false 7 (RI.ops 7),.op,.cY false 4 (RI.ops 4)])) .aK) (.q .o7 (.q (.cU (.seq [.op,.op,.op,.cY true 2 [.op,.op],.op,.cY true 7 (RI.ops 7),.op])) .l)))))))))))))
def Xw.v (a:Hp)(b:aO):Prop:=XO.c a λc d=>If c.isNone (b false d) (Kf.c c d λe f g=>Zt.c e 2 1000 g λh i j=>bX (λk l=>If k (b false l) (Wp.c h 0 24 8 l λm n o=>Wp.c h 0 24 8 o λp q r=>Wp.c h 0 24 8 r λs t u=>Wj.c h 0 m u λv w=>bX (λx y=>bX (λz aa=>bX (λab ac=>bX (λad ae=>If ad (b false ae) (WF.c h m ae λaf ag ah=>bX (λai aj=>bX (λak al=>bX (λam an=>If am (b false an) (Wt.c h 0 an λao ap aq=>bX (λar au=>bX (λav aw=>b av aw) λax=>If ar (WL.c h au λay az=>aV #[.I p,.I p] 62 az λa0 a1=>Xh.c ay ⟨some a0,1,1⟩ a1 λa2 a3=>ax a2 a3) (ax false au)) λa4=>If (ao==2) (a4 (ap==0) aq) (a4 false aq))) λa5=>If ak (a5 true al) (Xx.c c p 3 al λa6 a7=>a5 (a6 != 0) a7)) λa8=>If ai (a8 true aj) (Wz.c h aj λa9 ba=>aV #[.I p,.I s] 3 ba λbb bc=>XK.c a9 ⟨some bb,2,2⟩ bc λbd be=>a8 (!bd) be)) λbf=>If (ag != 9) (bf true ah) (Wj.c h 0 s ah λbg bh=>bf (bg != 0) bh))) λbi=>If ab (bi true ac) (Wj.c h 0 m ac λbj bk=>bi (bj != 9) bk)) λbl=>If z (bl true aa) (Wx.c h aa λbm bn=>bl (bm != 48) bn)) λbo=>If x (bo true y) (Wz.c h y λbp bq=>aV #[.I m,.I p] 3 bq λbr bs=>XK.c bp ⟨some br,2,2⟩ bs λbt bu=>bo (!bt) bu)) λbv=>If (v != 0) (bv true w) (Wj.c h 0 p w λbw bx=>bv (bw != 0) bx))) λbz=>If (i != 0) (bz true j) (bz h.isNone j))
theorem Xw.o {a b}(c:Xw.v a b):Xw.c a b:=Wa Tryz.func15 (x:=Xw.h) (R0 c)
def Xp.h:Hn:=.q .o2 (.q (.cU (.tail 5 (RI.ops 5) [.op,.op])) (.q (.q .o2 (.k (.q .o2 (.c (.q (.cU (.held true [10] (.tk [0,1,2,3,4,5,6,7,8,9] (.all [(10,.tk [11,12,13,14,15] (.done))])))) (.q (.q .o2 (.c (.o 11) .l)) .aL)) (.q .o2 (.c (.q (.cU (.tail 7 (RI.ops 7) [.op,.op])) (.q (.q .o2 (.c (.o 11) .l)) .aL)) (.q .o2 (.c (.q (.cU (.held true [6] (.tk [0,1,2,3,4,5] (.all [(6,.tk [7,8,9,10,11] (.done))])))) .aL) (.q .o2 (.c (.q (.o 11) .aL) (.q .o2 (.c (.q (.cU (.tail 7 (RI.ops 7) [.op,.op])) .l) .l)))))))))))) .aM))
def Xp.v (a:R2)(b c d e f g h:Int)(i:ByteArray)(j:Hp)(k:aN):Prop:=aV #[.I b,.I c,.I d,.I e,.I f,.I g,.I h,.string i] 40 j λl m=>bF a 2 m λo=>aQ l 0 m λp=>aQ l 1 m λq=>aQ l 2 m λr=>aQ l 3 m λs=>aQ l 4 m λt=>aQ l 5 m λu=>aQ l 6 m λv=>bD l 7 m λw=>Y1.c o p q r s t u v w m λx y=>aQ l 0 y λz=>If (z==40) (dY y λaa=>bW a λab=>aU aa ab 1 λac=>aS aa l 1 λad=>aS aa l 2 λae=>aS aa l 3 λaf=>Wp.c ac ad ae af y λag ah ai=>If (ah==0) (bF a 2 ai λak=>aV #[.I ag] 3 ai λal am=>App ak 1 8 3 [.I 0] ⟨some al,1,1⟩ am λan ao=>bW a λap=>aR ap 2 (.slice an.a an.len an.cap) ao λaq=>k ah aq) (k ah ai)) (If (z==41) (bG a 1 y λau=>aQ l 1 y λav=>Wj.c au av x y λaw ax=>If (aw==0) (bF a 3 ax λaz=>aV #[.I x] 3 ax λa0 a1=>App az 1 8 3 [.I 0] ⟨some a0,1,1⟩ a1 λa2 a3=>bW a λa4=>aR a4 3 (.slice a2.a a2.len a2.cap) a3 λa5=>k aw a5) (k aw ax)) (If (z==42) (dY y λa6=>bW a λa7=>aU a6 a7 1 λa8=>aS a6 l 1 λa9=>Wt.c a8 a9 y λba bb bc=>k bb bc) (If (z==43) (bG a 1 y λbe=>WF.c be x y λbf bg bh=>k bg bh) (If (z==44) (bG a 1 y λbj=>
 aQ l 6 y λbk=>WQ.c bj x bk y λbl bm=>k bl bm) (k 0 y)))))
theorem Xp.o {a b c d e f g h i j k}(l:Xp.v a b c d e f g h i j k):Xp.c a b c d e f g h i j k:=Wa Tryz.func17 (x:=Xp.h) (R0 l)
def X8.h:Hn:=.q .o2 (.q (.q .o3 .aK) (.q .o5 (.q (.q .o2 .aK) (.q (.q .o1 (.k (.loop [(12,.I)] (.q (.q .o4 (.c .l .l)) (.q (.k .o6) .o3))))) .aL))))
def X8.v (a b c d e f g h:Int)(i:Sl)(j:Int)(k:Hp)(l:Option Addr->Hp->Prop):Prop:=aV #[.I a,.I b,.I c,.I d,.I e,.I f] 25 k λm n=>Yb.c i j n λo p=>If o (l none p) (aQ m 0 p λq=>aQ m 1 p λr=>aQ m 2 p λs=>aQ m 3 p λt=>aQ m 4 p λu=>aQ m 5 p λv=>X7.c q r s t u v g h p λw x=>If w.isNone (l none x) (X6 [bO] (λy=>y 0 x) λz (aa:Int) ab=>If (aa<((i.len:Nat):Int)) (Ix i.a i.len aa 8 λac=>aQ ac 0 ab λad=>aQ ac 1 ab λae=>aQ ac 2 ab λaf=>aQ ac 3 ab λag=>aQ ac 4 ab λah=>aQ ac 5 ab λai=>aQ ac 6 ab λaj=>bD ac 7 ab λak=>Xp.c w ad ae af ag ah ai aj ak ab λal am=>bM (aa+1) λan=>z an am) (l w ab)))
theorem X8.o {a b c d e f g h i j k l}(m:X8.v a b c d e f g h i j k l):X8.c a b c d e f g h i j k l:=Wa Tryz.func20 (x:=X8.h) (R0 m)
end Go.Proofs
namespace Go.Ar
open Go Go.Vc Go.Proofs
open Go.Vc (bU dA cO)
variable {thread:Int}{U σ0 v w w':Hp}{F P Q X T T' Tc Qa Qf:Rg}{L:dE}{H H' H1:Hw}{held:List Pc}{s0 sp:Sp}{t n:Nat}{gb km fm m pp xb:Nat}{x y x':Gu}{b:B5}{qb:Nat}{Qq Qr:Rg}{qs rs addrs fl:Sl}{ad fd:List Int}{q q':Qu}
def QB (σ0 U:Hp)(pp gb km fm qb:Nat)(T:Rg)(H:Hw)(x:Gu)(q:Qu):Prop:=
 ∃L held s0 P Qq Qr qs rs,QP σ0 U L H held s0 P gb km fm x qb Qq Qr qs rs q/\L.p=pp/\T=kz P gb km fm qb Qq Qr
theorem QB.fr (o:QB σ0 U pp gb km fm qb T H x q)(e:aF U w):QB σ0 w pp gb km fm qb T H x q:=by
 obtain⟨L,a,s0,P,Qq,Qr,qs,g,h,d,b⟩:=o;exact⟨L,a,s0,P,Qq,Qr,qs,g,h.fr e,d,b⟩
theorem QB.out (o:QB σ0 U pp gb km fm qb T H x q)(e:Ext X U w)(hX:∀b,b<U.size->X b->¬T b/\σ0.size<=b):QB σ0 w pp gb km fm qb T H x q:=by
 obtain⟨L,a,s0,P,Qq,Qr,qs,g,h,d,rfl⟩:=o;exact⟨L,a,s0,P,Qq,Qr,qs,g,h.out e hX,d,rfl⟩
theorem QB.lt (o:QB σ0 U pp gb km fm qb T H x q){c:Nat}(h:T c):σ0.size<=c/\c<U.size:=by
 obtain⟨L,a,s0,P,Qq,Qr,qs,g,b,d,rfl⟩:=o;exact Fu b h
theorem QB.e (o:QB σ0 U pp gb km fm qb T H x q):aF σ0 U:=by
 obtain⟨L,a,s0,P,Qq,Qr,qs,g,b,d,rfl⟩:=o;exact b.p.e
theorem QB.hi (o:QB σ0 U pp gb km fm qb T H x q):∃held s0,HI H held s0:=by
 obtain⟨L,held,s0,P,Qq,Qr,qs,d,a,b,rfl⟩:=o;exact⟨held,s0,a.p.hi⟩
theorem QB.cf (o:QB σ0 U pp gb km fm qb T H x q):jk H:=by
 obtain⟨L,a,s0,P,Qq,Qr,qs,g,b,d,rfl⟩:=o;exact b.p.cf
theorem QB.qi (o:QB σ0 U pp gb km fm qb T H x q):oK q:=by
 obtain⟨L,a,s0,P,Qq,Qr,qs,g,b,d,rfl⟩:=o;exact b.i
theorem QO.tb (o:QO σ0 U w pp gb km fm qb Tc H x q):∃T',QB σ0 w pp gb km fm qb T' H x q/\Ext Tc U w/\∀c,T' c->Tc c\/U.size<=c:=by
 obtain⟨L',a,g,P',Qq',Qr',b,d,h,i,j,m⟩:=o;exact⟨_,⟨L',a,g,P',Qq',Qr',b,d,h,i,rfl⟩,j,m⟩
def Ao (hp qb:Nat)(addrs fl:Sl):List Value:=[.pointer (some ⟨hp,0,none⟩),.pointer (some ⟨qb,0,none⟩),.slice addrs.a addrs.len addrs.cap,.slice fl.a fl.len fl.cap]
def qF (T:Rg)(xb:Nat)(Qa Qf:Rg):Rg:=λb=>T b\/b=xb\/Qa b\/Qf b
structure OQ (σ0 U:Hp) (xb pp gb km fm qb:Nat) (T Qa Qf:Rg) (H:Hw) (x:Gu) (q:Qu) (addrs:Sl) (ad:List Int) (fl:Sl) (fd:List Int):Prop where
 p:QB σ0 U pp gb km fm qb T H x q
 b:bZ U xb (Ao pp qb addrs fl)
 ra:bT addrs 1 (Wy ad) U Qa
 rf:bT fl 1 (Wy fd) U Qf
 r8:σ0.size<=xb/\¬T xb/\¬Qa xb/\¬Qf xb
 qa:∀b,Qa b->σ0.size<=b/\b<U.size/\¬T b
 qf:∀b,Qf b->σ0.size<=b/\b<U.size/\¬T b
 dj:∀b,Qa b->¬Qf b
theorem OQ.oS (o:OQ σ0 U xb pp gb km fm qb T Qa Qf H x q addrs ad fl fd)(e:aF U w):OQ σ0 w xb pp gb km fm qb T Qa Qf H x q addrs ad fl fd:=
 ⟨o.p.fr e,e.bV o.b id,aI.bP o.ra e,aI.bP o.rf e,o.r8,λb a=>by have h:=o.qa b a;have:=e.1;exact⟨h.1,O,h.2.2⟩,λb a=>by have h:=o.qf b a;have:=e.1;exact⟨h.1,O,h.2.2⟩,o.dj⟩
theorem OQ.eY (o:OQ σ0 U xb pp gb km fm qb T Qa Qf H x q addrs ad fl fd)(e:Ext T U w)(p':QB σ0 w pp gb km fm qb T' H' x' q')(hT:∀c,T' c->T c\/U.size<=c):OQ σ0 w xb pp gb km fm qb T' Qa Qf H' x' q' addrs ad fl fd:=by
 have A:=e.1;have a:=o.b.lt;obtain⟨s,m,u,y⟩:=o.r8;have i:∀b,b<U.size->¬T b->¬T' b:=λb z r p=>(hT b p).elim r λh=>by omega
 exact⟨p',e.bV o.b m,aI.bS o.ra e λb _ d j=>(o.qa b d).2.2 j,aI.bS o.rf e λb _ d j=>(o.qf b d).2.2 j,⟨s,i _ a m,u,y⟩,λb g=>by have h:=o.qa b g;exact⟨h.1,O,i b h.2.1 h.2.2⟩,λb g=>by have h:=o.qf b g;exact⟨h.1,O,i b h.2.1 h.2.2⟩,o.dj⟩
theorem OQ.cE (o:OQ σ0 U xb pp gb km fm qb T Qa Qf H x q addrs ad fl fd){s':Sl}{ad':List Int}(e:Ext Qa U w)(hr:bT s' 1 (Wy ad') w λb=>Qa b\/U.size<=b/\b<w.size){K:aP}
 (hK:∀u,Ext (· = xb) w u->OQ σ0 u xb pp gb km fm qb T (λb=>Qa b\/U.size<=b/\b<w.size) Qf H x q s' ad' fl fd->K u):dX (Addr.add ⟨xb,0,none⟩ 2) (.slice s'.a s'.len s'.cap) w K:=by
 have L:=e.1;have E:=o.b.lt;obtain⟨y,A,z,B⟩:=o.r8;have J:=o.p.e.1;have G:=o.p.out e λb _ d=>⟨(o.qa b d).2.2,(o.qa b d).1⟩;have m:=aI.bS o.rf e λb _ g C=>o.dj b C g;refine(e.bV o.b z).s1 (by simp[Ao]) λu r b=>?_;have i:=r.ext;have D:=r.1;have s:¬(Qa xb\/U.size<=xb/\xb<w.size):=λh=>h.elim z λh=>by omega
 refine hK u i ⟨G.out i λb _ (d:b=xb)=>by subst d;exact⟨A,y⟩,b,aI.bS hr i λb _ j (d:b=xb)=>s (d▸j),aI.bS m i λb _ j (d:b=xb)=>B (d▸j),⟨y,A,s,B⟩,λb d=>?_,λb d=>by have h:=o.qf b d;exact⟨h.1,O,h.2.2⟩,λb d g=>?_⟩
 ·rcases d with d|d
  ·have h:=o.qa b d;exact⟨h.1,O,h.2.2⟩
  ·exact⟨O,O,λF=>by have:=o.p.lt F;omega⟩
 ·rcases d with d|d
  ·exact o.dj b d g
  ·have:=(o.qf b g).2.1;omega
theorem OQ.Ef (o:OQ σ0 U xb pp gb km fm qb T Qa Qf H x q addrs ad fl fd){s':Sl}{fd':List Int}(e:Ext Qf U w)(hr:bT s' 1 (Wy fd') w λb=>Qf b\/U.size<=b/\b<w.size){K:aP}
 (hK:∀u,Ext (· = xb) w u->OQ σ0 u xb pp gb km fm qb T Qa (λb=>Qf b\/U.size<=b/\b<w.size) H x q addrs ad s' fd'->K u):dX (Addr.add ⟨xb,0,none⟩ 3) (.slice s'.a s'.len s'.cap) w K:=by
 have L:=e.1;have E:=o.b.lt;obtain⟨y,A,z,B⟩:=o.r8;have J:=o.p.e.1;have G:=o.p.out e λb _ d=>⟨(o.qf b d).2.2,(o.qf b d).1⟩;have m:=aI.bS o.ra e λb _ C g=>o.dj b C g;refine(e.bV o.b B).s1 (by simp[Ao]) λu r b=>?_;have i:=r.ext;have D:=r.1;have s:¬(Qf xb\/U.size<=xb/\xb<w.size):=λh=>h.elim B λh=>by omega
 refine hK u i ⟨G.out i λb _ (d:b=xb)=>by subst d;exact⟨A,y⟩,b,aI.bS m i λb _ j (d:b=xb)=>z (d▸j),aI.bS hr i λb _ j (d:b=xb)=>s (d▸j),⟨y,A,z,s⟩,λb d=>by have h:=o.qa b d;exact⟨h.1,O,h.2.2⟩,λb d=>?_,λb d g=>?_⟩
 ·rcases d with d|d
  ·have h:=o.qf b d;exact⟨h.1,O,h.2.2⟩
  ·exact⟨O,O,λF=>by have:=o.p.lt F;omega⟩
 ·rcases g with g|g
  ·exact o.dj b d g
  ·have:=(o.qa b d).2.1;omega
inductive kU (H:Hw) (x:Gu) (q:Qu) (d:fB) (a:Int):Hw->Gu->Qu->Int->Option Int->Option Int->Prop
 | same (e:Int):(e=0->d.kd≠40/\d.kd≠41/\d.kd≠42)->kU H x q d a H x q e none none
 | full {H':Hw} {e:Int}:d.kd=40->mw d.a d.b=true->e≠0->KK H d.th 0 (zA d.b+ZE d.a+16) (zA d.b) 0 H' 0 e->fR H H'->H'.live=H.live->kU H x q d a H' x q e none none
 | eH {b:B5} {H1:Hw}:d.kd=40->vQ H x d.a d.b b H1->KK H d.th 0 (zA d.b+ZE d.a+16) (zA d.b) 0 H1 b.2.2.1 0->fR H H1->kU H x q d a {H1 with sp:=jR H1.sp b} (x.eH b) q 0 (some b.1) none
 | ni {b:B5} {H':Hw} {x':Gu} {q':Qu}:d.kd=41->bU x.kn a=some b->lZ H x q d.th a=0->iM d.th (dO H b) x {q with q:=q.q++[(a,b.2.1)]} H' x' q'->kU H x q d a H' x' q' 0 none (some a)
 | drain {H':Hw} {x':Gu} {q':Qu}:d.kd=42->ZH H d.th=0->iS d.th H x q H' x' q'->kU H x q d a H' x' q' 0 none none
 | wrote:d.kd=44->UI x q a=false->pc H x a 0->kU H x q d a {H with sp:=ZF H.sp a d.va} x q (eI H.sp a) none none
set_option maxRecDepth 16000 in
theorem Μ (o:OQ σ0 U xb pp gb km fm qb T Qa Qf H x q addrs ad fl fd)(gc:Gc σ0)(s:QS x q)(x0:0<=x.no/\x.no<=100000)(hq:q.q.length<=65)(hrl:q.rs.length+q.q.length<=8000)(hal:ad.length<=100000)(hfl:fd.length<=100000)(d:fB)(di:kV d){R:aN}
 (hR:∀e w T' H' x' q' Qa' Qf' addrs' fr' add del,OQ σ0 w xb pp gb km fm qb T' Qa' Qf' H' x' q' addrs' (ad++Option.toList add) fr' (fd++Option.toList del)->kU H x q d (sL ad d) H' x' q' e add del->Ext (qF T xb Qa Qf) U w->(∀b,qF T' xb Qa' Qf' b->qF T xb Qa Qf b\/U.size<=b)->R e w) :
 Xp.c (aW xb) d.kd d.th d.a d.b d.of d.pl d.va d.s U R:=by
 refine Xp.o ?_;unfold Xp.v;have tT:∀{u u':Hp},Ext T u u'->Ext (qF T xb Qa Qf) u u':=λe=>e.sub λb j=>.inl j;have tX:∀{u u':Hp},Ext (· = xb) u u'->Ext (qF T xb Qa Qf) u u':=λe=>e.sub λb j=>.inr (.inl j);have tA:∀{u u':Hp},Ext Qa u u'->Ext (qF T xb Qa Qf) u u':=λe=>e.sub λb j=>.inr (.inr (.inl j));have tF:∀{u u':Hp},Ext Qf u u'->Ext (qF T xb Qa Qf) u u':=λe=>e.sub λb j=>.inr (.inr (.inr j));have hxb:=o.b.lt;have h00:=o.p.e.1;refine nw (cs:=tU d) λv hz e j=>bL ((o.oS e).b.rS rfl (j.rI rfl (j.rI rfl (j.rI rfl (j.rI rfl (j.rI rfl (j.rI rfl (j.rI rfl (j.rT rfl ?_)))))))));have o1:=o.oS e;refine WoC (bT.fW o1.ra) d λN e1=>?_;have o2:=o1.oS e1;have A:=e.trans e1;have zv:U.size<=N.size:=A.1;have z:=e1.bV j id;have E:=Tb (ad:=ad) di;generalize hx:sL ad d=ax at E hR;have a0:ad++Option.toList (none:Option Int)=ad:=by simp
 have Z:fd++Option.toList (none:Option Int)=fd:=by simp
 have same:∀e w,(e=0->d.kd≠40/\d.kd≠41/\d.kd≠42)->aF N w->R e w:=λe w he g=>by
  have B:=o.oS (A.trans g);refine hR e w T H x q Qa Qf addrs fl none none ?_ (.same e he) (aF.to (A.trans g)) λ_=>.inl;rw[a0,Z];exact B
 have K:∀e w H' x' q',QO σ0 N w pp gb km fm qb T H' x' q'->kU H x q d ax H' x' q' e none none->R e w:=λe w H' x' q' B out=>by
  obtain⟨T',S,D,F⟩:=B.tb;have o3:=o2.eY D S F;refine hR e w T' H' x' q' Qa Qf addrs fl none none (by rw[a0,Z];exact o3) out ((aF.to A).trans (tT D)) λc V=>?_;rcases V with h|h|h|h
  ·exact(F c h).imp .inl λh=>by omega
  ·exact .inl (.inr (.inl h))
  ·exact .inl (.inr (.inr (.inl h)))
  ·exact .inl (.inr (.inr (.inr h)))
 have hnT:¬T U.size:=λhm=>by have:=o.p.lt hm;omega
 obtain⟨L,held,s0,P,Qq,Qr,qs,rs,W,rfl,rfl⟩:=o2.p;refine z.rI rfl (cQ (λJ=>?_) λhk0=>?_)
 ·have C:d.kd=40:=by simpa using J
  refine⟨λm=>aF N m,Ext.refl _ _,bL (gL (c:=.p) (y:=some ⟨qb,0,none⟩) (λm e=>e.bV o2.b id) rfl (gL (c:=bO) (y:=d.th) (λm e=>e.bV z id) rfl (gL (c:=bO) (y:=d.a) (λm e=>e.bV z id) rfl (gL (c:=bO) (y:=d.b) (λm e=>e.bV z id) rfl ?_))))⟩;refine Iy W gc x0 d.th d.a d.b (λw Q g=>?_) (λe w H' Q r hw op hl B=>?_) λb w H1 gr hw op B=>?_
  ·exact cD aB (same 1 w (λh=>by cases h) g)
  ·exact cD (by simpa using r) (K e w H' x q B (.full C Q r hw op hl))
  ·refine cF rfl ?_;obtain⟨T',S,D,F⟩:=B.tb;have o3:=o2.eY D S F;refine bL (o3.b.rS rfl (wJ o3.ra O b.1 λs' u1 M G=>bL (o3.cE M G λu2 e5 o5=>?_)));have z3:=D.1;have z4:=M.1;refine hR 0 u2 T' _ _ _ _ Qf s' fl (some b.1) none (by rw[Z];exact o5) (.eH C gr hw op) ((((aF.to A).trans (tT D)).trans (tA M)).trans (tX e5)) λc V=>?_;rcases V with h|h|h|h
   ·exact(F c h).imp .inl λh=>by omega
   ·exact .inl (.inr (.inl h))
   ·exact h.imp (λh=>.inr (.inr (.inl h))) λh=>by omega
   ·exact .inl (.inr (.inr (.inr h)))
 have k0:d.kd≠40:=by simpa using hk0
 refine cQ (λJ=>?_) λhk1=>?_
 ·have C:d.kd=41:=by simpa using J
  refine bL (o2.b.rP rfl (z.rI rfl ?_));refine Hk W gc s hq hrl d.th E (λw r g=>cD (by simpa using r) (same _ w (λh=>absurd h r) g)) λw b H' x' q' hm Y ov B=>cF rfl ?_;obtain⟨T',S,D,F⟩:=B.tb;have o3:=o2.eY D S F;refine bL (o3.b.rS rfl (wJ o3.rf O ax λs' u1 M G=>bL (o3.Ef M G λu2 e5 o5=>?_)));have z3:=D.1;have z4:=M.1;refine hR 0 u2 T' _ _ _ Qa _ addrs s' none (some ax) (by rw[a0];exact o5) (.ni C hm Y ov) ((((aF.to A).trans (tT D)).trans (tF M)).trans (tX e5)) λc V=>?_;rcases V with h|h|h|h
  ·exact(F c h).imp .inl λh=>by omega
  ·exact .inl (.inr (.inl h))
  ·exact .inl (.inr (.inr (.inl h)))
  ·exact h.imp (λh=>.inr (.inr (.inr h))) λh=>by omega
 have k1:d.kd≠41:=by simpa using hk1
 refine cQ (λJ=>?_) λhk2=>?_
 ·have C:d.kd=42:=by simpa using J
  refine⟨λm=>aF N m,Ext.refl _ _,bL (gL (c:=.p) (y:=some ⟨qb,0,none⟩) (λm e=>e.bV o2.b id) rfl (gL (c:=bO) (y:=d.th) (λm e=>e.bV z id) rfl ?_))⟩;exact HM W gc s d.th (λw r g=>same _ w (λh=>absurd h r) g) λw H' x' q' Y dr B=>K 0 w H' x' q' B (.drain C Y dr)
 have k2:d.kd≠42:=by simpa using hk2
 have X:d.kd≠40/\d.kd≠41/\d.kd≠42:=⟨k0,k1,k2⟩;refine cQ (λ_=>bL (o2.b.rP rfl (IV W s ax E.2 (λw _ g=>same 9 w (λh=>by cases h) g) (λe w _ _ g _=>same e w (λ_=>X) g) λw _ g _=>same _ w (λ_=>X) g))) λ_=>?_;refine cQ (λJ=>bL (o2.b.rP rfl (z.rI rfl (NY W gc s ax d.va E.2 (λw _ g=>same 9 w (λh=>by cases h) g) (λe w _ _ g _=>same e w (λ_=>X) g) λw ht wd B=>K _ w _ x q B (.wrote (by simpa using J) ht wd))))) λ_=>same 0 N (λ_=>X) (Ext.refl _ _)
end Go.Ar
namespace Go.Ar
open Go Go.Vc Go.Proofs
open Go.Vc (bU dA cO)
variable {thread:Int}{H H' H1 H2:Hw}{held held1:List Pc}{s0 s1 sp:Sp}{x y x' x1 x2:Gu}{b:B5}{q q' q1 q2:Qu}{ad fd:List Int}{W:Int->List Int}{l l':List P2}{d:fB}{a:Int}{bl by':Int}
theorem IH {α:Type}:∀{l:List (Int×α)} {a:Int} {b:α},(l.map (·.1)).Nodup->(a,b)∈l->(cO l a).length+1=l.length
 | [],_,_,_,h=>by simp at h
 | y::l,a,b,hn,h=>by
  rw[zR,zr]at hn;show((y::l).filter λz=>!(z.1==a)).length+1=_;rcases zW.1 h with rfl|h
  ·rw[vj aA,qU.2 λz hz=>?_,zS];have:z.1≠a:=λe=>hn.1 (zD.2 ⟨z,hz,e⟩);simpa using this
  ·have d:y.1≠a:=λe=>hn.1 (by rw[e];exact zD.2 ⟨(a,b),h,rfl⟩);rw[vS (by simpa using d),zS,zS];exact congrArg (· + 1) (IH hn.2 h)
theorem R4 (g:dT H x)(g':dT H' x')(hi:HI H held s0)(hi':HI H' held1 s1){e:Int×B5}(he:e∈x.kn)(k:Kept H x H' x' e):tB H'.sp e.2=tB H.sp e.2:=by
 unfold tB;refine vK λz a=>?_;rw[g.acc hi he (.inr a),g'.acc hi' k.1 (.inr a),k.2 z a]
theorem Kept.trans {e:Int×B5}(h:Kept H x H1 x1 e)(h':Kept H1 x1 H2 x2 e):Kept H x H2 x2 e:=⟨h'.1,λz a=>(h'.2 z a).trans (h.2 z a)⟩
theorem Kept.refl {e:Int×B5}(h:e∈x.kn):Kept H x H x e:=⟨h,λ_ _=>rfl⟩
structure KQ (W:Int->List Int) (H:Hw) (x:Gu) (l:List P2):Prop where
 g:dT H x
 k:∀e∈l,∃b,bU x.kn e.1=some b/\e.2=b.2.1/\tB H.sp b=W e.1
 nd:(l.map (·.1)).Nodup
theorem KQ.step (kq:KQ W H x l)(hi:HI H held s0)(hi':HI H' held1 s1)(g':dT H' x')(hk:∀e∈x.kn,e.1∈l.map (·.1)->Kept H x H' x' e):KQ W H' x' l:=⟨g',λe i=>by
 obtain⟨b,p,m,j⟩:=kq.k e i;have a:=Z9 p;have d:=hk (e.1,b) a (zD.2 ⟨e,i,rfl⟩);exact⟨b,ZA g'.nd d.1,m,by rw[←j];exact R4 kq.g g' hi hi' a d⟩,kq.nd⟩
theorem KQ.tail {e:P2}(kq:KQ W H x (e::l)):KQ W H x l:=⟨kq.g,λk a=>kq.k k (mu _ a),(zr.1 kq.nd).2⟩
def lJ (W:Int->List Int)(l:List P2):List P2:=l.flatMap λe=>if W e.1=[]then[]else[(e.1,lH (W e.1))]
theorem PZ (l l':List P2):lJ W (l++l')=lJ W l++lJ W l':=by simp[lJ]
structure og (W:Int->List Int) (thread:Int) (H:Hw) (x:Gu) (q:Qu) (H':Hw) (x':Gu) (q':Qu):Prop where
 hi:∃held' s0',HI H' held' s0'
 rd:ZH H' thread=0
 kp:Q0 H' H
 kq:KQ W H' x' q'.q
 bb:q'.bl=q.bl/\q'.by'=q.by'
 no:x'.no=x.no
 kn:x'.kn.length+q.q.length=x.kn.length+q'.q.length
 sf:∃l,q.q=l++q'.q/\(∀k∈x.kn,k.1∉l.map (·.1)->Kept H x H' x' k)/\q'.rs=q.rs++lJ W l
theorem og.refl (kq:KQ W H x q.q)(hi:HI H held s0)(hrd:ZH H thread=0):og W thread H x q H x q:=
 ⟨⟨held,s0,hi⟩,hrd,Q0.refl _,kq,⟨rfl,rfl⟩,rfl,rfl,[],rfl,λk a _=>Kept.refl a,by simp[lJ]⟩
theorem og.trans (a:og W thread H x q H1 x1 q1)(c:og W thread H1 x1 q1 H2 x2 q2):og W thread H x q H2 x2 q2:=by
 obtain⟨l,m,i,g⟩:=a.sf;obtain⟨j,r,k2,k3⟩:=c.sf;refine⟨c.hi,c.rd,a.kp.trans c.kp,c.kq,⟨c.bb.1.trans a.bb.1,c.bb.2.trans a.bb.2⟩,c.no.trans a.no,by have:=a.kn;have:=c.kn;omega,l++j,by rw[m,r,zl],λk p b=>?_,by rw[k3,g,PZ,zl]⟩;rw[zj,zK]at b;have d:=i k p λh=>b (.inl h);exact d.trans (k2 k d.1 λh=>b (.inr h))
theorem KQ.ck (kq:KQ W H x l)(hi:HI H held s0){e:P2}(he:e∈l):kZ H x e.1=0:=by
 obtain⟨b,a,_,_⟩:=kq.k e he;unfold kZ;rw[a];simp only;rw[kq.g.lost hi (Z9 a)];rfl
theorem gK.st (r:gK thread H x q H' x' q')(kq:KQ W H x q.q)(hi:HI H held s0)(hcf:jk H)(hrd:ZH H thread=0):og W thread H x q H' x' q':=by
 cases r with
 | none h1 h2=>
  rename_i e r;have j:e∈q.q:=by rw[h1];exact mY
  obtain⟨b,m,_,_⟩:=kq.k e j;rcases h2 with h2|h2
  ·rw[m]at h2;cases h2
  ·exact absurd (kq.ck hi j) h2
 | stay h1 h2 h3 h4=>
  refine absurd ?_ h4;unfold mi;rw[zB (by rw[hrd];decide),h2];simp only;rw[kq.g.lost hi (Z9 h2)];rfl
 | free h1 h2 h3 h4 hw op fe=>
  rename_i e r b er;have j:e∈q.q:=by rw[h1];exact mY
  obtain⟨E,m,D,A⟩:=kq.k e j;rw[h2]at m;cases m;obtain⟨C,z⟩:=kq.g.free hi h2 hw op fe hrd hcf.2.1;obtain⟨d,s1,i⟩:=op.hi;have a:=Z9 h2;have p:e.1∉r.map (·.1):=by
   have:=kq.nd;rw[h1,zR,zr]at this;exact this.1
  have s:Ku H b=W e.1:=by
   unfold Ku;rw[kq.g.broken hi a,A];rfl
  refine⟨⟨d,s1,i⟩,?_,op.kp,?_,⟨rfl,rfl⟩,rfl,?_,[e],?_,λk w B=>z k w λh=>B (by simp[h]),?_⟩
  ·rw[SB op];exact hrd
  ·have u:KQ W H x r:=by rw[h1]at kq;exact kq.tail
   exact u.step hi i C λk w y=>z k w λh=>p (h▸y)
  ·have:=IH kq.g.nd a;show(cO x.kn e.1).length+q.q.length=x.kn.length+r.length;rw[h1,zS];omega
  ·rw[h1];rfl
  ·show(if Ku H b=[]then q.rs else q.rs++[(e.1,lH (Ku H b))])=_
   rw[s];simp only[lJ,oy,List.flatMap_nil,kb];split<;>simp
theorem iM.st (r:iM thread H x q H' x' q')(kq:KQ W H x q.q)(hi:HI H held s0)(hcf:jk H)(hrd:ZH H thread=0):og W thread H x q H' x' q'/\Ut q'=false:=by
 induction r generalizing held s0 with
 | stop h=>exact⟨og.refl kq hi hrd,h⟩
 | next h f _ ih=>
  have s1:=f.st kq hi hcf hrd;obtain⟨b,g,a⟩:=s1.hi;obtain⟨s2,d⟩:=ih s1.kq a (hcf.bS s1.kp) s1.rd;exact⟨s1.trans s2,d⟩
theorem iS.st (r:iS thread H x q H' x' q')(kq:KQ W H x q.q)(hi:HI H held s0)(hcf:jk H)(hrd:ZH H thread=0):og W thread H x q H' x' q'/\q'.q=[]:=by
 induction r generalizing held s0 with
 | stop h=>exact⟨og.refl kq hi hrd,h⟩
 | next f _ ih=>
  have s1:=f.st kq hi hcf hrd;obtain⟨b,g,a⟩:=s1.hi;obtain⟨s2,d⟩:=ih s1.kq a (hcf.bS s1.kp) s1.rd;exact⟨s1.trans s2,d⟩
theorem dT.FI (g:dT H x)(hi:HI H held s0)(hm:(a,b)∈x.kn):dT (dO H b) x/\(∀e∈x.kn,e.1≠a->Kept H x (dO H b) x e)/\tB (dO H b).sp b=[]:=by
 have s:=(g.i _ hm).2;have p:=Bm s;have m:∀e∈x.kn,∀z,(z∈Zg e.2\/z∈XP e.2)->(e.1=a->z∈Zg e.2)->QZ (dO H b).sp z=QZ H.sp z:=λe j z d A=>by
  obtain⟨⟨w,rfl⟩,C,B⟩:=(g.i e j).2.word d;show QZ (iJ H.sp (XP b) λ_=>Ga) _=_;rw[KX p,zB];rintro⟨hw,_⟩;have r:=s.word (.inr hw);have:=g.apart hi j hm C B r.2.1 r.2.2;subst this;exact s.nw (A rfl) hw
 obtain⟨s1,D⟩:∃s1,HI (dO H b) held s1:=HI.iJ _ _ hi;have E:dT (dO H b) x:=⟨g.live,λe j z d=>by rw[m e j z (.inl d) λ_=>d];exact g.can e j z d,g.ph,g.i,g.nd⟩;refine⟨E,λe j u=>⟨j,λz d=>m e j z (.inr d) λh=>absurd h u⟩,?_⟩;unfold tB;rw[List.filter_eq_nil_iff];intro z d;rw[E.acc D hm (.inr d)];obtain⟨⟨w,rfl⟩,C,B⟩:=s.word (.inr d);have y:=g.map hi hm C B;have:QZ (dO H b).sp ((8*w:Nat):Int)=Ga:=by
  show QZ (iJ H.sp (XP b) λ_=>Ga) _=_;rw[KX p,zC ⟨d,y⟩]
 rw[this];simp
abbrev W0:Int->List Int:=λ_=>[]
theorem BD (l:List P2):lJ W0 l=[]:=by simp[lJ]
structure AQ (bl by':Int) (H:Hw) (x:Gu) (q:Qu) (ad fd:List Int):Prop where
 kq:KQ W0 H x q.q
 n0:0<=x.no
 nl:(ad.length:Int)<=x.no
 rs:q.rs=[]
 ov:Ut q=false
 sx:∃l,fd=l++q.q.map (·.1)
 uM:x.kn.length+fd.length=ad.length+q.q.length
 th:1<=H.cf.threads
 bb:q.bl=bl/\q.by'=by'
theorem AQ.lens (al:AQ bl by' H x q ad fd):q.q.length<=fd.length/\x.kn.length<=ad.length:=by
 obtain⟨l,h⟩:=al.sx;have a:=congrArg List.length h;rw[zJ,zk]at a;have:=al.uM;omega
theorem AQ.ql (al:AQ bl by' H x q ad fd)(hi:oK q):q.q.length<=64:=by
 have h:=al.ov;unfold Ut at h;rw[wD,decide_eq_false_iff_not,decide_eq_false_iff_not]at h;have:=hi.bl;omega
theorem AQ.qs (al:AQ bl by' H x q ad fd)(hi:oK q)(h:ad.length<=1000):QS x q:=⟨al.kq.g.i,by have:=al.lens;omega,λe a=>by
 obtain⟨b,d,_,_⟩:=al.kq.k e a;have h:e.1=b.1/\gT b:=al.kq.g.i _ (Z9 d);have w:=h.1;have r:=h.2.z;have j:=h.2.base;have p:=h.2.t;have y:=h.2.m;have u:=h.2.s;have A:=ZU (n:=b.2.1) O;unfold iN;omega,by rw[al.rs];have:=al.ql hi;simp;omega⟩
theorem Jk {addr:Int}(hm:bU x.kn addr=some b)(h:lZ H x q thread addr=0):ZH H thread=0/\addr∉q.q.map (·.1):=by
 unfold lZ at h;by_cases h1:ZH H thread=0
 ·refine⟨h1,λa=>?_⟩;rw[zB (by rw[h1];decide),zC a]at h;cases h
 ·rw[zC h1]at h;exact absurd h h1
theorem AQ.out (al:AQ bl by' H x q ad fd)(hi:HI H held s0)(cf:jk H)(qi:oK q){e:Int}{add del:Option Int}(o:kU H x q d a H' x' q' e add del):AQ bl by' H' x' q' (ad++add.toList) (fd++del.toList)/\x'.no<=x.no+1:=by
 have F:ad++Option.toList (none:Option Int)=ad:=by simp
 have E:fd++Option.toList (none:Option Int)=fd:=by simp
 have g:=al.kq.g;cases o with
 | same e j=>rw[F,E];exact⟨al,O⟩
 | full hk hgk hne hw op hl=>
  rw[F,E];obtain⟨s,K⟩:=g.same hi op hl;obtain⟨r,s1,m⟩:=op.hi;exact⟨⟨al.kq.step hi m s λe j _=>K e j,al.n0,al.nl,al.rs,al.ov,al.sx,al.uM,by rw[op.kp.2.1];exact al.th,al.bb⟩,O⟩
 | eH hk gr hw op=>
  rename_i b H1;rw[E];obtain⟨r,s1,m⟩:=op.hi;obtain⟨s,gk,W,_,_⟩:=g.eH hi gr op m;have V:(x.eH b).no=x.no+1:=rfl;have X:∃s2,HI {H1 with sp:=jR H1.sp b} r s2:=by
   obtain⟨s2,S⟩:=HI.iJ jy (Zg b) m;exact HI.iJ (λ_=>0) (XP b) S
  obtain⟨s2,N⟩:=X;refine⟨⟨al.kq.step hi N s λe j _=>W e j,by have:=al.n0;omega,?_,al.rs,al.ov,al.sx,?_,by show 1<=H1.cf.threads;rw[op.kp.2.1];exact al.th,al.bb⟩,O⟩
  ·rw[V,zJ];have:=al.nl;simp;omega
  ·rw[gk,zJ,zJ];have:=al.uM;simp;omega
 | ni hk G hf ov=>
  rename_i b;rw[F];obtain⟨y,B⟩:=Jk G hf;have J:=Z9 G;obtain⟨s,K,W⟩:=g.FI hi J;obtain⟨s1,D⟩:∃s1,HI (dO H b) held s1:=HI.iJ _ _ hi;have Q:KQ W0 (dO H b) x (q.q++[(a,b.2.1)]):=by
   have k0:=al.kq.step hi D s λe j z=>K e j λh=>B (h▸z);refine⟨s,λe j=>?_,?_⟩
   ·rcases zK.1 j with j|j
    ·exact k0.k e j
    ·rw[zN]at j;subst j;exact⟨b,G,rfl,W⟩
   ·rw[zj,nB];refine⟨al.kq.nd,by simp,λu hu c Z=>?_⟩;simp only[zR,ny,zN]at Z;subst Z;exact λh=>B (h▸hu)
  have C:ZH (dO H b) d.th=0:=y;obtain⟨st,L⟩:=ov.st Q D cf C;obtain⟨l,h1,S,R⟩:=st.sf;have A:=st.kn;simp only[zJ,qP]at A;refine⟨⟨st.kq,by rw[st.no];exact al.n0,by rw[st.no];exact al.nl,?_,L,?_,?_,?_,⟨st.bb.1.trans al.bb.1,st.bb.2.trans al.bb.2⟩⟩,by rw[st.no];omega⟩
  ·rw[R,BD,kb];exact al.rs
  ·obtain⟨l2,h4⟩:=al.sx;refine⟨l2++l.map (·.1),?_⟩;rw[h4,zl,zl,←zj,←h1];simp
  ·have:=al.uM;simp only[qD,zJ,qP];omega
  ·rw[st.kp.2.1];exact al.th
 | drain hk y dr=>
  rw[F,E];obtain⟨st,w⟩:=dr.st al.kq hi cf y;obtain⟨l,h1,S,R⟩:=st.sf;have A:=st.kn;have hlen:=al.lens;refine⟨⟨st.kq,by rw[st.no];exact al.n0,by rw[st.no];exact al.nl,?_,?_,⟨fd,by rw[w];simp⟩,?_,?_,⟨st.bb.1.trans al.bb.1,st.bb.2.trans al.bb.2⟩⟩,by rw[st.no];omega⟩
  ·rw[R,BD,kb];exact al.rs
  ·have P:=st.bb.1;have U:=st.bb.2;have:=qi.bl;have:=qi.by';unfold Ut;rw[w,wD];exact⟨zM (by rw[P];simp;omega),zM (by rw[U];simp[iF];omega)⟩
  ·have:=al.uM;omega
  ·rw[st.kp.2.1];exact al.th
 | wrote hk ht wd=>
  rw[F,E];rcases wd with⟨h,_⟩|⟨k,hk,hin,h8,_⟩
  ·cases h
  ·have M:=g.i k hk;obtain⟨i1,i2⟩:=hin;have hz:a∈XP k.2:=dT.jq M.2 i1 i2 h8;obtain⟨s,K,_⟩:=g.write hi hk hz (v:=d.va);obtain⟨s1,m⟩:∃s1,HI {H with sp:=ZF H.sp a d.va} held s1:=HI.iJ (λ_=>d.va) [a] hi;refine⟨⟨al.kq.step hi m s λe j z=>K e j λh=>?_,al.n0,al.nl,al.rs,al.ov,al.sx,al.uM,al.th,al.bb⟩,O⟩;subst h;obtain⟨p,hp,Y⟩:=zD.1 z;have G:bU x.kn p.1=some e.2:=by rw[Y];exact ZA g.nd (show(e.1,e.2)∈x.kn from j)
   have:UI x q a=true:=by
    unfold UI;rw[jV];exact⟨p,hp,by rw[G];exact zI hz⟩
   rw[ht]at this;cases this
theorem AQ.ready (al:AQ bl by' H x q ad fd):ZH H 0=0:=by
 have b:=al.th;unfold ZH;rw[zB O,HJ];have a:(if 0<=(0:Int)/\(0:Int)<(H.bR.length:Int)then fG H (0:Int).toNat else none)=none:=by
  split
  ·exact al.kq.g.ph _
  ·rfl
 rw[a];rfl
end Go.Ar
namespace Go.Ar
open Go Go.Vc Go.Proofs
open Go.Vc (bU dA cO)
variable {thread:Int}{U σ0 v w w':Hp}{F P Q X T Tc:Rg}{L:dE}{H H' H1:Hw}{held:List Pc}{s0 sp:Sp}{t n:Nat}{gb km fm m pp:Nat}{x y x':Gu}{b:B5}{qb:Nat}{Qq Qr:Rg}{qs rs:Sl}{q q':Qu}
theorem gK.uu {e:P2}{r:List P2}{H2:Hw}{e2:Int}(hq:q.q=e::r)(hm:bU x.kn e.1=some b)(hck:kZ H x e.1=0)(hfr:mi H x thread e.1 false=0)(hw:KK (dO H b) thread 1 0 0 b.2.2.1 H2 0 e2)(h:gK thread H x q H' x' q') :
 H'=H2/\x'=x.gone e.1/\q'=⟨q.bl,q.by',r,if Ku H b=[]then q.rs else q.rs++[(e.1,lH (Ku H b))]⟩:=by
 cases h with
 | none h1 h2=>
  rw[hq]at h1;cases h1;rcases h2 with h2|h2
  ·rw[hm]at h2;cases h2
  ·exact absurd hck h2
 | stay h1 h2 h3 h4=>
  rw[hq]at h1;cases h1;exact absurd hfr h4
 | free h1 h2 h3 h4 hw'=>
  rw[hq]at h1;cases h1;rw[hm]at h2;cases h2;exact⟨(hw'.yo hw).1,rfl,rfl⟩
theorem iM.mo (h:iM thread H x q H' x' q')(ho:Ut q=false):H'=H/\x'=x/\q'=q:=by
 cases h with
 | stop _=>exact⟨rfl,rfl,rfl⟩
 | next h _ _=>rw[ho]at h;cases h
theorem iM.nb (h:iM thread H x q H' x' q')(ho:Ut q=true):∃H1 x1 q1,gK thread H x q H1 x1 q1/\iM thread H1 x1 q1 H' x' q':=by
 cases h with
 | stop h=>rw[ho]at h;cases h
 | next _ h1 h2=>exact⟨_,_,_,h1,h2⟩
theorem iS.mo (h:iS thread H x q H' x' q')(ho:q.q=[]):H'=H/\x'=x/\q'=q:=by
 cases h with
 | stop _=>exact⟨rfl,rfl,rfl⟩
 | next h _=>obtain⟨_,_,_,_,e,a⟩:=h.len;rw[ho]at a;cases a
theorem iS.nb (h:iS thread H x q H' x' q')(ho:q.q≠[]):∃H1 x1 q1,gK thread H x q H1 x1 q1/\iS thread H1 x1 q1 H' x' q':=by
 cases h with
 | stop h=>exact absurd h ho
 | next h1 h2=>exact⟨_,_,_,h1,h2⟩
theorem HY {H:Hw}{th kind size align addr:Int}{k:Hw×Int×Int}{r:Int×Int}(hk:k=(UY H th kind size align addr).getD (w0,0,99))(h2:k.2=r)(hr:r≠(0,99)):KK H th kind size align addr k.1 r.1 r.2:=by
 subst hk;cases hw:UY H th kind size align addr with
 | none=>rw[hw]at h2;exact absurd h2.symm hr
 | some s=>
  rw[hw]at h2;have:=IN hw;have e1:s.2=r:=h2;rw[←e1];exact this
def bB:B5:=(4176,24,4160,64,2)
def cB:B5:=(4240,24,4224,64,3)
def k2:Hw×Int×Int:=(UY vo 0 0 56 16 0).getD (w0,0,99)
def wG:Hw:={k2.1 with sp:=jR k2.1.sp bB}
def k3:Hw×Int×Int:=(UY wG 0 0 56 16 0).getD (w0,0,99)
def uf:Hw:={k3.1 with sp:=jR k3.1.sp cB}
def NX:Gu:=gX.eH bB
def kX:Gu:=NX.eH cB
def tK:Hw:=dO uf gB
def td:Hw:=dO tK bB
def tu:Hw:=dO td cB
def k4:Hw×Int×Int:=(UY (dO tu gB) 0 1 0 0 4096).getD (w0,0,99)
def sd:Hw:={k4.1 with sp:=ZF k4.1.sp 4176 3}
def k6:Hw×Int×Int:=(UY (dO sd bB) 0 1 0 0 4160).getD (w0,0,99)
def k7:Hw×Int×Int:=(UY (dO k6.1 cB) 0 1 0 0 4224).getD (w0,0,99)
theorem wI:k2.2=(4160,0)/\Kx k2.1 4160=some 64:=by decide +kernel
theorem xP:k3.2=(4224,0)/\Kx k3.1 4224=some 64:=by decide +kernel
abbrev q0:Qu:=⟨2,1000,[],[]⟩
abbrev q1:Qu:=⟨2,1000,[(4112,24)],[]⟩
abbrev q2:Qu:=⟨2,1000,[(4112,24),(4176,24)],[]⟩
abbrev q3:Qu:=⟨2,1000,[(4112,24),(4176,24),(4240,24)],[]⟩
abbrev q4:Qu:=⟨2,1000,[(4176,24),(4240,24)],[]⟩
theorem DW:lZ uf kX q0 0 4112=0:=by decide +kernel
theorem CN:lZ tK kX q1 0 4176=0:=by decide +kernel
theorem po:lZ td kX q2 0 4112=9/\lZ td kX q2 0 4240=0/\UI kX q2 4112=true:=by decide +kernel
theorem pU:kZ tu kX 4112=0/\mi tu kX 0 4112 false=0/\Ku tu gB=[]/\k4.2=(0,0):=by decide +kernel
abbrev vX:Gu:=kX.gone 4112
theorem CJ:eI k4.1.sp 4176=0:=by decide +kernel
theorem py:ZH sd 0=0/\kZ sd vX 4176=0/\mi sd vX 0 4176 false=0/\Ku sd bB=[4176]/\k6.2=(0,0):=by decide +kernel
abbrev CO:Gu:=vX.gone 4176
theorem qY:kZ k6.1 CO 4240=0/\mi k6.1 CO 0 4240 false=0/\Ku k6.1 cB=[]/\k7.2=(0,0):=by decide +kernel
theorem BK:kX.kn=[(4112,gB),(4176,bB),(4240,cB)]:=by decide +kernel
theorem xF:∀e∈kX.kn,e.1=e.2.1/\gT e.2:=λe a=>by
 rw[BK]at a;simp only[zW,Bf,or_false]at a;rcases a with rfl|rfl|rfl<;>exact⟨rfl,⟨by decide,by decide⟩,⟨by decide,by decide⟩,⟨by decide,by decide,by decide⟩,⟨by decide,by decide⟩,by decide⟩
theorem qd {q:Qu}(h1:∀e∈q.q,0<=e.1/\e.1<=5000)(h2:q.rs.length+q.q.length<=9000):QS kX q:=⟨xF,by rw[BK];decide,λe a=>by have:=h1 e a;exact⟨O,O⟩,h2⟩
theorem Mc {q:Qu}(h1:∀e∈q.q,0<=e.1/\e.1<=5000)(h2:q.rs.length+q.q.length<=9000):QS vX q:=⟨λe a=>xF e (zL.1 (show e∈cO kX.kn 4112 from a)).1,kx (oV _ _) (by rw[BK];decide),λe a=>by have:=h1 e a;exact⟨O,O⟩,h2⟩
theorem qZ:bU kX.kn 4112=some gB/\bU kX.kn 4176=some bB/\bU kX.kn 4240=some cB:=by decide +kernel
theorem T5:bU vX.kn 4176=some bB:=by decide +kernel
theorem NN:bU CO.kn 4240=some cB:=by decide +kernel
attribute [local irreducible] w0 gm vo k2 wG k3 uf tK td tu k4 sd k6 k7
theorem O9:vo = {gm.1 with sp:=jR gm.1.sp gB}:=by unfold vo;rfl
theorem LM:wG = {k2.1 with sp:=jR k2.1.sp bB}:=by unfold wG;rfl
theorem Mm:uf = {k3.1 with sp:=jR k3.1.sp cB}:=by unfold uf;rfl
theorem PO:tK=dO uf gB:=by unfold tK;rfl
theorem TZ:td=dO tK bB:=by unfold td;rfl
theorem TP:tu=dO td cB:=by unfold tu;rfl
theorem TE:sd = {k4.1 with sp:=ZF k4.1.sp 4176 3}:=by unfold sd;rfl
theorem Ek:KK vo 0 0 56 16 0 k2.1 4160 0:=HY (by unfold k2;rfl) wI.1 aB
theorem DR:KK wG 0 0 56 16 0 k3.1 4224 0:=HY (by unfold k3;rfl) xP.1 aB
theorem De:KK (dO tu gB) 0 1 0 0 4096 k4.1 0 0:=HY (by unfold k4;rfl) pU.2.2.2 aB
theorem BN:KK (dO sd bB) 0 1 0 0 4160 k6.1 0 0:=HY (by unfold k6;rfl) py.2.2.2.2 aB
theorem DZ:KK (dO k6.1 cB) 0 1 0 0 4224 k7.1 0 0:=HY (by unfold k7;rfl) qY.2.2.2 aB
theorem qM (o:QP σ0 U L H held s0 P gb km fm x qb Qq Qr qs rs q)(gc:Gc σ0)(hno:0<=x.no/\x.no<=100000){b:B5}{H1:Hw}(hw:KK H 0 0 56 16 0 H1 b.2.2.1 0)(hu:Kx H1 b.2.2.1=some b.2.2.2.1)(hb:b.1=b.2.2.1+16/\b.2.1=24/\b.2.2.2.2=x.no+1){R:Int->Int->Hp->Prop}
 (hR:∀w,QO σ0 U w L.p gb km fm qb (kz P gb km fm qb Qq Qr) {H1 with sp:=jR H1.sp b} (x.eH b) q->R b.1 0 w):Wp.c (aW qb) 0 24 8 U R:=by
 refine Iy o gc hno 0 24 8 (λw z=>absurd z aB) (λe w H' _ m d=>?_) λc w H2 j d op y=>?_
 ·exact absurd (d.yo hw).2.2 m
 ·obtain⟨rfl,g,_⟩:=d.yo hw;have A:c=b:=by
   have i:=j.u;rw[g,hu]at i;have r:=j.a;rw[g]at r;exact Prod.ext (r.trans hb.1.symm) (Prod.ext (j.s.trans hb.2.1.symm) (Prod.ext g (Prod.ext (Option.some.inj i).symm (j.n.trans hb.2.2.symm))))
  subst A;exact hR w y
set_option maxRecDepth 16000 in
theorem Fz (gl:Gl U)(gc:Gc U){R:aO}(hR:∀σ',aF U σ'->R true σ'):Xw.c U R:=by
 refine Xw.o ?_;unfold Xw.v;refine Ru gl gc.gd λv L N e hsN hNv h0=>cD rfl ?_;have hn:=Ou;have hc0:w0.cf.aG=64:=by have:=hn.pg;omega
 refine FX e h0.cut hn.hi hn.cf O (λb hb=>⟨by have:N<=b:=hb.1;omega,hb.2⟩) (Dc gl gc.gd) λw Z km fm e1 _ p=>?_;refine Lw p 2 1000 (λh=>absurd h aB) λ_ w1 e2 o=>?_;generalize w.size=qb at o;refine bX.intro (cD rfl (cD rfl ?_));refine qM (b:=gB) o gc ⟨by decide,by decide⟩ DE B3 ⟨by decide,by decide,by decide⟩ λw2 a=>?_;obtain⟨L1,held1,s1,P1,Qq1,Qr1,qs1,rs1,o1,hp1, -, -⟩:=a;rw[←O9]at o1;refine qM (b:=bB) o1 gc ⟨by decide,by decide⟩ Ek wI.2 ⟨by decide,by decide,by decide⟩ λw3 a=>?_;obtain⟨L2,held2,s2,P2,Qq2,Qr2,qs2,rs2,o2,kB, -, -⟩:=a;rw[←LM]at o2;refine qM (b:=cB) o2 gc ⟨by decide,by decide⟩ DR xP.2 ⟨by decide,by decide,by decide⟩ λw4 a=>?_;obtain⟨L3,u,s3,P3,Qq3,Qr3,qs3,rs3,o3,hp3, -, -⟩:=a;rw[←Mm]at o3;have o3:QP U w4 L3 uf u s3 P3 Z km fm kX qb Qq3 Qr3 qs3 rs3 q0:=o3;show Wj.c (aW qb) 0 4112 w4 _;refine Hk o3 gc (qd (λe he=>by simp at he) aB) aB aB 0 ⟨by decide,by decide⟩ (λw h=>absurd DW h) λw5 b H1 x1 y d _ m a=>?_;rw[qZ.1]at d;cases d;obtain⟨rfl,rfl,rfl⟩:=m.mo aB;obtain⟨L5,r,s5,P5,Qq5,Qr5,qs5,rs5,o5,hp5, -, -⟩:=a;rw[←PO]at o5;have o5:QP U w5 L5 tK r s5 P5 Z km fm kX qb Qq5 Qr5 qs5 rs5 q1:=o5;refine bX.intro (cD rfl ?_);show Wj.c (aW qb) 0 4176 w5 _;refine Hk o5 gc (qd aB aB) aB aB 0 ⟨by decide,by decide⟩ (λw h=>absurd CN h) λw6 b H1 x1 y d _ m a=>?_;rw[qZ.2.1]at d;cases d;obtain⟨rfl,rfl,rfl⟩:=m.mo aB;obtain⟨L6,s,s6,P6,Qq6,Qr6,qs6,rs6,o6,hp6, -, -⟩:=a;rw[←TZ]at o6;have o6:QP U w6 L6 td s s6 P6 Z km fm kX qb Qq6 Qr6 qs6 rs6 q2:=o6;refine bX.intro (cD rfl ?_);refine AG o6 λsl w7 Q7 e7 hs7 hQ7=>?_;have o7:=o6.fr e7;refine nw (cs:=[.int .i64 4112,.int .i64 4176]) λw8 hz8 e8 b8=>?_;have o8:=o7.fr e8;have hs8:=aI.bP hs7 e8;have ht8:cV ⟨some ⟨w7.size,0,none⟩,2,2⟩ 1 (Wy [4112,4176]) w8 (· = w7.size):=b8.fW rfl rfl λj hj=>by rw[zH];rfl
 refine Iu (bT.fW hs8) ht8 aB ?_;refine bX.intro (cD aB ?_);refine D6 o8 λw9 e9=>?_;have o9:=o8.fr e9;refine bX.intro (cD aB ?_);show Wj.c (aW qb) 0 4112 w9 _;refine Hk o9 gc (qd aB aB) aB aB 0 ⟨by decide,by decide⟩ (λw10 _ e10=>?_) λw b H1 x1 y d h=>by rw[po.1]at h;exact absurd h aB
 rw[po.1];have fX:=o9.fr e10;refine cD aB ?_;show WF.c (aW qb) 4112 w10 _;refine IV fX (qd aB aB) 4112 aB (λw11 _ e11=>?_) (λe w h=>by rw[po.2.2]at h;cases h) λw h=>by rw[po.2.2]at h;cases h
 have o11:=fX.fr e11;refine bX.intro (cD aB ?_);show Wj.c (aW qb) 0 4240 w11 _;refine Hk o11 gc (qd aB aB) aB aB 0 ⟨by decide,by decide⟩ (λw h=>absurd po.2.1 h) λw12 b H1 x1 y d _ m a=>?_;rw[qZ.2.2]at d;cases d;rw[←TP]at m;obtain⟨H2,x2,q2',fr,m⟩:=m.nb aB;obtain⟨rfl,rfl,rfl⟩:=fr.uu (b:=gB) rfl qZ.1 pU.1 pU.2.1 De;obtain⟨rfl,rfl,rfl⟩:=m.mo (by rw[zC pU.2.2.1];decide);rw[zC pU.2.2.1]at a;obtain⟨L12,i,s12,P12,Qq12,Qr12,W,X,g,z, -, -⟩:=a;have g:QP U w12 L12 k4.1 i s12 P12 Z km fm vX qb Qq12 Qr12 W X q4:=g;refine bX.intro (cD rfl ?_);refine AG g λsl M Q13 e13 Q hQ13=>?_;have o13:=g.fr e13;refine nw (cs:=[.int .i64 4176,.int .i64 4240]) λw14 hz14 B b14=>?_;have J:=o13.fr B;have K:=aI.bP Q B;have A:cV ⟨some ⟨M.size,0,none⟩,2,2⟩ 1 (Wy [4176,4240]) w14 (· = M.size):=b14.fW rfl rfl λj hj=>by rw[zH];rfl
 refine Iu (bT.fW K) A aB ?_;refine bX.intro (cD aB ?_);have hp:L.p=L12.p:=by rw[z,hp6,hp5,hp3,kB,hp1]
 rw[hp];refine J.p.write gc 4176 3 aB λw15 s15 P15 e15 p15 E=>?_;have D:=J.eY (e15.sub λc hc=>.inl hc) p15 E;rw[CJ];rw[←TE]at D;refine cD aB ?_;refine HM D gc (Mc aB aB) 0 (λw h=>absurd py.1 h) λw16 H3 x3 q3' _ x a=>?_;obtain⟨H4,x4,q4',fr,x⟩:=x.nb aA;obtain⟨rfl,rfl,rfl⟩:=fr.uu (b:=bB) rfl T5 py.2.1 py.2.2.1 BN;rw[py.2.2.2.1]at x;obtain⟨H5,x5,q5',fr,x⟩:=x.nb aA;obtain⟨rfl,rfl,rfl⟩:=fr.uu (b:=cB) rfl NN qY.1 qY.2.1 DZ;rw[zC qY.2.2.1]at x;obtain⟨rfl,rfl,rfl⟩:=x.mo rfl;obtain⟨L16,Y,S9,P16,Qq16,Qr16,qs16,rs16,C,hp16, -, -⟩:=a;refine bX.intro (cF aB (bX.intro (cF rfl ?_)));refine WeY C λsl S Q17 e17 H hQ17=>?_;have o17:=C.fr e17;refine nw (cs:=[.int .i64 4176,.int .i64 4176]) λP hz18 F b18=>?_;have o18:=o17.fr F;have V:=aI.bP H F;have G:cV ⟨some ⟨S.size,0,none⟩,1,1⟩ 2 (gO [(4176,4176)]) P (· = S.size):=b18.fW rfl rfl λj hj=>by rw[zH];rfl
 refine Oa (bT.fW V) G aB (λ_=>?_) rfl;exact hR P o18.p.e
end Go.Ar
namespace Go.Ar
open Go Go.Vc Go.Proofs
open Go.Vc (bU dA cO)
variable {thread:Int}{U σ0 v w w':Hp}{F P Q X T T' Tc Qa Qf:Rg}{L:dE}{H H' H1:Hw}{held:List Pc}{s0 sp:Sp}{t n:Nat}{gb km fm m pp xb:Nat}{x y x':Gu}{b:B5}{qb:Nat}{Qq Qr:Rg}{qs rs addrs fl l:Sl}{ad fd:List Int}{q q':Qu}{ds:List fB}{bl by':Int}
set_option maxRecDepth 8000 in
theorem ON (e00:aF σ0 U)(gl:Gl σ0)(gc:Gc σ0)(b b1 b2 b3 b4 b5 WV bytes:Int){R:Option Addr->Hp->Prop}(h0:∀σ',aF U σ'->R none σ')
 (h1:∀σ' xb pp gb km fm qb T H x q addrs fl,OQ σ0 σ' xb pp gb km fm qb T (λ_=>False) (λ_=>False) H x q addrs [] fl []->AQ WV bytes H x q [] []->x.no=0->q.q=[]->aF U σ'->R (some ⟨xb,0,none⟩) σ'):X7.c b b1 b2 b3 b4 b5 WV bytes U R:=by
 refine X7.o ?_;unfold X7.v;refine nw (cs:=[.int .i64 b,.int .i64 b1,.int .i64 b2,.int .i64 b3,.int .i64 b4,.int .i64 b5]) λv hz e a=>a.rI rfl (a.rI rfl (a.rI rfl (a.rI rfl (a.rI rfl (a.rI rfl (W9.o ?_))))));unfold W9.v;refine nw (cs:=[.int .i64 b,.int .i64 b1,.int .i64 b2,.int .i64 b3,.int .i64 b4,.int .i64 b5]) λM V e1 s=>s.fL rfl ?_;have d:=e.trans e1;have i:=e1.bV a id;refine cN (λ_=>h0 M d) λY=>?_;refine i.rI rfl (i.rI rfl (i.rI rfl (i.rI rfl (i.rI rfl (i.rI rfl ?_)))));refine RY (gl.bP (e00.trans d)) (gc.bP (e00.trans d)).gd b b1 b2 b3 b4 b5 (λB e2=>cF rfl (h0 B (d.trans e2))) λB L0 N H0 e2 F D X m=>cD rfl ?_;have y:=(e00.trans d).trans e2;have G:=(e00.trans d).1;refine FX y X.cut m.hi m.cf (by have:=m.pg;omega) (λb a=>⟨by have:N<=b:=a.1;omega,a.2⟩) (Dc gl gc.gd) λw gb km fm E Z p=>?_;have E3:=(d.trans e2).trans (p.e.trans (Ext.refl _ _) |> λ_=>E);refine Lw p WV bytes (λ_=>bX.intro (cF rfl (cF rfl (h0 w E3)))) λP L Q o=>bX.intro (cD rfl (cD rfl ?_));generalize hqb:w.size=qb at o;refine nw (cs:=Ao L0.p qb ⟨none,0,0⟩ ⟨none,0,0⟩) λA K C z=>?_;have o5:=o.fr C;have S:QB σ0 A L0.p gb km fm qb _ H0 qj ⟨WV,bytes,[],[]⟩:=⟨L0,_,_,_,_,_,_,_,o5,rfl,rfl⟩;have u:=o.p.e.1;have J:dT H0 qj:=⟨by rw[m.live];rfl,λe r=>by simp[qj]at r,λj=>by
  unfold fG;cases hj:H0.bR[j]? with
  | none=>rfl
  | some g=>exact m.ph g (zG hj),λe r=>by simp[qj]at r,by simp[qj]⟩
 refine h1 A L.size L0.p gb km fm qb _ H0 qj ⟨WV,bytes,[],[]⟩ _ _ ⟨S,z,⟨rfl,.inl ⟨rfl,rfl⟩⟩,⟨rfl,.inl ⟨rfl,rfl⟩⟩,⟨u,λW=>?_,id,id⟩,λb a=>a.elim,λb a=>a.elim,λb a=>a.elim⟩ ⟨⟨J,λe r=>by simp at r,by simp⟩,by simp[qj],by simp[qj],rfl,?_,⟨[],rfl⟩,rfl,m.th,rfl,rfl⟩ rfl rfl ((E3.trans Q).trans C)
 ·have:=Fu o W;omega
 ·unfold Ut;rw[wD];exact⟨zM aE,zM (by simp[iF];omega)⟩
structure PQ (σ0 U:Hp) (WV bytes:Int) (n:Nat) (xb pp gb km fm qb:Nat) (T Qa Qf:Rg) (H:Hw) (x:Gu) (q:Qu) (addrs:Sl) (ad:List Int) (fl:Sl) (fd:List Int):Prop where
 o:OQ σ0 U xb pp gb km fm qb T Qa Qf H x q addrs ad fl fd
 al:AQ WV bytes H x q ad fd
 no:x.no<=n
 fn:fd.length<=n
theorem PQ.oS (p:PQ σ0 U bl by' n xb pp gb km fm qb T Qa Qf H x q addrs ad fl fd)(e:aF U w):PQ σ0 w bl by' n xb pp gb km fm qb T Qa Qf H x q addrs ad fl fd:=⟨p.o.oS e,p.al,p.no,p.fn⟩
theorem PQ.yM (p:PQ σ0 U bl by' n xb pp gb km fm qb T Qa Qf H x q addrs ad fl fd)(hn:n<=1000):QS x q:=p.al.qs p.o.p.qi (by have:=p.al.nl;have:=p.no;omega)
theorem PQ.Χ (p:PQ σ0 U bl by' n xb pp gb km fm qb T Qa Qf H x q addrs ad fl fd)(gc:Gc σ0)(hn:n<=900)(d:fB)(di:kV d){R:aN}
 (hR:∀e w T' H' x' q' Qa' Qf' addrs' fl' add del,PQ σ0 w bl by' (n+1) xb pp gb km fm qb T' Qa' Qf' H' x' q' addrs' (ad++Option.toList add) fl' (fd++Option.toList del)->kU H x q d (sL ad d) H' x' q' e add del->Ext (qF T xb Qa Qf) U w->(∀b,qF T' xb Qa' Qf' b->qF T xb Qa Qf b\/U.size<=b)->R e w) :
 Xp.c (aW xb) d.kd d.th d.a d.b d.of d.pl d.va d.s U R:=by
 have n0:=p.al.n0;have nl:=p.al.nl;have y:=p.no;have r:=p.fn;have m:=p.al.ql p.o.p.qi;refine Μ p.o gc (p.yM O) ⟨n0,O⟩ O (by rw[p.al.rs,kr];omega) O O d di λe w T' H' x' q' Qa' Qf' addrs' fl' add del A out u z=>?_;obtain⟨j,s0,hi⟩:=p.o.p.hi;obtain⟨g,i⟩:=p.al.out hi p.o.p.cf p.o.p.qi out;refine hR e w T' H' x' q' Qa' Qf' addrs' fl' add del ⟨A,g,O,?_⟩ out u z;rw[zJ];cases del<;>simp<;>omega
theorem PQ.mono {k:Nat}(p:PQ σ0 U bl by' n xb pp gb km fm qb T Qa Qf H x q addrs ad fl fd)(h:n<=k):PQ σ0 U bl by' k xb pp gb km fm qb T Qa Qf H x q addrs ad fl fd:=⟨p.o,p.al,by have:=p.no;omega,by have:=p.fn;omega⟩
set_option maxRecDepth 8000 in
theorem Ps (gl:Gl U)(gc:Gc U)(b b1 b2 b3 b4 b5 WV bytes:Int)(hd:jE U l ds)(most:Int)(hmost:most<=60){R:Option Addr->Hp->Prop}(h0:∀σ',aF U σ'->R none σ')
 (h1:∀σ' xb pp gb km fm qb T Qa Qf H x q addrs ad fl fd,PQ U σ' WV bytes 60 xb pp gb km fm qb T Qa Qf H x q addrs ad fl fd->R (some ⟨xb,0,none⟩) σ'):X8.c b b1 b2 b3 b4 b5 WV bytes l most U R:=by
 refine X8.o ?_;unfold X8.v;have W:=hd.len;have B:=hd.AA;refine nw (cs:=[.int .i64 b,.int .i64 b1,.int .i64 b2,.int .i64 b3,.int .i64 b4,.int .i64 b5]) λv X e s=>R7 (cN (λ_=>h0 v e) λD=>?_);refine s.rI rfl (s.rI rfl (s.rI rfl (s.rI rfl (s.rI rfl (s.rI rfl ?_)))));refine ON (σ0:=U) e gl gc b b1 b2 b3 b4 b5 WV bytes (λC e1=>cF rfl (h0 C (e.trans e1))) λC xb pp gb km fm qb T H x q addrs fl o F L M e1=>cD rfl ?_;refine Qv (a:=bO) (λ(z:Int) u=>∃(i:Nat) (T Qa Qf:Rg) (H:Hw) (x:Gu) (q:Qu) (addrs:Sl) (ad:List Int) (fl:Sl) (fd:List Int),z=i/\i<=ds.length/\PQ U u WV bytes i xb pp gb km fm qb T Qa Qf H x q addrs ad fl fd) (λz _=>ds.length-z.toNat)
  ⟨0,T,_,_,H,x,q,addrs,[],fl,[],rfl,O,⟨o,F,O,by simp⟩⟩ ?_
 rintro(z:Int) u ⟨i,T,Qa,Qf,H,x,q,addrs,ad,fl,fd,rfl,hi,p⟩;have g:=p.o.p.e;refine cN (λJ=>?_) λN=>h1 u xb pp gb km fm qb T Qa Qf H x q addrs ad fl fd (p.mono O);have w:ds[i]?=some (ds[i]' O):=cW _;generalize (ds[i]' O)=d at w;have A:=hd.i _ (zG w);refine hd.rd g w λQ P r=>eD (r _ g 0 _ rfl) (eD (r _ g 1 _ rfl) (eD (r _ g 2 _ rfl) (eD (r _ g 3 _ rfl) (eD (r _ g 4 _ rfl) (eD (r _ g 5 _ rfl) (eD (r _ g 6 _ rfl) (CP (r _ g 7 _ rfl) ?_)))))));exact p.Χ gc O d A λS Z T' H' K E Qa' Qf' j y add del G out Y V=>cT (m:=i+1) O O ⟨⟨i+1,T',Qa',Qf',H',K,E,j,_,y,_,rfl,O,G⟩,O⟩
end Go.Ar
namespace Go.Proofs
open Go.Vc
set_option maxRecDepth 100000
def WY.h:Hn:=.q .o2 (.q .o6 (.q (.q .o2 .aJ) (.q .o6 (.q .fX (.q .o7 (.q (.q (.cU (.gI true [13] [(84,.one .b)] (.tk [0,1,2,3,4] (.split 48 (.tk [5,6,7,8,9,10,11,12] (.all [(13,.tk [14,15,16,17,18,19,20,21,22,23,24,25,26,27,28,29,30,31,32,33,34,35,36,37,38,39,40] (.done))])) (.tk [5,6,7,8] (.split 52 (.tk [9,10,11,12] (.all [(13,.tk [14,15,16,17,18,19,20,21,22,23,24,25,26,27,28,29,30,31,32,33,34,35,36,37,38,39,40] (.done))])) (.tk [9,10,11,12] (.all [(13,.tk [14,15,16,17] (.split 61 (.tk [18,19,20,21,22,23,24,25,26,27,28,29,30,31,32,33,34,35,36,37,38,39,40] (.done)) (.tk [18,19,20] (.all [(21,.all [(22,.tk [23,24,25] (.split 69 (.tk [26,27,28,29,30,31,32,33,34,35,36,37,38,39,40] (.done)) (.tk [26,27,28,29,30,33,34,35] (.all [(31,.take 32 (.all [(36,.tk [37,38,39,40] (.done))])),(36,.take 37 (.all [(31,.tk [32,38,39,40] (.done))]))]))))])]))))])))))))) .aK) (.q (.q .o1 (.k (.loop [(14,.I)] (.q (.q .o4 (.c .l .l)) (.q (.k (.q (.cU (.tail 9 (RI.ops 9) [.op,.op])) .aK)) .o3))))) (.q .fX (.q (.cU (.seq [.op,.op,.op,.cY true 7 (RI.ops 7),.op,.cY true 1 [.op],.op])) .l)))))))))
def WY.v (a b c d e f g h:Int)(i:Sl)(j:Hp)(k:aO):Prop:=aV #[.I a,.I b,.I c,.I d,.I e,.I f] 25 j λl m=>aQ l 0 m λn=>aQ l 1 m λo=>aQ l 2 m λp=>aQ l 3 m λq=>aQ l 4 m λr=>aQ l 5 m λs=>X8.c n o p q r s g h i 40 m λt u=>If t.isNone (Xw.c u λv w=>k v w) (bG t 1 u λy=>Wz.c y u λz aa=>bG t 1 aa λac=>Wt.c ac 0 aa λad ae af=>bG t 1 af λah=>WO.c ah af λai aj=>Yv.c ai aj λak al=>Jn [.b] (λ(am:Bool) an=>If am (k false an) (X6 [bO] (λao=>ao 0 an) λap (aq:Int) ar=>If (aq<((ak.len:Nat):Int)) (bG t 1 ar λav=>Ix ak.a ak.len aq 4 λaw=>aQ aw 0 ar λax=>Wj.c av 0 ax ar λay az=>If (ay != 0) (k false az) (bM (aq+1) λa0=>ap a0 az)) (bG t 1 ar λa2=>Wt.c a2 0 ar λa3 a4 a5=>bX (λa6 a7=>bX (λa8 a9=>k a8 a9) λba=>If a6 (Xw.c a7 λbb bc=>ba bb bc) (ba false a7)) λbd=>If (a4==0) (bG t 0 a5 λbf=>ZL.c bf a5 λbg bh=>bd (((bg.len:Nat):Int)==0) bh) (bd false a5)))) λbi=>dY al λbj=>If (ad != ((z.len:Nat):Int)) (bi true al) (If (ae != 0) (bi true al) (bW t λbk=>aU bj bk 1 λbl=>Wz.c bl al λbm bn=>If (((bm.len:Nat):Int) != 0) (bi true bn) (bG t 1 bn λbp=>Wx.c bp bn λbq br=>If (bq != 0) (bi true br) (bW t λbs=>bW t λbt=>(aX bs 2 br λbu=>aX bt 3 br λbv=>
 bM (((bu.len:Nat):Int)-((bv.len:Nat):Int)) λbw=>bi (((ak.len:Nat):Int) != bw) br) ∧ (aX bt 3 br λbx=>aX bs 2 br λbz=>bM (((bz.len:Nat):Int)-((bx.len:Nat):Int)) λb0=>bi (((ak.len:Nat):Int) != b0) br))))))
theorem WY.o {a b c d e f g h i j k}(l:WY.v a b c d e f g h i j k):WY.c a b c d e f g h i j k:=Wa Tryz.func8 (x:=WY.h) (R0 l)
end Go.Proofs
namespace Go.Ar
open Go Go.Vc Go.Proofs
open Go.Vc (bU dA cO)
variable {thread a bl by':Int}{U σ0 v w w':Hp}{F P Q X T T' Tc Qa Qf:Rg}{L:dE}{H H' H1:Hw}{held:List Pc}{s0 sp:Sp}{t n:Nat}{gb km fm m pp xb:Nat}{x y x':Gu}{b:B5}{qb:Nat}{Qq Qr:Rg}{qs rs addrs fl l:Sl}{ad fd:List Int}{q q':Qu}{ds:List fB}
theorem KQ.free (kq:KQ W0 H x q.q)(hi:HI H held s0)(cf:jk H)(hm:bU x.kn a=some b)(hf:lZ H x q thread a=0)(ov:iM thread (dO H b) x {q with q:=q.q++[(a,b.2.1)]} H' x' q') :
 og W0 thread (dO H b) x {q with q:=q.q++[(a,b.2.1)]} H' x' q'/\Ut q'=false/\∀e∈x.kn,e.1≠a->Kept H x (dO H b) x e:=by
 obtain⟨p,j⟩:=Jk hm hf;have i:=Z9 hm;obtain⟨z,A,D⟩:=kq.g.FI hi i;obtain⟨s1,m⟩:∃s1,HI (dO H b) held s1:=HI.iJ _ _ hi;have w:KQ W0 (dO H b) x (q.q++[(a,b.2.1)]):=by
  have C:=kq.step hi m z λe d s=>A e d λh=>j (h▸s);refine⟨z,λe d=>?_,?_⟩
  ·rcases zK.1 d with d|d
   ·exact C.k e d
   ·rw[zN]at d;subst d;exact⟨b,hm,rfl,D⟩
  ·rw[zj,nB];refine⟨kq.nd,by simp,λu B c y=>?_⟩;simp only[zR,ny,zN]at y;subst y;exact λh=>j (h▸B)
 obtain⟨st,r⟩:=ov.st w m cf p;exact⟨st,r,A⟩
theorem KQ.lZ {lq:List P2}(kq:KQ W0 H x lq)(hi:HI H held s0)(hrd:ZH H thread=0)(hm:(a,b)∈x.kn)(hnq:a∉q.q.map (·.1)):lZ H x q thread a=0:=by
 unfold Go.Ar.lZ;rw[zB (by rw[hrd];decide),zB hnq,ZA kq.g.nd hm];simp only;rw[kq.g.lost hi hm,kq.g.broken hi hm];rfl
theorem KQ.yM (kq:KQ W0 H x q.q)(hk:x.kn.length<=1000)(hr:q.rs.length+q.q.length<=9000):QS x q:=⟨kq.g.i,O,λe a=>by
 obtain⟨b,d,_,_⟩:=kq.k e a;have h:e.1=b.1/\gT b:=kq.g.i _ (Z9 d);have w:=h.1;have r:=h.2.z;have j:=h.2.base;have p:=h.2.t;have y:=h.2.m;have u:=h.2.s;have A:=ZU (n:=b.2.1) O;unfold iN;omega,hr⟩
theorem φ (hi:oK q)(h:Ut q=false):q.q.length<=64:=by
 unfold Ut at h;rw[wD,decide_eq_false_iff_not,decide_eq_false_iff_not]at h;have:=hi.bl;omega
theorem PQ.nk (p:PQ σ0 U bl by' n xb pp gb km fm qb T Qa Qf H x q addrs ad fl fd):x.kn.length<=n/\ad.length<=n:=by
 have:=p.al.lens;have:=p.al.nl;have:=p.no;omega
theorem PQ.drain (p:PQ σ0 U bl by' n xb pp gb km fm qb T Qa Qf H x q addrs ad fl fd)(gc:Gc σ0)(hn:n<=900){R:Int->Int->Hp->Prop}
 (hR:∀w T' H' x' q',PQ σ0 w bl by' (n+1) xb pp gb km fm qb T' Qa Qf H' x' q' addrs ad fl fd->iS 0 H x q H' x' q'->q'.q=[]->R (q.q.length:Int) 0 w):Wt.c (aW qb) 0 U R:=by
 have b:=p.al.ready;obtain⟨j,C,hi⟩:=p.o.p.hi;have g:=p.o.p.cf;have m:=p.o.p.qi;have B:=p.o.p;have z:=p.yM O;obtain⟨L,u,s0,P,Qq,Qr,qs,M,A,rfl,rfl⟩:=B;refine HM A gc z 0 (λw h=>absurd b h) λw H' x' q' _ s y=>?_;obtain⟨T',G,D,F⟩:=y.tb;obtain⟨i,E⟩:=p.al.out (d:=⟨42,0,0,0,0,0,0,.empty⟩) (a:=0) hi g m (.drain rfl b s);have r:=s.st p.al.kq hi g b;refine hR w T' H' x' q' ⟨p.o.eY D G F,?_,by have:=p.no;omega,by have:=p.fn;omega⟩ s r.2;have K:ad++Option.toList (none:Option Int)=ad:=by simp
 have J:fd++Option.toList (none:Option Int)=fd:=by simp
 rw[K,J]at i;exact i
set_option maxRecDepth 16000 in
theorem Oy (gl:Gl U)(gc:Gc U)(b b1 b2 b3 b4 b5 WV bytes:Int)(hd:jE U l ds){R:aO}(hR:∀σ',aF U σ'->R true σ'):WY.c b b1 b2 b3 b4 b5 WV bytes l U R:=by
 refine WY.o ?_;unfold WY.v;refine nw (cs:=[.int .i64 b,.int .i64 b1,.int .i64 b2,.int .i64 b3,.int .i64 b4,.int .i64 b5]) λv hz e hb=>hb.rI rfl (hb.rI rfl (hb.rI rfl (hb.rI rfl (hb.rI rfl (hb.rI rfl ?_)))));have glv:=gl.bP e;have F:=gc.bP e;refine Ps glv F b b1 b2 b3 b4 b5 WV bytes (hd.bP e) 40 aB (λv1 e1=>?_) λv1 xb pp gb km fm qb T Qa Qf H x q A ad fl fd p=>cD rfl ?_
 ·exact cF rfl (Fz (glv.bP e1) (F.bP e1) λv2 e2=>hR v2 ((e.trans e1).trans e2))
 refine bL (p.o.b.rP rfl ?_);obtain⟨L0,hh0,s00,P0,Qq0,Qr0,qs0,rs0,qp0,hpp0,_⟩:=p.o.p;refine AG qp0 λsb v3 Qb eb hsb hQb=>?_;have hsl:sb.len=q.q.length:=by have:=hsb.1;simp[Wy]at this;omega
 have p3:=p.oS eb;refine bL (p3.o.b.rP rfl (p3.drain F aB λv4 T1 H1 x1 q1 p4 dr B=>?_));refine bL (p4.o.b.rP rfl ?_);obtain⟨L1,hh1,s01,P1,Qq1,Qr1,qs1,rs1,ae,hpp1,hT1⟩:=p4.o.p;refine RN ae ?_;have nk:=p4.nk;have g1:=p4.al.kq.g;refine Jy ae.p g1.i O λs N C e5 aa Q=>?_;have hel:=aa.p.length_eq;have hsl5:s.len=C.length:=by have:=Q.1;rw[Hh,zk]at this;omega
 have D:=p4.oS e5;have qp5:=ae.fr e5;have hcnt:=D.al.uM;have hlens:=D.al.lens;have hal:A.len=ad.length:=by have:=D.o.ra.1;simp[Wy]at this;omega
 have hfl:fl.len=fd.length:=by have:=D.o.rf.1;simp[Wy]at this;omega
 have hq0:q1.q.length=0:=by rw[B];rfl
 refine xV (λr u=>aF N u/\r=false) (λr u ⟨eu,hr⟩=>?_) λJ hJ=>?_
 rotate_left
 ·refine⟨λm=>aF N m,Ext.refl _ _,cD (by rw[hsl];simp) (cD rfl (bL (gL (c:=.p) (y:=some ⟨qb,0,none⟩) (λm e=>e.bV D.o.b id) rfl (AG qp5 λsc v6 Qc e6 hsc hQc=>?_))))⟩;have hsc0:sc.len=0:=by have:=hsc.1;rw[B]at this;simp[Wy]at this;omega
  have p6:=D.oS e6;refine cD (by rw[hsc0];rfl) (bL (p6.o.b.rP rfl (D6 (qp5.fr e6) λv7 e7=>?_)));have p7:=p6.oS e7;refine cD (by rw[B];rfl) (bL (bL ?_));have S:J (((s.len:Nat):Int) != ((A.len:Nat):Int)-((fl.len:Nat):Int)) v7:=by
   refine hJ _ _ ⟨e6.trans e7,?_⟩;rw[bne_eq_false_iff_eq];omega
  have ha1 : -9223372036854775808<=((A.len:Nat):Int)-((fl.len:Nat):Int):=by omega
  have ha2:((A.len:Nat):Int)-((fl.len:Nat):Int)<=9223372036854775807:=by omega
  exact⟨p7.o.b.rS rfl (p7.o.b.rS rfl (ar ha1 ha2 S)),p7.o.b.rS rfl (p7.o.b.rS rfl (ar ha1 ha2 S))⟩
 refine cD hr ?_;have hnk:=D.nk;refine Qv (a:=bO) (λ(z:Int) u=>∃(i:Nat) (T:Rg) (H:Hw) (x:Gu) (q:Qu),z=i/\i<=C.length/\Ext (λc=>T1 c\/N.size<=c) N u/\OQ v u xb pp gb km fm qb T Qa Qf H x q A ad fl fd/\KQ W0 H x q.q/\ZH H 0=0/\Ut q=false/\q.rs=[]/\x.kn.length+i=C.length+q.q.length/\x.kn.length<=C.length/\(∀j k,i<=j->C[j]?=some k->k∈x.kn/\k.1∉q.q.map (·.1))/\∀c,T c->T1 c\/N.size<=c) (λz _=>C.length-z.toNat)
  ⟨0,T1,H1,x1,q1,rfl,O,aF.to eu,D.o.oS eu,D.al.kq,D.al.ready,D.al.ov,D.al.rs,O,O,λj k _ hj=>⟨aa.p.mem_iff.1 (zG hj),by rw[B];simp⟩,λc G=>.inl G⟩ ?_
 rintro(z:Int) u ⟨i,T,H,x,q,rfl,hi,euu,o,kq,hrd,hov,hrs,hkl,hkb,hall,hT⟩;have hqi:=o.p.qi;have hql:=φ hqi hov;have hqs:=kq.yM O (by rw[hrs,kr];omega);have hcf:=o.p.cf;obtain⟨held',s0',ab⟩:=o.p.hi;refine cN (λhlt=>?_) λhge=>?_
 ·have hx:C[i]?=some (C[i]' O):=cW _;generalize (C[i]' O)=k at hx;obtain⟨hk,hkq⟩:=hall i k (zE _) hx;have hx4:(C.map Go.Ar.b4)[i]?=some (Go.Ar.b4 k):=by rw[zZ,hx];rfl
  have W:bT s 4 (gQ (C.map Go.Ar.b4)) N (λc=>v4.size<=c/\c<N.size):=aI.mono (aI.cut Q) λc _ G=>⟨G.1,G.2⟩;have hru:bT s 4 (gQ (C.map Go.Ar.b4)) u (λc=>v4.size<=c/\c<N.size):=aI.bS W euu λc _ G h=>by
   rcases h with h|h
   ·have:=(p4.o.p.lt h).2;omega
   ·omega
  refine bL (o.b.rP rfl (An (bT.fW hru) hx4 λbb V G=>eD (G 0 _ rfl) ?_));have d:=(kq.g.i k hk);have hka:(Go.Ar.b4 k).1=k.1:=d.1.symm;rw[hka];obtain⟨L,hh,s0,P,Qq,Qr,qs,rs,qp,X,Y⟩:=o.p;have hf:lZ H x q 0 k.1=0:=kq.lZ ab hrd (show(k.1,k.2)∈x.kn from hk) hkq;refine Hk qp F hqs O (by rw[hrs,kr];omega) 0 ?_ (λw h=>absurd hf h) λw bb' H' x' q' hm _ ov V=>cD rfl ?_
  ·have h1:=d.1;have h2:=d.2.z;have h3:=d.2.base;have h4:=d.2.t;have h5:=d.2.m;have h6:=d.2.s;have hw:=ZU (n:=k.2.2.1) O;unfold iN;omega
  have hm':bU x.kn k.1=some k.2:=ZA kq.g.nd (show(k.1,k.2)∈x.kn from hk);rw[hm']at hm;cases hm;obtain⟨st,hov',hkept⟩:=kq.free ab hcf hm' hf ov;have V:QO v u w pp gb km fm qb T H' x' q':=by rw[←X,Y];exact V
  obtain⟨T',p',eT,M⟩:=V.tb;obtain⟨l1,K,hl2,hl3⟩:=st.sf;have K:q.q++[(k.1,k.2.2.1)]=l1++q'.q:=K;have ac:=st.kn;simp only[zJ,qP]at ac;have hzu:=euu.1;have hql':q'.q.length<=q.q.length+1:=by
   have:=congrArg List.length K;simp only[zJ,qP]at this;omega
  refine cT (m:=i+1) O O ⟨⟨i+1,T',H',x',q',rfl,O,euu.dQ eT λc G=>?_,o.eY eT p' M,st.kq,st.rd,hov',?_,O,O,λj k' hj hk'=>?_,λc G=>?_⟩,O⟩
  ·rcases hT c G with h|h
   ·exact .inl (.inl h)
   ·exact .inl (.inr h)
  ·rw[hl3,BD,kb];exact hrs
  ·obtain⟨h1,h2⟩:=hall j k' O hk';have hne:k'.1≠k.1:=λh=>by
    have:=Ud kq.g.nd h1 hk h;subst this;have hp:=aa.s;rw[kS]at hp;have a1:=cX.1 hx;have a2:=cX.1 hk';obtain⟨b1,c1⟩:=a1;obtain⟨b2,c2⟩:=a2;have:=hp i j b1 b2 O;rw[c1,c2]at this;omega
   have Z:k'.1∉(q.q++[(k.1,k.2.2.1)]).map (·.1):=by
    rw[zj,zK];rintro(h|h)
    ·exact h2 h
    ·simp only[zR,ny,zN]at h;exact hne h
   rw[K,zj,zK]at Z;exact⟨(hl2 k' (hkept k' h1 hne).1 λh=>Z (.inl h)).1,λh=>Z (.inr h)⟩
  ·rcases M c G with h|h
   ·exact hT c h
   ·exact .inr O
 ·have hie:i=C.length:=by omega
  subst hie;refine bL (o.b.rP rfl ?_);obtain⟨L,hh,s0,P,Qq,Qr,qs,rs,qp,X,Y⟩:=o.p;refine HM qp F hqs 0 (λw h=>absurd hrd h) λw H' x' q' _ dr V=>?_;obtain⟨st,hn'⟩:=dr.st kq ab hcf hrd;have ac:=st.kn;rw[hn',kr]at ac;have hx0:x'.kn=[]:=tz O;have hl0:H'.live=[]:=by
   have:=st.kq.g.live;rw[hx0,ny,yA]at this;exact this
  have V:QO v u w pp gb km fm qb T H' x' q':=by rw[←X,Y];exact V
  obtain⟨T',p',eT,M⟩:=V.tb;have o':=o.eY eT p' M;have hp':=p';obtain⟨L',hh',s0',P',Qq',Qr',qs',rs',qp',hpp',_⟩:=hp';refine bX.intro (cF rfl (bL (o'.b.pf rfl ?_)));rw[←hpp'];refine RP qp'.p.h qp'.p.hi λs' w' bs e' hbs hr'=>?_;have hs0:s'.len=0:=by
   have h1:=hr'.1;rw[Hh]at h1;have h2:=hbs.len;rw[hl0]at h2;simp at h2;rw[h2]at h1;simp at h1;omega
  rw[hs0];have E:=e.trans (p'.fr e').e;exact bX.intro (cF rfl (Fz (gl.bP E) (gc.bP E) λu2 e2=>hR u2 (E.trans e2)))
end Go.Ar
namespace Go.Ar
open Go Go.Vc Go.Proofs Go.ChangeShapes Go.WideShapes Go.RowKit Go.Deep
theorem GZ {H:Type}{enc:TypeId×Value->H}{P:Program}{w:World}{base:Nat}{sp:Nat->Bool}{held:Bool}{fuel:Nat}{t:TypeId}{c:Value}{y:DataW H×List MemPlace}
 (ht:P.underlying t=some .bool) (h:DataW.trod enc P w base sp held fuel t [c]=some y):∃n,c=.bool n/\y=(.lit (.bool n),[]):=by
 cases fuel with
 | zero=>simp[DataW.trod]at h
 | succ fuel=>
  cases c<;>simp[DataW.trod,ht]at h
  rename_i n;exact⟨n,rfl,by simpa using h.symm⟩
theorem BE {P:Program}{w:World}{t:TypeId}{f0 f1:Field}{cs:Array Value}{fuel:Nat}{p:List MemPlace}{x y:Bool}(ht:P.underlying t=some (.struct #[f0,f1]))(hone:oneCellFields P #[f0,f1]=true)(hC:P.cellsOf t=2)
 (h0:P.underlying f0.type=some .bool) (h1:P.underlying f1.type=some .bool) (h:DataW.trod (λ_=>()) P w 0 (λ_=>true) false fuel t cs.toList=some (.agg [.lit (.bool x),.lit (.bool y)],p)):cs = #[.bool x,.bool y]:=by
 obtain⟨s,n,z,i,b,g,a⟩:=DataW.trod_struct ht h;obtain⟨l⟩:=cs;have d:l.length=2:=by rw[←hC];simpa using b
 match l,d with
 | [c0,c1],_=>
  have j:=a 0 f0 rfl;have m:=a 1 f1 rfl;obtain⟨r,q0⟩:=hone_of hone 0 f0 rfl;obtain⟨o1,q1⟩:=hone_of hone 1 f1 rfl;rw[r,q0]at j;rw[o1,q1]at m
  match s,g with
  | [y0,y1],_=>
   obtain⟨B,rfl,u⟩:=GZ h0 (c:=c0) (y:=y0) (by simpa using j);obtain⟨A,rfl,e1⟩:=GZ h1 (c:=c1) (y:=y1) (by simpa using m);subst u;subst e1;simp at i;obtain⟨⟨rfl,rfl⟩,_⟩:=i;rfl
theorem GO {w:World}{a:Addr}{v:Value}(h:w.cell? a=some v):cell w.heap a=some v:=h
section
variable {H:Type}{enc:TypeId×Value->H}{P:Program}{w:World}
theorem MU {x:Int}(h:(Lit.int .i64 x).wf=true):iN x:=by
 unfold iN;simp[Lit.wf,IntKind.min,IntKind.max,IntKind.bits,IntKind.signed]at h;omega
theorem WgA {t:TypeId}{f0 f1 f2 f3 f4 f5 f6 f7:Field}{fuel:Nat}{cs:List Value}{y:DataW H×List MemPlace}
 (ht:P.underlying t=some (.struct #[f0,f1,f2,f3,f4,f5,f6,f7])) (hone:oneCellFields P #[f0,f1,f2,f3,f4,f5,f6,f7]=true) (hC:P.cellsOf t=8)
 (h0:P.underlying f0.type=some (.int .i64)) (h1:P.underlying f1.type=some (.int .i64)) (h2:P.underlying f2.type=some (.int .i64)) (h3:P.underlying f3.type=some (.int .i64)) (h4:P.underlying f4.type=some (.int .i64)) (h5:P.underlying f5.type=some (.int .i64)) (h6:P.underlying f6.type=some (.int .i64)) (h7:P.underlying f7.type=some .string)
 (h:DataW.trod enc P w 0 (λ_=>true) true fuel t cs=some y):∃d:fB,cs=tU d/\kV d:=by
 obtain⟨A,n,W,V,g,u,m⟩:=DataW.trod_struct ht h;have i:cs.length=8:=by rw[←hC];exact g
 match cs,i with
 | [c0,c1,c2,c3,c4,c5,c6,c7],_=>
  have one:∀(j:Nat) (f:Field) (c:Value),(#[f0,f1,f2,f3,f4,f5,f6,f7]:Array Field)[j]?=some f->[c0,c1,c2,c3,c4,c5,c6,c7][j]?=some c->∃z,DataW.trod enc P w 0 (λ_=>true) true n f.type [c]=some z:=by
   intro j f c hj hc;obtain⟨F,E⟩:=hone_of hone j f hj;have h3:=m j f hj;rw[F,E]at h3;have b:=(cX.1 hc).1;have e1:([c0,c1,c2,c3,c4,c5,c6,c7].drop j).take 1=[c]:=by
    rw[xg b,vY,vA,(cX.1 hc).2]
   rw[e1]at h3;have r:A[j]?=some (A[j]'(by rw[u];simp at b ⊢;omega)):=cW _;rw[r]at h3;exact⟨_,h3⟩
  have int:∀(j:Nat) (f:Field) (c:Value),(#[f0,f1,f2,f3,f4,f5,f6,f7]:Array Field)[j]?=some f->[c0,c1,c2,c3,c4,c5,c6,c7][j]?=some c->P.underlying f.type=some (.int .i64)->∃x:Int,c=.int .i64 x/\iN x:=by
   intro j f c hj hc hu;obtain⟨z,p⟩:=one j f c hj hc;obtain⟨x,a,_,G⟩:=DataW.trod_int hu p;simp only[List.cons.injEq,and_true]at a;exact⟨x,a,MU G⟩
  obtain⟨K,rfl,_⟩:=int 0 f0 c0 rfl rfl h0;obtain⟨M,rfl,_⟩:=int 1 f1 c1 rfl rfl h1;obtain⟨C,rfl,D⟩:=int 2 f2 c2 rfl rfl h2;obtain⟨N,rfl,U⟩:=int 3 f3 c3 rfl rfl h3;obtain⟨S,rfl,_⟩:=int 4 f4 c4 rfl rfl h4;obtain⟨J,rfl,R⟩:=int 5 f5 c5 rfl rfl h5;obtain⟨L,rfl,Q⟩:=int 6 f6 c6 rfl rfl h6;obtain⟨z,p⟩:=one 7 f7 c7 rfl rfl;obtain⟨s,B,_⟩:=DataW.trod_string h7 p;simp only[List.cons.injEq,and_true]at B;subst B;exact⟨⟨K,M,C,N,S,J,L,s⟩,rfl,D,U,R,Q⟩
theorem Sr {t e:TypeId}{f0 f1 f2 f3 f4 f5 f6 f7:Field}{a:Option Addr}{len cap:Nat}{d:DataW H}{ps:List MemPlace}
 (htl:P.underlying t=some (.slice e)) (ht:P.underlying e=some (.struct #[f0,f1,f2,f3,f4,f5,f6,f7])) (hone:oneCellFields P #[f0,f1,f2,f3,f4,f5,f6,f7]=true) (hC:P.cellsOf e=8)
 (h0:P.underlying f0.type=some (.int .i64)) (h1:P.underlying f1.type=some (.int .i64)) (h2:P.underlying f2.type=some (.int .i64)) (h3:P.underlying f3.type=some (.int .i64)) (h4:P.underlying f4.type=some (.int .i64)) (h5:P.underlying f5.type=some (.int .i64)) (h6:P.underlying f6.type=some (.int .i64)) (h7:P.underlying f7.type=some .string)
 (h:DataW.Trod enc P w 0 (λ_=>true) true t (.slice a len cap) d ps):∃ds,jE w.heap ⟨a,len,cap⟩ ds:=by
 obtain⟨N,V⟩:=h;rcases open_slice htl V with⟨p,_⟩|⟨ad,len',cap',m,n,D,Pl,p,_,hl,hm,hmm,y,hi⟩
 ·simp[Value.cells]at p;obtain⟨rfl,rfl,rfl⟩:=p;exact⟨[],rfl,λi x y=>by simp at y,by simp,by simp⟩
 ·simp[Value.cells]at p;obtain⟨rfl,rfl,rfl⟩:=p;have U:m=cap:=by simpa using hmm
  have key:∀i,i<len->∃u:fB,(∀j v,(tU u)[j]?=some v->cell w.heap ((ad.add (i*8)).add j)=some v)/\kV u:=by
   intro i r;obtain⟨R,C,G⟩:=hi i O;rw[hC]at C;obtain⟨x,p,F⟩:=WgA ht hone hC h0 h1 h2 h3 h4 h5 h6 h7 G;obtain⟨_,S,L⟩:=World.cells?_some C;refine⟨x,λj v B=>?_,F⟩;have Q:=(cX.1 B).1;have:=L j (by simpa[tU]using Q);rw[p]at this;rw[B]at this;exact this
  let g:Nat->fB:=λi=>if hi:i<len then(key i hi).choose else⟨0,0,0,0,0,0,0,ByteArray.empty⟩
  have M:∀i,(hi:i<len)->g i=(key i hi).choose:=λi hi=>by simp only[g,hi,dif_pos]
  refine⟨(List.range len).map g,by simp,λi x y=>?_,λx y=>?_,?_⟩
  ·have r:i<len:=by
    have:=(cX.1 y).1;simpa using this
   have A:g i=x:=by simpa[r]using y
   rw[M i r]at A;have E:=(key i r).choose_spec;rw[A]at E;obtain⟨C,_⟩:=E;have J:=(key 0 O).choose_spec.1;have K:=J 0 _ rfl;have z:=Jw K;simp only[vG,Addr.add_zero']at z;obtain⟨b,o,s⟩:=ad;have E:s=none:=z.2;subst E;refine⟨b,o,rfl,z.1,λj v B=>?_⟩;have:=C j v B;rw[add_lit,add_lit]at this;exact this
  ·obtain⟨i,hi,rfl⟩:=zD.1 y;have r:=zg.1 hi;rw[M i r];exact(key i r).choose_spec.2
  ·have:maxLen=9223372036854775807:=rfl;simp;omega
theorem Wgy {b0:Nat}{t:TypeId}{f0 f1 g0 g1 g2 g3 g4:Field}{v:Value}{d:DataW H}{ps:List MemPlace}
 (ht:P.underlying t=some (.struct #[f0,f1])) (hC:P.cellsOf t=6) (ho:f0.offset=0/\P.cellsOf f0.type=1/\f1.offset=1/\P.cellsOf f1.type=5)
 (h0:P.underlying f0.type=some (.int .i64)) (h1:P.underlying f1.type=some (.struct #[g0,g1,g2,g3,g4])) (hone:oneCellFields P #[g0,g1,g2,g3,g4]=true)
 (k0:P.underlying g0.type=some (.int .i64)) (k1:P.underlying g1.type=some (.int .i64)) (k2:P.underlying g2.type=some (.int .i64)) (k3:P.underlying g3.type=some (.int .i64)) (k4:P.underlying g4.type=some (.int .i64))
 (hval:Value.okWide P w .any b0 t v) (h:DataW.Trod enc P w 0 (λ_=>true) true t v d ps):∃(x0 x1 x2 x3 x4 x5:Int),v=.agg #[.int .i64 x0,.int .i64 x1,.int .i64 x2,.int .i64 x3,.int .i64 x4,.int .i64 x5]:=by
 unfold Value.okWide at hval;rw[ht]at hval;obtain⟨L,rfl,m,_⟩:=hval;obtain⟨g,F⟩:=h;obtain⟨l⟩:=L;have B:l.length=6:=by rw[←hC];simpa using m
 obtain⟨y,r,A,u⟩:=ho
 match l,B with
 | [c0,c1,c2,c3,c4,c5],_=>
  have F:DataW.trod enc P w 0 (λ_=>true) true g t [c0,c1,c2,c3,c4,c5]=some (d,ps):=F;obtain⟨y0,y1,n,_,_,q0,q1⟩:=trod_struct2 ht F;rw[y,r]at q0;rw[A,u]at q1;have D:DataW.trod enc P w 0 (λ_=>true) true n f0.type [c0]=some y0:=q0;have E:DataW.trod enc P w 0 (λ_=>true) true n f1.type [c1,c2,c3,c4,c5]=some y1:=q1;obtain⟨x0,b,_,_⟩:=DataW.trod_int h0 D;simp only[List.cons.injEq,and_true]at b;subst b;obtain⟨G,n,M,N,J,C,z⟩:=DataW.trod_struct h1 E;have int:∀(j:Nat) (f:Field) (c:Value),(#[g0,g1,g2,g3,g4]:Array Field)[j]?=some f->[c1,c2,c3,c4,c5][j]?=some c->P.underlying f.type=some (.int .i64)->∃x:Int,c=.int .i64 x:=by
   intro j f c hj hc hu;obtain⟨ho,K⟩:=hone_of hone j f hj;have i:=z j f hj;rw[ho,K]at i;have a:=(cX.1 hc).1;have e1:([c1,c2,c3,c4,c5].drop j).take 1=[c]:=by
    rw[xg a,vY,vA,(cX.1 hc).2]
   rw[e1]at i;have s:G[j]?=some (G[j]'(by rw[C];simp at a ⊢;omega)):=cW _;rw[s]at i;obtain⟨x,p,_,_⟩:=DataW.trod_int hu i;exact⟨x,by simpa using p⟩
  obtain⟨x1,rfl⟩:=int 0 g0 c1 rfl rfl k0;obtain⟨x2,rfl⟩:=int 1 g1 c2 rfl rfl k1;obtain⟨x3,rfl⟩:=int 2 g2 c3 rfl rfl k2;obtain⟨x4,rfl⟩:=int 3 g3 c4 rfl rfl k3;obtain⟨x5,rfl⟩:=int 4 g4 c5 rfl rfl k4;exact⟨x0,x1,x2,x3,x4,x5,rfl⟩
end
end Go.Ar