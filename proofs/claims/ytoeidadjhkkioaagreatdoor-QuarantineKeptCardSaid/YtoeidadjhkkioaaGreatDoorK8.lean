/- Texts joined. -/
import Derived.Test.YtoeidadjhkkioaaGreatDoorRows
import Derived.ChangeVars
import Derived.JoinedOf
import Derived.RowKit
import Derived.WalkKit
import Derived.ProofKit
import Derived.OpenShut
import Derived.ChangeOld
import Derived.Carry
import Derived.Test.YtoeidadjhkkioaaGreatDoorK7
set_option linter.unusedVariables false
set_option linter.unusedSimpArgs false
namespace Go.Ar
open Go Go.Vc Go.Proofs
open Go.Vc (bS cX cO)
variable {U σ0 v w w':Hp}{F P Q X T:Rg}{L:dE}{H H' H1:Hw}{held:List Pc}{s0 sp:Sp}{t n:Nat}{gb km fm m:Nat}{x y:Gu}{b:B5}{qb:Nat}{Qq Qr:Rg}{qs rs:Sl}{q:Qu}
theorem V2 (o:QP σ0 U L H held s0 P gb km fm x qb Qq Qr qs rs q){R:aO}(hR:R true U):Wm.c (aW qb) U R:=by
 refine Wm.o ?_;unfold Wm.v;exact bX.intro (cF rfl (bL (o.b.rP rfl hR)))
theorem Ia (o:QP σ0 U L H held s0 P gb km fm x qb Qq Qr qs rs q){R:Option Addr->Hp->Prop}(hR:R (some ⟨gb,0,none⟩) U):Wx.c (aW qb) U R:=by
 refine Wx.o ?_;unfold Wx.v;exact V2 o (cD rfl (bL (o.b.rP rfl hR)))
theorem Lm (o:QP σ0 U L H held s0 P gb km fm x qb Qq Qr qs rs q)(thread:Int){R:aN}(hR:∀σ',aF U σ'->R (ZI H thread) σ'):WK.c (aW qb) thread U R:=by
 refine WK.o ?_;unfold WK.v;refine V2 o (cD rfl (bL (o.b.rP rfl (AS o.p ?_))));refine KC (λr u=>aF U u/\r=decide (thread<0\/thread≥(H.cf.threads:Int))) (λr u ⟨d,g⟩=>?_) λJ i=>?_
 .by_cases hc:thread<0\/thread≥(H.cf.threads:Int)
  .have a:=hR u d;unfold ZI at a;rw[zC hc]at a;exact cF (by rw[g];exact zI hc) a
  .have w:=o.p.fr d;refine cD (by rw[g];exact zL hc) (Iy w.h thread λs j e2 m=>?_);have a:=hR j (d.trans e2);unfold ZI at a;rw[zB hc]at a;rw[m];cases hp:UH H thread with
   | none=>rw[hp]at a;exact cD rfl a
   | some q=>rw[hp]at a;exact cF rfl a
 .refine cN (λh=>i _ _ ⟨Ext.refl _ _,by rw[zI];exact .inl h⟩) λh=>GX o.p.h λu e=>i _ _ ⟨e,?_⟩;rw[kZ,decide_eq_true_iff,decide_eq_true_iff];exact⟨.inr,λy=>y.resolve_left h⟩
theorem R9 {s:Sl}{l:List P2}(h:cV s 2 (gP l) U F)(hl:s.len<=1000000){R:Sl->Hp->Prop}(hR:∀s' σ',aF U σ'->bU s' 2 (gP l) σ' (λb=>U.size<=b)->R s' σ'):Wh.c s U R:=by
 refine Wh.o ?_;unfold Wh.v;exact CY h aB rfl (FK l) aB hl λs' σ' _ e a=>hR s' σ' e a
theorem Ζ {s:Sl}{xs:List Int}(h:cV s 1 (Wu xs) U F)(hl:xs.length<=1000000)(hne:xs≠[]){R:aN}(hR:R (lF xs) U):W7.c s U R:=by
 refine W7.o ?_;unfold W7.v;have b:s.len=xs.length:=by have:=h.1;simp[Wu]at this;omega
 have r:=pB.2 hne;refine Jn.intro (cD (zL O) ?_);obtain⟨a,l,rfl⟩:=List.exists_cons_of_ne_nil hne;have A:(a::l)[0]?=some a:=rfl;refine cV.mf (i:=0) h A ?_;refine UJ (a:=bO) (bb:=bO) (λ(m i:Int) u=>u=U/\∃k:Nat,i=k+1/\k<=l.length/\m=(l.take k).foldl (λm z=>if z<m then z else m) a) (λ_ i _=>l.length+1-i.toNat) ⟨rfl,0,rfl,O,rfl⟩ ?_
 rintro(m:Int) (i:Int) u ⟨rfl,k,rfl,hk,rfl⟩;refine cN (λw=>?_) λx=>?_
 .have g:k<l.length:=by simp only[zS]at b;omega
  have j:l[k]?=some l[k]:=cW g;have d:(a::l)[k+1]?=some l[k]:=by rw[Aq,j]
  generalize l[k]=y at j d;rw[show((k:Int)+1)=((k+1:Nat):Int) by omega];refine h.mf d (cT (m:=k+2) O O ⟨⟨rfl,k+1,O,O,?_⟩,O⟩);rw[kB,j,ru,vX];rfl
 .have p:k=l.length:=by simp only[zS]at b;omega
  subst p;rw[mi];exact hR
theorem Rj {s:Sl}{bs:List Bk}(h:cV s 4 (jt bs) U F)(hl:bs.length<=1000000)(hs:bs.Pairwise λa c=>a.1<c.1)(hi:∀k∈bs,0<=k.1/\k.1<=1000000){a:Int}(ha:jB a){R:Int->Bool->Hp->Prop}
 (h1:∀w (i:Nat) k,aF U w->bs[i]?=some k->k.1=a->R (i:Int) true w) (h0:∀w i,aF U w->(∀k∈bs,k.1≠a)->R i false w) :
 Wf.c s a ⟨117,#[],#[]⟩ U R:=by
 refine Wf.o ?_;unfold Wf.v;have Q:s.len=bs.length:=by have:=h.1;rw[CP]at this;omega
 obtain⟨ha1,Z⟩:=ha;have H:∀(k:Bk) (v:Hp) (K:aN),(∀D,aF v D->K (IntKind.i64.wrap (k.1-a)) D) →
  VP Tryz.prog ⟨117,#[],#[]⟩ [.agg #[.int .i64 k.1,.int .i64 k.2.1,.int .i64 k.2.2.1,.int .i64 k.2.2.2],.int .i64 a] [.one bO] v K:=by
  intro k v K hK;refine Gn (all := #[.agg #[.int .i64 k.1,.int .i64 k.2.1,.int .i64 k.2.2.1,.int .i64 k.2.2.2],.int .i64 a]) (by kernel_rfl) aA ?_;refine WX.o ?_;unfold WX.v;exact nw (cs:=kE k) λv1 hz e hb=>hb.rI rfl (vO (hK v1 e))
 have w0:∀k∈bs,(IntKind.i64.wrap (k.1-a)==0)=decide (k.1=a):=λk x=>by
  have:=hi k x;rw[kZ,zU,decide_eq_true_iff];unfold IntKind.wrap;simp[IntKind.bits,IntKind.signed];omega
 have A:∀{i j:Nat} {k r:Bk},bs[i]?=some k->bs[j]?=some r->i<j->k.1<r.1:=λ{i j k r} h1 N P=>by
  obtain⟨Y,e1⟩:=cY.1 h1;obtain⟨l2,e2⟩:=cY.1 N;have:=mB.1 hs i j Y l2 P;rw[e1,e2]at this;exact this
 refine UJ (a:=bO) (bb:=bO) (λ(i j:Int) v=>∃c d:Nat,i=(c:Int)/\j=(d:Int)/\c<=d/\d<=bs.length/\aF U v/\∀(p:Nat) k,bs[p]?=some k->k.1=a->c<=p/\p<=d) (λi j _=>j.toNat-i.toNat) ⟨0,bs.length,rfl,by rw[Q],O,O,Ext.refl _ _,λp k g _=>by have:=(cY.1 g).1;omega⟩ ?_;rintro(i:Int) (j:Int) v ⟨c,d,rfl,rfl,hcd,hdl,ev,hpp⟩;refine cN (λhlt=>?_) λhge=>?_
 .refine cT (m:=c+d) O O ?_;have hw:IntKind.u64.wrap ((c+d:Nat):Int)=((c+d:Nat):Int):=by
   unfold IntKind.wrap;simp[IntKind.bits,IntKind.signed];omega
  refine vO ?_;rw[hw];refine nn O ?_;have S:min (1:Int).toNat IntKind.u64.bits=1:=by decide
  rw[S,BR];have J:(((c+d:Nat):Int)/2^1)=(((c+d)/2:Nat):Int):=O
  refine cT (m:=(c+d)/2) J O ?_;have B:(c+d)/2<bs.length:=O
  have x:bs[(c+d)/2]?=some bs[(c+d)/2]:=cW B;generalize bs[(c+d)/2]=k at x;have C:=zG x;have hki:=hi k C;refine Ct (aH.bP h ev) x λbb o z=>eA (z 0 _ rfl) (eA (z 1 _ rfl) (eA (z 2 _ rfl) (eA (z 3 _ rfl) (H k v _ λD L=>?_))));have y:∀{p:Nat} {r:Bk},bs[p]?=some r->r.1=a->IntKind.i64.wrap (k.1-a)=k.1-a:=λ{p r} g b=>by
   have:=hi r (zG g);exact UA O O
  show If (decide (IntKind.i64.wrap (k.1-a)<0)) _ _;refine cN (λE=>?_) λG=>?_
  .refine cT (m:=(c+d)/2+1) O O ⟨⟨_,d,rfl,rfl,O,hdl,ev.trans L,λp r g b=>⟨?_,(hpp p r g b).2⟩⟩,O⟩;rw[y g b]at E;apply Classical.byContradiction;intro hx;rcases kv p ((c+d)/2)with N|N
   .have:=A g x N;omega
   .have:p=(c+d)/2:=O
    subst this;rw[x]at g;cases g;omega
  .refine⟨⟨c,_,rfl,rfl,O,O,ev.trans L,λp r g b=>⟨(hpp p r g b).1,?_⟩⟩,O⟩;rw[y g b]at G;apply Classical.byContradiction;intro hx;have:=A x g O;omega
 .have M:c=d:=O
  subst M;refine bX.intro (cN (λW=>?_) λX=>?_)
  .have B:c<bs.length:=O
   have x:bs[c]?=some bs[c]:=cW B;generalize bs[c]=k at x;have C:=zG x;refine Ct (aH.bP h ev) x λbb o z=>eA (z 0 _ rfl) (eA (z 1 _ rfl) (eA (z 2 _ rfl) (eA (z 3 _ rfl) (H k v _ λD L=>?_))));rw[w0 k C];by_cases hka:k.1=a
   .rw[zI hka];exact h1 D c k (ev.trans L) x hka
   .rw[zL hka];refine h0 D _ (ev.trans L) λr b u=>?_;obtain⟨p,g⟩:=zP b;have:=hpp p r g u;have V:p=c:=O
    subst V;rw[x]at g;cases g;exact hka u
  .refine h0 v _ ev λr b u=>?_;obtain⟨p,g⟩:=zP b;have:=hpp p r g u;have:=(cY.1 g).1;omega
theorem C7 (bi:gJ b){R:Sl->Hp->Prop}(hR:∀s w Q,aF U w->bU s 1 (Wu (XR b)) w Q->(∀c,Q c->U.size<=c/\c<w.size)->R s w):XW.c b.1 b.2.1 b.2.2.1 b.2.2.2.1 U R:=by
 refine XW.o ?_;unfold XW.v;have bb:=bi.base;have F:=bi.z;have H:=bi.m;have M:=bi.t;have G:=bi.s;have E:=YA (n:=b.2.1) O;have J:(QH b:Int)*8=ZC b.2.1:=by unfold QH;omega
 let wl:Nat->List Int:=λi=>(List.range i).map λ(i:Nat)=>b.1+8*(i:Int)
 have y:∀i,wl (i+1)=wl i++[b.1+8*(i:Int)]:=λi=>by show List.map _ _=_;rw[qN,zj];rfl
 have g:∀i,(wl i).length=i:=λi=>by show(List.map _ _).length=i;simp
 have A:wl (QH b)=XR b:=rfl
 clear_value wl
 refine nw (cs:=kE (b.1,b.2.1,b.2.2.1,b.2.2.2.1)) λv K e D=>?_;refine UJ (a:=.s) (bb:=bO) (λ(out:Sl) (z:Int) u=>aF v u/\∃(i:Nat) (Q:Rg),z=8*(i:Int)/\i<=QH b/\bU out 1 (Wu (wl i)) u Q/\∀c,Q c->v.size<=c/\c<u.size) (λ_ z _=>(ZC b.2.1-z).toNat)
  ⟨Ext.refl _ _,0,λ_=>False,rfl,O,by rw[vj (g 0)];exact⟨rfl,.inl ⟨rfl,rfl⟩⟩,λc d=>d.elim⟩ ?_
 rintro(out:Sl) (z:Int) u ⟨eu,i,Q,rfl,hi,hr,hQ⟩;have L:=eu.1;have j:=eu.bV D id;refine j.rI rfl (cN (λp=>?_) λr=>?_)
 .simp only at p;have C:out.len=i:=by have:=hr.1;simp[Wu,g]at this;omega
  refine j.rI rfl (ar aC aC ?_);refine xW hr (by rw[g];omega) _ λN w B x=>?_;refine ar O O ⟨⟨Ext.fresh eu B λc d=>(hQ c d).1,i+1,_,O,O,by rw[y];exact x,λc d=>?_⟩,O⟩;have:=B.1;rcases d with d|d
  .have:=hQ c d;omega
  .omega
 .simp only at r;have:i=QH b:=by unfold QH at hi ⊢;omega
  subst this;rw[A]at hr;exact hR out u Q (e.trans eu) hr λc d=>by have:=hQ c d;omega
theorem BA (o:QP σ0 U L H held s0 P gb km fm x qb Qq Qr qs rs q)(xi:∀e∈x.kn,e.1=e.2.1/\gJ e.2)(hkl:x.kn.length<=1000000){a:Int}(ha:jB a){R:Int->Int->Int->Int->Bool->Hp->Prop}
 (h0:∀w,aF U w->bS x.kn a=none->R 0 0 0 0 false w) (h1:∀w b,aF U w->bS x.kn a=some b->R b.1 b.2.1 b.2.2.1 b.2.2.2.1 true w):WC.c (aW qb) a U R:=by
 refine WC.o ?_;unfold WC.v;refine nw (cs:=[.int .i64 0,.int .i64 0,.int .i64 0,.int .i64 0]) λv hz e hb=>?_;have o1:=o.fr e;have nd:(x.kn.map (·.1)).Nodup:=o.p.m.nodup;refine bL (o1.b.rP rfl (N9 o1.p xi hkl λs v1 es e1 r A=>?_));have X:=e1.bV hb id;have B:∀{w:Hp} {a b c d:Int} {K:Int->Int->Int->Int->Hp->Prop},aF v1 w->(∀g,aF U g->K a b c d g) →
  dG (Addr.add ⟨U.size,0,none⟩ 0) (.int .i64 a) w λv7=>dG (Addr.add ⟨U.size,0,none⟩ 1) (.int .i64 b) v7 λv8=>dG (Addr.add ⟨U.size,0,none⟩ 2) (.int .i64 c) v8 λv9=>dG (Addr.add ⟨U.size,0,none⟩ 3) (.int .i64 d) v9 λv10=>
  gL .i64 (Addr.add ⟨U.size,0,none⟩ 0) v10 λr0=>gL .i64 (Addr.add ⟨U.size,0,none⟩ 1) v10 λr1=>gL .i64 (Addr.add ⟨U.size,0,none⟩ 2) v10 λr2=>gL .i64 (Addr.add ⟨U.size,0,none⟩ 3) v10 λr3=>K r0 r1 r2 r3 v10:=λ{w a b c d K} C hK=>
  (C.bV X id).s1 aA λw1 o1 b1=>b1.s1 aA λw2 o2 b2=>b2.s1 aA λw3 o3 b3=>b3.s1 aA λw4 o4 b4=>b4.rI rfl (b4.rI rfl (b4.rI rfl (b4.rI rfl (hK w4 (Ext.fresh ((e.trans e1).trans C) (((o1.ext.trans o2.ext).trans o3.ext).trans o4.ext) λi (hi:i=U.size)=>O)))))
 have j:∀k∈es,k∈x.kn:=λk u=>r.p.mem_iff.1 u;have S:(es.map Go.Ar.b4).length<=1000000:=by rw[zk,r.p.length_eq];exact hkl
 refine Rj (bU.fY A) S ?_ ?_ ha (λw i k C u D=>?_) λw i C Q=>?_
 .rw[td];refine r.s.imp_of_mem λ{k M} h1 Z aa=>?_;have e1:=(xi k (j k h1)).1;have e2:=(xi M (j M Z)).1;show k.2.1<M.2.1;omega
 .intro k u;obtain⟨y,J,rfl⟩:=zE.1 u;have F:=(xi y (j y J)).2;have h1:=F.base;have Z:=F.z;have h3:=F.m;have h4:=F.t;have h5:=F.s;have h6:=YA (n:=y.2.2.1) O;show 0<=y.2.1/\y.2.1<=1000000;omega
 .rw[zZ,oy]at u;obtain⟨y,J,rfl⟩:=u;have E:=j y (zG J);have Y:y.1=a:=by rw[(xi y E).1];exact D
  have hg:bS x.kn a=some y.2:=by rw[←Y];exact Qd nd (show(y.1,y.2)∈x.kn from E)
  have N:(es.map Go.Ar.b4)[i]?=some (Go.Ar.b4 y):=by rw[zZ,J];rfl
  refine cD rfl (Ct (aH.bP (bU.fY A) C) N λbb oo G=>eA (G 0 _ rfl) (eA (G 1 _ rfl) (eA (G 2 _ rfl) (eA (G 3 _ rfl) ?_))));exact B (K:=λa b c d g=>R a b c d true g) C λg W=>h1 g y.2 W hg
 .refine cF rfl (B (K:=λa b c d g=>R a b c d false g) C λg W=>h0 g W ?_);rw[Uc];intro k u D;have V:k∈es:=r.p.mem_iff.2 u;exact Q (Go.Ar.b4 k) (zE.2 ⟨k,V,rfl⟩) (by show k.2.1=a;rw[←(xi k u).1];exact D)
theorem θ (o:QP σ0 U L H held s0 P gb km fm x qb Qq Qr qs rs q)(a:Int){R:aO}(hR:∀w,aF U w->R (decide (a∈q.q.map (·.1))) w):WS.c (aW qb) a U R:=by
 refine WS.o ?_;unfold WS.v;refine nw (cs:=[.int .i64 a]) λv V e K=>?_;have o1:=o.fr e;refine bL (o1.b.rS rfl (Wb.o ?_));unfold Wb.v;refine We.o ?_;unfold We.v;have J:=o.rq.kK;have G:=o.i.ql;refine Qg (a:=bO) (λ(i:Int) u=>aF v u/\∃k:Nat,i=k/\k<=q.q.length/\∀j e,j<k->q.q[j]?=some e->e.1≠a) (λi _=>q.q.length-i.toNat) ⟨Ext.refl _ _,0,rfl,O,λj e r=>O⟩ ?_;rintro(i:Int) u ⟨eu,k,rfl,hk,hno⟩;have C:=eu.bV K id;refine cN (λg=>?_) λz=>?_
 .have s:q.q[k]?=some (q.q[k]'(by simp only at g;omega)):=cW _;generalize (q.q[k]'(by simp only at g;omega))=y at s;refine uJ (bU.fY (o1.fr eu).rq) s λW S F=>eA (F 0 _ rfl) (eA (F 1 _ rfl) ?_);refine Gn (all := #[.agg #[.int .i64 y.1,.int .i64 y.2],.pointer (some ⟨U.size,0,none⟩)]) (by kernel_rfl) aA (W5.o ?_);unfold W5.v;refine nw (cs:=lD y) λv3 M B E=>E.rI rfl ((B.bV C id).uo rfl (cP (λp=>?_) λA=>?_))
  .have d:y.1=a:=by simpa using p
   have:=hR v3 ((e.trans eu).trans B);rw[zI (zE.2 ⟨y,zG s,d⟩)]at this;show R (decide ((k:Int)≥0)) v3;rw[zI (show(k:Int)≥0 by omega)];exact this
  .have d:y.1≠a:=by simpa using A
   exact cT (m:=k+1) O O ⟨⟨eu.trans B,k+1,rfl,by simp only at g;omega,λj e r p=>by
    by_cases hjk:j=k
    .subst hjk;rw[s]at p;cases p;exact d
    .exact hno j e O p⟩,by simp only at g;omega⟩
 .have D:k=q.q.length:=by simp only at z;omega
  subst D;have:=hR u (e.trans eu);rw[zL λN=>by
   obtain⟨y,Q,d⟩:=zE.1 N;obtain⟨j,r⟩:=zP Q;exact hno j y (cY.1 r).1 r d]at this
  exact this
def UI (x:Gu)(q:Qu)(a:Int):Bool:=q.q.any λe=>match bS x.kn e.1 with
 | some b=>decide (a∈XR b)
 | none=>false
theorem Jo (o:QP σ0 U L H held s0 P gb km fm x qb Qq Qr qs rs q)(xi:∀e∈x.kn,e.1=e.2.1/\gJ e.2)(hkl:x.kn.length<=1000000)(hqi:∀e∈q.q,jB e.1)(a:Int){R:aO}(hR:∀w,aF U w->R (UI x q a) w):WL.c (aW qb) a U R:=by
 refine WL.o ?_;unfold WL.v;refine nw (cs:=[.pointer (some ⟨qb,0,none⟩)]) λv0 hz0 e0 hb0=>nw (cs:=[.int .i64 a]) λv hz e hb=>?_;have E:=e0.trans e;have o1:=o.fr E;have g:=e.bV hb0 id;refine g.qW rfl (bL (o1.b.rS rfl (Wb.o ?_)));unfold Wb.v;refine We.o ?_;unfold We.v;have hql:=o.rq.kK;have hq66:=o.i.ql
 let f:P2->Bool:=λe=>match bS x.kn e.1 with
  | some b=>decide (a∈XR b)
  | none=>false
 have z:UI x q a=q.q.any f:=rfl;have hf1:∀(e:P2) b,bS x.kn e.1=some b->f e=decide (a∈XR b):=λe b h=>by show(match bS x.kn e.1 with|some b=>decide (a∈XR b)|none=>false)=_;rw[h]
 have hf0:∀(e:P2),bS x.kn e.1=none->f e=false:=λe h=>by show(match bS x.kn e.1 with|some b=>decide (a∈XR b)|none=>false)=_;rw[h]
 clear_value f
 refine Qg (a:=bO) (λ(i:Int) u=>aF v u/\∃k:Nat,i=k/\k<=q.q.length/\∀j e,j<k->q.q[j]?=some e->f e=false) (λi _=>q.q.length-i.toNat) ⟨Ext.refl _ _,0,rfl,O,λj e M=>O⟩ ?_;rintro(i:Int) u ⟨eu,k,rfl,hk,hno⟩;have X:=eu.bV hb id;have G:=eu.bV g id;have ou:=o1.fr eu;refine cN (λd=>?_) λhge=>?_
 .have A:q.q[k]?=some (q.q[k]'(by simp only at d;omega)):=cW _;generalize (q.q[k]'(by simp only at d;omega))=y at A;have V:=hqi y (zG A);refine uJ (bU.fY ou.rq) A λbb oo hc=>eA (hc 0 _ rfl) (eA (hc 1 _ rfl) ?_);refine Gn (all := #[.agg #[.int .i64 y.1,.int .i64 y.2],.pointer (some ⟨U.size,0,none⟩),.pointer (some ⟨v0.size,0,none⟩)]) (by kernel_rfl) aA (WY.o ?_);unfold WY.v;refine nw (cs:=lD y) λv3 hz3 B Z=>(B.bV G id).qW rfl (Z.rI rfl ?_);have o3:=ou.fr B;have go:∀C (r:Bool),aF u C->r=f y->If r (R (decide ((k:Int)≥0)) C) (Ar .i64 ((k:Int)+1) λD=>(λ(i:Int) u=>aF v u/\∃k:Nat,i=k/\k<=q.q.length/\∀j e,j<k->q.q[j]?=some e->f e=false) D C/\q.q.length-D.toNat<q.q.length-(k:Int).toNat):=λC r S hr=>by
   subst hr;refine cP (λht=>?_) λhf=>?_
   .have:=hR C ((E.trans eu).trans S);rw[z,zy.2 ⟨y,zG A,ht⟩]at this;rw[zI (show(k:Int)≥0 by omega)];exact this
   .exact cT (m:=k+1) O O ⟨⟨eu.trans S,k+1,rfl,by simp only at d;omega,λj e M he=>by
     by_cases hjk:j=k
     .subst hjk;rw[A]at he;cases he;exact hf
     .exact hno j e O he⟩,by simp only at d;omega⟩
  have box:∀{ty:Nat} {w:Hp} {a1 a2 a3 a4:Int} {K:Addr->Hp->Prop},(∀w7,aF w w7->bY w7 w.size (kE (a1,a2,a3,a4))->K ⟨w.size,0,none⟩ w7) →
   Nw (.cells #[.int .i64 0,.int .i64 0,.int .i64 0,.int .i64 0] ty (0,0)) w λJ v2=>dG (J.add 0) (.int .i64 a1) v2 λv3=>dG (J.add 1) (.int .i64 a2) v3 λv4=>dG (J.add 2) (.int .i64 a3) v4 λv5=>dG (J.add 3) (.int .i64 a4) v5 λv6=>K J v6:=λ{ty w a1 a2 a3 a4 K} hK=>
   nw (cs:=[.int .i64 0,.int .i64 0,.int .i64 0,.int .i64 0]) λv2 hz2 e2 N=>N.s1 aA λv3 o3 b3=>b3.s1 aA λv4 o4 b4=>b4.s1 aA λv5 o5 b5=>b5.s1 aA λv6 o6 b6=>
    hK v6 (Ext.fresh e2 (((o3.ext.trans o4.ext).trans o5.ext).trans o6.ext) λi (hi:i=w.size)=>O) b6
  refine BA o3 xi hkl V (λw1 e1 hn=>box λp e2 N=>Jn.intro ?_) λw1 bk e1 hg=>box λp e2 N=>Jn.intro ?_
  .exact⟨λm=>aF p m,Ext.refl _ _,cD rfl (go p false ((B.trans e1).trans e2) (hf0 y hn).symm)⟩
  .have bi:gJ bk:=(xi _ (YT hg)).2;have Q:∀m,aF p m->bY m w1.size (kE (bk.1,bk.2.1,bk.2.2.1,bk.2.2.2.1)):=λm e=>e.bV N id;have W:∀m,aF p m->bY m v0.size [.int .i64 a]:=λm S=>(((B.trans e1).trans e2).trans S).bV X id;refine⟨λm=>aF p m,Ext.refl _ _,cF rfl (gN (c:=bO) (y:=bk.1) Q rfl (gN (c:=bO) (y:=bk.2.1) Q rfl (gN (c:=bO) (y:=bk.2.2.1) Q rfl (gN (c:=bO) (y:=bk.2.2.2.1) Q rfl (rj (c:=bO) (y:=a) W rfl ?_)))))⟩;refine C7 bi λs w4 Q4 e4 Y _=>⟨e4,?_⟩;have hwl:(XR bk).length<=1000000000:=by
    have:=bi.s;have:=YA (n:=bk.2.1) O;simp[XR,QH];omega
   exact G6 (bU.fY Y) hwl a ⟨e4,go w4 _ (((B.trans e1).trans e2).trans e4) (by rw[hf1 y bk hg];simp)⟩
 .have hkn:k=q.q.length:=by simp only at hge;omega
  subst hkn;have:=hR u (E.trans eu);rw[z,mG.2 λy hy F=>by
   obtain⟨j,M⟩:=zP hy;rw[hno j y (cY.1 M).1 M]at F;cases F]at this
  exact this
theorem Ik (o:QP σ0 U L H held s0 P gb km fm x qb Qq Qr qs rs q){R:aN}(hR:∀w,aF U w->R (iF q.q) w):WE.c (aW qb) U R:=by
 refine WE.o ?_;unfold WE.v;have C:=o.rq.kK;have B:=o.i.ql;refine V2 o (cD rfl (bL (o.b.rS rfl ?_)));refine UJ (a:=bO) (bb:=bO) (λ(z i:Int) u=>aF U u/\∃k:Nat,i=k/\k<=q.q.length/\z=iF (q.q.take k)) (λ_ i _=>q.q.length-i.toNat) ⟨Ext.refl _ _,0,rfl,O,rfl⟩ ?_;rintro(z:Int) (i:Int) u ⟨eu,k,rfl,hk,rfl⟩;refine cN (λd=>?_) λj=>?_
 .have g:q.q[k]?=some (q.q[k]'(by simp only at d;omega)):=cW _;generalize (q.q[k]'(by simp only at d;omega))=y at g;have F:=o.i.qs y (zG g);have s:=PC (l:=q.q.take k) λe D=>o.i.qs e (vu D);rw[zY]at s;refine uJ (bU.fY (o.fr eu).rq) g λbb J A=>eA (A 0 _ rfl) (eA (A 1 _ rfl) (uI λw G _ r=>r.rI rfl ?_));have E:iF (q.q.take (k+1))=iF (q.q.take k)+y.2:=by rw[kB,g,ru,Wjs]
  exact ar O O (cT (m:=k+1) O O ⟨⟨eu.trans G,k+1,rfl,by simp only at d;omega,E.symm⟩,by simp only at d;omega⟩)
 .have p:k=q.q.length:=by simp only at j;omega
  subst p;rw[mi];exact hR u eu
theorem AF (o:QP σ0 U L H held s0 P gb km fm x qb Qq Qr qs rs q){R:Sl->Hp->Prop}(hR:∀s w Q,aF U w->bU s 1 (Wu (q.q.map (·.1))) w Q->(∀c,Q c->U.size<=c/\c<w.size)->R s w):Wy.c (aW qb) U R:=by
 refine Wy.o ?_;unfold Wy.v;have D:=o.rq.kK;have S:=o.i.ql;refine V2 o (cD rfl (bL (o.b.rS rfl (mk aC aC λv X e K=>?_))));have o1:=o.fr e;have A:(List.replicate qs.len [Value.int .i64 0]).flatten=Wu ((q.q.map (·.1)).take 0++List.replicate (q.q.length-0) 0):=by
  rw[D];simp[Wu]
 rw[A]at K;refine bL (o1.b.rS rfl ?_);refine Qg (a:=bO) (λ(i:Int) u=>∃k:Nat,i=k/\k<=q.q.length/\aF U u/\bY u U.size (Wu ((q.q.map (·.1)).take k++List.replicate (q.q.length-k) 0))) (λi _=>q.q.length-i.toNat) ⟨0,rfl,O,e,K⟩ ?_;rintro(i:Int) u ⟨k,rfl,hk,eu,hbu⟩;refine cN (λd=>?_) λE=>?_
 .have z:k<q.q.length:=by simp only at d;omega
  have G:q.q[k]?=some q.q[k]:=cW z;have r:(q.q.map (·.1))[k]?=some q.q[k].1:=by rw[zZ,G];rfl
  generalize q.q[k]=y at G r;refine uJ (bU.fY (o.fr eu).rq) G λZ W F=>eA (F 0 _ rfl) (eA (F 1 _ rfl) (uI λw M _ C=>C.rI rfl (ix O aC ?_)));rw[add_lit,show 0+(k:Int).toNat*1=k by omega];have p:=M.bV hbu id;have g:(Wu ((q.q.map (·.1)).take k++List.replicate (q.q.length-k) 0)).length=q.q.length:=by simp[Wu];omega
  refine p.s0 (by rw[g];exact z) λY o2 N=>?_;have j:(Wu ((q.q.map (·.1)).take k++List.replicate (q.q.length-k) 0)).set k (.int .i64 y.1)=Wu ((q.q.map (·.1)).take (k+1)++List.replicate (q.q.length-(k+1)) 0):=by
   unfold Wu;rw[←wA,DE _ _ (by rw[zY];omega),kB,r,ru,zl]
   congr 2
   rw[zY,zk,qI O,pY];obtain⟨n,V⟩:∃n,q.q.length-k=n+1:=⟨q.q.length-k-1,O⟩;rw[V,show q.q.length-(k+1)=n by omega,sX];rfl
  rw[j]at N;exact cT (m:=k+1) O O ⟨⟨k+1,rfl,O,Ext.fresh (eu.trans M) o2.ext λi (hi:i=U.size)=>O,N⟩,by simp only at d;omega⟩
 .have J:k=q.q.length:=by simp only at E;omega
  subst J;have B:(q.q.map (·.1)).take q.q.length++List.replicate (q.q.length-q.q.length) 0=q.q.map (·.1):=by
   rw[pY,List.replicate_zero,kG,lP aA]
  rw[B]at hbu;refine hR _ u (· = U.size) eu ⟨by simp[Wu];omega,.inr ⟨U.size,_,rfl,rfl,hbu,zD _,by simp[Wu];omega,mi⟩⟩ λc F=>?_;have:=hbu.lt;omega
end Go.Ar
namespace Go.Ar
open Go Go.Vc Go.Proofs
open Go.Vc (bS cX cO)
variable {thread:Int}{U σ0 v w w':Hp}{F P Q X T Tc:Rg}{L:dE}{H H' H1:Hw}{held:List Pc}{s0 sp:Sp}{t n:Nat}{gb km fm m pp:Nat}{x y x':Gu}{b:B5}{qb:Nat}{Qq Qr:Rg}{qs rs:Sl}{q q':Qu}
def QO (σ0 U w:Hp)(pp gb km fm qb:Nat)(Tc:Rg)(H':Hw)(x':Gu)(q':Qu):Prop:=
 ∃L' held' s0' P' Qq' Qr' qs' rs',QP σ0 w L' H' held' s0' P' gb km fm x' qb Qq' Qr' qs' rs' q'/\L'.p=pp/\Ext Tc U w/\∀c,kA P' gb km fm qb Qq' Qr' c->Tc c\/U.size<=c
theorem QO.fr (o:QO σ0 U w pp gb km fm qb Tc H x q)(e:aF w w'):QO σ0 U w' pp gb km fm qb Tc H x q:=by
 obtain⟨L',a,d,P',Qq',Qr',b,g,h,i,m,j⟩:=o;exact⟨L',a,d,P',Qq',Qr',b,g,h.fr e,i,m.fS e,j⟩
theorem QP.qo (o:QP σ0 U L H held s0 P gb km fm x qb Qq Qr qs rs q)(e:aF U w):QO σ0 U w L.p gb km fm qb (kA P gb km fm qb Qq Qr) H x q:=
 ⟨L,held,s0,P,Qq,Qr,qs,rs,o.fr e,rfl,aF.to e,λc a=>.inl a⟩
theorem QO.then (e:Ext Tc U v)(hc:∀c,T c->Tc c\/U.size<=c)(o:QO σ0 v w pp gb km fm qb T H x q):QO σ0 U w pp gb km fm qb Tc H x q:=by
 obtain⟨L',a,d,P',Qq',Qr',b,i,h,m,j,g⟩:=o;have p:=e.1;exact⟨L',a,d,P',Qq',Qr',b,i,h,m,Ext.dX e j λc h=>hc c h,λc h=>(g c h).elim (hc c) λh=>.inr O⟩
theorem gG.bT (r:gG thread H x q H' x' q'):QY H' H:=by
 cases r with
 | none h1 h2=>exact QY.refl _
 | stay h1 h2 h3 h4=>exact QY.refl _
 | free h1 h2 h3 h4 hw op fe=>exact op.kp
theorem gG.len (r:gG thread H x q H' x' q'):q'.q.length+1=q.q.length/\q'.bl=q.bl/\q'.by'=q.by'/\q'.rs.length<=q.rs.length+1/\∃e,q.q=e::q'.q:=by
 cases r with
 | none h1 h2=>rw[h1];exact⟨rfl,rfl,rfl,Nat.le_succ _,_,rfl⟩
 | stay h1 h2 h3 h4=>
  rw[h1];refine⟨rfl,rfl,rfl,?_,_,rfl⟩;show(if _ then _ else _:List P2).length<=_
  split
  .omega
  .simp
 | free h1 h2 h3 h4 hw op fe=>
  rw[h1];refine⟨rfl,rfl,rfl,?_,_,rfl⟩;show(if _ then _ else _:List P2).length<=_
  split
  .omega
  .simp
theorem gG.kn (r:gG thread H x q H' x' q'):∀e∈x'.kn,e∈x.kn:=by
 cases r with
 | none h1 h2=>exact λe h=>h
 | stay h1 h2 h3 h4=>exact λe h=>h
 | free h1 h2 h3 h4 hw op fe=>exact λk a=>(zK.1 (show k∈x.kn.filter _ from a)).1
theorem gG.kl (r:gG thread H x q H' x' q'):x'.kn.length<=x.kn.length:=by
 cases r with
 | none h1 h2=>exact zD _
 | stay h1 h2 h3 h4=>exact zD _
 | free h1 h2 h3 h4 hw op fe=>exact pI _ _
theorem gG.qi (r:gG thread H x q H' x' q')(hi:nW q)(hr:q.rs.length<10000):nW q':=by
 obtain⟨i,a,d,j,e,b⟩:=r.len;exact⟨by rw[a];exact hi.bl,by rw[d];exact hi.by',by have:=hi.ql;omega,λk g=>hi.qs k (by rw[b];exact l7 _ g),O⟩
set_option maxRecDepth 16000 in
theorem IQ (o:QP σ0 U L H held s0 P gb km fm x qb Qq Qr qs rs q)(gc:Gc σ0)(xi:∀e∈x.kn,e.1=e.2.1/\gJ e.2)(hkl:x.kn.length<=1000000)(hqi:∀e∈q.q,jB e.1)(hq:q.q≠[])(hrl:q.rs.length<10000){R:aP}
 (hR:∀w H' x' q',gG thread H x q H' x' q'->QO σ0 U w L.p gb km fm qb (kA P gb km fm qb Qq Qr) H' x' q'->R w):WB.c (aW qb) thread U R:=by
 refine WB.o ?_;unfold WB.v;obtain⟨e,r,g⟩:=List.exists_cons_of_ne_nil hq;have hql:=o.rq.kK;rw[g,zS]at hql;have h0:q.q[0]?=some e:=by rw[g];rfl
 have hI:=o.i;have hes:=hI.qs e (by rw[g];exact mL);have hei:=hqi e (by rw[g];exact mL);have G:nW {q with q:=r}:=⟨hI.bl,hI.by',by have:=hI.ql;rw[g,zS]at this;show r.length<=66;omega,λk hk=>hI.qs k (by rw[g];exact l7 _ hk),hI.rl⟩;refine bL (o.b.rS rfl (uJ (i:=0) (bU.fY o.rq) h0 λbb oo d=>eA (d 0 _ rfl) (eA (d 1 _ rfl) (uI λv2 e2 z2 b2=>?_))));have o2:=o.fr e2;have hcap:qs.len<=qs.cap:=bU.pw o2.rq;refine bL (o2.b.rS rfl (jv (lo:=1) aC aC aC ?_));have W:=cV.sub (bU.fY o2.rq) (lo:=1) (hi:=qs.len) (mx:=qs.cap) O (zD _) hcap;have sq:((gP q.q).drop (1*2)).take ((qs.len-1)*2)=gP r:=by
  rw[←Lh,g,vR,yQ,lP (by rw[UV];omega)]
 rw[sq]at W;refine R9 W (by simp only;have:=hI.ql;rw[g,zS]at this;omega) λs3 v3 e3 r3=>?_;have E3:=e2.trans e3;have r3':=aI.cut r3;have z2':=e2.1;have z3:=e3.1;have hqbl:=o.b.lt;refine bL (o2.yF (aF.to e3) r3' (λc d=>.inr d) G λv4 e4 o4=>?_);have b4:=e4.bV (e3.bV b2 id) (λ(h:U.size=qb)=>O);have E4:Ext (kA P gb km fm qb Qq Qr) U v4:=(aF.to E3).trans (e4.sub λc d=>.inr (.inl d));have z4:=e4.1;have base:∀{P' Qr':Rg},(∀c,P' c->P c\/v4.size<=c)->(∀c,Qr' c->Qr c\/v4.size<=c)->∀c,kA P' gb km fm qb (Cut (λb=>v2.size<=b) v3) Qr' c->kA P gb km fm qb Qq Qr c\/U.size<=c:=λ{P' Qr'} hP hQ c d=>by
  rcases d with(h|h)|h|h|h
  .exact(hP c h).imp (λh=>.inl (.inl h)) λh=>by omega
  .exact .inl (.inl (.inr h))
  .exact .inl (.inr (.inl h))
  .right;have:v2.size<=c:=h.1;omega
  .exact(hQ c h).imp (λh=>.inr (.inr (.inr h))) λh=>by omega
 have Q:∀w,aF v4 w->(bS x.kn e.1=none\/k5 H x e.1≠0)->R w:=λw E hx=>hR w H x {q with q:=r} (.none g hx) ⟨L,held,s0,P,_,Qr,s3,rs,o4.fr E,rfl,E4.fS E,base (λc d=>.inl d) λc d=>.inl d⟩;refine b4.rI rfl (BA o4 xi hkl hei (λw5 e5 hn=>si λw6 e6 b6=>cF rfl (Q w6 (e5.trans e6) (.inl hn))) λw5 bk e5 hg=>si λv10 e10 b10=>cD rfl ?_);have bi:gJ bk:=(xi _ (YT hg)).2;have bb':=bi.base;have bz:=bi.z;have bm:=bi.m;have bt:=bi.t;have bs:=bi.s;have hww:=YA (n:=bk.2.1) O;have E510:=e5.trans e10;have gE:=o4.fr E510;have b4':=E510.bV b4 id;refine⟨λm=>aF v10 m,Ext.refl _ _,bL (gN (c:=.p) (y:=some ⟨gb,0,none⟩) (λm e=>e.bV gE.b id) rfl (gN (c:=bO) (y:=e.1) (λm e=>e.bV b4' id) rfl ?_))⟩;refine EU gE.p xi e.1 λs11 v11 Q11 F Y hQ11=>cP (λD=>Q v11 (E510.trans F) (.inr (by simpa using D))) λhe0=>?_;have j:k5 H x e.1=0:=by simpa using he0
 have hlo:UL H bk=false:=by
  unfold k5 at j;rw[hg]at j;simp only at j;cases hl:UL H bk with
  | false=>rfl
  | true=>rw[hl]at j;simp at j
 have hckl:vB H x e.1=QR H.sp bk:=by
  unfold vB;rw[hg];simp only;rw[hlo];rfl
 rw[hckl]at Y;have A:=F.bV b10 id;refine A.rI rfl (A.rI rfl (A.rI rfl (A.rI rfl (C7 bi λs12 v12 Q12 M Z S=>?_))));have hwn:(XR bk).length=QH bk:=by simp[XR]
 have hwn2:QH bk<=200:=by unfold QH;omega
 have hbl:(QR H.sp bk).length<=40000:=by
  have:=pI (jN H.sp) (Zk bk);have hz:=G0 bk;have h3:VL bk<=250:=by unfold VL;omega
  have h4:oz bk<=33750:=by unfold oz;omega
  unfold QR;omega
 have hs12l:s12.len=QH bk:=by have:=Z.1;simp[Wu,hwn]at this;omega
 have hs11':=aI.bP Y M;have E12:=(E510.trans F).trans M
 let f:Int->Bool:=λz=>eP H.sp z != 0||Q0 H.sp z != Gg
 have hfu:(XR bk).filter f=sS H.sp bk:=rfl;have hfe:∀z,f z=(eP H.sp z != 0||Q0 H.sp z != Gg):=λz=>rfl
 clear_value f
 have z10:=E510.1;have z11:=F.1;have z12:=M.1;refine UJ (a:=.s) (bb:=bO) (λ(wr:Sl) (z:Int) u=>aF v10 u/\v12.size<=u.size/\bU s12 1 (Wu (XR bk)) u Q12/\∃(i:Nat) (Qw:Rg),z=i/\i<=QH bk/\bU wr 1 (Wu (QR H.sp bk++((XR bk).take i).filter f)) u Qw/\∀c,Qw c->v10.size<=c/\c<u.size/\¬Q12 c) (λ_ z _=>QH bk-z.toNat)
  ⟨F.trans M,zD _,Z,0,Q11,rfl,O,by rw[vS,List.filter_nil,kG];exact hs11',λc d=>by have:=hQ11 c d;exact⟨O,O,λh=>by have:=S c h;omega⟩⟩ ?_
 rintro(wr:Sl) (z:Int) u ⟨eu,zu,hs12u,i,Qw,rfl,hi,hrw,hQw⟩;have E12u:=E510.trans eu;have K:=o4.fr E12u;have hfl:(((XR bk).take i).filter f).length<=i:=kD (pI _ _) (by rw[zY];omega);refine cN (λhlt=>?_) λhge=>?_
 .have hx:(XR bk)[i]?=some ((XR bk)[i]' O):=cW _;generalize ((XR bk)[i]' O)=zz at hx;have hzi:=HX bi (zG hx);have htk:((XR bk).take (i+1)).filter f=((XR bk).take i).filter f++(if f zz then[zz]else[]):=by
   rw[kB,hx,ru,xm]
   congr 1
   by_cases h:f zz=true
   .rw[vM h,zC h];rfl
   .rw[vE h,zB h];rfl
  refine(bU.fY hs12u).mf hx (bL (K.b.rP rfl (AS K.p (CV K.p.h zz O λw13 C=>?_))));refine KC (λr w=>w=w13/\r=f zz) (λr w ⟨hw,hr⟩=>?_) λJ hJ=>cP (λh=>hJ _ _ ⟨rfl,by rw[hfe,h];rfl⟩) λh=>hJ _ _ ⟨rfl,by rw[hfe,h];rfl⟩;rw[hw,hr];have z13:=C.1;have V:=aI.bP hs12u C;refine cP (λht=>?_) λhf=>cT (m:=i+1) O O ⟨⟨eu.trans C,O,V,i+1,Qw,rfl,O,by rw[htk,hf];simpa using aI.bP hrw C,λc d=>by have:=hQw c d;exact⟨this.1,O,this.2.2⟩⟩,O⟩;refine xW (aI.bP hrw C) (by rw[zM];omega) zz λs' w14 e14 hr14=>?_;have z14:=e14.1;refine cT (m:=i+1) O O ⟨⟨Ext.fresh (eu.trans C) e14 λc d=>(hQw c d).1,O,aI.bT V e14 λc _ h1 h2=>(hQw c h2).2.2 h1,i+1,_,rfl,O,by rw[htk,ht,zC rfl,←zl];exact hr14,λc d=>?_⟩,O⟩;rcases d with d|d
  .have:=hQw c d;exact⟨this.1,O,this.2.2⟩
  .exact⟨by have:=eu.1;omega,d.2,λh=>by have:=S c h;omega⟩
 .have hin:i=QH bk:=O
  subst hin;have hwr:QR H.sp bk++((XR bk).take (QH bk)).filter f=Ku H bk:=by
   rw[lP O,hfu];rfl
  rw[hwr]at hrw;have hwl:wr.len=(Ku H bk).length:=by have:=hrw.1;simp[Wu]at this;omega
  have hwb:(Ku H bk).length<=1000000:=by rw[←hwr,zM];omega
  have B:=eu.bV b4' id;refine ui (λw=>bY w U.size [.int .i64 e.1,.int .i64 e.2]/\Ext (kA P gb km fm qb Qq Qr) U w/\v4.size<=w.size/\∃Qr' N,(∀c,Qr' c->Qr c\/v4.size<=c)/\QP σ0 w L H held s0 P gb km fm x qb (Cut (λb=>v2.size<=b) v3) Qr' s3 N ⟨q.bl,q.by',r,if Ku H bk=[]then q.rs else q.rs++[(e.1,lF (Ku H bk))]⟩) (λw ⟨bw,Ew,zw,Qr',N,X,ow⟩=>?_) λJ hJ=>?_
  .refine bL (ow.b.rP rfl (bw.rI rfl (Zl.o ?_)));unfold Zl.v;refine E8 ow.p gc xi thread e.1 false (λw2 D e2=>?_) λb2 w2 ts H1 held' s0' P' er hm hf hw op fe e2 p2 hP2=>?_
   .refine hR w2 H x _ (.stay g hg j D) ⟨L,held,s0,P,_,Qr',s3,N,ow.fr e2,rfl,Ew.fS e2,base (λc d=>.inl d) X⟩
   .rw[hg]at hm;cases hm;have o2':=ow.eX e2 p2 hP2;refine hR w2 H1 _ _ (.free g hg j hf hw op fe) ⟨{L with ts:=ts},held',s0',P',_,Qr',s3,N,o2',rfl,Ew.trans (e2.sub λc d=>.inl d),base (λc d=>(hP2 c d).imp id λh=>O) X⟩
  .refine cN (λhpos=>?_) λhneg=>?_
   .have D:Ku H bk≠[]:=λh=>by rw[h]at hwl;simp at hwl;omega
    refine⟨λm=>bY m qb (vZ gb {q with q:=r} s3 rs)/\bY m U.size [.int .i64 e.1,.int .i64 e.2],⟨K.b,B⟩,bL (gN (c:=.s) (y:=rs) (λm hm=>hm.1) rfl (gN (c:=bO) (y:=e.1) (λm hm=>hm.2) rfl ?_))⟩;refine Ζ (bU.fY hrw) hwb D ⟨⟨K.b,B⟩,?_⟩;have nr1:¬Qr qb:=o.tI.2.2.2;have nr2:¬Qr U.size:=λh=>by have:=(o.qr _ h).2.1;omega
    refine JO K.rr (by show q.rs.length<=100000;omega) (e.1,lF (Ku H bk)) (λw E=>⟨E.bV K.b id,E.bV B id⟩) λs' w E hr'=>⟨⟨E.bV K.b nr1,E.bV B nr2⟩,?_⟩;have qi2:nW {({q with q:=r}:Qu)with rs:=q.rs++[(e.1,lF (Ku H bk))]}:=⟨G.bl,G.by',G.ql,G.qs,by show(q.rs++[_]).length<=10000;rw[zM,sC];omega⟩;refine bL (K.gH E hr' (λc d=>d) qi2 λw2 e2 o2'=>hJ w2 ?_);have zw:=E.1;have zw2:=e2.1;refine⟨e2.bV (E.bV B nr2) (λ(h:U.size=qb)=>O),((E4.fS E12u).trans (E.sub λc d=>.inr (.inr (.inr d)))).trans (e2.sub λc d=>.inr (.inl d)),by have:=E12u.1;omega,_,s',λc (d:Qr c\/u.size<=c/\c<w.size)=>d.imp id λh=>(by have:=E12u.1;omega),?_⟩;rw[zB D];exact o2'
   .have hnil:Ku H bk=[]:=vj O;refine hJ u ⟨B,E4.fS E12u,by have:=E12u.1;omega,Qr,rs,λc d=>.inl d,?_⟩;rw[zC hnil];exact K
structure QS (x:Gu) (q:Qu):Prop where
 xi:∀e∈x.kn,e.1=e.2.1/\gJ e.2
 kl:x.kn.length<=1000000
 qa:∀e∈q.q,jB e.1
 rl:q.rs.length+q.q.length<=9000
theorem gG.side (r:gG thread H x q H' x' q')(h:QS x q):QS x' q':=by
 obtain⟨g,_,_,i,e,a⟩:=r.len;exact⟨λe b=>h.xi e (r.kn e b),kD r.kl h.kl,λk d=>h.qa k (by rw[a];exact l7 _ d),by have:=h.rl;omega⟩
theorem Ru (hi:nW q)(h:Ho q=true):q.q≠[]:=λe=>by
 unfold Ho at h;rw[e]at h;have:=hi.bl;have:=hi.by';simp[iF]at h;omega
theorem S5 {thread:Int}{K:aP}(o:QP σ0 U L H held s0 P gb km fm x qb Qq Qr qs rs q)(gc:Gc σ0)(s:QS x q)
 (hR:∀w H' x' q',iL thread H x q H' x' q'->QO σ0 U w L.p gb km fm qb (kA P gb km fm qb Qq Qr) H' x' q'->K w) :
 X9 [] (λI1=>I1 U) λJ1 v17=>Jn [.b] (λ(t99:Bool) v18=>If t99 (WB.c (aW qb) thread v18 λv19=>J1 v19) (K v18)) λJ2=>
  dT v17 λS1=>bW (some ⟨qb,0,none⟩) λa82=>gF S1 .s (a82.add 3) λ(t84:Sl)=>bW (some ⟨qb,0,none⟩) λa87=>gF S1 bO (a87.add 1) λ(t89:Int)=>If (decide (((t84.len:Nat):Int)>t89)) (J2 true v17)
   (bW (some ⟨qb,0,none⟩) λa95=>gF S1 bO (a95.add 2) λ(t97:Int)=>WE.c (aW qb) v17 λt93 v20=>And (S1 v20)<|J2 (decide (t93>t97)) v20):=by
 refine Dy (λn u=>∃H1 F q1,n=q1.q.length/\QO σ0 U u L.p gb km fm qb (kA P gb km fm qb Qq Qr) H1 F q1/\(∀H' x' q',iL thread H1 F q1 H' x' q'->iL thread H x q H' x' q')/\QS F q1) ⟨_,H,x,q,rfl,o.qo (Ext.refl _ _),λ_ _ _ h=>h,s⟩ ?_;rintro n u ⟨H1,F,q1,rfl,Y,R,s1⟩ J1 M;obtain⟨L1,d,N,P1,Qq1,Qr1,a,j,o1,z,C,A⟩:=Y;refine AY (λr w=>aF u w/\r=Ho q1) (λr w ⟨g,G⟩=>?_) λJ2 D=>?_
 .have ow:=o1.fr g;refine cP (λV=>?_) λX=>hR w H1 F q1 (R _ _ _ (.stop (by rw[←G];exact X))) ⟨L1,d,N,P1,Qq1,Qr1,a,j,ow,z,C.fS g,A⟩;have E:Ho q1=true:=by rw[←G];exact V
  have S:=s1.rl;refine IQ ow gc s1.xi s1.kl s1.qa (Ru o1.i E) O λW H2 Z q2 fr B=>?_;have Q:=fr.len;refine M q2.q.length W O ⟨H2,Z,q2,rfl,?_,λ_ _ _ h=>R _ _ _ (.next E fr h),fr.side s1⟩;rw[z]at B;exact QO.then (C.fS g) A B
 .have J:∀m,aF u m->bY m qb (vZ gb q1 a j):=λm e=>e.bV o1.b id;have Q:=o1.rq.kK;refine⟨λm=>aF u m,Ext.refl _ _,bL (gN (c:=.s) (y:=a) J rfl (bL (gN (c:=bO) (y:=q1.bl) J rfl (cN (λh=>D _ _ ⟨Ext.refl _ _,?_⟩) λh=>bL (gN (c:=bO) (y:=q1.by') J rfl (Ik o1 λw g=>⟨g,D _ _ ⟨g,?_⟩⟩))))))⟩
  .unfold Ho;rw[zI (show(q1.q.length:Int)>q1.bl by rw[←Q];exact h)];rfl
  .unfold Ho;rw[zL (show ¬(q1.q.length:Int)>q1.bl by rw[←Q];exact h),xN]
theorem Df (o:QP σ0 U L H held s0 P gb km fm x qb Qq Qr qs rs q)(gc:Gc σ0)(s:QS x q)(thread:Int){R:Int->Int->Hp->Prop}(h0:∀w,ZI H thread≠0->aF U w->R 0 (ZI H thread) w)
 (h1:∀w H' x' q',ZI H thread=0->iA thread H x q H' x' q'->QO σ0 U w L.p gb km fm qb (kA P gb km fm qb Qq Qr) H' x' q'->R (q.q.length:Int) 0 w):WD.c (aW qb) thread U R:=by
 refine WD.o ?_;unfold WD.v;refine Lm o thread λv e=>cP (λd=>h0 v (by simpa using d) e) λG=>?_;have C:ZI H thread=0:=by simpa using G
 have o1:=o.fr e;have E:=o.rq.kK;refine bL (o1.b.rS rfl ?_);refine Dy (λn u=>∃H1 z q1,n=q1.q.length/\QO σ0 U u L.p gb km fm qb (kA P gb km fm qb Qq Qr) H1 z q1/\(∀H' x' q',iA thread H1 z q1 H' x' q'->iA thread H x q H' x' q')/\QS z q1) ⟨_,H,x,q,rfl,o.qo e,λ_ _ _ h=>h,s⟩ ?_;rintro n u ⟨H1,z,q1,rfl,S,M,s1⟩ J1 J;obtain⟨L1,a,K,P1,Qq1,Qr1,F,D,o1,i,y,j⟩:=S;have g:=o1.rq.kK;refine bL (o1.b.rS rfl (cN (λA=>?_) λm=>?_))
 .have d:q1.q≠[]:=λh=>by rw[h]at g;simp at g;simp only at A;omega
  have N:=s1.rl;refine IQ o1 gc s1.xi s1.kl s1.qa d O λQ H2 V q2 fr r=>?_;have W:=fr.len;refine J q2.q.length Q O ⟨H2,V,q2,rfl,?_,λ_ _ _ h=>M _ _ _ (.next fr h),fr.side s1⟩;rw[i]at r;exact QO.then y j r
 .have B:q1.q=[]:=vj (by simp only at m;omega);have:=h1 u H1 z q1 C (M _ _ _ (.stop B)) ⟨L1,a,K,P1,Qq1,Qr1,F,D,o1,i,y,j⟩;rw[←E]at this;exact this
def mW (H:Hw)(x:Gu)(q:Qu)(thread addr:Int):Int:=
 if ZI H thread≠0 then ZI H thread else if addr∈q.q.map (·.1)then 9 else match bS x.kn addr with
 | none=>lY H x thread addr true
 | some b=>if UL H b then 5 else if QR H.sp b≠[]then 10 else 0
theorem Wk5 {sp:Sp}{l:List Int}{n:Nat}{z:Int}(h:l[n]?=some z)(f:Int->Int):iK sp (l.take (n+1)) f=ZJ (iK sp (l.take n) f) z (f z):=by
 rw[kB,h,ru,DZ]
set_option maxRecDepth 16000 in
theorem HV (o:QP σ0 U L H held s0 P gb km fm x qb Qq Qr qs rs q)(gc:Gc σ0)(s:QS x q)(hq:q.q.length<=65)(hrl:q.rs.length+q.q.length<=8000)(thread:Int){addr:Int}(ha:jB addr){R:aN}(h0:∀w,mW H x q thread addr≠0->aF U w->R (mW H x q thread addr) w)
 (h1:∀w b H' x' q',bS x.kn addr=some b->mW H x q thread addr=0->iL thread (dQ H b) x {q with q:=q.q++[(addr,b.2.1)]} H' x' q'->QO σ0 U w L.p gb km fm qb (kA P gb km fm qb Qq Qr) H' x' q'->R 0 w):Wj.c (aW qb) thread addr U R:=by
 refine Wj.o ?_;unfold Wj.v;unfold mW at h0 h1;refine Lm o thread λv e=>cP (λj=>?_) λheq=>?_
 .have Z:ZI H thread≠0:=by simpa using j
  rw[zC Z]at h0;exact h0 v Z e
 have hrd:ZI H thread=0:=by simpa using heq
 rw[zB (by rw[hrd];decide)]at h0 h1;have o1:=o.fr e;refine θ o1 addr λv1 e1=>cP (λhh=>?_) λhh=>?_
 .have G:addr∈q.q.map (·.1):=by simpa using hh
  rw[zC G]at h0;exact h0 v1 aB (e.trans e1)
 have G:¬addr∈q.q.map (·.1):=by simpa using hh
 rw[zB G]at h0 h1;have o2:=o1.fr e1;refine BA o2 s.xi s.kl ha (λw2 e2 Z=>si λw3 e3 b3=>cF rfl ?_) λw2 bk e2 C=>si λw3 e3 b3=>cD rfl ?_
 .rw[Z]at h0;have o3:=(o2.fr e2).fr e3;refine bL (o3.b.rP rfl (PZ (E8 o3.p gc s.xi thread addr true (λw4 j Q=>h0 w4 j ((((e.trans e1).trans e2).trans e3).trans Q)) λb w ts H1 held' B P' e S=>by rw[Z]at S;cases S)))
 rw[C]at h0;simp only at h0;have M:gJ bk:=(s.xi _ (YT C)).2;have bb':=M.base;have bz:=M.z;have bm:=M.m;have bt:=M.t;have bs:=M.s;have hww:=YA (n:=bk.2.1) O;have E3:=((e.trans e1).trans e2).trans e3;have o3:=o.fr E3;refine bL (o3.b.rP rfl (EU o3.p s.xi addr λs4 v4 Q4 Q X _=>cP (λj=>?_) λhe0=>?_))
 .have d:k5 H x addr≠0:=by simpa using j
  have N:UL H bk=true:=by
   unfold k5 at d;rw[C]at d;simp only at d;cases N:UL H bk with
   | true=>rfl
   | false=>rw[N]at d;simp at d
  have:k5 H x addr=5:=by unfold k5;rw[C];simp only;rw[N];rfl
  rw[this];rw[N]at h0;exact h0 v4 aA (E3.trans Q)
 have d:k5 H x addr=0:=by simpa using he0
 have J:UL H bk=false:=by
  unfold k5 at d;rw[C]at d;simp only at d;cases N:UL H bk with
  | false=>rfl
  | true=>rw[N]at d;simp at d
 have ab:vB H x addr=QR H.sp bk:=by
  unfold vB;rw[C];simp only;rw[J];rfl
 rw[ab]at X;rw[J]at h0;simp only[za,jV]at h0;have D:s4.len=(QR H.sp bk).length:=by have:=X.1;simp[Wu]at this;omega
 refine cN (λhpos=>?_) λhneg=>?_
 .have j:QR H.sp bk≠[]:=λh=>by rw[h]at D;simp at D;omega
  rw[zC j]at h0;exact h0 v4 aB (E3.trans Q)
 have W:QR H.sp bk=[]:=vj O;have h1:=λw H' x' q'=>h1 w bk H' x' q' C (by rw[C];simp only;rw[J,W];rfl);have b4:=Q.bV b3 id;have E4:=E3.trans Q;have o4:=o.fr E4;refine b4.rI rfl (b4.rI rfl (b4.rI rfl (b4.rI rfl (C7 M λs5 v5 Q5 e5 V hQ5=>?_))));have hwn:(XR bk).length=QH bk:=by simp[XR]
 have hwn2:QH bk<=200:=by unfold QH;omega
 have hs5l:s5.len=QH bk:=by have:=V.1;simp[Wu,hwn]at this;omega
 have b5:=e5.bV b4 id;have E5:=E4.trans e5;have o5:=o.fr E5;have z4:=E4.1;have z5:=e5.1;have b5lt:=b5.lt;have F:U.size<=w2.size:=by have:=e.1;have:=e1.1;have:=e2.1;omega
 have aa:∀c,U.size<=c->c<v5.size->¬Mg P gb km fm c:=λc h1 h2 hM=>by have:=ux o.p hM;omega
 have hnP:∀{P':Rg},(∀c,P' c->P c\/v5.size<=c)->∀c,U.size<=c->c<v5.size->¬P' c:=λhP c h1 h2 hp=>by
  rcases hP c hp with h|h
  .have:=(o.p.pP c h).2;omega
  .omega
 refine Qg (a:=bO) (λ(z:Int) u=>∃(i:Nat) (B:Sp) (P':Rg),z=i/\i<=QH bk/\Ext (Mg P gb km fm) v5 u/\QP σ0 u L {H with sp:=iK H.sp ((XR bk).take i) λ_=>Gg} held B P' gb km fm x qb Qq Qr qs rs q/\∀c,P' c->P c\/v5.size<=c) (λz _=>QH bk-z.toNat)
  ⟨0,s0,P,rfl,O,Ext.refl _ _,by rw[vS];exact o5,λc g=>.inl g⟩ ?_
 rintro(z:Int) u ⟨i,B,P',rfl,hi,eu,A,hP'⟩;have zu:=eu.1;have Y:bU s5 1 (Wu (XR bk)) u Q5:=aI.bT V eu λc _ g hM=>by have:=hQ5 c g;exact aa c O this.2 hM
 refine cN (λhlt=>?_) λhge=>?_
 .have hx:(XR bk)[i]?=some ((XR bk)[i]' O):=cW _;generalize ((XR bk)[i]' O)=zz at hx;have hzi:=HX M (zG hx);refine(bU.fY Y).mf hx (bL (A.b.rP rfl (AS A.p ?_)));refine A.p.write gc zz (-1234567) O λw6 s6 P6 e6 p6 hP6=>?_;have o6:=A.eX (e6.sub λc g=>.inl g) p6 hP6;refine cT (m:=i+1) O O ⟨⟨i+1,s6,P6,rfl,O,Ext.dX eu e6 λc g=>(hP' c g).imp .inl id,?_,λc g=>?_⟩,O⟩
  .rw[Wk5 hx];exact o6
  .rcases hP6 c g with h|h
   .exact hP' c h
   .exact .inr O
 .have hin:i=QH bk:=O
  subst hin;rw[lP O]at A;have A:QP σ0 u L (dQ H bk) held B P' gb km fm x qb Qq Qr qs rs q:=A;have K:=eu.bV b5 (aa _ F b5lt);have nq:¬Qq w2.size:=λh=>by have:=(o.qq _ h).2.1;omega
  refine⟨λm=>bY m qb (vZ gb q qs rs)/\bY m w2.size (kE (bk.1,bk.2.1,bk.2.2.1,bk.2.2.2.1)),⟨A.b,K⟩,bL (gN (c:=.s) (y:=qs) (λm G=>G.1) rfl (gN (c:=bO) (y:=bk.2.1) (λm G=>G.2) rfl ?_))⟩;refine JO A.rq (by have:=o.i.ql;omega) (addr,bk.2.1) (λw E=>⟨E.bV A.b id,E.bV K id⟩) λs' w E hr'=>⟨⟨E.bV A.b o.tI.2.2.1,E.bV K nq⟩,?_⟩;have qi2:nW {q with q:=q.q++[(addr,bk.2.1)]}:=⟨o.i.bl,o.i.by',by show(q.q++[_]).length<=66;rw[zM,sC];omega,λk r=>by
   rcases zJ.1 r with r|r
   .exact o.i.qs k r
   .rw[zN]at r;subst r;exact bs,o.i.rl⟩
  refine bL (A.yF E hr' (λc g=>g) qi2 λw2' e2' o2'=>?_);have qs2:QS x {q with q:=q.q++[(addr,bk.2.1)]}:=⟨s.xi,s.kl,λk r=>by
   rcases zJ.1 r with r|r
   .exact s.qa k r
   .rw[zN]at r;subst r;exact ha,by show q.rs.length+(q.q++[_]).length<=9000;rw[zM,sC];omega⟩
  have zw:=E.1;refine S5 o2' gc qs2 λw3' H' x' q' hov oo=>h1 w3' H' x' q' hov ?_;refine QO.then (v:=w2') (T:=kA P' gb km fm qb (λb=>Qq b\/u.size<=b/\b<w.size) Qr) ((((aF.to E5).trans (eu.sub λc g=>.inl g)).trans (E.sub λc g=>.inr (.inr (.inl g)))).trans (e2'.sub λc g=>.inr (.inl g))) (λc g=>?_) oo;have:=E5.1;rcases g with(h|h)|h|h|h
  .exact(hP' c h).imp (λh=>.inl (.inl h)) λh=>by omega
  .exact .inl (.inl (.inr h))
  .exact .inl (.inr (.inl h))
  .exact h.imp (λh=>.inr (.inr (.inl h))) λh=>by omega
  .exact .inl (.inr (.inr (.inr h)))
end Go.Ar
namespace Go.Proofs
open Go.Vc
set_option maxRecDepth 100000
def Xk.h:Hn:=.q .o1 (.q (.q .o5 .aK) (.q (.q .o1 (.k (.loop [(5,.I)] (.q (.q .o4 (.c .l .l)) (.q (.k (.q (.oq 9) .aK)) .o3))))) .aM))
def Xk.v (a b:Sl)(c:Hp)(d:aO):Prop:=If (((a.len:Nat):Int) != ((b.len:Nat):Int)) (d false c) (X9 [bO] (λe=>e 0 c) λf (g:Int) h=>If (g<((a.len:Nat):Int)) (Ix a.a a.len g 2 λi=>aQ i 0 h λj=>aQ i 1 h λk=>Ix b.a b.len g 2 λl=>aQ l 0 h λm=>aQ l 1 h λn=>If (!((j==m)&&((k==n)&&true))) (d false h) (bM (g+1) λo=>f o h)) (d true h))
theorem Xk.o {a b c d}(e:Xk.v a b c d):Xk.c a b c d:=Wa Tryz.func54 (x:=Xk.h) (R0 e)
end Go.Proofs
namespace Go.Ar
open Go Go.Vc Go.Proofs
open Go.Vc (bS cX cO)
variable {thread:Int}{U σ0 v w w':Hp}{F P Q X T Tc:Rg}{L:dE}{H H' H1:Hw}{held:List Pc}{s0 sp:Sp}{t n:Nat}{gb km fm m pp:Nat}{x y x':Gu}{b:B5}{qb:Nat}{Qq Qr:Rg}{qs rs:Sl}{q q':Qu}
theorem QP.sr (o:QP σ0 U L H held s0 P gb km fm x qb Qq Qr qs rs q){L':dE}{held':List Pc}{s0':Sp}{P':Rg}(hp:L'.p=L.p)(e:Ext (Mg P gb km fm) U w)(p':GP σ0 w L' H' held' s0' P' gb km fm y)(hP:∀b,P' b->P b\/U.size<=b) :
 QO σ0 U w L.p gb km fm qb (kA P gb km fm qb Qq Qr) H' y q:=by
 refine⟨L',held',s0',P',Qq,Qr,qs,rs,o.eX e p' hP,hp,e.sub λc a=>.inl a,λc a=>?_⟩;rcases a with(h|h)|h|h|h
 .exact(hP c h).imp (λh=>.inl (.inl h)) id
 .exact .inl (.inl (.inr h))
 .exact .inl (.inr (.inl h))
 .exact .inl (.inr (.inr (.inl h)))
 .exact .inl (.inr (.inr (.inr h)))
theorem Gp (o:QP σ0 U L H held s0 P gb km fm x qb Qq Qr qs rs q)(gc:Gc σ0)(x0:0<=x.no/\x.no<=100000)(thread size align:Int){R:Int->Int->Hp->Prop}
 (h0:∀w,mA size align=false->aF U w->R 0 1 w)
 (h1:∀e w H',mA size align=true->e≠0->KO H thread 0 (zA align+ZC size+16) (zA align) 0 H' 0 e->fV H H'->H'.live=H.live->QO σ0 U w L.p gb km fm qb (kA P gb km fm qb Qq Qr) H' x q->R 0 e w)
 (h2:∀b w H1,uG H x size align b H1->KO H thread 0 (zA align+ZC size+16) (zA align) 0 H1 b.2.2.1 0->fV H H1->QO σ0 U w L.p gb km fm qb (kA P gb km fm qb Qq Qr) {H1 with sp:=jK H1.sp b} (x.dK b) q->R b.1 0 w) :
 Wp.c (aW qb) thread size align U R:=by
 refine Wp.o ?_;unfold Wp.v;refine V2 o (cD rfl (bL (o.b.rP rfl (MN o.p gc x0 thread size align h0 (λe w ts H' a i P' u j g op z m d r=>?_) λb w ts H1 a i P' y g op m d r=>?_))))
 .exact h1 e w H' u j g op z (o.sr (L':={L with ts:=ts}) rfl (m.sub λc s=>.inl s) d r)
 .exact h2 b w H1 y g op (o.sr (L':={L with ts:=ts}) rfl m d r)
theorem Iq (o:QP σ0 U L H held s0 P gb km fm x qb Qq Qr qs rs q)(s:QS x q)(addr:Int)(ha:addr<=9223372036854775807){R:Int->Int->Hp->Prop}(ht:∀w,UI x q addr=true->aF U w->R 0 9 w)(h0:∀e w,UI x q addr=false->e≠0->aF U w->qh H x addr e->R 0 e w)
 (h1:∀w,UI x q addr=false->aF U w->qh H x addr 0->R (Q0 H.sp addr) (eP H.sp addr) w):WG.c (aW qb) addr U R:=by
 refine WG.o ?_;unfold WG.v;refine V2 o (cD rfl (Jo o s.xi s.kl s.qa addr λw e=>cP (λh=>ht w h e) λh=>?_));have o1:=o.fr e;exact bL (o1.b.rP rfl (R4 o1.p s.xi addr ha (λi g d e2 a=>h0 i g h d (e.trans e2) a) λg e2 a=>h1 g h (e.trans e2) a))
theorem ι (o:QP σ0 U L H held s0 P gb km fm x qb Qq Qr qs rs q)(gc:Gc σ0)(s:QS x q)(addr u:Int)(ha:addr<=9223372036854775807){R:aN}(ht:∀w,UI x q addr=true->aF U w->R 9 w)(h0:∀e w,UI x q addr=false->e≠0->aF U w->qh H x addr e->R e w)
 (h1:∀w,UI x q addr=false->qh H x addr 0->QO σ0 U w L.p gb km fm qb (kA P gb km fm qb Qq Qr) {H with sp:=ZJ H.sp addr u} x q->R (eP H.sp addr) w):WQ.c (aW qb) addr u U R:=by
 refine WQ.o ?_;unfold WQ.v;refine V2 o (cD rfl (Jo o s.xi s.kl s.qa addr λw e=>cP (λh=>ht w h e) λh=>?_));have o1:=o.fr e;refine bL (o1.b.rP rfl (T1 o1.p gc s.xi addr u ha (λm i d e2 a=>h0 m i h d (e.trans e2) a) λi s2 P2 a e2 r j=>h1 i h a ?_));exact QO.then (T:=kA P gb km fm qb Qq Qr) (aF.to e) (λc g=>.inl g) (o1.sr rfl (e2.sub λc g=>.inl g) r j)
theorem E7 (p:GP σ0 U L H held s0 P gb km fm x)(WW bytes:Int){R:Option Addr->Int->Hp->Prop}(h0:¬(0<=WW/\WW<=64/\0<=bytes/\bytes<=16384)->R none 1 U)
 (h1:0<=WW/\WW<=64/\0<=bytes/\bytes<=16384->∀w,aF U w->QP σ0 w L H held s0 P gb km fm x U.size (λ_=>False) (λ_=>False) ⟨none,0,0⟩ ⟨none,0,0⟩ ⟨WW,bytes,[],[]⟩->R (some ⟨U.size,0,none⟩) 0 w) :
 Zs.c (aW gb) WW bytes U R:=by
 refine Zs.o ?_;unfold Zs.v;refine AS p (KC (λr w=>w=U/\r=decide (WW<0)) (λr w ⟨d,g⟩=>?_) λJ a=>cD rfl (a _ _ ⟨rfl,rfl⟩));rw[d,g];refine KC (λr w=>w=U/\r=decide (WW<0\/WW>64)) (λr w ⟨d,g⟩=>?_) λJ a=>cN (λh=>a _ _ ⟨rfl,by rw[zI (.inl h)]⟩) λh=>a _ _ ⟨rfl,by rw[kZ,decide_eq_true_iff,decide_eq_true_iff];omega⟩;rw[d,g];refine KC (λr w=>w=U/\r=decide (WW<0\/WW>64\/bytes<0)) (λr w ⟨d,g⟩=>?_) λJ a=>cN (λh=>a _ _ ⟨rfl,by rw[zI O]⟩) λh=>a _ _ ⟨rfl,by rw[kZ,decide_eq_true_iff,decide_eq_true_iff];omega⟩;rw[d,g];refine KC (λr w=>w=U/\r=decide (WW<0\/WW>64\/bytes<0\/bytes>16384)) (λr w ⟨d,g⟩=>?_) λJ a=>cN (λh=>a _ _ ⟨rfl,by rw[zI O]⟩) λh=>a _ _ ⟨rfl,by rw[kZ,decide_eq_true_iff,decide_eq_true_iff];omega⟩;rw[d,g];refine cN (λh=>h0 O) λh=>?_;refine nw (cs:=[.pointer (some ⟨gb,0,none⟩),.int .i64 WW,.int .i64 bytes,.slice none 0 0,.slice none 0 0]) λw m e i=>h1 O w e ?_;exact⟨p.fr e,i,⟨rfl,.inl ⟨rfl,rfl⟩⟩,⟨rfl,.inl ⟨rfl,rfl⟩⟩,⟨p.e.1,λj=>by have:=ux p j;omega,id,id⟩,λb i=>i.elim,λb i=>i.elim,λb i=>i.elim,⟨by show 0<=WW/\WW<=64;omega,by show 0<=bytes/\bytes<=16384;omega,by simp,by simp,by simp⟩⟩
theorem S7 (n:Nat):(List.replicate n [Value.int .i64 0,.int .i64 0]).flatten=gP (List.replicate n (0,0)):=by
 induction n with
 | zero=>rfl
 | succ n ih=>rw[sX,sX,vY,ih];rfl
theorem Mw (o:QP σ0 U L H held s0 P gb km fm x qb Qq Qr qs rs q){R:Sl->Hp->Prop}(hR:∀s w Q,aF U w->bU s 2 (gP q.rs) w Q->(∀c,Q c->U.size<=c/\c<w.size)->R s w):WM.c (aW qb) U R:=by
 refine WM.o ?_;unfold WM.v;have d:=o.rr.kK;have u:=o.i.rl;refine V2 o (cD rfl (bL (o.b.rS rfl (mk aC aC λv r e m=>?_))));have o1:=o.fr e;rw[S7]at m;have a:=UV q.rs;refine bL (o1.b.rS rfl ⟨gP q.rs,by rw[a];simp only;omega,o1.rr.rd,FK _,?_⟩);simp only at m ⊢;refine V9 m (by rw[a,UV,List.length_replicate];omega) λp o2 j=>?_;have g:List.take (0+0) (gP (List.replicate rs.len (0,0)))++gP q.rs++List.drop (0+0+(gP q.rs).length) (gP (List.replicate rs.len (0,0)))=gP q.rs:=by
  rw[List.drop_eq_nil_of_le (by rw[a,UV,List.length_replicate];omega)];simp
 rw[g]at j;refine hR _ p (· = U.size) (Ext.fresh e o2.ext λi (hi:i=U.size)=>O) ⟨by rw[a,d],.inr ⟨U.size,_,rfl,rfl,j,zD _,by rw[a,d],mi⟩⟩ λc y=>?_;have:=j.lt;omega
theorem OX {a b:Sl}{xs ys:List P2}(ha:cV a 2 (gP xs) U F)(hb:cV b 2 (gP ys) U Q)(hl:xs.length<=1000000){R:aO}(hR:xs=ys->R true U)(he:xs=ys):Xk.c a b U R:=by
 subst he;refine Xk.o ?_;unfold Xk.v;have d:a.len=xs.length:=by have:=ha.1;rw[UV]at this;omega
 have s:b.len=xs.length:=by have:=hb.1;rw[UV]at this;omega
 rw[d,s];refine cD aA (Qg (a:=bO) (λ(i:Int) w=>w=U/\∃k:Nat,i=k/\k<=xs.length) (λi _=>xs.length-i.toNat) ⟨rfl,0,rfl,O⟩ ?_);rintro(i:Int) w ⟨rfl,k,rfl,hk⟩;refine cN (λu=>?_) λx=>hR rfl;have g:xs[k]?=some (xs[k]' O):=cW _;generalize (xs[k]' O)=r at g;rw[←d];refine uJ ha g λy o1 j=>eA (j 0 _ rfl) (eA (j 1 _ rfl) ?_);rw[d,←s];refine uJ hb g λz o2 p=>eA (p 0 _ rfl) (eA (p 1 _ rfl) ?_);exact cD aA (cT (m:=k+1) O O ⟨⟨rfl,k+1,rfl,O⟩,O⟩)
end Go.Ar
namespace Go.Proofs
open Go.Vc
set_option maxRecDepth 100000
def Yb.h:Hn:=.q .o2 (.q (.q .o2 .aK) (.q .o3 (.q (.q .o2 .aK) (.q .o7 (.q .o9 (.q (.q (.cU (.seq [.op,.op,.op,.cZ false 2 [.op,.op]])) .aK) (.q .o5 .l)))))))
def Yb.v (a b c d e f g h:Int)(i:Hp)(j:Option Addr->Hp->Prop):Prop:=aV #[.I a,.I b,.I c,.I d,.I e,.I f] 25 i λk l=>aQ k 0 l λm=>aQ k 1 l λn=>aQ k 2 l λo=>aQ k 3 l λp=>aQ k 4 l λq=>aQ k 5 l λr=>Xb.c m n o p q r l λs t=>If s (j none t) (aQ k 0 t λu=>aQ k 1 t λv=>aQ k 2 t λw=>aQ k 3 t λx=>aQ k 4 t λy=>aQ k 5 t λz=>WN.c u v w x y z t λaa ab=>If aa.isNone (j none ab) (Kf.c aa ab λac ad ae=>Zs.c ac g h ae λaf ag ah=>bX (λai aj=>If ai (j none aj) (aV #[.pointer aa,.pointer af,.slice none 0 0,.slice none 0 0] 35 aj λak al=>j (some ak) al)) λam=>If (ag != 0) (am true ah) (am af.isNone ah)))
theorem Yb.o {a b c d e f g h i j}(k:Yb.v a b c d e f g h i j):Yb.c a b c d e f g h i j:=Wa Tryz.func13 (x:=Yb.h) (R0 k)
def XA.h:Hn:=.q .o1 (.q .o2 (.q (.q .o2 .aK) (.q .o7 (.q .o7 (.q (.q (.cU (.seq [.op,.op,.op,.cZ false 2 [.op,.op]])) .aK) (.q .o7 (.q .o7 (.q .o7 (.q (.q (.cU (.seq [.op,.op,.op,.op,.op,.cZ false 4 (RI.ops 4),.op,.cZ false 7 (RI.ops 7),.op,.cZ false 3 (RI.ops 3),.op,.cZ false 4 (RI.ops 4)])) .aK) (.q .o8 (.q (.q (.cU (.seq [.op,.op,.op,.cZ false 4 (RI.ops 4),.op,.cZ false 7 (RI.ops 7),.op,.cZ false 4 (RI.ops 4)])) .aK) (.q .o7 (.q (.cU (.seq [.op,.op,.op,.cZ true 2 [.op,.op],.op,.cZ true 7 (RI.ops 7),.op])) .l)))))))))))))
def XA.v (a:Hp)(b:aO):Prop:=XP.c a λc d=>If c.isNone (b false d) (Kf.c c d λe f g=>Zs.c e 2 1000 g λh i j=>bX (λk l=>If k (b false l) (Wp.c h 0 24 8 l λm n o=>Wp.c h 0 24 8 o λp q r=>Wp.c h 0 24 8 r λs t u=>Wj.c h 0 m u λv w=>bX (λx y=>bX (λz aa=>bX (λab ac=>bX (λad ae=>If ad (b false ae) (WG.c h m ae λaf ag ah=>bX (λai aj=>bX (λak al=>bX (λam an=>If am (b false an) (WD.c h 0 an λao ap aq=>bX (λar au=>bX (λav aw=>b av aw) λax=>If ar (WM.c h au λay az=>aV #[.I p,.I p] 62 az λa0 a1=>Xk.c ay ⟨some a0,1,1⟩ a1 λa2 a3=>ax a2 a3) (ax false au)) λa4=>If (ao==2) (a4 (ap==0) aq) (a4 false aq))) λa5=>If ak (a5 true al) (Xy.c c p 3 al λa6 a7=>a5 (a6 != 0) a7)) λa8=>If ai (a8 true aj) (Wy.c h aj λa9 ba=>aV #[.I p,.I s] 3 ba λbb bc=>Xw.c a9 ⟨some bb,2,2⟩ bc λbd be=>a8 (!bd) be)) λbf=>If (ag != 9) (bf true ah) (Wj.c h 0 s ah λbg bh=>bf (bg != 0) bh))) λbi=>If ab (bi true ac) (Wj.c h 0 m ac λbj bk=>bi (bj != 9) bk)) λbl=>If z (bl true aa) (WE.c h aa λbm bn=>bl (bm != 48) bn)) λbo=>If x (bo true y) (Wy.c h y λbp bq=>aV #[.I m,.I p] 3 bq λbr bs=>Xw.c bp ⟨some br,2,2⟩ bs λbt bu=>bo (!bt) bu)) λbv=>If (v != 0) (bv true w) (Wj.c h 0 p w λbw bx=>bv (bw != 0) bx))) λbz=>If (i != 0) (bz true j) (bz h.isNone j))
theorem XA.o {a b}(c:XA.v a b):XA.c a b:=Wa Tryz.func15 (x:=XA.h) (R0 c)
def Xo.h:Hn:=.q .o2 (.q (.cU (.tail 5 (RI.ops 5) [.op,.op])) (.q (.q .o2 (.k (.q .o2 (.c (.q (.cU (.held true [10] (.tk [0,1,2,3,4,5,6,7,8,9] (.all [(10,.tk [11,12,13,14,15] (.done))])))) (.q (.q .o2 (.c (.o 11) .l)) .aL)) (.q .o2 (.c (.q (.cU (.tail 7 (RI.ops 7) [.op,.op])) (.q (.q .o2 (.c (.o 11) .l)) .aL)) (.q .o2 (.c (.q (.cU (.held true [6] (.tk [0,1,2,3,4,5] (.all [(6,.tk [7,8,9,10,11] (.done))])))) .aL) (.q .o2 (.c (.q (.o 11) .aL) (.q .o2 (.c (.q (.cU (.tail 7 (RI.ops 7) [.op,.op])) .l) .l)))))))))))) .aM))
def Xo.v (a:R2)(b c d e f g h:Int)(i:ByteArray)(j:Hp)(k:aN):Prop:=aV #[.I b,.I c,.I d,.I e,.I f,.I g,.I h,.string i] 40 j λl m=>bF a 2 m λo=>aQ l 0 m λp=>aQ l 1 m λq=>aQ l 2 m λr=>aQ l 3 m λs=>aQ l 4 m λt=>aQ l 5 m λu=>aQ l 6 m λv=>bD l 7 m λw=>Zi.c o p q r s t u v w m λx y=>aQ l 0 y λz=>If (z==40) (dT y λaa=>bW a λab=>aU aa ab 1 λac=>aS aa l 1 λad=>aS aa l 2 λae=>aS aa l 3 λaf=>Wp.c ac ad ae af y λag ah ai=>If (ah==0) (bF a 2 ai λak=>aV #[.I ag] 3 ai λal am=>App ak 1 8 3 [.I 0] ⟨some al,1,1⟩ am λan ao=>bW a λap=>aR ap 2 (.slice an.a an.len an.cap) ao λaq=>k ah aq) (k ah ai)) (If (z==41) (bG a 1 y λau=>aQ l 1 y λav=>Wj.c au av x y λaw ax=>If (aw==0) (bF a 3 ax λaz=>aV #[.I x] 3 ax λa0 a1=>App az 1 8 3 [.I 0] ⟨some a0,1,1⟩ a1 λa2 a3=>bW a λa4=>aR a4 3 (.slice a2.a a2.len a2.cap) a3 λa5=>k aw a5) (k aw ax)) (If (z==42) (dT y λa6=>bW a λa7=>aU a6 a7 1 λa8=>aS a6 l 1 λa9=>WD.c a8 a9 y λba bb bc=>k bb bc) (If (z==43) (bG a 1 y λbe=>WG.c be x y λbf bg bh=>k bg bh) (If (z==44) (bG a 1 y λbj=>
 aQ l 6 y λbk=>WQ.c bj x bk y λbl bm=>k bl bm) (k 0 y)))))
theorem Xo.o {a b c d e f g h i j k}(l:Xo.v a b c d e f g h i j k):Xo.c a b c d e f g h i j k:=Wa Tryz.func17 (x:=Xo.h) (R0 l)
def Yd.h:Hn:=.q .o2 (.q (.q .o3 .aK) (.q .o5 (.q (.q .o2 .aK) (.q (.q .o1 (.k (.loop [(12,.I)] (.q (.q .o4 (.c .l .l)) (.q (.k .o6) .o3))))) .aL))))
def Yd.v (a b c d e f g h:Int)(i:Sl)(j:Int)(k:Hp)(l:Option Addr->Hp->Prop):Prop:=aV #[.I a,.I b,.I c,.I d,.I e,.I f] 25 k λm n=>XK.c i j n λo p=>If o (l none p) (aQ m 0 p λq=>aQ m 1 p λr=>aQ m 2 p λs=>aQ m 3 p λt=>aQ m 4 p λu=>aQ m 5 p λv=>Yb.c q r s t u v g h p λw x=>If w.isNone (l none x) (X9 [bO] (λy=>y 0 x) λz (aa:Int) ab=>If (aa<((i.len:Nat):Int)) (Ix i.a i.len aa 8 λac=>aQ ac 0 ab λad=>aQ ac 1 ab λae=>aQ ac 2 ab λaf=>aQ ac 3 ab λag=>aQ ac 4 ab λah=>aQ ac 5 ab λai=>aQ ac 6 ab λaj=>bD ac 7 ab λak=>Xo.c w ad ae af ag ah ai aj ak ab λal am=>bM (aa+1) λan=>z an am) (l w ab)))
theorem Yd.o {a b c d e f g h i j k l}(m:Yd.v a b c d e f g h i j k l):Yd.c a b c d e f g h i j k l:=Wa Tryz.func20 (x:=Yd.h) (R0 m)
end Go.Proofs
namespace Go.Ar
open Go Go.Vc Go.Proofs
open Go.Vc (bS cX cO)
variable {thread:Int}{U σ0 v w w':Hp}{F P Q X T T' Tc Qa Qf:Rg}{L:dE}{H H' H1:Hw}{held:List Pc}{s0 sp:Sp}{t n:Nat}{gb km fm m pp xb:Nat}{x y x':Gu}{b:B5}{qb:Nat}{Qq Qr:Rg}{qs rs addrs fl:Sl}{ad fd:List Int}{q q':Qu}
def QB (σ0 U:Hp)(pp gb km fm qb:Nat)(T:Rg)(H:Hw)(x:Gu)(q:Qu):Prop:=
 ∃L held s0 P Qq Qr qs rs,QP σ0 U L H held s0 P gb km fm x qb Qq Qr qs rs q/\L.p=pp/\T=kA P gb km fm qb Qq Qr
theorem QB.fr (o:QB σ0 U pp gb km fm qb T H x q)(e:aF U w):QB σ0 w pp gb km fm qb T H x q:=by
 obtain⟨L,a,s0,P,Qq,Qr,qs,g,h,b,d⟩:=o;exact⟨L,a,s0,P,Qq,Qr,qs,g,h.fr e,b,d⟩
theorem QB.out (o:QB σ0 U pp gb km fm qb T H x q)(e:Ext X U w)(hX:∀b,b<U.size->X b->¬T b/\σ0.size<=b):QB σ0 w pp gb km fm qb T H x q:=by
 obtain⟨L,a,s0,P,Qq,Qr,qs,g,h,d,rfl⟩:=o;exact⟨L,a,s0,P,Qq,Qr,qs,g,h.out e hX,d,rfl⟩
theorem QB.lt (o:QB σ0 U pp gb km fm qb T H x q){c:Nat}(h:T c):σ0.size<=c/\c<U.size:=by
 obtain⟨L,a,s0,P,Qq,Qr,qs,g,b,d,rfl⟩:=o;exact JB b h
theorem QB.e (o:QB σ0 U pp gb km fm qb T H x q):aF σ0 U:=by
 obtain⟨L,a,s0,P,Qq,Qr,qs,g,b,d,rfl⟩:=o;exact b.p.e
theorem QB.hi (o:QB σ0 U pp gb km fm qb T H x q):∃held s0,HI H held s0:=by
 obtain⟨L,held,s0,P,Qq,Qr,qs,d,a,b,rfl⟩:=o;exact⟨held,s0,a.p.hi⟩
theorem QB.cf (o:QB σ0 U pp gb km fm qb T H x q):iQ H:=by
 obtain⟨L,a,s0,P,Qq,Qr,qs,g,b,d,rfl⟩:=o;exact b.p.cf
theorem QB.qi (o:QB σ0 U pp gb km fm qb T H x q):nW q:=by
 obtain⟨L,a,s0,P,Qq,Qr,qs,g,b,d,rfl⟩:=o;exact b.i
theorem QO.tb (o:QO σ0 U w pp gb km fm qb Tc H x q):∃T',QB σ0 w pp gb km fm qb T' H x q/\Ext Tc U w/\∀c,T' c->Tc c\/U.size<=c:=by
 obtain⟨L',a,d,P',Qq',Qr',b,g,h,i,m,j⟩:=o;exact⟨_,⟨L',a,d,P',Qq',Qr',b,g,h,i,rfl⟩,m,j⟩
def AT (hp qb:Nat)(addrs fl:Sl):List Value:=[.pointer (some ⟨hp,0,none⟩),.pointer (some ⟨qb,0,none⟩),.slice addrs.a addrs.len addrs.cap,.slice fl.a fl.len fl.cap]
def qC (T:Rg)(xb:Nat)(Qa Qf:Rg):Rg:=λb=>T b\/b=xb\/Qa b\/Qf b
structure OQ (σ0 U:Hp) (xb pp gb km fm qb:Nat) (T Qa Qf:Rg) (H:Hw) (x:Gu) (q:Qu) (addrs:Sl) (ad:List Int) (fl:Sl) (fd:List Int):Prop where
 p:QB σ0 U pp gb km fm qb T H x q
 b:bY U xb (AT pp qb addrs fl)
 ra:bU addrs 1 (Wu ad) U Qa
 rf:bU fl 1 (Wu fd) U Qf
 re:σ0.size<=xb/\¬T xb/\¬Qa xb/\¬Qf xb
 qa:∀b,Qa b->σ0.size<=b/\b<U.size/\¬T b
 qf:∀b,Qf b->σ0.size<=b/\b<U.size/\¬T b
 dj:∀b,Qa b->¬Qf b
theorem OQ.q9 (o:OQ σ0 U xb pp gb km fm qb T Qa Qf H x q addrs ad fl fd)(e:aF U w):OQ σ0 w xb pp gb km fm qb T Qa Qf H x q addrs ad fl fd:=
 ⟨o.p.fr e,e.bV o.b id,aI.bP o.ra e,aI.bP o.rf e,o.re,λb a=>by have h:=o.qa b a;have:=e.1;exact⟨h.1,O,h.2.2⟩,λb a=>by have h:=o.qf b a;have:=e.1;exact⟨h.1,O,h.2.2⟩,o.dj⟩
theorem OQ.eX (o:OQ σ0 U xb pp gb km fm qb T Qa Qf H x q addrs ad fl fd)(e:Ext T U w)(p':QB σ0 w pp gb km fm qb T' H' x' q')(hT:∀c,T' c->T c\/U.size<=c):OQ σ0 w xb pp gb km fm qb T' Qa Qf H' x' q' addrs ad fl fd:=by
 have A:=e.1;have a:=o.b.lt;obtain⟨u,m,y,s⟩:=o.re;have i:∀b,b<U.size->¬T b->¬T' b:=λb z p r=>(hT b r).elim p λh=>by omega
 exact⟨p',e.bV o.b m,aI.bT o.ra e λb _ j d=>(o.qa b j).2.2 d,aI.bT o.rf e λb _ j d=>(o.qf b j).2.2 d,⟨u,i _ a m,y,s⟩,λb g=>by have h:=o.qa b g;exact⟨h.1,O,i b h.2.1 h.2.2⟩,λb g=>by have h:=o.qf b g;exact⟨h.1,O,i b h.2.1 h.2.2⟩,o.dj⟩
theorem OQ.cE (o:OQ σ0 U xb pp gb km fm qb T Qa Qf H x q addrs ad fl fd){s':Sl}{ad':List Int}(e:Ext Qa U w)(hr:bU s' 1 (Wu ad') w λb=>Qa b\/U.size<=b/\b<w.size){K:aP}
 (hK:∀u,Ext (· = xb) w u->OQ σ0 u xb pp gb km fm qb T (λb=>Qa b\/U.size<=b/\b<w.size) Qf H x q s' ad' fl fd->K u):dG (Addr.add ⟨xb,0,none⟩ 2) (.slice s'.a s'.len s'.cap) w K:=by
 have L:=e.1;have C:=o.b.lt;obtain⟨y,B,z,s⟩:=o.re;have G:=o.p.e.1;have D:=o.p.out e λb _ d=>⟨(o.qa b d).2.2,(o.qa b d).1⟩;have m:=aI.bT o.rf e λb _ i J=>o.dj b J i;refine(e.bV o.b z).s1 (by simp[AT]) λu r b=>?_;have g:=r.ext;have F:=r.1;have A:¬(Qa xb\/U.size<=xb/\xb<w.size):=λh=>h.elim z λh=>by omega
 refine hK u g ⟨D.out g λb _ (d:b=xb)=>by subst d;exact⟨B,y⟩,b,aI.bT hr g λb _ j (d:b=xb)=>A (d▸j),aI.bT m g λb _ j (d:b=xb)=>s (d▸j),⟨y,B,A,s⟩,λb d=>?_,λb d=>by have h:=o.qf b d;exact⟨h.1,O,h.2.2⟩,λb d i=>?_⟩
 .rcases d with d|d
  .have h:=o.qa b d;exact⟨h.1,O,h.2.2⟩
  .exact⟨O,O,λE=>by have:=o.p.lt E;omega⟩
 .rcases d with d|d
  .exact o.dj b d i
  .have:=(o.qf b i).2.1;omega
theorem OQ.Ei (o:OQ σ0 U xb pp gb km fm qb T Qa Qf H x q addrs ad fl fd){s':Sl}{fd':List Int}(e:Ext Qf U w)(hr:bU s' 1 (Wu fd') w λb=>Qf b\/U.size<=b/\b<w.size){K:aP}
 (hK:∀u,Ext (· = xb) w u->OQ σ0 u xb pp gb km fm qb T Qa (λb=>Qf b\/U.size<=b/\b<w.size) H x q addrs ad s' fd'->K u):dG (Addr.add ⟨xb,0,none⟩ 3) (.slice s'.a s'.len s'.cap) w K:=by
 have L:=e.1;have C:=o.b.lt;obtain⟨y,B,z,s⟩:=o.re;have G:=o.p.e.1;have D:=o.p.out e λb _ d=>⟨(o.qf b d).2.2,(o.qf b d).1⟩;have m:=aI.bT o.ra e λb _ J g=>o.dj b J g;refine(e.bV o.b s).s1 (by simp[AT]) λu r b=>?_;have i:=r.ext;have F:=r.1;have A:¬(Qf xb\/U.size<=xb/\xb<w.size):=λh=>h.elim s λh=>by omega
 refine hK u i ⟨D.out i λb _ (d:b=xb)=>by subst d;exact⟨B,y⟩,b,aI.bT m i λb _ j (d:b=xb)=>z (d▸j),aI.bT hr i λb _ j (d:b=xb)=>A (d▸j),⟨y,B,z,A⟩,λb d=>by have h:=o.qa b d;exact⟨h.1,O,h.2.2⟩,λb d=>?_,λb d g=>?_⟩
 .rcases d with d|d
  .have h:=o.qf b d;exact⟨h.1,O,h.2.2⟩
  .exact⟨O,O,λE=>by have:=o.p.lt E;omega⟩
 .rcases g with g|g
  .exact o.dj b d g
  .have:=(o.qa b d).2.1;omega
inductive jM (H:Hw) (x:Gu) (q:Qu) (d:eZ) (a:Int):Hw->Gu->Qu->Int->Option Int->Option Int->Prop
 | same (e:Int):(e=0->d.kd≠40/\d.kd≠41/\d.kd≠42)->jM H x q d a H x q e none none
 | full {H':Hw} {e:Int}:d.kd=40->mA d.a d.b=true->e≠0->KO H d.th 0 (zA d.b+ZC d.a+16) (zA d.b) 0 H' 0 e->fV H H'->H'.live=H.live->jM H x q d a H' x q e none none
 | dK {b:B5} {H1:Hw}:d.kd=40->uG H x d.a d.b b H1->KO H d.th 0 (zA d.b+ZC d.a+16) (zA d.b) 0 H1 b.2.2.1 0->fV H H1->jM H x q d a {H1 with sp:=jK H1.sp b} (x.dK b) q 0 (some b.1) none
 | ma {b:B5} {H':Hw} {x':Gu} {q':Qu}:d.kd=41->bS x.kn a=some b->mW H x q d.th a=0->iL d.th (dQ H b) x {q with q:=q.q++[(a,b.2.1)]} H' x' q'->jM H x q d a H' x' q' 0 none (some a)
 | drain {H':Hw} {x':Gu} {q':Qu}:d.kd=42->ZI H d.th=0->iA d.th H x q H' x' q'->jM H x q d a H' x' q' 0 none none
 | wrote:d.kd=44->UI x q a=false->qh H x a 0->jM H x q d a {H with sp:=ZJ H.sp a d.va} x q (eP H.sp a) none none
set_option maxRecDepth 16000 in
theorem NH (o:OQ σ0 U xb pp gb km fm qb T Qa Qf H x q addrs ad fl fd)(gc:Gc σ0)(s:QS x q)(x0:0<=x.no/\x.no<=100000)(hq:q.q.length<=65)(hrl:q.rs.length+q.q.length<=8000)(hal:ad.length<=100000)(hfl:fd.length<=100000)(d:eZ)(di:kY d){R:aN}
 (hR:∀e w T' H' x' q' Qa' Qf' addrs' fr' add del,OQ σ0 w xb pp gb km fm qb T' Qa' Qf' H' x' q' addrs' (ad++Option.toList add) fr' (fd++Option.toList del)->jM H x q d (sJ ad d) H' x' q' e add del->Ext (qC T xb Qa Qf) U w->(∀b,qC T' xb Qa' Qf' b->qC T xb Qa Qf b\/U.size<=b)->R e w) :
 Xo.c (aW xb) d.kd d.th d.a d.b d.of d.pl d.va d.s U R:=by
 refine Xo.o ?_;unfold Xo.v;have tT:∀{u u':Hp},Ext T u u'->Ext (qC T xb Qa Qf) u u':=λe=>e.sub λb j=>.inl j;have tX:∀{u u':Hp},Ext (· = xb) u u'->Ext (qC T xb Qa Qf) u u':=λe=>e.sub λb j=>.inr (.inl j);have tA:∀{u u':Hp},Ext Qa u u'->Ext (qC T xb Qa Qf) u u':=λe=>e.sub λb j=>.inr (.inr (.inl j));have tF:∀{u u':Hp},Ext Qf u u'->Ext (qC T xb Qa Qf) u u':=λe=>e.sub λb j=>.inr (.inr (.inr j));have hxb:=o.b.lt;have h00:=o.p.e.1;refine nw (cs:=uU d) λv hz e j=>bL ((o.q9 e).b.rS rfl (j.rI rfl (j.rI rfl (j.rI rfl (j.rI rfl (j.rI rfl (j.rI rfl (j.rI rfl (j.rT rfl ?_)))))))));have o1:=o.q9 e;refine RA (bU.fY o1.ra) d λN e1=>?_;have o2:=o1.q9 e1;have A:=e.trans e1;have zv:U.size<=N.size:=A.1;have z:=e1.bV j id;have E:=N8 (ad:=ad) di;generalize hx:sJ ad d=ax at E hR;have a0:ad++Option.toList (none:Option Int)=ad:=by simp
 have f0:fd++Option.toList (none:Option Int)=fd:=by simp
 have same:∀e w,(e=0->d.kd≠40/\d.kd≠41/\d.kd≠42)->aF N w->R e w:=λe w he g=>by
  have B:=o.q9 (A.trans g);refine hR e w T H x q Qa Qf addrs fl none none ?_ (.same e he) (aF.to (A.trans g)) λ_=>.inl;rw[a0,f0];exact B
 have G:∀e w H' x' q',QO σ0 N w pp gb km fm qb T H' x' q'->jM H x q d ax H' x' q' e none none->R e w:=λe w H' x' q' B out=>by
  obtain⟨T',Q,D,F⟩:=B.tb;have o3:=o2.eX D Q F;refine hR e w T' H' x' q' Qa Qf addrs fl none none (by rw[a0,f0];exact o3) out ((aF.to A).trans (tT D)) λc W=>?_;rcases W with h|h|h|h
  .exact(F c h).imp .inl λh=>by omega
  .exact .inl (.inr (.inl h))
  .exact .inl (.inr (.inr (.inl h)))
  .exact .inl (.inr (.inr (.inr h)))
 have hnT:¬T U.size:=λhm=>by have:=o.p.lt hm;omega
 obtain⟨L,held,s0,P,Qq,Qr,qs,rs,V,rfl,rfl⟩:=o2.p;refine z.rI rfl (cP (λK=>?_) λaa=>?_)
 .have C:d.kd=40:=by simpa using K
  refine⟨λm=>aF N m,Ext.refl _ _,bL (gN (c:=.p) (y:=some ⟨qb,0,none⟩) (λm e=>e.bV o2.b id) rfl (gN (c:=bO) (y:=d.th) (λm e=>e.bV z id) rfl (gN (c:=bO) (y:=d.a) (λm e=>e.bV z id) rfl (gN (c:=bO) (y:=d.b) (λm e=>e.bV z id) rfl ?_))))⟩;refine Gp V gc x0 d.th d.a d.b (λw S g=>?_) (λe w H' S r hw op hl B=>?_) λb w H1 gr hw op B=>?_
  .exact cD aB (same 1 w (λh=>by cases h) g)
  .exact cD (by simpa using r) (G e w H' x q B (.full C S r hw op hl))
  .refine cF rfl ?_;obtain⟨T',Q,D,F⟩:=B.tb;have o3:=o2.eX D Q F;refine bL (o3.b.rS rfl (xW o3.ra O b.1 λs' u1 J M=>bL (o3.cE J M λY e5 o5=>?_)));have z3:=D.1;have z4:=J.1;refine hR 0 Y T' _ _ _ _ Qf s' fl (some b.1) none (by rw[f0];exact o5) (.dK C gr hw op) ((((aF.to A).trans (tT D)).trans (tA J)).trans (tX e5)) λc W=>?_;rcases W with h|h|h|h
   .exact(F c h).imp .inl λh=>by omega
   .exact .inl (.inr (.inl h))
   .exact h.imp (λh=>.inr (.inr (.inl h))) λh=>by omega
   .exact .inl (.inr (.inr (.inr h)))
 have k0:d.kd≠40:=by simpa using aa
 refine cP (λK=>?_) λhk1=>?_
 .have C:d.kd=41:=by simpa using K
  refine bL (o2.b.rP rfl (z.rI rfl ?_));refine HV V gc s hq hrl d.th E (λw r g=>cD (by simpa using r) (same _ w (λh=>absurd h r) g)) λw b H' x' q' hm Z ov B=>cF rfl ?_;obtain⟨T',Q,D,F⟩:=B.tb;have o3:=o2.eX D Q F;refine bL (o3.b.rS rfl (xW o3.rf O ax λs' u1 J M=>bL (o3.Ei J M λY e5 o5=>?_)));have z3:=D.1;have z4:=J.1;refine hR 0 Y T' _ _ _ Qa _ addrs s' none (some ax) (by rw[a0];exact o5) (.ma C hm Z ov) ((((aF.to A).trans (tT D)).trans (tF J)).trans (tX e5)) λc W=>?_;rcases W with h|h|h|h
  .exact(F c h).imp .inl λh=>by omega
  .exact .inl (.inr (.inl h))
  .exact .inl (.inr (.inr (.inl h)))
  .exact h.imp (λh=>.inr (.inr (.inr h))) λh=>by omega
 have k1:d.kd≠41:=by simpa using hk1
 refine cP (λK=>?_) λhk2=>?_
 .have C:d.kd=42:=by simpa using K
  refine⟨λm=>aF N m,Ext.refl _ _,bL (gN (c:=.p) (y:=some ⟨qb,0,none⟩) (λm e=>e.bV o2.b id) rfl (gN (c:=bO) (y:=d.th) (λm e=>e.bV z id) rfl ?_))⟩;exact Df V gc s d.th (λw r g=>same _ w (λh=>absurd h r) g) λw H' x' q' Z dr B=>G 0 w H' x' q' B (.drain C Z dr)
 have k2:d.kd≠42:=by simpa using hk2
 have X:d.kd≠40/\d.kd≠41/\d.kd≠42:=⟨k0,k1,k2⟩;refine cP (λ_=>bL (o2.b.rP rfl (Iq V s ax E.2 (λw _ g=>same 9 w (λh=>by cases h) g) (λe w _ _ g _=>same e w (λ_=>X) g) λw _ g _=>same _ w (λ_=>X) g))) λ_=>?_;refine cP (λK=>bL (o2.b.rP rfl (z.rI rfl (ι V gc s ax d.va E.2 (λw _ g=>same 9 w (λh=>by cases h) g) (λe w _ _ g _=>same e w (λ_=>X) g) λw ht wd B=>G _ w _ x q B (.wrote (by simpa using K) ht wd))))) λ_=>same 0 N (λ_=>X) (Ext.refl _ _)
end Go.Ar
namespace Go.Ar
open Go Go.Vc Go.Proofs
open Go.Vc (bS cX cO)
variable {thread:Int}{H H' H1 H2:Hw}{held held1:List Pc}{s0 s1 sp:Sp}{x y x' x1 x2:Gu}{b:B5}{q q' q1 q2:Qu}{ad fd:List Int}{W:Int->List Int}{l l':List P2}{d:eZ}{a:Int}{bl by':Int}
theorem II {α:Type}:∀{l:List (Int×α)} {a:Int} {b:α},(l.map (·.1)).Nodup->(a,b)∈l->(cO l a).length+1=l.length
 | [],_,_,_,h=>by simp at h
 | y::l,a,b,hn,h=>by
  rw[zR,zr]at hn;show((y::l).filter λz=>!(z.1==a)).length+1=_;rcases zW.1 h with rfl|h
  .rw[vE aA,qG.2 λz hz=>?_,zS];have:z.1≠a:=λe=>hn.1 (zE.2 ⟨z,hz,e⟩);simpa using this
  .have d:y.1≠a:=λe=>hn.1 (by rw[e];exact zE.2 ⟨(a,b),h,rfl⟩);rw[vM (by simpa using d),zS,zS];exact congrArg (· + 1) (II hn.2 h)
theorem S6 (g:dS H x)(g':dS H' x')(hi:HI H held s0)(hi':HI H' held1 s1){e:Int×B5}(he:e∈x.kn)(k:Kept H x H' x' e):sS H'.sp e.2=sS H.sp e.2:=by
 unfold sS;refine wa λz a=>?_;rw[g.acc hi he (.inr a),g'.acc hi' k.1 (.inr a),k.2 z a]
theorem Kept.trans {e:Int×B5}(h:Kept H x H1 x1 e)(h':Kept H1 x1 H2 x2 e):Kept H x H2 x2 e:=⟨h'.1,λz a=>(h'.2 z a).trans (h.2 z a)⟩
theorem Kept.refl {e:Int×B5}(h:e∈x.kn):Kept H x H x e:=⟨h,λ_ _=>rfl⟩
structure KQ (W:Int->List Int) (H:Hw) (x:Gu) (l:List P2):Prop where
 g:dS H x
 k:∀e∈l,∃b,bS x.kn e.1=some b/\e.2=b.2.1/\sS H.sp b=W e.1
 nd:(l.map (·.1)).Nodup
theorem KQ.step (kq:KQ W H x l)(hi:HI H held s0)(hi':HI H' held1 s1)(g':dS H' x')(hk:∀e∈x.kn,e.1∈l.map (·.1)->Kept H x H' x' e):KQ W H' x' l:=⟨g',λe i=>by
 obtain⟨b,p,m,j⟩:=kq.k e i;have a:=YT p;have d:=hk (e.1,b) a (zE.2 ⟨e,i,rfl⟩);exact⟨b,Qd g'.nd d.1,m,by rw[←j];exact S6 kq.g g' hi hi' a d⟩,kq.nd⟩
theorem KQ.tail {e:P2}(kq:KQ W H x (e::l)):KQ W H x l:=⟨kq.g,λk a=>kq.k k (l7 _ a),(zr.1 kq.nd).2⟩
def lG (W:Int->List Int)(l:List P2):List P2:=l.flatMap λe=>if W e.1=[]then[]else[(e.1,lF (W e.1))]
theorem TU (l l':List P2):lG W (l++l')=lG W l++lG W l':=by simp[lG]
structure ox (W:Int->List Int) (thread:Int) (H:Hw) (x:Gu) (q:Qu) (H':Hw) (x':Gu) (q':Qu):Prop where
 hi:∃held' s0',HI H' held' s0'
 rd:ZI H' thread=0
 kp:QY H' H
 kq:KQ W H' x' q'.q
 bb:q'.bl=q.bl/\q'.by'=q.by'
 no:x'.no=x.no
 kn:x'.kn.length+q.q.length=x.kn.length+q'.q.length
 sf:∃l,q.q=l++q'.q/\(∀k∈x.kn,k.1∉l.map (·.1)->Kept H x H' x' k)/\q'.rs=q.rs++lG W l
theorem ox.refl (kq:KQ W H x q.q)(hi:HI H held s0)(hrd:ZI H thread=0):ox W thread H x q H x q:=
 ⟨⟨held,s0,hi⟩,hrd,QY.refl _,kq,⟨rfl,rfl⟩,rfl,rfl,[],rfl,λk a _=>Kept.refl a,by simp[lG]⟩
theorem ox.trans (a:ox W thread H x q H1 x1 q1)(c:ox W thread H1 x1 q1 H2 x2 q2):ox W thread H x q H2 x2 q2:=by
 obtain⟨l,g,i,m⟩:=a.sf;obtain⟨p,j,k2,k3⟩:=c.sf;refine⟨c.hi,c.rd,a.kp.trans c.kp,c.kq,⟨c.bb.1.trans a.bb.1,c.bb.2.trans a.bb.2⟩,c.no.trans a.no,by have:=a.kn;have:=c.kn;omega,l++p,by rw[g,j,zl],λk r b=>?_,by rw[k3,m,TU,zl]⟩;rw[zj,zJ]at b;have d:=i k r λh=>b (.inl h);exact d.trans (k2 k d.1 λh=>b (.inr h))
theorem KQ.ck (kq:KQ W H x l)(hi:HI H held s0){e:P2}(he:e∈l):k5 H x e.1=0:=by
 obtain⟨b,a,_,_⟩:=kq.k e he;unfold k5;rw[a];simp only;rw[kq.g.lost hi (YT a)];rfl
theorem gG.st (r:gG thread H x q H' x' q')(kq:KQ W H x q.q)(hi:HI H held s0)(hcf:iQ H)(hrd:ZI H thread=0):ox W thread H x q H' x' q':=by
 cases r with
 | none h1 h2=>
  rename_i e r;have j:e∈q.q:=by rw[h1];exact mL
  obtain⟨b,m,_,_⟩:=kq.k e j;rcases h2 with h2|h2
  .rw[m]at h2;cases h2
  .exact absurd (kq.ck hi j) h2
 | stay h1 h2 h3 h4=>
  refine absurd ?_ h4;unfold lY;rw[zB (by rw[hrd];decide),h2];simp only;rw[kq.g.lost hi (YT h2)];rfl
 | free h1 h2 h3 h4 hw op fe=>
  rename_i e r b er;have j:e∈q.q:=by rw[h1];exact mL
  obtain⟨E,m,D,B⟩:=kq.k e j;rw[h2]at m;cases m;obtain⟨A,z⟩:=kq.g.free hi h2 hw op fe hrd hcf.2.1;obtain⟨d,s1,i⟩:=op.hi;have a:=YT h2;have u:e.1∉r.map (·.1):=by
   have:=kq.nd;rw[h1,zR,zr]at this;exact this.1
  have p:Ku H b=W e.1:=by
   unfold Ku;rw[kq.g.broken hi a,B];rfl
  refine⟨⟨d,s1,i⟩,?_,op.kp,?_,⟨rfl,rfl⟩,rfl,?_,[e],?_,λk y C=>z k y λh=>C (by simp[h]),?_⟩
  .rw[SE op];exact hrd
  .have w:KQ W H x r:=by rw[h1]at kq;exact kq.tail
   exact w.step hi i A λk y s=>z k y λh=>u (h▸s)
  .have:=II kq.g.nd a;show(cO x.kn e.1).length+q.q.length=x.kn.length+r.length;rw[h1,zS];omega
  .rw[h1];rfl
  .show(if Ku H b=[]then q.rs else q.rs++[(e.1,lF (Ku H b))])=_
   rw[p];simp only[lG,pT,List.flatMap_nil,kG];split<;>simp
theorem iL.st (r:iL thread H x q H' x' q')(kq:KQ W H x q.q)(hi:HI H held s0)(hcf:iQ H)(hrd:ZI H thread=0):ox W thread H x q H' x' q'/\Ho q'=false:=by
 induction r generalizing held s0 with
 | stop h=>exact⟨ox.refl kq hi hrd,h⟩
 | next h f _ ih=>
  have s1:=f.st kq hi hcf hrd;obtain⟨b,d,a⟩:=s1.hi;obtain⟨s2,g⟩:=ih s1.kq a (hcf.bT s1.kp) s1.rd;exact⟨s1.trans s2,g⟩
theorem iA.st (r:iA thread H x q H' x' q')(kq:KQ W H x q.q)(hi:HI H held s0)(hcf:iQ H)(hrd:ZI H thread=0):ox W thread H x q H' x' q'/\q'.q=[]:=by
 induction r generalizing held s0 with
 | stop h=>exact⟨ox.refl kq hi hrd,h⟩
 | next f _ ih=>
  have s1:=f.st kq hi hcf hrd;obtain⟨b,d,a⟩:=s1.hi;obtain⟨s2,g⟩:=ih s1.kq a (hcf.bT s1.kp) s1.rd;exact⟨s1.trans s2,g⟩
theorem dS.FM (g:dS H x)(hi:HI H held s0)(hm:(a,b)∈x.kn):dS (dQ H b) x/\(∀e∈x.kn,e.1≠a->Kept H x (dQ H b) x e)/\sS (dQ H b).sp b=[]:=by
 have s:=(g.i _ hm).2;have r:=CA s;have m:∀e∈x.kn,∀z,(z∈Zk e.2\/z∈XR e.2)->(e.1=a->z∈Zk e.2)->Q0 (dQ H b).sp z=Q0 H.sp z:=λe j z d C=>by
  obtain⟨⟨w,rfl⟩,u,D⟩:=(g.i e j).2.word d;show Q0 (iK H.sp (XR b) λ_=>Gg) _=_;rw[KY r,zB];rintro⟨hw,_⟩;have p:=s.word (.inr hw);have:=g.apart hi j hm u D p.2.1 p.2.2;subst this;exact s.nw (C rfl) hw
 obtain⟨s1,y⟩:∃s1,HI (dQ H b) held s1:=HI.iK _ _ hi;have E:dS (dQ H b) x:=⟨g.live,λe j z d=>by rw[m e j z (.inl d) λ_=>d];exact g.can e j z d,g.ph,g.i,g.nd⟩;refine⟨E,λe j A=>⟨j,λz d=>m e j z (.inr d) λh=>absurd h A⟩,?_⟩;unfold sS;rw[List.filter_eq_nil_iff];intro z d;rw[E.acc y hm (.inr d)];obtain⟨⟨w,rfl⟩,u,D⟩:=s.word (.inr d);have B:=g.map hi hm u D;have:Q0 (dQ H b).sp ((8*w:Nat):Int)=Gg:=by
  show Q0 (iK H.sp (XR b) λ_=>Gg) _=_;rw[KY r,zC ⟨d,B⟩]
 rw[this];simp
abbrev W0:Int->List Int:=λ_=>[]
theorem FL (l:List P2):lG W0 l=[]:=by simp[lG]
structure AQ (bl by':Int) (H:Hw) (x:Gu) (q:Qu) (ad fd:List Int):Prop where
 kq:KQ W0 H x q.q
 n0:0<=x.no
 nl:(ad.length:Int)<=x.no
 rs:q.rs=[]
 ov:Ho q=false
 sx:∃l,fd=l++q.q.map (·.1)
 wz:x.kn.length+fd.length=ad.length+q.q.length
 th:1<=H.cf.threads
 bb:q.bl=bl/\q.by'=by'
theorem AQ.lens (al:AQ bl by' H x q ad fd):q.q.length<=fd.length/\x.kn.length<=ad.length:=by
 obtain⟨l,h⟩:=al.sx;have a:=congrArg List.length h;rw[zM,zk]at a;have:=al.wz;omega
theorem AQ.ql (al:AQ bl by' H x q ad fd)(hi:nW q):q.q.length<=64:=by
 have h:=al.ov;unfold Ho at h;rw[As,decide_eq_false_iff_not,decide_eq_false_iff_not]at h;have:=hi.bl;omega
theorem AQ.qs (al:AQ bl by' H x q ad fd)(hi:nW q)(h:ad.length<=1000):QS x q:=⟨al.kq.g.i,by have:=al.lens;omega,λe a=>by
 obtain⟨b,d,_,_⟩:=al.kq.k e a;have h:e.1=b.1/\gJ b:=al.kq.g.i _ (YT d);have p:=h.1;have j:=h.2.z;have u:=h.2.base;have A:=h.2.t;have r:=h.2.m;have w:=h.2.s;have y:=YA (n:=b.2.1) O;unfold jB;omega,by rw[al.rs];have:=al.ql hi;simp;omega⟩
theorem EW {addr:Int}(hm:bS x.kn addr=some b)(h:mW H x q thread addr=0):ZI H thread=0/\addr∉q.q.map (·.1):=by
 unfold mW at h;by_cases h1:ZI H thread=0
 .refine⟨h1,λa=>?_⟩;rw[zB (by rw[h1];decide),zC a]at h;cases h
 .rw[zC h1]at h;exact absurd h h1
theorem AQ.out (al:AQ bl by' H x q ad fd)(hi:HI H held s0)(cf:iQ H)(qi:nW q){e:Int}{add del:Option Int}(o:jM H x q d a H' x' q' e add del):AQ bl by' H' x' q' (ad++add.toList) (fd++del.toList)/\x'.no<=x.no+1:=by
 have C:ad++Option.toList (none:Option Int)=ad:=by simp
 have G:fd++Option.toList (none:Option Int)=fd:=by simp
 have g:=al.kq.g;cases o with
 | same e j=>rw[C,G];exact⟨al,O⟩
 | full hk hgk hne hw op hl=>
  rw[C,G];obtain⟨s,J⟩:=g.same hi op hl;obtain⟨r,s1,m⟩:=op.hi;exact⟨⟨al.kq.step hi m s λe j _=>J e j,al.n0,al.nl,al.rs,al.ov,al.sx,al.wz,by rw[op.kp.2.1];exact al.th,al.bb⟩,O⟩
 | dK hk gr hw op=>
  rename_i b H1;rw[G];obtain⟨r,s1,m⟩:=op.hi;obtain⟨s,gk,V,_,_⟩:=g.dK hi gr op m;have Q:(x.dK b).no=x.no+1:=rfl;have L:∃s2,HI {H1 with sp:=jK H1.sp b} r s2:=by
   obtain⟨s2,P⟩:=HI.iK jA (Zk b) m;exact HI.iK (λ_=>0) (XR b) P
  obtain⟨s2,S⟩:=L;refine⟨⟨al.kq.step hi S s λe j _=>V e j,by have:=al.n0;omega,?_,al.rs,al.ov,al.sx,?_,by show 1<=H1.cf.threads;rw[op.kp.2.1];exact al.th,al.bb⟩,O⟩
  .rw[Q,zM];have:=al.nl;simp;omega
  .rw[gk,zM,zM];have:=al.wz;simp;omega
 | ma hk K hf ov=>
  rename_i b;rw[C];obtain⟨y,B⟩:=EW K hf;have D:=YT K;obtain⟨s,J,V⟩:=g.FM hi D;obtain⟨s1,E⟩:∃s1,HI (dQ H b) held s1:=HI.iK _ _ hi;have M:KQ W0 (dQ H b) x (q.q++[(a,b.2.1)]):=by
   have k0:=al.kq.step hi E s λe j z=>J e j λh=>B (h▸z);refine⟨s,λe j=>?_,?_⟩
   .rcases zJ.1 j with j|j
    .exact k0.k e j
    .rw[zN]at j;subst j;exact⟨b,K,rfl,V⟩
   .rw[zj,m9];refine⟨al.kq.nd,by simp,λu hu c hc=>?_⟩;simp only[zR,oC,zN]at hc;subst hc;exact λh=>B (h▸hu)
  have F:ZI (dQ H b) d.th=0:=y;obtain⟨st,U⟩:=ov.st M E cf F;obtain⟨l,h1,P,X⟩:=st.sf;have A:=st.kn;simp only[zM,sC]at A;refine⟨⟨st.kq,by rw[st.no];exact al.n0,by rw[st.no];exact al.nl,?_,U,?_,?_,?_,⟨st.bb.1.trans al.bb.1,st.bb.2.trans al.bb.2⟩⟩,by rw[st.no];omega⟩
  .rw[X,FL,kG];exact al.rs
  .obtain⟨l2,h4⟩:=al.sx;refine⟨l2++l.map (·.1),?_⟩;rw[h4,zl,zl,←zj,←h1];simp
  .have:=al.wz;simp only[ru,zM,sC];omega
  .rw[st.kp.2.1];exact al.th
 | drain hk y dr=>
  rw[C,G];obtain⟨st,w⟩:=dr.st al.kq hi cf y;obtain⟨l,h1,P,X⟩:=st.sf;have A:=st.kn;have Z:=al.lens;refine⟨⟨st.kq,by rw[st.no];exact al.n0,by rw[st.no];exact al.nl,?_,?_,⟨fd,by rw[w];simp⟩,?_,?_,⟨st.bb.1.trans al.bb.1,st.bb.2.trans al.bb.2⟩⟩,by rw[st.no];omega⟩
  .rw[X,FL,kG];exact al.rs
  .have W:=st.bb.1;have Y:=st.bb.2;have:=qi.bl;have:=qi.by';unfold Ho;rw[w,As];exact⟨zL (by rw[W];simp;omega),zL (by rw[Y];simp[iF];omega)⟩
  .have:=al.wz;omega
  .rw[st.kp.2.1];exact al.th
 | wrote hk ht wd=>
  rw[C,G];rcases wd with⟨h,_⟩|⟨k,hk,hin,h8,_⟩
  .cases h
  .have R:=g.i k hk;obtain⟨i1,i2⟩:=hin;have hz:a∈XR k.2:=dS.jx R.2 i1 i2 h8;obtain⟨s,J,_⟩:=g.write hi hk hz (v:=d.va);obtain⟨s1,m⟩:∃s1,HI {H with sp:=ZJ H.sp a d.va} held s1:=HI.iK (λ_=>d.va) [a] hi;refine⟨⟨al.kq.step hi m s λe j z=>J e j λh=>?_,al.n0,al.nl,al.rs,al.ov,al.sx,al.wz,al.th,al.bb⟩,O⟩;subst h;obtain⟨p,hp,N⟩:=zE.1 z;have K:bS x.kn p.1=some e.2:=by rw[N];exact Qd g.nd (show(e.1,e.2)∈x.kn from j)
   have:UI x q a=true:=by
    unfold UI;rw[zy];exact⟨p,hp,by rw[K];exact zI hz⟩
   rw[ht]at this;cases this
theorem AQ.ready (al:AQ bl by' H x q ad fd):ZI H 0=0:=by
 have b:=al.th;unfold ZI;rw[zB O,UX];have a:(if 0<=(0:Int)/\(0:Int)<(H.bR.length:Int)then fG H (0:Int).toNat else none)=none:=by
  split
  .exact al.kq.g.ph _
  .rfl
 rw[a];rfl
end Go.Ar
namespace Go.Ar
open Go Go.Vc Go.Proofs
open Go.Vc (bS cX cO)
variable {thread:Int}{U σ0 v w w':Hp}{F P Q X T Tc:Rg}{L:dE}{H H' H1:Hw}{held:List Pc}{s0 sp:Sp}{t n:Nat}{gb km fm m pp:Nat}{x y x':Gu}{b:B5}{qb:Nat}{Qq Qr:Rg}{qs rs:Sl}{q q':Qu}
theorem gG.uT {e:P2}{r:List P2}{H2:Hw}{e2:Int}(hq:q.q=e::r)(hm:bS x.kn e.1=some b)(hck:k5 H x e.1=0)(hfr:lY H x thread e.1 false=0)(hw:KO (dQ H b) thread 1 0 0 b.2.2.1 H2 0 e2)(h:gG thread H x q H' x' q') :
 H'=H2/\x'=x.gone e.1/\q'=⟨q.bl,q.by',r,if Ku H b=[]then q.rs else q.rs++[(e.1,lF (Ku H b))]⟩:=by
 cases h with
 | none h1 h2=>
  rw[hq]at h1;cases h1;rcases h2 with h2|h2
  .rw[hm]at h2;cases h2
  .exact absurd hck h2
 | stay h1 h2 h3 h4=>
  rw[hq]at h1;cases h1;exact absurd hfr h4
 | free h1 h2 h3 h4 hw'=>
  rw[hq]at h1;cases h1;rw[hm]at h2;cases h2;exact⟨(hw'.wQ hw).1,rfl,rfl⟩
theorem iL.mo (h:iL thread H x q H' x' q')(ho:Ho q=false):H'=H/\x'=x/\q'=q:=by
 cases h with
 | stop _=>exact⟨rfl,rfl,rfl⟩
 | next h _ _=>rw[ho]at h;cases h
theorem iL.nh (h:iL thread H x q H' x' q')(ho:Ho q=true):∃H1 x1 q1,gG thread H x q H1 x1 q1/\iL thread H1 x1 q1 H' x' q':=by
 cases h with
 | stop h=>rw[ho]at h;cases h
 | next _ h1 h2=>exact⟨_,_,_,h1,h2⟩
theorem iA.mo (h:iA thread H x q H' x' q')(ho:q.q=[]):H'=H/\x'=x/\q'=q:=by
 cases h with
 | stop _=>exact⟨rfl,rfl,rfl⟩
 | next h _=>obtain⟨_,_,_,_,e,a⟩:=h.len;rw[ho]at a;cases a
theorem iA.nh (h:iA thread H x q H' x' q')(ho:q.q≠[]):∃H1 x1 q1,gG thread H x q H1 x1 q1/\iA thread H1 x1 q1 H' x' q':=by
 cases h with
 | stop h=>exact absurd h ho
 | next h1 h2=>exact⟨_,_,_,h1,h2⟩
theorem Gf {H:Hw}{th kind size align addr:Int}{k:Hw×Int×Int}{r:Int×Int}(hk:k=(UN H th kind size align addr).getD (w0,0,99))(h2:k.2=r)(hr:r≠(0,99)):KO H th kind size align addr k.1 r.1 r.2:=by
 subst hk;cases hw:UN H th kind size align addr with
 | none=>rw[hw]at h2;exact absurd h2.symm hr
 | some s=>
  rw[hw]at h2;have:=FF hw;have e1:s.2=r:=h2;rw[←e1];exact this
def bB:B5:=(4176,24,4160,64,2)
def cB:B5:=(4240,24,4224,64,3)
def k2:Hw×Int×Int:=(UN vF 0 0 56 16 0).getD (w0,0,99)
def xQ:Hw:={k2.1 with sp:=jK k2.1.sp bB}
def k3:Hw×Int×Int:=(UN xQ 0 0 56 16 0).getD (w0,0,99)
def ua:Hw:={k3.1 with sp:=jK k3.1.sp cB}
def Tt:Gu:=gX.dK bB
def kX:Gu:=Tt.dK cB
def uy:Hw:=dQ ua gB
def sE:Hw:=dQ uy bB
def sI:Hw:=dQ sE cB
def k4:Hw×Int×Int:=(UN (dQ sI gB) 0 1 0 0 4096).getD (w0,0,99)
def rk:Hw:={k4.1 with sp:=ZJ k4.1.sp 4176 3}
def k6:Hw×Int×Int:=(UN (dQ rk bB) 0 1 0 0 4160).getD (w0,0,99)
def k7:Hw×Int×Int:=(UN (dQ k6.1 cB) 0 1 0 0 4224).getD (w0,0,99)
theorem xM:k2.2=(4160,0)/\Kl k2.1 4160=some 64:=by decide +kernel
theorem wP:k3.2=(4224,0)/\Kl k3.1 4224=some 64:=by decide +kernel
abbrev q0:Qu:=⟨2,1000,[],[]⟩
abbrev q1:Qu:=⟨2,1000,[(4112,24)],[]⟩
abbrev q2:Qu:=⟨2,1000,[(4112,24),(4176,24)],[]⟩
abbrev q3:Qu:=⟨2,1000,[(4112,24),(4176,24),(4240,24)],[]⟩
abbrev q4:Qu:=⟨2,1000,[(4176,24),(4240,24)],[]⟩
theorem Es:mW ua kX q0 0 4112=0:=by decide +kernel
theorem Db:mW uy kX q1 0 4176=0:=by decide +kernel
theorem oW:mW sE kX q2 0 4112=9/\mW sE kX q2 0 4240=0/\UI kX q2 4112=true:=by decide +kernel
theorem py:k5 sI kX 4112=0/\lY sI kX 0 4112 false=0/\Ku sI gB=[]/\k4.2=(0,0):=by decide +kernel
abbrev wk:Gu:=kX.gone 4112
theorem Ev:eP k4.1.sp 4176=0:=by decide +kernel
theorem pU:ZI rk 0=0/\k5 rk wk 4176=0/\lY rk wk 0 4176 false=0/\Ku rk bB=[4176]/\k6.2=(0,0):=by decide +kernel
abbrev DQ:Gu:=wk.gone 4176
theorem se:k5 k6.1 DQ 4240=0/\lY k6.1 DQ 0 4240 false=0/\Ku k6.1 cB=[]/\k7.2=(0,0):=by decide +kernel
theorem DI:kX.kn=[(4112,gB),(4176,bB),(4240,cB)]:=by decide +kernel
theorem xK:∀e∈kX.kn,e.1=e.2.1/\gJ e.2:=λe a=>by
 rw[DI]at a;simp only[zW,yR,or_false]at a;rcases a with rfl|rfl|rfl<;>exact⟨rfl,⟨by decide,by decide⟩,⟨by decide,by decide⟩,⟨by decide,by decide,by decide⟩,⟨by decide,by decide⟩,by decide⟩
theorem pM {q:Qu}(h1:∀e∈q.q,0<=e.1/\e.1<=5000)(h2:q.rs.length+q.q.length<=9000):QS kX q:=⟨xK,by rw[DI];decide,λe a=>by have:=h1 e a;exact⟨O,O⟩,h2⟩
theorem Ny {q:Qu}(h1:∀e∈q.q,0<=e.1/\e.1<=5000)(h2:q.rs.length+q.q.length<=9000):QS wk q:=⟨λe a=>xK e (zK.1 (show e∈cO kX.kn 4112 from a)).1,kD (pI _ _) (by rw[DI];decide),λe a=>by have:=h1 e a;exact⟨O,O⟩,h2⟩
theorem sk:bS kX.kn 4112=some gB/\bS kX.kn 4176=some bB/\bS kX.kn 4240=some cB:=by decide +kernel
theorem OT:bS wk.kn 4176=some bB:=by decide +kernel
theorem MM:bS DQ.kn 4240=some cB:=by decide +kernel
attribute [local irreducible] w0 gm vF k2 xQ k3 ua uy sE sI k4 rk k6 k7
theorem Ο:vF = {gm.1 with sp:=jK gm.1.sp gB}:=by unfold vF;rfl
theorem PF:xQ = {k2.1 with sp:=jK k2.1.sp bB}:=by unfold xQ;rfl
theorem ω:ua = {k3.1 with sp:=jK k3.1.sp cB}:=by unfold ua;rfl
theorem Mu:uy=dQ ua gB:=by unfold uy;rfl
theorem OP:sE=dQ uy bB:=by unfold sE;rfl
theorem MV:sI=dQ sE cB:=by unfold sI;rfl
theorem Sz:rk = {k4.1 with sp:=ZJ k4.1.sp 4176 3}:=by unfold rk;rfl
theorem Cz:KO vF 0 0 56 16 0 k2.1 4160 0:=Gf (by unfold k2;rfl) xM.1 aB
theorem DM:KO xQ 0 0 56 16 0 k3.1 4224 0:=Gf (by unfold k3;rfl) wP.1 aB
theorem Ch:KO (dQ sI gB) 0 1 0 0 4096 k4.1 0 0:=Gf (by unfold k4;rfl) py.2.2.2 aB
theorem By:KO (dQ rk bB) 0 1 0 0 4160 k6.1 0 0:=Gf (by unfold k6;rfl) pU.2.2.2.2 aB
theorem B6:KO (dQ k6.1 cB) 0 1 0 0 4224 k7.1 0 0:=Gf (by unfold k7;rfl) se.2.2.2 aB
theorem qM (o:QP σ0 U L H held s0 P gb km fm x qb Qq Qr qs rs q)(gc:Gc σ0)(hno:0<=x.no/\x.no<=100000){b:B5}{H1:Hw}(hw:KO H 0 0 56 16 0 H1 b.2.2.1 0)(hu:Kl H1 b.2.2.1=some b.2.2.2.1)(hb:b.1=b.2.2.1+16/\b.2.1=24/\b.2.2.2.2=x.no+1){R:Int->Int->Hp->Prop}
 (hR:∀w,QO σ0 U w L.p gb km fm qb (kA P gb km fm qb Qq Qr) {H1 with sp:=jK H1.sp b} (x.dK b) q->R b.1 0 w):Wp.c (aW qb) 0 24 8 U R:=by
 refine Gp o gc hno 0 24 8 (λw z=>absurd z aB) (λe w H' _ m d=>?_) λc w H2 j d op A=>?_
 .exact absurd (d.wQ hw).2.2 m
 .obtain⟨rfl,g,_⟩:=d.wQ hw;have y:c=b:=by
   have i:=j.u;rw[g,hu]at i;have r:=j.a;rw[g]at r;exact Prod.ext (r.trans hb.1.symm) (Prod.ext (j.s.trans hb.2.1.symm) (Prod.ext g (Prod.ext (Option.some.inj i).symm (j.n.trans hb.2.2.symm))))
  subst y;exact hR w A
set_option maxRecDepth 16000 in
theorem GC (gl:Gl U)(gc:Gc U){R:aO}(hR:∀σ',aF U σ'->R true σ'):XA.c U R:=by
 refine XA.o ?_;unfold XA.v;refine Tm gl gc.gd λv L N e hsN hNv h0=>cD rfl ?_;have hn:=Tf;have hc0:w0.cf.aG=64:=by have:=hn.pg;omega
 refine IS e h0.cut hn.hi hn.cf O (λb hb=>⟨by have:N<=b:=hb.1;omega,hb.2⟩) (CE gl gc.gd) λw gb km Z e1 _ p=>?_;refine E7 p 2 1000 (λh=>absurd h aB) λ_ w1 e2 o=>?_;generalize w.size=qb at o;refine bX.intro (cD rfl (cD rfl ?_));refine qM (b:=gB) o gc ⟨by decide,by decide⟩ CW Et ⟨by decide,by decide,by decide⟩ λw2 a=>?_;obtain⟨L1,held1,s1,P1,Qq1,Qr1,qs1,rs1,o1,hp1, -, -⟩:=a;rw[←Ο]at o1;refine qM (b:=bB) o1 gc ⟨by decide,by decide⟩ Cz xM.2 ⟨by decide,by decide,by decide⟩ λw3 a=>?_;obtain⟨L2,held2,s2,P2,Qq2,Qr2,qs2,rs2,o2,ko, -, -⟩:=a;rw[←PF]at o2;refine qM (b:=cB) o2 gc ⟨by decide,by decide⟩ DM wP.2 ⟨by decide,by decide,by decide⟩ λw4 a=>?_;obtain⟨L3,u,s3,P3,Qq3,Qr3,qs3,rs3,o3,hp3, -, -⟩:=a;rw[←ω]at o3;have o3:QP U w4 L3 ua u s3 P3 gb km Z kX qb Qq3 Qr3 qs3 rs3 q0:=o3;show Wj.c (aW qb) 0 4112 w4 _;refine HV o3 gc (pM (λe he=>by simp at he) aB) aB aB 0 ⟨by decide,by decide⟩ (λw h=>absurd Es h) λw5 b H1 x1 r g _ m a=>?_;rw[sk.1]at g;cases g;obtain⟨rfl,rfl,rfl⟩:=m.mo aB;obtain⟨L5,s,s5,P5,Qq5,Qr5,qs5,rs5,o5,hp5, -, -⟩:=a;rw[←Mu]at o5;have o5:QP U w5 L5 uy s s5 P5 gb km Z kX qb Qq5 Qr5 qs5 rs5 q1:=o5;refine bX.intro (cD rfl ?_);show Wj.c (aW qb) 0 4176 w5 _;refine HV o5 gc (pM aB aB) aB aB 0 ⟨by decide,by decide⟩ (λw h=>absurd Db h) λw6 b H1 x1 r g _ m a=>?_;rw[sk.2.1]at g;cases g;obtain⟨rfl,rfl,rfl⟩:=m.mo aB;obtain⟨L6,x,s6,P6,Qq6,Qr6,qs6,rs6,o6,hp6, -, -⟩:=a;rw[←OP]at o6;have o6:QP U w6 L6 sE x s6 P6 gb km Z kX qb Qq6 Qr6 qs6 rs6 q2:=o6;refine bX.intro (cD rfl ?_);refine AF o6 λsl w7 Q7 e7 hs7 hQ7=>?_;have o7:=o6.fr e7;refine nw (cs:=[.int .i64 4112,.int .i64 4176]) λw8 hz8 e8 b8=>?_;have o8:=o7.fr e8;have hs8:=aI.bP hs7 e8;have ht8:cV ⟨some ⟨w7.size,0,none⟩,2,2⟩ 1 (Wu [4112,4176]) w8 (· = w7.size):=b8.fY rfl rfl λj hj=>by rw[zH];rfl
 refine Du (bU.fY hs8) ht8 aB ?_;refine bX.intro (cD aB ?_);refine Ik o8 λw9 e9=>?_;have o9:=o8.fr e9;refine bX.intro (cD aB ?_);show Wj.c (aW qb) 0 4112 w9 _;refine HV o9 gc (pM aB aB) aB aB 0 ⟨by decide,by decide⟩ (λw10 _ e10=>?_) λw b H1 x1 r g h=>by rw[oW.1]at h;exact absurd h aB
 rw[oW.1];have gE:=o9.fr e10;refine cD aB ?_;show WG.c (aW qb) 4112 w10 _;refine Iq gE (pM aB aB) 4112 aB (λw11 _ e11=>?_) (λe w h=>by rw[oW.2.2]at h;cases h) λw h=>by rw[oW.2.2]at h;cases h
 have o11:=gE.fr e11;refine bX.intro (cD aB ?_);show Wj.c (aW qb) 0 4240 w11 _;refine HV o11 gc (pM aB aB) aB aB 0 ⟨by decide,by decide⟩ (λw h=>absurd oW.2.1 h) λw12 b H1 x1 r g _ m a=>?_;rw[sk.2.2]at g;cases g;rw[←MV]at m;obtain⟨H2,x2,q2',fr,m⟩:=m.nh aB;obtain⟨rfl,rfl,rfl⟩:=fr.uT (b:=gB) rfl sk.1 py.1 py.2.1 Ch;obtain⟨rfl,rfl,rfl⟩:=m.mo (by rw[zC py.2.2.1];decide);rw[zC py.2.2.1]at a;obtain⟨L12,i,s12,P12,Qq12,Qr12,C,K,d,D, -, -⟩:=a;have d:QP U w12 L12 k4.1 i s12 P12 gb km Z wk qb Qq12 Qr12 C K q4:=d;refine bX.intro (cD rfl ?_);refine AF d λsl P Q13 e13 S hQ13=>?_;have o13:=d.fr e13;refine nw (cs:=[.int .i64 4176,.int .i64 4240]) λw14 hz14 F b14=>?_;have X:=o13.fr F;have E:=aI.bP S F;have M:cV ⟨some ⟨P.size,0,none⟩,2,2⟩ 1 (Wu [4176,4240]) w14 (· = P.size):=b14.fY rfl rfl λj hj=>by rw[zH];rfl
 refine Du (bU.fY E) M aB ?_;refine bX.intro (cD aB ?_);have hp:L.p=L12.p:=by rw[D,hp6,hp5,hp3,ko,hp1]
 rw[hp];refine X.p.write gc 4176 3 aB λw15 s15 P15 e15 p15 B=>?_;have Q:=X.eX (e15.sub λc hc=>.inl hc) p15 B;rw[Ev];rw[←Sz]at Q;refine cD aB ?_;refine Df Q gc (Ny aB aB) 0 (λw h=>absurd pU.1 h) λw16 H3 x3 q3' _ y a=>?_;obtain⟨H4,x4,q4',fr,y⟩:=y.nh aA;obtain⟨rfl,rfl,rfl⟩:=fr.uT (b:=bB) rfl OT pU.2.1 pU.2.2.1 By;rw[pU.2.2.2.1]at y;obtain⟨H5,x5,q5',fr,y⟩:=y.nh aA;obtain⟨rfl,rfl,rfl⟩:=fr.uT (b:=cB) rfl MM se.1 se.2.1 B6;rw[zC se.2.2.1]at y;obtain⟨rfl,rfl,rfl⟩:=y.mo rfl;obtain⟨L16,Y,Tq,P16,Qq16,Qr16,qs16,rs16,G,hp16, -, -⟩:=a;refine bX.intro (cF aB (bX.intro (cF rfl ?_)));refine Mw G λsl z Q17 e17 J hQ17=>?_;have o17:=G.fr e17;refine nw (cs:=[.int .i64 4176,.int .i64 4176]) λA hz18 H b18=>?_;have o18:=o17.fr H;have V:=aI.bP J H;have W:cV ⟨some ⟨z.size,0,none⟩,1,1⟩ 2 (gP [(4176,4176)]) A (· = z.size):=b18.fY rfl rfl λj hj=>by rw[zH];rfl
 refine OX (bU.fY V) W aB (λ_=>?_) rfl;exact hR A o18.p.e
end Go.Ar
namespace Go.Ar
open Go Go.Vc Go.Proofs
open Go.Vc (bS cX cO)
variable {thread:Int}{U σ0 v w w':Hp}{F P Q X T T' Tc Qa Qf:Rg}{L:dE}{H H' H1:Hw}{held:List Pc}{s0 sp:Sp}{t n:Nat}{gb km fm m pp xb:Nat}{x y x':Gu}{b:B5}{qb:Nat}{Qq Qr:Rg}{qs rs addrs fl l:Sl}{ad fd:List Int}{q q':Qu}{ds:List eZ}{bl by':Int}
set_option maxRecDepth 8000 in
theorem Nm (e00:aF σ0 U)(gl:Gl σ0)(gc:Gc σ0)(b b1 b2 b3 b4 b5 WW bytes:Int){R:Option Addr->Hp->Prop}(h0:∀σ',aF U σ'->R none σ')
 (h1:∀σ' xb pp gb km fm qb T H x q addrs fl,OQ σ0 σ' xb pp gb km fm qb T (λ_=>False) (λ_=>False) H x q addrs [] fl []->AQ WW bytes H x q [] []->x.no=0->q.q=[]->aF U σ'->R (some ⟨xb,0,none⟩) σ'):Yb.c b b1 b2 b3 b4 b5 WW bytes U R:=by
 refine Yb.o ?_;unfold Yb.v;refine nw (cs:=[.int .i64 b,.int .i64 b1,.int .i64 b2,.int .i64 b3,.int .i64 b4,.int .i64 b5]) λv Z e a=>a.rI rfl (a.rI rfl (a.rI rfl (a.rI rfl (a.rI rfl (a.rI rfl (Xb.o ?_))))));unfold Xb.v;refine nw (cs:=[.int .i64 b,.int .i64 b1,.int .i64 b2,.int .i64 b3,.int .i64 b4,.int .i64 b5]) λL D e1 z=>z.fE rfl ?_;have d:=e.trans e1;have i:=e1.bV a id;refine cN (λ_=>h0 L d) λE=>?_;refine i.rI rfl (i.rI rfl (i.rI rfl (i.rI rfl (i.rI rfl (i.rI rfl ?_)))));refine Tl (gl.bP (e00.trans d)) (gc.bP (e00.trans d)).gd b b1 b2 b3 b4 b5 (λB e2=>cF rfl (h0 B (d.trans e2))) λB L0 N H0 e2 G K W m=>cD rfl ?_;have s:=(e00.trans d).trans e2;have M:=(e00.trans d).1;refine IS s W.cut m.hi m.cf (by have:=m.pg;omega) (λb a=>⟨by have:N<=b:=a.1;omega,a.2⟩) (CE gl gc.gd) λw gb km fm P hm p=>?_;have E3:=(d.trans e2).trans (p.e.trans (Ext.refl _ _) |> λ_=>P);refine E7 p WW bytes (λ_=>bX.intro (cF rfl (cF rfl (h0 w E3)))) λV Y Q o=>bX.intro (cD rfl (cD rfl ?_));generalize hqb:w.size=qb at o;refine nw (cs:=AT L0.p qb ⟨none,0,0⟩ ⟨none,0,0⟩) λA J C u=>?_;have o5:=o.fr C;have X:QB σ0 A L0.p gb km fm qb _ H0 pn ⟨WW,bytes,[],[]⟩:=⟨L0,_,_,_,_,_,_,_,o5,rfl,rfl⟩;have y:=o.p.e.1;have S:dS H0 pn:=⟨by rw[m.live];rfl,λe r=>by simp[pn]at r,λj=>by
  unfold fG;cases hj:H0.bR[j]? with
  | none=>rfl
  | some g=>exact m.ph g (zG hj),λe r=>by simp[pn]at r,by simp[pn]⟩
 refine h1 A Y.size L0.p gb km fm qb _ H0 pn ⟨WW,bytes,[],[]⟩ _ _ ⟨X,u,⟨rfl,.inl ⟨rfl,rfl⟩⟩,⟨rfl,.inl ⟨rfl,rfl⟩⟩,⟨y,λF=>?_,id,id⟩,λb a=>a.elim,λb a=>a.elim,λb a=>a.elim⟩ ⟨⟨S,λe r=>by simp at r,by simp⟩,by simp[pn],by simp[pn],rfl,?_,⟨[],rfl⟩,rfl,m.th,rfl,rfl⟩ rfl rfl ((E3.trans Q).trans C)
 .have:=JB o F;omega
 .unfold Ho;rw[As];exact⟨zL aE,zL (by simp[iF];omega)⟩
structure PQ (σ0 U:Hp) (WW bytes:Int) (n:Nat) (xb pp gb km fm qb:Nat) (T Qa Qf:Rg) (H:Hw) (x:Gu) (q:Qu) (addrs:Sl) (ad:List Int) (fl:Sl) (fd:List Int):Prop where
 o:OQ σ0 U xb pp gb km fm qb T Qa Qf H x q addrs ad fl fd
 al:AQ WW bytes H x q ad fd
 no:x.no<=n
 fn:fd.length<=n
theorem PQ.BB (p:PQ σ0 U bl by' n xb pp gb km fm qb T Qa Qf H x q addrs ad fl fd)(hn:n<=1000):QS x q:=p.al.qs p.o.p.qi (by have:=p.al.nl;have:=p.no;omega)
theorem PQ.Px (p:PQ σ0 U bl by' n xb pp gb km fm qb T Qa Qf H x q addrs ad fl fd)(gc:Gc σ0)(hn:n<=900)(d:eZ)(di:kY d){R:aN}
 (hR:∀e w T' H' x' q' Qa' Qf' addrs' fl' add del,PQ σ0 w bl by' (n+1) xb pp gb km fm qb T' Qa' Qf' H' x' q' addrs' (ad++Option.toList add) fl' (fd++Option.toList del)->jM H x q d (sJ ad d) H' x' q' e add del->Ext (qC T xb Qa Qf) U w->(∀b,qC T' xb Qa' Qf' b->qC T xb Qa Qf b\/U.size<=b)->R e w) :
 Xo.c (aW xb) d.kd d.th d.a d.b d.of d.pl d.va d.s U R:=by
 have n0:=p.al.n0;have nl:=p.al.nl;have z:=p.no;have r:=p.fn;have m:=p.al.ql p.o.p.qi;refine NH p.o gc (p.BB O) ⟨n0,O⟩ O (by rw[p.al.rs,lh];omega) O O d di λe w T' H' x' q' Qa' Qf' addrs' fl' add del u out y A=>?_;obtain⟨j,s0,hi⟩:=p.o.p.hi;obtain⟨g,i⟩:=p.al.out hi p.o.p.cf p.o.p.qi out;refine hR e w T' H' x' q' Qa' Qf' addrs' fl' add del ⟨u,g,O,?_⟩ out y A;rw[zM];cases del<;>simp<;>omega
theorem PQ.mono {k:Nat}(p:PQ σ0 U bl by' n xb pp gb km fm qb T Qa Qf H x q addrs ad fl fd)(h:n<=k):PQ σ0 U bl by' k xb pp gb km fm qb T Qa Qf H x q addrs ad fl fd:=⟨p.o,p.al,by have:=p.no;omega,by have:=p.fn;omega⟩
set_option maxRecDepth 8000 in
theorem RN (gl:Gl U)(gc:Gc U)(b b1 b2 b3 b4 b5 WW bytes:Int)(hd:jg U l ds)(most:Int)(hmost:most<=60){R:Option Addr->Hp->Prop}(h0:∀σ',aF U σ'->R none σ')
 (h1:∀σ' xb pp gb km fm qb T Qa Qf H x q addrs ad fl fd,PQ U σ' WW bytes 60 xb pp gb km fm qb T Qa Qf H x q addrs ad fl fd->R (some ⟨xb,0,none⟩) σ'):Yd.c b b1 b2 b3 b4 b5 WW bytes l most U R:=by
 refine Yd.o ?_;unfold Yd.v;have Z:=hd.len;have C:=hd.ya;refine nw (cs:=[.int .i64 b,.int .i64 b1,.int .i64 b2,.int .i64 b3,.int .i64 b4,.int .i64 b5]) λv Y e s=>IN (cN (λ_=>h0 v e) λM=>?_);refine s.rI rfl (s.rI rfl (s.rI rfl (s.rI rfl (s.rI rfl (s.rI rfl ?_)))));refine Nm (σ0:=U) e gl gc b b1 b2 b3 b4 b5 WW bytes (λB e1=>cF rfl (h0 B (e.trans e1))) λB xb pp gb km fm qb T H x q addrs fl o K G N e1=>cD rfl ?_;refine Qg (a:=bO) (λ(z:Int) u=>∃(i:Nat) (T Qa Qf:Rg) (H:Hw) (x:Gu) (q:Qu) (addrs:Sl) (ad:List Int) (fl:Sl) (fd:List Int),z=i/\i<=ds.length/\PQ U u WW bytes i xb pp gb km fm qb T Qa Qf H x q addrs ad fl fd) (λz _=>ds.length-z.toNat)
  ⟨0,T,_,_,H,x,q,addrs,[],fl,[],rfl,O,⟨o,K,O,by simp⟩⟩ ?_
 rintro(z:Int) u ⟨i,T,Qa,Qf,H,x,q,addrs,ad,fl,fd,rfl,hi,p⟩;have g:=p.o.p.e;refine cN (λD=>?_) λF=>h1 u xb pp gb km fm qb T Qa Qf H x q addrs ad fl fd (p.mono O);have A:ds[i]?=some (ds[i]' O):=cW _;generalize (ds[i]' O)=d at A;have y:=hd.i _ (zG A);refine hd.rd g A λW Q r=>eA (r _ g 0 _ rfl) (eA (r _ g 1 _ rfl) (eA (r _ g 2 _ rfl) (eA (r _ g 3 _ rfl) (eA (r _ g 4 _ rfl) (eA (r _ g 5 _ rfl) (eA (r _ g 6 _ rfl) (Ci (r _ g 7 _ rfl) ?_)))))));exact p.Px gc O d y λV P T' H' J L Qa' Qf' j w add del E out X S=>cT (m:=i+1) O O ⟨⟨i+1,T',Qa',Qf',H',J,L,j,_,w,_,rfl,O,E⟩,O⟩
end Go.Ar
namespace Go.Proofs
open Go.Vc
set_option maxRecDepth 100000
end Go.Proofs
namespace Go.Ar
open Go Go.Vc Go.Proofs
open Go.Vc (bS cX cO)
variable {thread a bl by':Int}{U σ0 v w w':Hp}{F P Q X T T' Tc Qa Qf:Rg}{L:dE}{H H' H1:Hw}{held:List Pc}{s0 sp:Sp}{t n:Nat}{gb km fm m pp xb:Nat}{x y x':Gu}{b:B5}{qb:Nat}{Qq Qr:Rg}{qs rs addrs fl l:Sl}{ad fd:List Int}{q q':Qu}{ds:List eZ}
theorem KQ.free (kq:KQ W0 H x q.q)(hi:HI H held s0)(cf:iQ H)(hm:bS x.kn a=some b)(hf:mW H x q thread a=0)(ov:iL thread (dQ H b) x {q with q:=q.q++[(a,b.2.1)]} H' x' q') :
 ox W0 thread (dQ H b) x {q with q:=q.q++[(a,b.2.1)]} H' x' q'/\Ho q'=false/\∀e∈x.kn,e.1≠a->Kept H x (dQ H b) x e:=by
 obtain⟨p,j⟩:=EW hm hf;have m:=YT hm;obtain⟨y,A,C⟩:=kq.g.FM hi m;obtain⟨s1,i⟩:∃s1,HI (dQ H b) held s1:=HI.iK _ _ hi;have r:KQ W0 (dQ H b) x (q.q++[(a,b.2.1)]):=by
  have D:=kq.step hi i y λe d w=>A e d λh=>j (h▸w);refine⟨y,λe d=>?_,?_⟩
  .rcases zJ.1 d with d|d
   .exact D.k e d
   .rw[zN]at d;subst d;exact⟨b,hm,rfl,C⟩
  .rw[zj,m9];refine⟨kq.nd,by simp,λu B c z=>?_⟩;simp only[zR,oC,zN]at z;subst z;exact λh=>j (h▸B)
 obtain⟨st,s⟩:=ov.st r i cf p;exact⟨st,s,A⟩
theorem KQ.mW {lq:List P2}(kq:KQ W0 H x lq)(hi:HI H held s0)(hrd:ZI H thread=0)(hm:(a,b)∈x.kn)(hnq:a∉q.q.map (·.1)):mW H x q thread a=0:=by
 unfold Go.Ar.mW;rw[zB (by rw[hrd];decide),zB hnq,Qd kq.g.nd hm];simp only;rw[kq.g.lost hi hm,kq.g.broken hi hm];rfl
theorem KQ.BB (kq:KQ W0 H x q.q)(hk:x.kn.length<=1000)(hr:q.rs.length+q.q.length<=9000):QS x q:=⟨kq.g.i,O,λe a=>by
 obtain⟨b,d,_,_⟩:=kq.k e a;have h:e.1=b.1/\gJ b:=kq.g.i _ (YT d);have p:=h.1;have j:=h.2.z;have u:=h.2.base;have A:=h.2.t;have r:=h.2.m;have w:=h.2.s;have y:=YA (n:=b.2.1) O;unfold jB;omega,hr⟩
theorem PQ.drain (p:PQ σ0 U bl by' n xb pp gb km fm qb T Qa Qf H x q addrs ad fl fd)(gc:Gc σ0)(hn:n<=900){R:Int->Int->Hp->Prop}
 (hR:∀w T' H' x' q',PQ σ0 w bl by' (n+1) xb pp gb km fm qb T' Qa Qf H' x' q' addrs ad fl fd->iA 0 H x q H' x' q'->q'.q=[]->R (q.q.length:Int) 0 w):WD.c (aW qb) 0 U R:=by
 have b:=p.al.ready;obtain⟨j,F,hi⟩:=p.o.p.hi;have i:=p.o.p.cf;have s:=p.o.p.qi;have J:=p.o.p;have C:=p.BB O;obtain⟨L,u,s0,P,Qq,Qr,qs,M,z,rfl,rfl⟩:=J;refine Df z gc C 0 (λw h=>absurd b h) λw H' x' q' _ r B=>?_;obtain⟨T',y,A,G⟩:=B.tb;obtain⟨g,D⟩:=p.al.out (d:=⟨42,0,0,0,0,0,0,.empty⟩) (a:=0) hi i s (.drain rfl b r);have m:=r.st p.al.kq hi i b;refine hR w T' H' x' q' ⟨p.o.eX A y G,?_,by have:=p.no;omega,by have:=p.fn;omega⟩ r m.2;have K:ad++Option.toList (none:Option Int)=ad:=by simp
 have E:fd++Option.toList (none:Option Int)=fd:=by simp
 rw[K,E]at g;exact g
theorem DC {K:eR [.ad,.i .i64]}{body:eR [.ad,.i .i64]->Prop}(P:Addr->Int->Hp->Prop)(h1:∀r s w,P r s w->K r s w)(h2:∀J:eR [.ad,.i .i64],(∀r s w,P r s w->J r s w)->body J):Jn [.ad,.i .i64] K body:=Jn.intro (h2 K h1)
theorem Su {ty:Nat}{S:aP}(hS:∀u,aF U u->S u){a b c d:Int}{K:Addr->Hp->Prop}(hK:∀w',aF U w'->bY w' U.size (kE (a,b,c,d))->K ⟨U.size,0,none⟩ w'):Nw (.cells #[.int .i64 0,.int .i64 0,.int .i64 0,.int .i64 0] ty (0,0)) U λn v20=>And (S v20)<|dG (n.add 0) (.int .i64 a) v20 λv21=>dG (n.add 1) (.int .i64 b) v21 λv22=>dG (n.add 2) (.int .i64 c) v22 λv23=>dG (n.add 3) (.int .i64 d) v23 λv24=>K n v24:=
 nw (cs:=[.int .i64 0,.int .i64 0,.int .i64 0,.int .i64 0]) λv20 A g m=>⟨hS _ g,m.s1 aA λv21 w z=>z.s1 aA λv22 p j=>j.s1 aA λv23 y s=>s.s1 aA λv24 x r=>
  hK v24 (Ext.fresh g (((w.ext.trans p.ext).trans y.ext).trans x.ext) λi (hi:i=U.size)=>O) r⟩
theorem Ju {u:Hp}{c:Nat}{y0 y1 y2 y3 a0 a1 a2 a3:Int}(e:aF U u)(hc:U.size<=c)(hb:bY u c [.int .i64 y0,.int .i64 y1,.int .i64 y2,.int .i64 y3]){K:aP}(hK:∀w',aF U w'->bY w' c (kE (a0,a1,a2,a3))->K w'):dG (Addr.add ⟨c,0,none⟩ 0) (.int .i64 a0) u λv21=>dG (Addr.add ⟨c,0,none⟩ 1) (.int .i64 a1) v21 λv22=>dG (Addr.add ⟨c,0,none⟩ 2) (.int .i64 a2) v22 λv23=>dG (Addr.add ⟨c,0,none⟩ 3) (.int .i64 a3) v23 K:=
 hb.s1 aA λv21 j s=>s.s1 aA λv22 b a=>a.s1 aA λv23 r g=>g.s1 aA λm p d=>
  hK m (Ext.fresh e (((j.ext.trans b.ext).trans r.ext).trans p.ext) λi (hi:i=c)=>O) d
theorem DX {s:Sl}{xs:List Int}(h:bU s 1 (Wu xs) U Q){i:Nat}{z:Int}(hx:xs[i]?=some z){S:aP}(hS:∀m,S m->aF U m){K:Int->Prop}(hK:K z):Ix s.a s.len (i:Int) 1 λa=>gF S bO a K:=by
 have g:=bU.fY h;have r:=(cY.1 hx).1;have y:s.len=xs.length:=by have:=h.1;simp[Wu]at this;omega
 have u:(Wu xs)[i]?=some (.int .i64 z):=by unfold Wu;rw[zZ,hx];rfl
 obtain⟨b,o,x,d⟩:=g.cell (j:=i) u;have p:b<U.size:=by
  unfold cell at d;split at d
  .rename_i h;exact(jT.1 h).1
  .cases d
 rw[x];refine ix O O ⟨z,λm w=>?_,hK⟩;rw[add_lit,KE (hS m w) p id,show o+(i:Int).toNat*1=o+i by omega];exact d
end Go.Ar
namespace Go.Proofs
open Go.Vc
set_option maxRecDepth 100000
end Go.Proofs
namespace Go.Ar
open Go Go.Vc Go.Proofs
open Go.Vc (bS cX cO)
variable {a bl by':Int}{U σ0 v w w':Hp}{F P Q X T T' Qa Qf:Rg}{H H' H1:Hw}{held:List Pc}{s0 sp:Sp}{x y x':Gu}{b:B5}{l:Sl}{ds:List eZ}{q q':Qu}{n xb pp gb km fm qb:Nat}{addrs fl:Sl}{ad fd:List Int}{d:eZ}{e:Int}{add del:Option Int}
theorem iA.nil {thread:Int}(h:iA thread H x q H' x' q'):q'.q=[]:=by
 induction h with
 | stop h=>exact h
 | next _ _ ih=>exact ih
theorem jM.order (o:jM H x q d a H' x' q' e add del)(h:d.kd≠42)(hd:del=none):q'=q:=by
 cases o with
 | same=>rfl
 | full=>rfl
 | dK=>rfl
 | ma=>cases hd
 | drain hk=>exact absurd hk h
 | wrote=>rfl
end Go.Ar
namespace Go.Proofs
open Go.Vc
set_option maxRecDepth 100000
def WV.h:Hn:=.q .o2 (.q .o6 (.q (.q (.cU (.seq [.op,.op,.op,.cZ false 2 [.op,.op]])) .aJ) (.q .o6 (.q (.q .o1 (.k (.loop [(13,.I)] (.q (.q .o4 (.c .l .l)) (.q (.k (.q .o2 (.kx [(14,.I),(15,.I)] (.q .o6 (.c (.q (.cU (.held true [19] (.tk [0,1,2,3,4,5,6,7,8,9,10,11,12,13,14,15,16,17,18] (.all [(19,.tk [20,21,22,23,24] (.done))])))) (.q .o2 (.c (.oq 8) .l))) (.q (.cU (.held true [19] (.tk [0,1,2,3,4,5,6,7,8,9,10,11,12,13,14,15,16,17,18] (.all [(19,.tk [20,21,22,23,24] (.done))])))) (.q .o2 (.c (.oq 8) .l))))) (.q .o1 (.k (.loop [(20,.I)] (.q (.q .o4 (.c .l .l)) (.q (.k (.q (.cU (.gM true [14] [(21,.one .ad),(22,.I)] (.tk [0,1,2,3,5,6,7,8] (.all [(4,.all [(9,.tk [10,11,12] (.all [(13,.all [(14,.take 15 (.done))])])),(13,.all [(9,.tk [10,11,12] (.all [(14,.take 15 (.done))]))])]),(13,.all [(4,.all [(9,.tk [10,11,12] (.all [(14,.take 15 (.done))]))])])])))) (.q (.cU (.seq [.op,.op,.op,.cZ false 15 [.op,.op,.op,.op,.op,.op,.op,.op,.cZ true 6 (RI.ops 6)]])) .aK))) .o3)))))))) .o3))))) (.q (.cU (.seq [.op,.op,.op,.op,.op,.op,.op,.op,.cZ true 1 [.op],.op])) .l)))))
def WV.v (a b c d e f g h:Int)(i j:Sl)(k:Hp)(l:aO):Prop:=aV #[.I a,.I b,.I c,.I d,.I e,.I f] 25 k λm n=>aQ m 0 n λo=>aQ m 1 n λp=>aQ m 2 n λq=>aQ m 3 n λr=>aQ m 4 n λs=>aQ m 5 n λt=>Yd.c o p q r s t g h i 30 n λu v=>bX (λw x=>If w (XA.c x λy z=>l y z) (bG u 1 x λab=>Wy.c ab x λac ad=>X9 [bO] (λae=>ae 0 ad) λaf (ag:Int) ah=>If (ag<((j.len:Nat):Int)) (Jn [bO,bO] (λ(ai:Int) (aj:Int) ak=>X9 [bO] (λal=>al 0 ak) λam (an:Int) ao=>If (an<((ac.len:Nat):Int)) (Jn [.ad,bO] (λ(ap:Addr) (aq:Int) ar=>bX (λau av=>If au (l false av) (bM (an+1) λaw=>am aw av)) λax=>If (aq != 0) (ax true ar) (aQ ap 2 ar λay=>aQ ap 3 ar λaz=>bM (ay+az) λa0=>bX (λa1 a2=>ax a1 a2) λa3=>If (ai<a0) (aQ ap 2 ar λa4=>bM (ai+aj) λa5=>a3 (decide (a4<a5)) ar) (a3 false ar))) λa6=>dT ao λa7=>bW u λa8=>aU a7 a8 1 λa9=>Ix ac.a ac.len an 1 λba=>gF a7 bO ba λ(bb:Int)=>(Wx.c a9 ao λbc bd=>And (a7 bd) <| (Xa.c bc bb bd λbe bf bg bh bi bj=>And (a7 bj) <| aV #[.I 0,.I 0,.I 0,.I 0] 48 bj λbk bl=>And (a7 bl) <| aR bk 0 (.I be) bl λbm=>aR bk 1 (.I bf) bm λbn=>aR bk 2 (.I bg) bn λbo=>aR bk 3 (.I bh) bo λbp=>a6 bk bi bp) ∧ (aV #[.I 0,.I 0,.I 0,.I 0] 48 bd λbq br=>And (a7 br) <|
 Xa.c bc bb br λbs bt bu bv bw bx=>And (a7 bx) <| aR bq 0 (.I bs) bx λbz=>aR bq 1 (.I bt) bz λb0=>aR bq 2 (.I bu) b0 λb1=>aR bq 3 (.I bv) b1 λb2=>a6 bq bw b2)) ∧ (aV #[.I 0,.I 0,.I 0,.I 0] 48 ao λb3 b4=>And (a7 b4) <| Wx.c a9 b4 λb5 b6=>And (a7 b6) <| Xa.c b5 bb b6 λb7 b8 b9 ca cb cc=>And (a7 cc) <| aR b3 0 (.I b7) cc λcd=>aR b3 1 (.I b8) cd λce=>aR b3 2 (.I b9) ce λcf=>aR b3 3 (.I ca) cf λcg=>a6 b3 cb cg)) (bM (ag+1) λch=>af ch ao)) λci=>Ix j.a j.len ag 8 λcj=>aQ cj 0 ah λck=>If (ck==40) (dT ah λcl=>bW u λcm=>aU cl cm 1 λcn=>Ix j.a j.len ag 8 λco=>aS cl co 1 λcp=>Ix j.a j.len ag 8 λcq=>aS cl cq 2 λcr=>Ix j.a j.len ag 8 λcs=>aS cl cs 3 λct=>Wp.c cn cp cr ct ah λcu cv cw=>If (cv==0) (Ix j.a j.len ag 8 λcx=>aQ cx 2 cw λcy=>ci cu cy cw) (ci 0 0 cw)) (dT ah λcz=>bW u λc0=>aU cz c0 0 λc1=>Ix j.a j.len ag 8 λc2=>aS cz c2 1 λc3=>Ix j.a j.len ag 8 λc4=>aS cz c4 2 λc5=>Ix j.a j.len ag 8 λc6=>aS cz c6 3 λc7=>Yn.c c1 c3 c5 c7 ah λc8 c9 da=>If (c9==0) (Ix j.a j.len ag 8 λdb=>aQ db 2 da λdc=>ci c8 dc da) (ci 0 0 da))) (bG u 1 ah λde=>Wy.c de ah λdf dg=>Xw.c ac df dg λdh di=>bX (λdj dk=>l dj dk) λdl=>If dh (XA.c di λdm dn=>dl dm dn)
 (dl false di)))) λdp=>If u.isNone (dp true v) (XK.c j 30 v λdq dr=>dp dq dr)
theorem WV.o {a b c d e f g h i j k l}(m:WV.v a b c d e f g h i j k l):WV.c a b c d e f g h i j k l:=Wa Tryz.func4 (x:=WV.h) (R0 m)
end Go.Proofs
namespace Go.Ar
open Go Go.Vc Go.Proofs
open Go.Vc (bS cX cO)
variable {a:Int}{U σ0 v w w':Hp}{F P Q X T T' Qa Qf Qq Qr:Rg}{L:dE}{H H' H1:Hw}{held held1:List Pc}{s0 s1 sp:Sp}{x y x':Gu}{b:B5}{l more:Sl}{ds ms:List eZ}{q q':Qu}{n xb pp gb km fm qb:Nat}{addrs fl qs rs:Sl}{ad fd:List Int}{size align:Int}
structure GK (H:Hw) (x:Gu):Prop where
 lv:∀e∈x.kn,∃l∈H.live,l.1=e.2.2.2.1/\l.2.2.1=e.2.2.2.2.1
 bd:(x.kn.map λe=>e.2.2.2.1).Nodup
 i:∀e∈x.kn,e.1=e.2.1/\gJ e.2
theorem dS.gk (g:dS H x)(hi:HI H held s0):GK H x:=⟨λe a=>g.of a,g.pL hi,g.i⟩
theorem GK.apart (g:GK H x)(hi:HI H held s0){e e':Int×B5}(he:e∈x.kn)(he':e'∈x.kn){z:Int}(h1:e.2.2.2.1<=z)(h2:z<e.2.2.2.1+e.2.2.2.2.1)(h3:e'.2.2.2.1<=z)(h4:z<e'.2.2.2.1+e'.2.2.2.2.1):e=e':=by
 obtain⟨l,i,d,p⟩:=g.lv e he;obtain⟨j,a,b,m⟩:=g.lv e' he';have:=Hj hi i a (z:=z) O O O O;subst this;exact Uf g.bd he he' (by rw[←d,←b])
theorem GK.mono (g:GK H x)(h:∀l∈H.live,l∈H'.live):GK H' x:=⟨λe a=>by
 obtain⟨l,d,b⟩:=g.lv e a;exact⟨l,h l d,b⟩,g.bd,g.i⟩
theorem GK.new (g:GK H x)(hi1:HI H1 held1 s1){c t:Int}(hn:bS H.live c=none)(hsub:∀l∈H.live,l∈H1.live)(hnew:∃l∈H1.live,l.1=c/\l.2.2.1=t){e:Int×B5}(he:e∈x.kn){z:Int}(h1:e.2.2.2.1<=z)(h2:z<e.2.2.2.1+e.2.2.2.2.1)(h3:c<=z)(h4:z<c+t):False:=by
 obtain⟨l,b,j,p⟩:=g.lv e he;obtain⟨i,a,d,m⟩:=hnew;have:=Hj hi1 (hsub l b) a (z:=z) O O O O;subst this;exact Uc.1 hn l b d
def pW (x:Gu)(l:List P2)(at' n:Int):Prop:=∀e∈l,∀bk,bS x.kn e.1=some bk->¬(at'<bk.2.2.1+bk.2.2.2.1/\bk.2.2.1<at'+n)
theorem GK.uw (g:GK H x)(l:List P2):pW x l 0 0:=λe _ b a h=>by
 have:=(g.i _ (YT a)).2.base;simp only at this;omega
theorem GK.raw (g:GK H x)(hi:HI H held s0)(hi1:HI H1 held1 s1)(me:nN H size align H1 a 0)(l:List P2):GK H1 x/\pW x l a size/\(0<=a/\a<=300000)/\1<=size/\size<=16384:=by
 have b:=C0 me;rcases me with⟨h,_⟩|⟨_,hn,hok,cl,hl,_⟩
 .exact absurd rfl h
 have u:=(LA (tb:=H.tb) ⟨hok.2.1,hok.2.2⟩).1;have j:(a,(a,(Ge H.tb size align).1,cl,XS H1.bZ a))∈H1.live:=by rw[hl];exact YT (Hh _)
 have w:=hi1.ny j;simp only at w;refine⟨g.mono b,λe B m p C=>?_,O,O⟩;have d:=(g.i _ (YT p)).2;have r:=d.base;have A:=d.z;have y:=d.t;have b4:=d.s;have D:=YA (n:=m.2.1) (by simp only at b4;omega);simp only at r A y b4;by_cases hc:a<=m.2.2.1
 .exact g.new hi1 hn b ⟨_,j,rfl,rfl⟩ (YT p) (z:=m.2.2.1) aC aC O aC
 .exact g.new hi1 hn b ⟨_,j,rfl,rfl⟩ (YT p) (z:=a) aC aC O aC
theorem GK.dK (g:GK H x)(hi:HI H held s0)(hi1:HI H1 held1 s1)(gr:uG H x size align b H1)(l:List P2)(hl:∀e∈l,∃bk,bS x.kn e.1=some bk):GK {H1 with sp:=jK H1.sp b} (x.dK b)/\pW (x.dK b) l b.1 size/\(0<=b.1/\b.1<=300000)/\(1<=size/\size<=16384)/\∀e∈l,∃bk,bS (x.dK b).kn e.1=some bk:=by
 have bi:=gr.bi;obtain⟨D,cl,A⟩:bS H.live b.2.2.1=none/\∃cl,H1.live=cX H.live b.2.2.1 (b.2.2.1,(Ge H.tb (zA align+ZC size+16) (zA align)).1,cl,XS H1.bZ b.2.2.1):=by
  rcases gr.me with⟨h,_⟩|⟨_,P,_,cl,N,_⟩
  .exact absurd rfl h
  .exact⟨P,cl,N⟩
 have w:=C0 gr.me;have J:=gr.u;unfold Kl at J;rw[A,Hh]at J;have L:(Ge H.tb (zA align+ZC size+16) (zA align)).1=b.2.2.2.1:=Option.some.inj J;rw[L]at A;have y:∃l∈H1.live,l.1=b.2.2.1/\l.2.2.1=b.2.2.2.1:=⟨(b.2.2.1,(b.2.2.1,b.2.2.2.1,cl,XS H1.bZ b.2.2.1)),by rw[A];exact YT (Hh _),rfl,rfl⟩;have p:∀e∈x.kn,∀z,e.2.2.2.1<=z->z<e.2.2.2.1+e.2.2.2.2.1->b.2.2.1<=z->z<b.2.2.1+b.2.2.2.1->False:=λe d z P N h3 h4=>g.new hi1 D w y d P N h3 h4;have aa:=bi.base;have hb2:=bi.z;have X:=bi.t;have Y:=bi.s;have hbm:=bi.m;have hww:=YA (n:=b.2.1) O;have S:=gr.s;have C:bS x.kn b.1=none:=Uc.2 λe d h=>by
  have j:=(g.i e d);have q0:=j.1;have q4:=j.2.s;have q1:=j.2.base;have q2:=j.2.z;have q3:=j.2.t;have qw:=YA (n:=e.2.2.1) O;exact p e d b.1 O O O O
 have B:(x.dK b).kn=x.kn++[(b.1,b)]:=Cm C b;have M:∀a bk,bS x.kn a=some bk->bS (x.dK b).kn a=some bk:=λa bk h=>by
  have F:a≠b.1:=λe=>by rw[e,C]at h;cases h
  show bS (cX x.kn b.1 b) a=some bk;rw[VF,zB F];exact h
 have E:∀a bk,a≠b.1->bS (x.dK b).kn a=some bk->bS x.kn a=some bk:=λa bk F h=>by
  have h:bS (cX x.kn b.1 b) a=some bk:=h;rw[VF,zB F]at h;exact h
 refine⟨⟨λe d=>?_,?_,λe d=>?_⟩,λe d bk G Z=>?_,O,O,λe d=>?_⟩
 .rw[B]at d;rcases zJ.1 d with d|d
  .obtain⟨l,hl,h⟩:=g.lv e d;exact⟨l,w l hl,h⟩
  .rw[zN]at d;subst d;exact y
 .rw[B,zj,m9];refine⟨g.bd,by simp,λu J c R=>?_⟩;simp only[zR,oC,zN]at R;subst R;obtain⟨e,d,rfl⟩:=zE.1 J;intro Z;have q4:=(g.i e d).2.s;have q1:=(g.i e d).2.base;have q2:=(g.i e d).2.z;have q3:=(g.i e d).2.t;have qw:=YA (n:=e.2.2.1) O;exact p e d e.2.2.2.1 O O O O
 .rw[B]at d;rcases zJ.1 d with d|d
  .exact g.i e d
  .rw[zN]at d;subst d;exact⟨rfl,bi⟩
 .obtain⟨bk',K⟩:=hl e d;have Q:e.1≠b.1:=λh=>by rw[h,C]at K;cases K
  have G:=E _ _ Q G;have r:=(g.i _ (YT G)).2;have U:=r.base;have W:=r.z;have V:=r.t;have b4:=r.s;have bw:=YA (n:=bk.2.1) (by simp only at b4;omega);simp only at U W V b4;by_cases R:b.2.2.1<=bk.2.2.1
  .exact p (e.1,bk) (YT G) bk.2.2.1 aC aC O O
  .exact p (e.1,bk) (YT G) b.2.2.1 aC aC O O
 .obtain⟨bk,G⟩:=hl e d;exact⟨bk,M _ _ G⟩
theorem GK.p8 (p:GP σ0 U L H held s0 P gb km fm x)(g:GK H x){k:Int×B5}(hk:k∈x.kn){R:Int->Int->Int->Int->Int->Hp->Prop}(hR:∀w,aF U w->R k.2.1 k.2.2.1 k.2.2.2.1 k.2.2.2.2.1 0 w):Xa.c (aW gb) k.1 U R:=by
 have b:=g.i k hk;have G:=b.1;have C:=b.2.s;refine Wla p g.i k.1 (λw y r=>?_) λd w y j m=>?_
 .exact absurd ⟨O,by show k.1<k.2.1+k.2.2.1;omega⟩ (r k hk)
 .have u:d=k:=by
   have a:=g.i d j;obtain⟨M,A⟩:=m;have A:k.1<d.2.1+d.2.2.1:=A;have N:=YA (n:=k.2.2.1) O;have B:=a.2.s;have F:=YA (n:=d.2.2.1) O;have J:=b.2.z;have E:=b.2.t;have K:=a.2.z;have D:=a.2.t;exact g.apart p.hi j hk (z:=k.1) O O O O
  subst u;exact hR w y
theorem GK.yG (qp:QP σ0 U L H held s0 P gb km fm x qb Qq Qr qs rs q)(g:GK H x){k:Int×B5}(hk:k∈x.kn){ty:Nat}{S:aP}(hS:∀u,aF U u->S u){J:Addr->Int->Hp->Prop}(hJ:∀c w,aF U w->U.size<=c->bY w c (kE (b4 k))->J ⟨c,0,none⟩ 0 w) :
 (Wx.c (aW qb) U λt44 v10=>
  And (S v10) <|
   (Xa.c t44 k.1 v10 λt49 t491 t492 t493 t494 v11=>
   And (S v11) <|
   Nw (.cells #[.int .i64 0,.int .i64 0,.int .i64 0,.int .i64 0] ty (0,0)) v11 λn12 v12=>
   And (S v12) <|
   dG (n12.add 0) (.int .i64 t49) v12 λv13=>
   dG (n12.add 1) (.int .i64 t491) v13 λv14=>
   dG (n12.add 2) (.int .i64 t492) v14 λv15=>
   dG (n12.add 3) (.int .i64 t493) v15 λv16=>
   J n12 t494 v16) ∧
   (Nw (.cells #[.int .i64 0,.int .i64 0,.int .i64 0,.int .i64 0] ty (0,0)) v10 λn121 v17=>
   And (S v17) <|
   Xa.c t44 k.1 v17 λt495 t496 t497 t498 t499 v18=>
   And (S v18) <|
   dG (n121.add 0) (.int .i64 t495) v18 λv19=>
   dG (n121.add 1) (.int .i64 t496) v19 λv20=>
   dG (n121.add 2) (.int .i64 t497) v20 λv21=>
   dG (n121.add 3) (.int .i64 t498) v21 λv22=>
   J n121 t499 v22)) ∧
 (Nw (.cells #[.int .i64 0,.int .i64 0,.int .i64 0,.int .i64 0] ty (0,0)) U λn122 v23=>
  And (S v23) <|
  Wx.c (aW qb) v23 λt441 v24=>
  And (S v24) <|
  Xa.c t441 k.1 v24 λt4910 t4911 t4912 t4913 t4914 v25=>
  And (S v25) <|
  dG (n122.add 0) (.int .i64 t4910) v25 λv26=>
  dG (n122.add 1) (.int .i64 t4911) v26 λv27=>
  dG (n122.add 2) (.int .i64 t4912) v27 λv28=>
  dG (n122.add 3) (.int .i64 t4913) v28 λv29=>
  J n122 t4914 v29):=by
 have j:S U:=hS U (Ext.refl _ _);refine⟨Ia qp ⟨j,?_,?_⟩,?_⟩
 .refine g.p8 qp.p hk λw a=>⟨hS w a,Su (λu r=>hS u (a.trans r)) λm b i=>hJ _ _ (a.trans b) a.1 i⟩
 .refine nw (cs:=[.int .i64 0,.int .i64 0,.int .i64 0,.int .i64 0]) λv17 s e1 d=>⟨hS _ e1,g.p8 (qp.fr e1).p hk λw a=>⟨hS w (e1.trans a),?_⟩⟩;exact Ju (e1.trans a) (zD _) (a.bV d id) λm b i=>hJ _ _ b (zD _) i
 .refine nw (cs:=[.int .i64 0,.int .i64 0,.int .i64 0,.int .i64 0]) λv17 s e1 d=>⟨hS _ e1,Ia (qp.fr e1) ⟨hS _ e1,g.p8 (qp.fr e1).p hk λw a=>⟨hS w (e1.trans a),?_⟩⟩⟩;exact Ju (e1.trans a) (zD _) (a.bV d id) λm b i=>hJ _ _ b (zD _) i
theorem C2 {K:eR [.i .i64,.i .i64]}{body:eR [.i .i64,.i .i64]->Prop}(P:Int->Int->Hp->Prop)(h1:∀r s w,P r s w->K r s w)(h2:∀J:eR [.i .i64,.i .i64],(∀r s w,P r s w->J r s w)->body J):Jn [.i .i64,.i .i64] K body:=Jn.intro (h2 K h1)
structure lf (σ0 U:Hp) (z0:Nat) (n xb pp gb km fm qb:Nat) (T0 T Qa Qf:Rg) (H:Hw) (x:Gu) (q:Qu) (addrs:Sl) (ad:List Int) (fl:Sl) (fd:List Int):Prop where
 o:OQ σ0 U xb pp gb km fm qb T Qa Qf H x q addrs ad fl fd
 g:GK H x
 l:∀e∈q.q,∃bk,bS x.kn e.1=some bk
 no:0<=x.no/\x.no<=n
 t:∀c,T c->T0 c\/z0<=c
theorem lf.q9 {z0:Nat}{T0:Rg}(k:lf σ0 U z0 n xb pp gb km fm qb T0 T Qa Qf H x q addrs ad fl fd)(e:aF U w):lf σ0 w z0 n xb pp gb km fm qb T0 T Qa Qf H x q addrs ad fl fd:=⟨k.o.q9 e,k.g,k.l,k.no,k.t⟩
theorem lf.mono {z0:Nat}{T0:Rg}(k:lf σ0 U z0 (60+n) xb pp gb km fm qb T0 T Qa Qf H x q addrs ad fl fd):lf σ0 U z0 (60+(n+1)) xb pp gb km fm qb T0 T Qa Qf H x q addrs ad fl fd:=⟨k.o,k.g,k.l,by have:=k.no;omega,k.t⟩
set_option maxRecDepth 16000 in
theorem Rr (gl:Gl U)(gc:Gc U)(b b1 b2 b3 b4 b5 WW bytes:Int)(hd:jg U l ds)(hm:jg U more ms){R:aO}(hR:∀σ',aF U σ'->R true σ'):WV.c b b1 b2 b3 b4 b5 WW bytes l more U R:=by
 refine WV.o ?_;unfold WV.v;refine nw (cs:=[.int .i64 b,.int .i64 b1,.int .i64 b2,.int .i64 b3,.int .i64 b4,.int .i64 b5]) λv hz e M=>M.rI rfl (M.rI rfl (M.rI rfl (M.rI rfl (M.rI rfl (M.rI rfl ?_)))));have ab:=gl.bP e;have X:=gc.bP e;have B:=hm.bP e;have hml:=hm.len;have hmb:=hm.ya;refine RN ab X b b1 b2 b3 b4 b5 WW bytes (hd.bP e) 30 aB (λv1 e1=>?_) λv1 xb pp gb km fm qb T Qa Qf H x q D ad fl fd p=>?_
 .exact bX.intro (cF rfl (cF rfl (GC (ab.bP e1) (X.bP e1) λv2 e2=>hR v2 ((e.trans e1).trans e2))))
 have E1:=p.o.p.e;refine bX.intro (cD rfl (IN (cN (λ_=>GC (ab.bP E1) (X.bP E1) λv2 e2=>hR v2 ((e.trans E1).trans e2)) λhlm=>bL (p.o.b.rP rfl ?_))));obtain⟨L0,hh0,s00,P0,Qq0,Qr0,qs0,rs0,qp0,hpp0,hT0⟩:=p.o.p;refine AF qp0 λsb N Qb eb hsb hQb=>?_;have hsl:sb.len=q.q.length:=by have:=hsb.1;simp[Wu]at this;omega
 have hql:=p.al.ql qp0.i;have hno:=p.no;refine Qg (a:=bO) (λ(z:Int) u=>∃(i:Nat) (T':Rg) (H:Hw) (x:Gu),z=i/\i<=ms.length/\lf v u N.size (60+i) xb pp gb km fm qb T T' Qa Qf H x q D ad fl fd/\Ext (λc=>T c\/N.size<=c) N u) (λz _=>ms.length-z.toNat)
  ⟨0,T,H,x,rfl,O,⟨p.o.q9 eb,p.al.kq.g.gk qp0.p.hi,λee he=>by obtain⟨bk,hm,_⟩:=p.al.kq.k ee he;exact⟨bk,hm⟩,⟨p.al.n0,O⟩,λc C=>.inl C⟩,Ext.refl _ _⟩ ?_
 rintro(z:Int) u ⟨i,T',H,x,rfl,hi,k,eu⟩;have hsbu:bU sb 1 (Wu (q.q.map (·.1))) u Qb:=aI.bT hsb eu λc C hq h=>by
  have h1:=hQb c hq;rcases h with h|h
  .have:=(p.o.p.lt h).2;omega
  .omega
 have F:=k.o.p.e;have hz4:=eu.1;obtain⟨L,hh,s0,P,Qq,Qr,qs,rs,qp,aa,hTT⟩:=k.o.p;refine cN (λhlt=>?_) λhge=>?_
 .have V:ms[i]?=some (ms[i]' O):=cW _;generalize (ms[i]' O)=d at V;have hdi:=hm.i _ (zG V);refine C2 (λat' n w=>∃T'' H' x',lf v w N.size (60+(i+1)) xb pp gb km fm qb T T'' Qa Qf H' x' q D ad fl fd/\Ext (λc=>T c\/N.size<=c) N w/\pW x' q.q at' n/\(0<=at'/\at'<=300000)/\0<=n/\n<=16384) (λat' n w ⟨T'',H',x',k',G,off,hat,hn⟩=>?_) λJ hJ=>?_
  .-- no held block has a byte of it
   have ew0:=k'.o.p.e;obtain⟨L1,hh1,s1,P1,Qq1,Qr1,qs1,rs1,qp1,hpp1,_⟩:=k'.o.p;have hsbw:bU sb 1 (Wu (q.q.map (·.1))) w Qb:=aI.bT hsb G λc C hq h=>by
    have h1:=hQb c hq;rcases h with h|h
    .have:=(p.o.p.lt h).2;omega
    .omega
   refine Qg (a:=bO) (λ(z:Int) u'=>aF w u'/\∃j:Nat,z=j/\j<=q.q.length) (λz _=>q.q.length-z.toNat) ⟨Ext.refl _ _,0,rfl,O⟩ ?_;rintro(z:Int) u' ⟨eu',j,rfl,hj⟩;have ku:=k'.q9 eu';have qpu:=qp1.fr eu';refine cN (λhlt'=>?_) λhge'=>?_
   .have hxj:q.q[j]?=some (q.q[j]' O):=cW _;generalize (q.q[j]' O)=ee at hxj;have hee:=zG hxj;obtain⟨bk,hmk⟩:=k'.l ee hee;have hk:(ee.1,bk)∈x'.kn:=YT hmk;have hx1:(q.q.map (·.1))[j]?=some ee.1:=by rw[zZ,hxj];rfl
    have bi:gJ bk:=(k'.g.i _ hk).2;have kb:=bi.base;have kz:=bi.z;have kt:=bi.t;have km':=bi.m;have ks:=bi.s;have kw:=YA (n:=bk.2.1) O;have hoff:=off ee hee bk hmk;refine DC (λa e w'=>aF u' w'/\e=0/\∃c,a=⟨c,0,none⟩/\bY w' c (kE (Go.Ar.b4 (ee.1,bk)))) (λa e w' ⟨ew',he,c,ha,M⟩=>?_) λJ hJ=>⟨λm=>aF u' m,Ext.refl _ _,bL (gN (c:=.p) (y:=some ⟨qb,0,none⟩) (λm e=>e.bV ku.o.b id) rfl (DX (aI.bP hsbw eu') hx1 (λm h=>h) (GK.yG qpu k'.g hk (λu' e=>e) λc w G _ M=>hJ _ _ _ ⟨G,rfl,c,rfl,M⟩)))⟩;subst he ha;refine KC (λr S=>S=w'/\r=false) (λr S ⟨hw,hr⟩=>?_) λJ hJ=>cD rfl (M.rI rfl (M.rI rfl (ar ?_ ?_ ?_)))
    .subst hw;exact cD hr (cT (m:=j+1) O O ⟨⟨eu'.trans ew',j+1,rfl,O⟩,O⟩)
    .show _<=bk.2.2.1+bk.2.2.2.1;omega
    .show bk.2.2.1+bk.2.2.2.1<=_;omega
    refine KC (λr S=>S=w'/\r=false) (λr S ⟨hw,hr⟩=>hJ _ _ ⟨hw,hr⟩) λJ' hJ'=>cN (λh1=>M.rI rfl (ar O O (hJ' _ _ ⟨rfl,zL λh2=>hoff ⟨h1,h2⟩⟩))) λ_=>hJ' _ _ ⟨rfl,rfl⟩
   .exact cT (m:=i+1) O O ⟨⟨i+1,T'',H',x',rfl,O,ku,G.fS eu'⟩,O⟩
  .have K:∀{w:Hp} {T'':Rg},(∀c,T'' c->T' c\/u.size<=c)->∀c,T'' c->T c\/N.size<=c:=λ{w T''} h c C=>by
    rcases h c C with h|h
    .exact k.t c h
    .exact .inr O
   have eN:∀{w:Hp},Ext T' u w->Ext (λc=>T c\/N.size<=c) N w:=λ{w} h=>eu.trans (h.sub λc C=>k.t c C);have same:∀w,aF u w->∃T'' H' x',lf v w N.size (60+(i+1)) xb pp gb km fm qb T T'' Qa Qf H' x' q D ad fl fd/\Ext (λc=>T c\/N.size<=c) N w/\pW x' q.q 0 0/\(0<=(0:Int)/\(0:Int)<=300000)/\(0:Int)<=0/\(0:Int)<=16384:=λw G=>⟨T',H,x,(k.q9 G).mono,eu.fS G,k.g.uw _,O,O⟩;have Z:=k.no;refine B.rd F V λba oa C=>eA (C _ F 0 _ rfl) (cP (λh40=>?_) λhn40=>?_)
   .refine⟨λm=>aF u m,Ext.refl _ _,bL (gN (c:=.p) (y:=some ⟨qb,0,none⟩) (λm e=>e.bV k.o.b id) rfl (B.rd F V λba1 oa1 hc1=>⟨d.th,λm Q=>by rw[add_lit];exact hc1 m (F.trans Q) 1 _ rfl,B.rd F V λba2 oa2 hc2=>⟨d.a,λm Q=>by rw[add_lit];exact hc2 m (F.trans Q) 2 _ rfl,B.rd F V λba3 oa3 hc3=>⟨d.b,λm Q=>by rw[add_lit];exact hc3 m (F.trans Q) 3 _ rfl,?_⟩⟩⟩))⟩;refine Gp qp X ⟨Z.1,O⟩ d.th d.a d.b (λw _ G=>cD rfl (hJ _ _ _ (same w G))) (λer w H' _ hne hw op hl W=>?_) λbb w H1 gr hw op W=>?_
    .refine cD (by simpa using hne) ?_;have W:QO v u w pp gb km fm qb T' H' x q:=by rw[←aa,hTT];exact W
     obtain⟨T'',p',Y,A⟩:=W.tb;exact hJ _ _ _ ⟨T'',H',x,⟨k.o.eX Y p' A,k.g.mono λl h=>by rw[hl];exact h,k.l,⟨Z.1,O⟩,K (w:=w) A⟩,eN Y,k.g.uw _,O,O⟩
    .refine cF rfl ?_;have W:QO v u w pp gb km fm qb T' {H1 with sp:=jK H1.sp bb} (x.dK bb) q:=by rw[←aa,hTT];exact W
     obtain⟨T'',p',Y,A⟩:=W.tb;obtain⟨held1,s1,hi1⟩:=op.hi;obtain⟨g1,g2,g3,g4,g5⟩:=k.g.dK qp.p.hi hi1 gr q.q k.l;have G:=p'.e;refine B.rd G V λba oa C=>eA (C _ G 2 _ rfl) (hJ _ _ _ ⟨T'',_,_,⟨k.o.eX Y p' A,g1,g5,⟨by show 0<=x.no+1;omega,by show x.no+1<=_;omega⟩,K (w:=w) A⟩,eN Y,g2,g3,O⟩)
   .refine⟨λm=>aF u m,Ext.refl _ _,bL (gN (c:=.p) (y:=some ⟨pp,0,none⟩) (λm e=>e.bV k.o.b id) rfl (B.rd F V λba1 oa1 hc1=>⟨d.th,λm Q=>by rw[add_lit];exact hc1 m (F.trans Q) 1 _ rfl,B.rd F V λba2 oa2 hc2=>⟨d.a,λm Q=>by rw[add_lit];exact hc2 m (F.trans Q) 2 _ rfl,B.rd F V λba3 oa3 hc3=>⟨d.b,λm Q=>by rw[add_lit];exact hc3 m (F.trans Q) 3 _ rfl,?_⟩⟩⟩))⟩;obtain⟨H',a,er,hw,op,me⟩:=Lt qp.p.hi d.th d.a d.b;obtain⟨held1,s1,hi1⟩:=op.hi;rw[←aa];refine I5 Co qp.p.h qp.p.cf.2.2 hw λw ts e' h'=>?_;have p1:=qp.p.step e' h' hi1 op.kp;have W:=qp.sr (L':={L with ts:=ts}) rfl (e'.sub λc C=>.inl C) p1 λc C=>C.1;have W:QO v u w pp gb km fm qb T' H' x q:=by rw[←aa,hTT];exact W
    obtain⟨T'',p',Y,A⟩:=W.tb;have G:=p'.e;by_cases h0:er=0
    .subst h0;obtain⟨g1,g2,g3,g4⟩:=k.g.raw qp.p.hi hi1 me q.q;exact cF rfl (B.rd G V λba oa C=>eA (C _ G 2 _ rfl) (hJ _ _ _ ⟨T'',H',x,⟨k.o.eX Y p' A,g1,k.l,⟨Z.1,O⟩,K (w:=w) A⟩,eN Y,g2,g3,O⟩))
    .have hsub:=C0 me;exact cD (by simpa using h0) (hJ _ _ _ ⟨T'',H',x,⟨k.o.eX Y p' A,k.g.mono hsub,k.l,⟨Z.1,O⟩,K (w:=w) A⟩,eN Y,k.g.uw _,O,O⟩)
 .refine bL (k.o.b.rP rfl (AF qp λs2 w2 Q2 e2 hs2 _=>?_));refine Du (bU.fY (aI.bP hsbu e2)) (bU.fY hs2) aE ?_;rw[zI rfl];have E:=F.trans e2;exact bX.intro (cF rfl (GC (ab.bP E) (X.bP E) λv2 e3=>hR v2 ((e.trans E).trans e3)))
end Go.Ar
namespace Go.Ar
open Go Go.Vc Go.Proofs Go.ChangeShapes Go.WideShapes Go.RowKit Go.Deep
theorem G2 {H:Type}{enc:TypeId×Value->H}{P:Program}{w:World}{base:Nat}{sp:Nat->Bool}{held:Bool}{fuel:Nat}{t:TypeId}{c:Value}{y:DataW H×List MemPlace}
 (ht:P.underlying t=some .bool) (h:DataW.trod enc P w base sp held fuel t [c]=some y):∃n,c=.bool n/\y=(.lit (.bool n),[]):=by
 cases fuel with
 | zero=>simp[DataW.trod]at h
 | succ fuel=>
  cases c<;>simp[DataW.trod,ht]at h
  rename_i n;exact⟨n,rfl,by simpa using h.symm⟩
theorem Cd {P:Program}{w:World}{t:TypeId}{f0 f1:Field}{cs:Array Value}{fuel:Nat}{p:List MemPlace}{x y:Bool}(ht:P.underlying t=some (.struct #[f0,f1]))(hone:oneCellFields P #[f0,f1]=true)(hC:P.cellsOf t=2)
 (h0:P.underlying f0.type=some .bool) (h1:P.underlying f1.type=some .bool) (h:DataW.trod (λ_=>()) P w 0 (λ_=>true) false fuel t cs.toList=some (.agg [.lit (.bool x),.lit (.bool y)],p)):cs = #[.bool x,.bool y]:=by
 obtain⟨r,n,B,j,a,g,b⟩:=DataW.trod_struct ht h;obtain⟨l⟩:=cs;have d:l.length=2:=by rw[←hC];simpa using a
 match l,d with
 | [c0,c1],_=>
  have m:=b 0 f0 rfl;have i:=b 1 f1 rfl;obtain⟨u,q0⟩:=hone_of hone 0 f0 rfl;obtain⟨o1,q1⟩:=hone_of hone 1 f1 rfl;rw[u,q0]at m;rw[o1,q1]at i
  match r,g with
  | [y0,y1],_=>
   obtain⟨z,rfl,s⟩:=G2 h0 (c:=c0) (y:=y0) (by simpa using m);obtain⟨A,rfl,e1⟩:=G2 h1 (c:=c1) (y:=y1) (by simpa using i);subst s;subst e1;simp at j;obtain⟨⟨rfl,rfl⟩,_⟩:=j;rfl
theorem GT {w:World}{a:Addr}{v:Value}(h:w.cell? a=some v):cell w.heap a=some v:=h
section
variable {H:Type}{enc:TypeId×Value->H}{P:Program}{w:World}
theorem TZ {x:Int}(h:(Lit.int .i64 x).wf=true):jB x:=by
 unfold jB;simp[Lit.wf,IntKind.min,IntKind.max,IntKind.bits,IntKind.signed]at h;omega
theorem SB {t:TypeId}{f0 f1 f2 f3 f4 f5 f6 f7:Field}{fuel:Nat}{cs:List Value}{y:DataW H×List MemPlace}
 (ht:P.underlying t=some (.struct #[f0,f1,f2,f3,f4,f5,f6,f7])) (hone:oneCellFields P #[f0,f1,f2,f3,f4,f5,f6,f7]=true) (hC:P.cellsOf t=8)
 (h0:P.underlying f0.type=some (.int .i64)) (h1:P.underlying f1.type=some (.int .i64)) (h2:P.underlying f2.type=some (.int .i64)) (h3:P.underlying f3.type=some (.int .i64)) (h4:P.underlying f4.type=some (.int .i64)) (h5:P.underlying f5.type=some (.int .i64)) (h6:P.underlying f6.type=some (.int .i64)) (h7:P.underlying f7.type=some .string)
 (h:DataW.trod enc P w 0 (λ_=>true) true fuel t cs=some y):∃d:eZ,cs=uU d/\kY d:=by
 obtain⟨A,n,V,W,a,p,u⟩:=DataW.trod_struct ht h;have r:cs.length=8:=by rw[←hC];exact a
 match cs,r with
 | [c0,c1,c2,c3,c4,c5,c6,c7],_=>
  have one:∀(j:Nat) (f:Field) (c:Value),(#[f0,f1,f2,f3,f4,f5,f6,f7]:Array Field)[j]?=some f->[c0,c1,c2,c3,c4,c5,c6,c7][j]?=some c->∃z,DataW.trod enc P w 0 (λ_=>true) true n f.type [c]=some z:=by
   intro j f c hj hc;obtain⟨Q,R⟩:=hone_of hone j f hj;have h3:=u j f hj;rw[Q,R]at h3;have g:=(cY.1 hc).1;have e1:([c0,c1,c2,c3,c4,c5,c6,c7].drop j).take 1=[c]:=by
    rw[xh g,we,vS,(cY.1 hc).2]
   rw[e1]at h3;have i:A[j]?=some (A[j]'(by rw[p];simp at g ⊢;omega)):=cW _;rw[i]at h3;exact⟨_,h3⟩
  have int:∀(j:Nat) (f:Field) (c:Value),(#[f0,f1,f2,f3,f4,f5,f6,f7]:Array Field)[j]?=some f->[c0,c1,c2,c3,c4,c5,c6,c7][j]?=some c->P.underlying f.type=some (.int .i64)->∃x:Int,c=.int .i64 x/\jB x:=by
   intro j f c hj hc hu;obtain⟨z,m⟩:=one j f c hj hc;obtain⟨x,b,_,D⟩:=DataW.trod_int hu m;simp only[List.cons.injEq,and_true]at b;exact⟨x,b,TZ D⟩
  obtain⟨G,rfl,_⟩:=int 0 f0 c0 rfl rfl h0;obtain⟨J,rfl,_⟩:=int 1 f1 c1 rfl rfl h1;obtain⟨S,rfl,U⟩:=int 2 f2 c2 rfl rfl h2;obtain⟨K,rfl,C⟩:=int 3 f3 c3 rfl rfl h3;obtain⟨E,rfl,_⟩:=int 4 f4 c4 rfl rfl h4;obtain⟨L,rfl,N⟩:=int 5 f5 c5 rfl rfl h5;obtain⟨M,rfl,F⟩:=int 6 f6 c6 rfl rfl h6;obtain⟨z,m⟩:=one 7 f7 c7 rfl rfl;obtain⟨s,B,_⟩:=DataW.trod_string h7 m;simp only[List.cons.injEq,and_true]at B;subst B;exact⟨⟨G,J,S,K,E,L,M,s⟩,rfl,U,C,N,F⟩
theorem EP {t e:TypeId}{f0 f1 f2 f3 f4 f5 f6 f7:Field}{a:Option Addr}{len cap:Nat}{d:DataW H}{ps:List MemPlace}
 (htl:P.underlying t=some (.slice e)) (ht:P.underlying e=some (.struct #[f0,f1,f2,f3,f4,f5,f6,f7])) (hone:oneCellFields P #[f0,f1,f2,f3,f4,f5,f6,f7]=true) (hC:P.cellsOf e=8)
 (h0:P.underlying f0.type=some (.int .i64)) (h1:P.underlying f1.type=some (.int .i64)) (h2:P.underlying f2.type=some (.int .i64)) (h3:P.underlying f3.type=some (.int .i64)) (h4:P.underlying f4.type=some (.int .i64)) (h5:P.underlying f5.type=some (.int .i64)) (h6:P.underlying f6.type=some (.int .i64)) (h7:P.underlying f7.type=some .string)
 (h:DataW.Trod enc P w 0 (λ_=>true) true t (.slice a len cap) d ps):∃ds,jg w.heap ⟨a,len,cap⟩ ds:=by
 obtain⟨N,U⟩:=h;rcases open_slice htl U with⟨r,_⟩|⟨ad,len',cap',m,n,D,Pl,r,_,hl,hm,hmm,y,hi⟩
 .simp[Value.cells]at r;obtain⟨rfl,rfl,rfl⟩:=r;exact⟨[],rfl,λi x y=>by simp at y,by simp,by simp⟩
 .simp[Value.cells]at r;obtain⟨rfl,rfl,rfl⟩:=r;have V:m=cap:=by simpa using hmm
  have key:∀i,i<len->∃u:eZ,(∀j v,(uU u)[j]?=some v->cell w.heap ((ad.add (i*8)).add j)=some v)/\kY u:=by
   intro i p;obtain⟨S,C,K⟩:=hi i O;rw[hC]at C;obtain⟨x,r,J⟩:=SB ht hone hC h0 h1 h2 h3 h4 h5 h6 h7 K;obtain⟨_,R,L⟩:=World.cells?_some C;refine⟨x,λj v B=>?_,J⟩;have Q:=(cY.1 B).1;have:=L j (by simpa[uU]using Q);rw[r]at this;rw[B]at this;exact this
  let g:Nat->eZ:=λi=>if hi:i<len then(key i hi).choose else⟨0,0,0,0,0,0,0,ByteArray.empty⟩
  have M:∀i,(hi:i<len)->g i=(key i hi).choose:=λi hi=>by simp only[g,hi,dif_pos]
  refine⟨(List.range len).map g,by simp,λi x y=>?_,λx y=>?_,?_⟩
  .have p:i<len:=by
    have:=(cY.1 y).1;simpa using this
   have A:g i=x:=by simpa[p]using y
   rw[M i p]at A;have E:=(key i p).choose_spec;rw[A]at E;obtain⟨C,_⟩:=E;have F:=(key 0 O).choose_spec.1;have G:=F 0 _ rfl;have z:=Fp G;simp only[wE,Addr.add_zero']at z;obtain⟨b,o,s⟩:=ad;have E:s=none:=z.2;subst E;refine⟨b,o,rfl,z.1,λj v B=>?_⟩;have:=C j v B;rw[add_lit,add_lit]at this;exact this
  .obtain⟨i,hi,rfl⟩:=zE.1 y;have p:=zg.1 hi;rw[M i p];exact(key i p).choose_spec.2
  .have:maxLen=9223372036854775807:=rfl;simp;omega
theorem Ri {b0:Nat}{t:TypeId}{f0 f1 g0 g1 g2 g3 g4:Field}{v:Value}{d:DataW H}{ps:List MemPlace}
 (ht:P.underlying t=some (.struct #[f0,f1])) (hC:P.cellsOf t=6) (ho:f0.offset=0/\P.cellsOf f0.type=1/\f1.offset=1/\P.cellsOf f1.type=5)
 (h0:P.underlying f0.type=some (.int .i64)) (h1:P.underlying f1.type=some (.struct #[g0,g1,g2,g3,g4])) (hone:oneCellFields P #[g0,g1,g2,g3,g4]=true)
 (k0:P.underlying g0.type=some (.int .i64)) (k1:P.underlying g1.type=some (.int .i64)) (k2:P.underlying g2.type=some (.int .i64)) (k3:P.underlying g3.type=some (.int .i64)) (k4:P.underlying g4.type=some (.int .i64))
 (hval:Value.okWide P w .any b0 t v) (h:DataW.Trod enc P w 0 (λ_=>true) true t v d ps):∃(x0 x1 x2 x3 x4 x5:Int),v=.agg #[.int .i64 x0,.int .i64 x1,.int .i64 x2,.int .i64 x3,.int .i64 x4,.int .i64 x5]:=by
 unfold Value.okWide at hval;rw[ht]at hval;obtain⟨K,rfl,m,_⟩:=hval;obtain⟨g,A⟩:=h;obtain⟨l⟩:=K;have r:l.length=6:=by rw[←hC];simpa using m
 obtain⟨D,F,z,B⟩:=ho
 match l,r with
 | [c0,c1,c2,c3,c4,c5],_=>
  have A:DataW.trod enc P w 0 (λ_=>true) true g t [c0,c1,c2,c3,c4,c5]=some (d,ps):=A;obtain⟨y0,y1,n,_,_,q0,q1⟩:=trod_struct2 ht A;rw[D,F]at q0;rw[z,B]at q1;have u:DataW.trod enc P w 0 (λ_=>true) true n f0.type [c0]=some y0:=q0;have C:DataW.trod enc P w 0 (λ_=>true) true n f1.type [c1,c2,c3,c4,c5]=some y1:=q1;obtain⟨x0,a,_,_⟩:=DataW.trod_int h0 u;simp only[List.cons.injEq,and_true]at a;subst a;obtain⟨J,n,M,N,G,y,E⟩:=DataW.trod_struct h1 C;have int:∀(j:Nat) (f:Field) (c:Value),(#[g0,g1,g2,g3,g4]:Array Field)[j]?=some f->[c1,c2,c3,c4,c5][j]?=some c->P.underlying f.type=some (.int .i64)->∃x:Int,c=.int .i64 x:=by
   intro j f c hj hc hu;obtain⟨ho,L⟩:=hone_of hone j f hj;have i:=E j f hj;rw[ho,L]at i;have b:=(cY.1 hc).1;have e1:([c1,c2,c3,c4,c5].drop j).take 1=[c]:=by
    rw[xh b,we,vS,(cY.1 hc).2]
   rw[e1]at i;have p:J[j]?=some (J[j]'(by rw[y];simp at b ⊢;omega)):=cW _;rw[p]at i;obtain⟨x,s,_,_⟩:=DataW.trod_int hu i;exact⟨x,by simpa using s⟩
  obtain⟨x1,rfl⟩:=int 0 g0 c1 rfl rfl k0;obtain⟨x2,rfl⟩:=int 1 g1 c2 rfl rfl k1;obtain⟨x3,rfl⟩:=int 2 g2 c3 rfl rfl k2;obtain⟨x4,rfl⟩:=int 3 g3 c4 rfl rfl k3;obtain⟨x5,rfl⟩:=int 4 g4 c5 rfl rfl k4;exact⟨x0,x1,x2,x3,x4,x5,rfl⟩
end
end Go.Ar