/- Texts joined. -/
import Derived.Test.YtkabjcanamcbeaaGreatDoorRows
import Derived.ChangeVars
import Derived.JoinedOf
import Derived.RowKit
import Derived.WalkKit
import Derived.ProofKit
import Derived.OpenShut
import Derived.ChangeOld
import Derived.Carry
import Derived.Test.YtkabjcanamcbeaaGreatDoorL7
set_option linter.unusedVariables false
set_option linter.unusedSimpArgs false
namespace Go.Ar
open Go Go.Vc Go.Proofs
open Go.Vc (bW dG cR)
open Go.Bu (jH)
variable {σ σ0 v w w':Hp}{F P Q X T:Rg}{L:dQ}{H H':Hw}{held:List Pc}{s0:Sp}{t n:Nat}{g:Th}{mb am m:Nat}
structure Me where
 asked:List (Int×Int)
 sum:Int
 dM:Int
 dL:Int
 cS:Nat
 fK:Nat
 iF:Nat
def Me.calls (x:Me):Nat:=x.cS+x.fK+x.iF
structure oF (x:Me):Prop where
 v:∀y∈x.asked,0<=y.2/\y.2<=16384
 l:x.asked.length<=x.cS
 s:x.sum=(x.asked.map (·.2)).sum
 p:0<=x.dM/\x.dM<=16384000
 d:0<=x.dL/\x.dL<=1000000
 c:x.calls<=900
def su:Me:=⟨[],0,0,0,0,0,0⟩
theorem Ef:oF su:=⟨by simp[su],by simp[su],rfl,by simp[su],by simp[su],by simp[su,Me.calls]⟩
def Me.forget (x:Me)(a:Int):Me:={x with asked:=cR x.asked a,sum:=x.sum-(bW x.asked a).getD 0}
def Me.add (x:Me)(a size:Int):Me:={x with asked:=dG x.asked a size,sum:=x.sum+size}
def Me.count (x:Me)(e:Int)(gR:Bool):Me:=if e=0 then(if gR then{x with cS:=x.cS+1}else{x with fK:=x.fK+1})else{x with iF:=x.iF+1}
def Me.eP (x:Me)(D:Int):Me:={x with dM:=if x.sum>x.dM then x.sum else x.dM,dL:=if D*256>x.dL then D*256 else x.dL}
theorem oF.jF {x:Me}(h:oF x):0<=x.sum/\x.sum<=14745600:=by
 have a:=UO (l:=x.asked) (f:=λy:Int×Int=>y.2) (c:=16384) h.v;have d:=h.l;have b:=h.c;unfold Me.calls at b;rw[h.s];exact⟨a.1,by have:=a.2;omega⟩
def ym (hp am:Nat)(x:Me):List Value:=[.pointer (some ⟨hp,0,none⟩),.map (some am),.int .i64 x.sum,.int .i64 x.dM,.int .i64 x.dL,.int .i64 (x.cS:Int),.int .i64 (x.fK:Int),.int .i64 (x.iF:Int)]
structure MP (σ0 σ:Hp) (L:dQ) (H:Hw) (held:List Pc) (s0:Sp) (P:Rg) (mb am:Nat) (x:Me):Prop where
 e:bO σ0 σ
 h:HH σ P L H
 hi:HI H held s0
 cf:pM H
 ph:∀g∈H.bR,g.ph=none
 pg:H.cf.aF<=128
 pP:∀b,P b->σ0.size<=b/\b<σ.size
 wO:σ0.size<=mb/\¬P mb
 wM:σ0.size<=am/\¬P am
 ne:mb≠am
 b:bX σ mb (ym L.p am x)
 m:dN σ am .i64 bN x.asked
 g0:jS (λb=>σ0.size<=b)/\¬σ0.size<=1
variable {x y:Me}
theorem MP.fr (p:MP σ0 σ L H held s0 P mb am x)(e:bO σ w):MP σ0 w L H held s0 P mb am x:=
 ⟨p.e.trans e,p.h.bK e,p.hi,p.cf,p.ph,p.pg,λb a=>⟨(p.pP b a).1,by have:=(p.pP b a).2;have:=e.1;omega⟩,p.wO,p.wM,p.ne,e.bV p.b id,e.gS p.m id,p.g0⟩
theorem MP.out (p:MP σ0 σ L H held s0 P mb am x)(e:Ext T σ w)(hT:∀b,b<σ.size->T b->¬P b/\b≠mb/\b≠am/\σ0.size<=b):MP σ0 w L H held s0 P mb am x:=by
 have s:=e.1;have a:=p.b.lt;have i:=p.m.lt;have g:Ext (λb=>T b/\b<σ.size) σ w:=⟨e.1,λb a r=>e.2 b a λd=>r ⟨d,a⟩⟩;refine⟨Ext.fH p.e g λb a=>.inr (hT b a.2 a.1).2.2.2,p.h.bU g (λb a j d=>(hT b a d.1).1 j) (λb a=>?_) (λa=>?_),p.hi,p.cf,p.ph,p.pg,λb a=>⟨(p.pP b a).1,by have:=(p.pP b a).2;omega⟩,p.wO,p.wM,p.ne,e.bV p.b λd=>(hT mb a d).2.1 rfl,e.gS p.m λd=>(hT am i d).2.2.1 rfl,p.g0⟩
 ·exact p.g0.1 b (hT b a.2 a.1).2.2.2
 ·exact p.g0.2 (hT _ a.2 a.1).2.2.2
theorem MP.step (p:MP σ0 σ L H held s0 P mb am x){ts':List eD}(e:Ext P σ w)(h':HH w (Grow P σ) {L with ts:=ts'} H'){held':List Pc}{s0':Sp}(hi':HI H' held' s0')(k:Qd H' H)(ph':∀g∈H'.bR,g.ph=none) :
 MP σ0 w {L with ts:=ts'} H' held' s0' (Cut (Grow P σ) w) mb am x:=by
 have u:=e.1;have a:=p.b.lt;have j:=p.m.lt;have i:∀b,b<σ.size->¬P b->¬Cut (Grow P σ) w b:=λb d r s=>by
  rcases s.1 with h3|h3
  ·exact r h3
  ·omega
 refine⟨Ext.fH p.e e λb a=>.inr (p.pP b a).1,h'.cut,hi',p.cf.bU k,ph',by rw[k.2.1];exact p.pg,λb a=>⟨?_,a.2⟩,⟨p.wO.1,i mb a p.wO.2⟩,⟨p.wM.1,i am j p.wM.2⟩,p.ne,e.bV p.b p.wO.2,e.gS p.m p.wM.2,p.g0⟩;have:=p.e.1;rcases a.1 with d|d
 ·exact(p.pP b d).1
 ·omega
theorem MP.fS (p:MP σ0 σ L H held s0 P mb am x)(e:Ext (λb=>b=mb\/b=am) σ w)(hb:bX w mb (ym L.p am y))(hm:dN w am .i64 bN y.asked):MP σ0 w L H held s0 P mb am y:=by
 have j:=e.1;have a:∀b,(b=mb\/b=am)->σ0.size<=b/\¬P b:=λb hb=>by
  rcases hb with rfl|rfl
  ·exact p.wO
  ·exact p.wM
 exact⟨Ext.fH p.e e λb hb=>.inr (a b hb).1,p.h.bU e (λb _ g d=>(a b d).2 g) (λb hb=>p.g0.1 b (a b hb).1) (λhb=>p.g0.2 (a _ hb).1),p.hi,p.cf,p.ph,p.pg,λb hb=>⟨(p.pP b hb).1,by have:=(p.pP b hb).2;omega⟩,p.wO,p.wM,p.ne,hb,hm,p.g0⟩
theorem MP.st (p:MP σ0 σ L H held s0 P mb am x){i:Nat}{u:Value}(hi:i<8)(y:Me)(he:(ym L.p am x).set i u=ym L.p am y)(ha:y.asked=x.asked){K:aP}(hK:∀w,Ext (λb=>b=mb\/b=am) σ w->MP σ0 w L H held s0 P mb am y->K w):cY (Addr.add ⟨mb,0,none⟩ i) u σ K:=by
 refine p.b.s1 (by simp[ym];omega) λw o b=>?_;have e:Ext (λb=>b=mb\/b=am) σ w:=o.ext.sub λb d=>.inl d;rw[zI,he]at b;exact hK w e (p.fS e b (by rw[ha];exact o.ext.gS p.m λ(a:am=mb)=>p.ne a.symm))
theorem MP.bP (p:MP σ0 σ L H held s0 P mb am x):∀g∈H.bR,g.bP=[]:=λg b=>by
 have a:=(p.hi.th g b).ph;unfold iU at a;rw[p.ph g b]at a;exact a
theorem Hs (p:MP σ0 σ L H held s0 P mb am x){R:aO}(hR:R true σ):Xg.c (aW mb) σ R:=by
 refine Xg.o ?_;exact bZ.intro (cJ rfl (aG (p.b.rP rfl hR)))
theorem Jk (p:MP σ0 σ L H held s0 P mb am x)(mi:oF x)(a:Int){R:aP}(hR:∀w,Ext (λb=>b=mb\/b=am) σ w->MP σ0 w L H held s0 P mb am (x.forget a)->R w):XC.c (aW mb) a σ R:=by
 refine XC.o ?_;have u:=mi.jF;have y:0<=(bW x.asked a).getD 0/\(bW x.asked a).getD 0<=16384:=by
  cases hm:bW x.asked a with
  | none=>exact⟨vE _,by decide⟩
  | some z=>exact mi.v _ (Vk hm)
 refine aG (p.b.rI rfl (aG (p.b.rM rfl ⟨x.asked,p.m,ar O O (aG ?_)⟩)));refine p.st O {x with sum:=x.sum-(bW x.asked a).getD 0} rfl rfl λr i d=>aG (d.b.rM rfl ⟨x.asked,d.m,λw2 o2 _ s=>?_⟩);have o2:=o2 am rfl;have e:Ext (λb=>b=mb\/b=am) r w2:=o2.ext.sub λb g=>.inr g;exact hR w2 (i.trans e) (d.fS e (o2.ext.bV d.b λ(j:mb=am)=>p.ne j) s)
set_option maxRecDepth 8000 in
theorem Mv (p:MP σ0 σ L H held s0 P mb am x)(hc:x.calls<=899)(e:Int)(gR:Bool){R:aP}(hR:∀w,Ext (λb=>b=mb\/b=am) σ w->MP σ0 w L H held s0 P mb am ((x.count e gR).eP (H.sp.st.count 2:Nat))->R w) :
 XS.c (aW mb) e (some (Addr.add ⟨mb,0,none⟩ (if gR then 5 else 6))) σ R:=by
 refine XS.o ?_;unfold Me.calls at hc;refine uy (λw=>Ext (λb=>b=mb\/b=am) σ w/\MP σ0 w L H held s0 P mb am (x.count e gR)) (λw ⟨j,d⟩=>?_) λJ A=>?_
 ·generalize hy:x.count e gR=y at d;have B:y.sum=x.sum/\y.dM=x.dM/\y.dL=x.dL:=by subst hy;unfold Me.count;split<;>(try split)<;>exact⟨rfl,rfl,rfl⟩
  refine aG (d.b.rI rfl (aG (d.b.rI rfl (aG (d.st O {y with dM:=if y.sum>y.dM then y.sum else y.dM} rfl rfl λM C r=>?_)))))
  refine⟨λm=>bO M m,Ext.refl _ _,aG (bX.rH (c:=bN) (y:=y.dL) r.b rfl (aG (bX.rH (c:=.p) (y:=some ⟨L.p,0,none⟩) r.b rfl (Qv r.h r.hi r.bP λS u _=>⟨u,?_⟩))))⟩;have F:=r.fr u;have G:H.sp.st.count 2<=128:=by
   have U:=y9 (a:=2) (l:=H.sp.st);have N:=p.hi.sl;have Q:=p.pg;omega
  refine ar O O (aG (F.st O (y.eP (H.sp.st.count 2:Nat)) rfl rfl λE D K=>?_));exact hR E (((j.trans C).trans (bO.to u)).trans D) (by rw[hy];exact K)
 ·refine cI (λz=>?_) λz=>?_
  ·have g:e=0:=by simpa using z
   subst g;cases gR with
   | true=>exact aG (p.b.rI rfl (cA (m:=x.cS+1) aA O (aG (p.st (i:=5) O {x with cS:=x.cS+1} rfl rfl λs j d=>A s ⟨j,d⟩))))
   | false=>exact aG (p.b.rI rfl (cA (m:=x.fK+1) aA O (aG (p.st (i:=6) O {x with fK:=x.fK+1} rfl rfl λs j d=>A s ⟨j,d⟩))))
  ·have g:e≠0:=by simpa using z
   refine aG (p.b.rI rfl (cA (m:=x.iF+1) aA O (aG (p.st O {x with iF:=x.iF+1} rfl rfl λs j d=>A s ⟨j,?_⟩))));have:x.count e gR = {x with iF:=x.iF+1}:=by unfold Me.count;exact zA g
   rw[this];exact d
theorem iY.rest (o:iY H H')(h:∀g∈H.bR,g.ph=none):∀g∈H'.bR,g.ph=none:=λg d=>by
 obtain⟨j,b⟩:=zM d;have a:=o.ph j;unfold gY at a;rw[b]at a;simp only[CU]at a;rw[a];cases hk:H.bR[j]? with
 | none=>rfl
 | some g'=>exact h g' (zE hk)
def Me.gR (x:Me)(a size e:Int)(D:Nat):Me:=((if e=0 then(x.forget a).add a size else x).count e true).eP (D:Int)
def Me.jW (x:Me)(a e:Int)(D:Nat):Me:=((if e=0 then x.forget a else x).count e false).eP (D:Int)
def Md (P:Rg)(mb am:Nat):Rg:=λb=>P b\/b=mb\/b=am
set_option maxRecDepth 8000 in
theorem Lj (p:MP σ0 σ L H held s0 P mb am x)(mi:oF x)(hc:x.calls<=899)(thread size align:Int){R:Int->Int->Hp->Prop}
 (hR:∀a e w ts H' held' s0' P',Ext (Md P mb am) σ w->MP σ0 w {L with ts:=ts} H' held' s0' P' mb am (x.gR a size e (H'.sp.st.count 2))->(∀b,P' b->P b\/σ.size<=b)->Qd H' H->xA H size align H' a e->Hk H thread 0 size align 0 H' a e->R a e w) :
 Xz.c (aW mb) thread size align σ R:=by
 refine Xz.o ?_;refine Hs p (cG rfl (aG (p.b.rP rfl ?_)));obtain⟨H',a,s,S,o,Q⟩:=Wjh p.hi thread size align;refine π D0 p.h p.cf.2.2 S λv1 g N G=>?_;obtain⟨held',s0',E⟩:=o.hi;have M:=p.step N G E o.kp (o.rest p.ph);have D:∀b,Cut (Grow P σ) v1 b->P b\/σ.size<=b:=λb i=>i.1;have r:Ext (Md P mb am) σ v1:=N.sub λb i=>.inl i;have C:∀{u u':Hp},Ext (λb=>b=mb\/b=am) u u'->Ext (Md P mb am) u u':=λe=>e.sub λb i=>.inr i;refine uy (λw=>Ext (Md P mb am) σ w/\MP σ0 w {L with ts:=g} H' held' s0' (Cut (Grow P σ) v1) mb am (if s=0 then(x.forget a).add a size else x)) (λw ⟨K,j⟩=>?_) λJ A=>?_
 ·refine aG (Mv j ?_ s true λw3 y B=>hR a s w3 g H' held' s0' _ (K.trans (C y)) B D o.kp Q S);split<;>exact hc
 ·refine cI (λF=>?_) λF=>?_
  ·have d:s=0:=by simpa using F
   have V:1<=size/\size<=16384:=by
    rcases Q with⟨G,_⟩|⟨_,_,h2,_⟩
    ·exact absurd d G
    ·exact⟨h2.1,h2.2.1⟩
   rw[zB d]at A;have hs:=mi.jF;have hv:0<=(bW x.asked a).getD 0/\(bW x.asked a).getD 0<=16384:=by
    cases hm:bW x.asked a with
    | none=>exact⟨vE _,by decide⟩
    | some z=>exact mi.v _ (Vk hm)
   refine Jk M mi a λw2 K j=>aG (j.b.rM rfl ⟨am,_,rfl,j.m,λw3 o3 W=>?_⟩);have y:Ext (λb=>b=mb\/b=am) w2 w3:=o3.ext.sub λb i=>.inr i;have B:MP σ0 w3 {L with ts:=g} H' held' s0' (Cut (Grow P σ) v1) mb am ⟨dG (cR x.asked a) a size,x.sum-(bW x.asked a).getD 0,x.dM,x.dL,x.cS,x.fK,x.iF⟩:=j.fS y (o3.ext.bV j.b λ(Z:mb=am)=>p.ne Z) W;have U:(x.forget a).sum=x.sum-(bW x.asked a).getD 0:=rfl;refine aG (B.b.rI rfl (ar aC aC (aG (B.st O ((x.forget a).add a size) rfl rfl λY X p4=>A Y ⟨((r.trans (C K)).trans (C y)).trans (C X),p4⟩))))
  ·have d:s≠0:=by simpa using F
   rw[zA d]at A;exact A v1 ⟨r,M⟩
set_option maxRecDepth 8000 in
theorem S8 (p:MP σ0 σ L H held s0 P mb am x)(mi:oF x)(hc:x.calls<=899)(thread addr:Int)(hx:iX addr){R:aN}
 (hR:∀e w ts H' held' s0' P',Ext (Md P mb am) σ w->MP σ0 w {L with ts:=ts} H' held' s0' P' mb am (x.jW addr e (H'.sp.st.count 2))->(∀b,P' b->P b\/σ.size<=b)->Qd H' H->xZ H thread addr H' e->R e w) :
 Zc.c (aW mb) thread addr σ R:=by
 refine Zc.o ?_;refine Hs p (cG rfl (aG (p.b.rP rfl ?_)));obtain⟨H',g,N,o,F⟩:=OM p.hi thread addr hx;refine P1 D0 p.h p.cf.2.2 N λv1 d C M=>?_;obtain⟨held',s0',z⟩:=o.hi;have B:=p.step C M z o.kp (o.rest p.ph);have y:∀b,Cut (Grow P σ) v1 b->P b\/σ.size<=b:=λb j=>j.1;have i:Ext (Md P mb am) σ v1:=C.sub λb j=>.inl j;have D:∀{u u':Hp},Ext (λb=>b=mb\/b=am) u u'->Ext (Md P mb am) u u':=λe=>e.sub λb j=>.inr j;refine uy (λw=>Ext (Md P mb am) σ w/\MP σ0 w {L with ts:=d} H' held' s0' (Cut (Grow P σ) v1) mb am (if g=0 then x.forget addr else x)) (λw ⟨s,r⟩=>?_) λJ m=>?_
 ·refine aG (Mv r ?_ g false λK E G=>hR g K d H' held' s0' _ (s.trans (D E)) G y o.kp F);split<;>exact hc
 ·refine cI (λA=>?_) λA=>?_
  ·have a:g=0:=by simpa using A
   rw[zB a]at m;exact Jk B mi addr λQ s r=>m Q ⟨i.trans (D s),r⟩
  ·have a:g≠0:=by simpa using A
   rw[zA a]at m;exact m v1 ⟨i,B⟩
end Go.Ar
namespace Go.Ar
open Go Go.Vc Go.Proofs
open Go.Vc (bW dG cR)
open Go.Bu (jH)
variable {σ σ0 v w w':Hp}{F P Q X T:Rg}{L:dQ}{H H':Hw}{held:List Pc}{s0:Sp}{t n:Nat}{g:Th}{mb am m:Nat}{x y:Me}
theorem Wlh {s:Sl}{bs:List Bk}(hs:cT s 4 (kO bs) σ F)(hl:bs.length<=1000000)(hb:∀b∈bs,0<=b.2.1/\b.2.1<=270000){R:aN}(hR:∀σ',bO σ σ'->R ((bs.map λb=>b.2.1).sum) σ') :
 Xc.c s ⟨60,#[],#[]⟩ σ R:=by
 refine Xc.o ?_;have K:s.len=bs.length:=by have:=hs.1;rw[Cr]at this;omega
 refine KA (a:=bN) (bb:=bN) (λ(sum i:Int) w=>∃k:Nat,i=k/\k<=bs.length/\bO σ w/\sum=((bs.take k).map λb=>b.2.1).sum) (λ_ i _=>bs.length-i.toNat) ⟨0,rfl,O,Ext.refl _ _,by simp⟩ ?_;rintro(sum:Int) (i:Int) w ⟨k,rfl,hk,e,rfl⟩;refine cI (λH=>?_) λC=>?_
 ·have D:k<bs.length:=by omega
  have p:bs[k]?=some bs[k]:=cM _;generalize bs[k]=b at p;have G:=hb b (zE p);have g:=UO (l:=bs.take k) (f:=λb:Bk=>b.2.1) (c:=270000) λb h=>hb b (qt h);have x:(bs.take k).length=k:=by rw[zP];omega
  rw[x]at g;have d:((bs.take (k+1)).map λb:Bk=>b.2.1).sum=((bs.take k).map λb:Bk=>b.2.1).sum+b.2.1:=by rw[zl,p];simp
  refine I5 (aH.bK (aH.cut hs) e) p λbb o j=>dZ (j 0 _ rfl) (dZ (j 1 _ rfl) (dZ (j 2 _ rfl) (dZ (j 3 _ rfl) ?_)));refine nw (cs:=[.int .i64 0,.int .i64 0,.int .i64 0,.int .i64 0]) λU N L y=>y.s1 aA λv3 o3 A=>A.s1 aA λQ o4 E=>E.s1 aA λV o5 J=>J.s1 aA λv6 o6 r=>?_;have B:bO w v6:=Ext.fresh (Ext.fresh (Ext.fresh (Ext.fresh L o3.ext λi u=>O) o4.ext λi u=>O) o5.ext λi u=>O) o6.ext λi u=>by omega
  refine r.rI rfl (r.rI rfl (r.rI rfl (r.rI rfl ?_)));refine Gm (all := #[.agg #[.int .i64 b.1,.int .i64 b.2.1,.int .i64 b.2.2.1,.int .i64 b.2.2.2]]) (by kernel_rfl) aA ?_;refine XJ.o ?_;refine nw (cs:=[.int .i64 b.1,.int .i64 b.2.1,.int .i64 b.2.2.1,.int .i64 b.2.2.2]) λS P z M=>M.rI rfl (ar O O (cA (m:=k+1) O O ⟨⟨k+1,rfl,O,(e.trans B).trans z,d.symm⟩,O⟩))
 ·have:k=bs.length:=by omega
  subst this;rw[zo];exact hR w e
def QD (l:List (Int×Bk)):Int:=(l.map λe=>e.2.2.1).sum
theorem Tx (hi:HI H held s0){bs:List Bk}(hl:mS H.live bs):(bs.map λb=>(b.1,b)).Perm H.live:=by
 have g:(bs.map λb=>(b.1,b)).Nodup:=py.2 (hl.tL.imp λ{a b} h e=>by have:=congrArg Prod.fst e;simp only at this;omega);have i:H.live.Nodup:=by
  have:=py.1 hi.lk;exact this.imp λ{a b} h e=>h (by rw[e])
 rw[vJ g i];intro e;rw[zC];constructor
 ·rintro⟨b,hb,rfl⟩;exact(hl.mem b).1 hb
 ·intro he;have d:=(hi.lv e he).1;exact⟨e.2,(hl.mem e.2).2 (by rw[d];exact he),by rw[d]⟩
theorem Sr {l l':List Int}(h:l.Perm l'):l.sum=l'.sum:=by
 induction h with
 | nil=>rfl
 | cons a _ ih=>simp only[zS];omega
 | swap a b l=>simp only[zS];omega
 | trans _ _ h1 h2=>omega
theorem PU (hi:HI H held s0){bs:List Bk}(hl:mS H.live bs):(bs.map λb=>b.2.1).sum=QD H.live:=by
 have a:=Sr ((Tx hi hl).map λe=>e.2.2.1);rw[zk]at a;exact a
def Uq (H:Hw):Nat:=KF H+ZW Kd H+ZW Ue H
def QT:List Value:=[.int .i64 0,.int .i64 0,.int .i64 0,.int .i64 0,.int .i64 0,.int .i64 0,.int .i64 0,.int .i64 0,.int .i64 0,.int .i64 0]
set_option maxRecDepth 16000 in
theorem KC (p:MP σ0 σ L H held s0 P mb am x){R:Int->Int->Int->Int->Int->Int->Int->Int->Int->Int->Hp->Prop}
 (hR:∀w,bO σ w->Bw H->R x.sum (QD H.live) (Uq H:Nat) (ZW QN H:Nat) (ZW Qf H*256:Nat) x.dM x.dL (x.cS:Nat) (x.fK:Nat) (x.iF:Nat) w):Wy.c (aW mb) σ R:=by
 refine Wy.o ?_;refine nw (cs:=QT) λv hz e V=>Hs (p.fr e) (cG rfl (aG ((p.fr e).b.rP rfl (Qv (p.fr e).h p.hi p.bP λA U so=>?_))));refine nw (cs:=Qz) λv13 X E F=>ve F _ _ _ _ _ _ _ _ _ _ _ λv24 J g=>?_;have u:bO A v24:=Ext.fresh E J λi (hi:i=A.size)=>by omega
 have ev:bO v v24:=U.trans u;have d:=(p.fr e).fr ev;obtain⟨M,K,S,D,W,N,G⟩:=so;refine⟨λm=>bO v24 m,Ext.refl _ _,aG (bX.rH (c:=bN) (y:=x.sum) d.b rfl (aG (bX.rH (c:=.p) (y:=some ⟨L.p,0,none⟩) d.b rfl (bX.rH (c:=bN) (y:=(KF H:Nat)) g rfl (bX.rH (c:=bN) (y:=0) g rfl (cA (m:=KF H) O O ?_))))))⟩;refine bX.rH (c:=bN) (y:=(ZW Kd H:Nat)) g rfl (cA (m:=KF H+ZW Kd H) O O (bX.rH (c:=bN) (y:=(ZW Ue H:Nat)) g rfl (cA (m:=Uq H) (by unfold Uq;omega) (by unfold Uq;omega) ?_)));refine bX.rH (c:=bN) (y:=(ZW QN H:Nat)) g rfl (bX.rH (c:=bN) (y:=(ZW Qf H:Nat)) g rfl (cA (m:=ZW Qf H*256) O O ?_));refine aG (bX.rH (c:=bN) (y:=x.dM) d.b rfl (aG (bX.rH (c:=bN) (y:=x.dL) d.b rfl (aG (bX.rH (c:=bN) (y:=(x.cS:Int)) d.b rfl (aG (bX.rH (c:=bN) (y:=(x.fK:Int)) d.b rfl (aG (bX.rH (c:=bN) (y:=(x.iF:Int)) d.b rfl ?_)))))))));refine LQ d.h p.hi λs Y bs j Q B=>⟨j,?_⟩;refine Wlh (bS.gE B) (by rw[Q.len];exact p.hi.jE) (λb V=>?_) λC r=>⟨j.trans r,?_⟩
 ·have:=p.hi.jO ((Q.mem b).1 V);simp only at this;omega
 rw[PU p.hi Q];have z:bX C σ.size QT:=((ev.trans j).trans r).bV V id;unfold QT at z;refine z.s1 aA λv1 o1 b1=>b1.s1 aA λv2 o2 b2=>b2.s1 aA λv3 o3 b3=>b3.s1 aA λv4 o4 b4=>b4.s1 aA λv5 o5 Z=>Z.s1 aA λv6 o6 b6=>b6.s1 aA λv7 o7 b7=>b7.s1 aA λv8 o8 b8=>b8.s1 aA λv9 o9 b9=>b9.s1 aA λv10 fR a=>?_;refine a.rI rfl (a.rI rfl (a.rI rfl (a.rI rfl (a.rI rfl (a.rI rfl (a.rI rfl (a.rI rfl (a.rI rfl (a.rI rfl (hR v10 ?_ ⟨M,K,S,D,W,N,G⟩))))))))));have eo:Ext (· = σ.size) C v10:=((((((((o1.ext.trans o2.ext).trans o3.ext).trans o4.ext).trans o5.ext).trans o6.ext).trans o7.ext).trans o8.ext).trans o9.ext).trans fR.ext;exact Ext.fresh (((e.trans ev).trans j).trans r) eo λi (hi:i=σ.size)=>by omega
theorem WkY (h:HH σ F L H)(hp:1<=H.cf.aF){R:aO}(hR:∀σ',bO σ σ'->R true σ'):QI.c (aW L.p) σ R:=by
 refine QI.o ?_;refine bZ.intro (cJ rfl (PF h λw e=>?_));have:decide ((H.cf.aF:Int)>0)=true:=zT O;rw[this];exact hR w e
theorem NN (e0:bO σ0 σ)(h:HH σ P L H)(hi:HI H held s0)(hc:pM H)(hph:∀g∈H.bR,g.ph=none)(hpg:H.cf.aF<=128)(hP:∀b,P b->σ0.size<=b/\b<σ.size)(hg:jS (λb=>σ0.size<=b)/\¬σ0.size<=1){R:Option Addr->Int->Hp->Prop}
 (hR:∀w mb am,bO σ w->σ.size<=mb->σ.size<=am->MP σ0 w L H held s0 P mb am su->R (some ⟨mb,0,none⟩) 0 w):QR.c (aW L.p) σ R:=by
 refine QR.o ?_;refine WkY h hc.1 λv e=>cG rfl (xo λr j x s=>nw (cs:=ym L.p v.size su) λz y i u=>?_);have m:=e.1;have A:=e0.1;have a:=(e.trans x).trans i;refine hR z r.size v.size a O m ⟨e0.trans a,h.bK a,hi,hc,hph,hpg,λb d=>⟨(hP b d).1,by have:=(hP b d).2;omega⟩,⟨O,λd=>by have:=(hP _ d).2;omega⟩,⟨O,λd=>by have:=(hP _ d).2;omega⟩,O,u,i.gS (s _ _) id,hg⟩
end Go.Ar
namespace Go.Ar
open Go.Vc (bW dG cR)
open Go.Bu (jH)
variable {H:Hw}{held:List Pc}{s0:Sp}
def wI (g:Th):List (Int×Int):=(List.range g.ls.length).flatMap λj=>(g.ls.getD j gT).os.map λx=>((j:Int),x)
theorem Whb (j:Nat)(k x:Int)(l:List Int):(l.map λy=>((j:Int),y)).count (k,x)=if k=(j:Int)then l.count x else 0:=by
 induction l with
 | nil=>simp
 | cons y l ih=>
  rw[zH,yS,yS,ih];by_cases hk:k=(j:Int)
  ·subst hk;by_cases hy:y=x
   ·subst hy;simp
   ·simp[hy]
  ·have:¬(j:Int)=k:=λh=>hk h.symm;simp[hk,this]
theorem PQ (g:Th)(k x:Int):(wI g).count (k,x)=nG g.ls k x:=by
 unfold wI nG;rw[List.count_flatMap];have d:(List.count (k,x)∘λ(j:Nat)=>(g.ls.getD j gT).os.map λx=>((j:Int),x))=λ(j:Nat)=>if k=(j:Int)then(g.ls.getD j gT).os.count x else 0:=funext λj=>Whb j k x _
 rw[d];by_cases hk:0<=k
 ·obtain⟨n,rfl⟩:=zn hk;rw[zB hk,dE];have b:(λj:Nat=>if(n:Int)=(j:Int)then(g.ls.getD j gT).os.count x else 0)=λj=>if j=n then(g.ls.getD n gT).os.count x else 0:=funext λj=>by
   by_cases h:j=n
   ·subst h;rw[zB rfl,zB rfl]
   ·rw[zA O,zA h]
  rw[b];by_cases hn:n<g.ls.length
  ·exact FA _ _ _ hn
  ·have e:g.ls.getD n gT=gT:=by rw[zL,za O];rfl
   rw[e];have i:gT.os.count x=0:=rfl;rw[i];generalize List.range g.ls.length=l
   induction l with
   | nil=>rfl
   | cons a l ih=>rw[zH,zS,ih];split<;>rfl
 ·rw[zA hk];generalize List.range g.ls.length=l
  induction l with
  | nil=>rfl
  | cons a l ih=>rw[zH,zS,ih,zA O]
def vo (H:Hw):List (Int×Int):=H.live.map (λe=>(e.2.2.2.1,e.1))++H.bR.flatMap wI
def wR (held:List Pc):List (Int×Int):=(held.filter λp=>!p.dF).map λp=>(p.cls,(p.addr:Int))
theorem Rs (hh:∀g∈H.bR,g.bP=[])(hp:∀g∈H.bR,g.ph=none)(k x:Int):(vo H).count (k,x)=tP H k x:=by
 unfold vo tP;rw[wP,List.count_flatMap]
 congr 1
 ·unfold pU;rw[List.count,BA];refine Ck λe _=>?_;simp
 ·refine congrArg List.sum (ze λg a=>?_);unfold gV;rw[hh g a,hp g a];show(wI g).count (k,x)=nG g.ls k x+0+0;rw[PQ];rfl
theorem Ov {k x:Int}:(k,x)∈wR held↔Um held k x:=by
 unfold wR Um;simp only[zC,zF,pZ,Prod.mk.injEq];exact⟨λ⟨p,⟨b,a⟩,d,e⟩=>⟨p,b,a,d,e⟩,λ⟨p,b,a,d,e⟩=>⟨p,⟨b,a⟩,d,e⟩⟩
theorem Rw (hi:HI H held s0):(wR held).Nodup:=by
 unfold wR;have j:held.Nodup:=(py.1 hi.wi.hk).imp λ{a b} h e=>h (by rw[e]);refine py.2 (List.Pairwise.imp_of_mem (λ{p q} g d i m=>?_) (j.filter _));have g:=(zF.1 g).1;have d:=(zF.1 d).1;simp only[Prod.mk.injEq]at m;exact i (hi.wi.same g d O)
theorem Woz (hi:HI H held s0)(hh:∀g∈H.bR,g.bP=[])(hp:∀g∈H.bR,g.ph=none):(wR held).Perm (vo H):=by
 rw[List.perm_iff_count];rintro⟨k,x⟩;rw[Rs hh hp,hi.cn];have a:=Rw hi;by_cases hu:Um held k x
 ·have d:=CR.1 a (k,x);have b:=AP.2 (Ov.2 hu);rw[KD hu];omega
 ·rw[QM hu,yn];exact λh=>hu (Ov.1 h)
def wb (held:List Pc)(e:Int×Int):Nat:=((held.find? λp=>!p.dF&&(p.cls==e.1&&(p.addr:Int)==e.2)).map (·.size)).getD 0
theorem EM (hi:HI H held s0){p:Pc}(hp:p∈held)(hm:p.dF=false):wb held (p.cls,(p.addr:Int))=p.size:=by
 unfold wb;have e:(held.find? λq=>!q.dF&&(q.cls==p.cls&&(q.addr:Int)==(p.addr:Int))).isSome=true:=by
  rw[Dq];exact⟨p,hp,by simp[hm]⟩
 obtain⟨q,a⟩:=tf.1 e;have d:=wq a;have b:=wk a;simp only[zG,zY]at b;obtain rfl:=hi.wi.same hp d O;simp only;rw[a];rfl
theorem WpY {l l':List Nat}(h:l.Perm l'):l.sum=l'.sum:=by
 induction h with
 | nil=>rfl
 | cons a _ ih=>simp only[zS];omega
 | swap a b l=>simp only[zS];omega
 | trans _ _ h1 h2=>omega
theorem Fq {α β:Type}(f:α->List β)(g:β->Nat):∀(l:List α),((l.flatMap f).map g).sum=(l.map λa=>((f a).map g).sum).sum
 | []=>rfl
 | a::l=>by rw[qb,zy,uv,Fq f g l,zH,zS]
theorem Pe {l:List Int}{g:Int->Nat}{c:Nat}(h:∀x∈l,g x=c):(l.map g).sum=l.length*c:=by
 induction l with
 | nil=>simp
 | cons a l ih=>
  rw[zH,zS,h a nE,ih λx b=>h x (mJ _ b),zN,zc];omega
theorem Wlk (hi:HI H held s0){g:Th}(hg:g∈H.bR):((wI g).map (wb held)).sum=Qm H.tb g.ls:=by
 have r:=(hi.th g hg).ll;unfold wI Qm;rw[Fq,U9 (λc l=>c.size*l.os.length) H.tb g.ls r,r];refine congrArg List.sum (ze λj E=>?_);have b:=zQ.1 E;have s:H.tb[j]?=some H.tb[j]:=cM b;have a:j<g.ls.length:=by omega
 have e:g.ls[j]?=some (g.ls[j]'a):=cM a;have m:g.ls.getD j gT=g.ls[j]:=by rw[zL,e];rfl
 rw[yU s e,m,zk,Pe (c:=H.tb[j].size) λx B=>?_,Ab];have C:1<=gV g (j:Int) x:=by
  have J:nG g.ls (j:Int) x=(g.ls[j]).os.count x:=by unfold nG;rw[zB O,dE,m]
  have G:=AP.2 B;unfold gV;omega
 obtain⟨p,d,F,i,D⟩:=C9 (zJ C (hi.qC hg _ _));show wb held ((j:Int),x)=_;rw[←i,←D,EM hi d F];obtain⟨A,u,_⟩:=hi.wi.hf p d;obtain⟨c,w,y,_⟩:=hi.wi.cls d i u;have z:A.tb=H.tb:=hi.wi.tb _ _ u;rw[z,s]at w;cases w;exact y
theorem T5 (hi:HI H held s0):((H.live.map (λe:Int×Bk=>((e.2.2.2.1,e.1):Int×Int))).map (wb held)).sum=(H.live.map λe=>e.2.2.1.toNat).sum:=by
 rw[zk];refine congrArg List.sum (ze λe b=>?_);obtain⟨_,p,d,i,a,j,g,_⟩:=hi.lv e b;show wb held (e.2.2.2.1,e.1)=e.2.2.1.toNat;rw[←a,←j,EM hi d i,g,dE]
theorem Mw {α:Type}{f:α->Int}:∀{l:List α},(∀a∈l,0<=f a)->(((l.map λa=>(f a).toNat).sum:Nat):Int)=(l.map f).sum
 | [],_=>rfl
 | a::l,h=>by
  have h1:=h a nE;have e:=Mw λb d=>h b (mJ _ d);simp only[zH,zS];omega
theorem Tz (hi:HI H held s0)(hh:∀g∈H.bR,g.bP=[])(hp:∀g∈H.bR,g.ph=none):((eH (λp=>!p.dF) held:Nat):Int)=QD H.live+(KF H:Nat):=by
 have b:eH (λp=>!p.dF) held=((wR held).map (wb held)).sum:=by
  unfold eH wR;rw[zk];refine congrArg List.sum (ze λp hp=>?_);obtain⟨b,a⟩:=zF.1 hp;exact(EM hi b (by simpa using a)).symm
 have a:((H.bR.flatMap wI).map (wb held)).sum=KF H:=by
  rw[Fq];exact congrArg List.sum (ze λg i=>Wlk hi i)
 rw[b,WpY ((Woz hi hh hp).map _)];unfold vo;rw[zy,uv,T5 hi,a];have j:=Mw (l:=H.live) (f:=λe:Int×Bk=>e.2.2.1) λe d=>by have:=hi.jO d;omega
 unfold QD;omega
theorem JJ {α:Type}(f F:α->Nat)(g:Nat->Nat):∀(l:List α) (m:Nat),(∀i a,l[i]?=some a->f a=F a+g (m+i))->(l.map f).sum=(l.map F).sum+((List.range l.length).map λi=>g (m+i)).sum
 | [],_,_=>rfl
 | a::l,m,h=>by
  have h1:=h 0 a rfl;have d:=JJ f F g l (m+1) λi b j=>by rw[h (i+1) b (by simpa using j),show m+1+i=m+(i+1) by omega]
  rw[zH,zS,d,zH,zS,zN,y6,zH,zS,zk];have e:((λi=>g (m+i))∘Nat.succ)=λi=>g (m+1+i):=funext λi=>by show g (m+(i+1))=_;rw[show m+(i+1)=m+1+i by omega]
  rw[e];omega
theorem Jb (f:Pc->Bool)(n:Nat):∀(l:List Pc),(∀p∈l,p.k<n)->((List.range n).map λk=>eH (λp=>p.k==k&&f p) l).sum=eH f l
 | [],_=>by
  have:(λk:Nat=>eH (λp=>p.k==k&&f p) [])=λ_=>0:=rfl;rw[this];generalize List.range n=l
  induction l with
  | nil=>rfl
  | cons a l ih=>rw[zH,zS,ih];rfl
 | p::l,h=>by
  have e:=h p nE;have d:(λk:Nat=>eH (λp=>p.k==k&&f p) (p::l))=λk=>(if k=p.k then(if f p then p.size else 0)else 0)+eH (λp=>p.k==k&&f p) l:=funext λk=>by
   rw[UF]
   congr 1
   by_cases hk:k=p.k
   ·subst hk;simp
   ·have:(p.k==k)=false:=by simpa using λh:p.k=k=>hk h.symm
    rw[zA hk,this];rfl
  rw[d,VR,FA _ _ _ e,Jb f n l λq b=>h q (mJ _ b),UF]
theorem M0 (p:Nat->Bool)(n:Nat):(List.range n).countP p=((List.range n).map λi=>if p i then 1 else 0).sum:=by
 generalize List.range n=l
 induction l with
 | nil=>rfl
 | cons a l ih=>rw[ud,ih,zH,zS];omega
theorem ML {α β:Type}(f:α->β->Nat):∀(l:List α) (m:List β),(l.map λa=>(m.map λb=>f a b).sum).sum=(m.map λb=>(l.map λa=>f a b).sum).sum
 | [],m=>by
  induction m with
  | nil=>rfl
  | cons b m ih=>rw[zH,zS,←ih];rfl
 | a::l,m=>by
  rw[zH,zS,ML f l m,←VR];rfl
theorem Na {α:Type}(f:α->Bool):∀(l:List α),(∀(i j:Nat) (a b:α),l[i]?=some a->l[j]?=some b->f a=true->f b=true->i=j)->(l.map λa=>if f a then 1 else 0).sum=if l.any f then 1 else 0
 | [],_=>rfl
 | a::l,h=>by
  have ih:=Na f l λi j x y m p g d=>by have:=h (i+1) (j+1) x y (by simpa using m) (by simpa using p) g d;omega
  rw[zH,zS,ih,C1];cases hf:f a with
  | false=>simp
  | true=>
   have:l.any f=false:=by
    rw[p8];intro b hb hfb;obtain⟨j,e⟩:=zM hb;have:=h 0 (j+1) a b rfl (by simpa using e) hf hfb;omega
   rw[this];rfl
theorem SA (hi:HI H held s0):(H.bT.map λA=>(List.range A.n).countP λ(p:Nat)=>V7 A (p:Int)).sum=Qy H.sp.st:=by
 have e:∀(k:Nat) (A:AR),H.bT[k]?=some A->A.n=s0.st.length:=λk A a=>(hi.wi.ow k A a).l.symm;have r:(H.bT.map λA=>(List.range A.n).countP λ(p:Nat)=>V7 A (p:Int))=H.bT.map λA=>((List.range s0.st.length).map λp=>if A.f p≠0 then 1 else 0).sum:=ze λA a=>by
  obtain⟨k,b⟩:=zM a;rw[e k A b,M0];refine congrArg List.sum (ze λp _=>?_);by_cases h:A.f p≠0
  ·rw[zB h,zB (GD.2 ⟨O,by simpa using h⟩)]
  ·rw[zA h,zA λx=>h (by have:=(GD.1 x).2;simpa using this)]
 rw[r,ML];have w:∀st:List Nat,Qy st=((List.range st.length).map λp=>if gf st p≠0 then 1 else 0).sum:=λst=>by
  unfold Qy;have s:(List.range st.length).map (λp=>gf st p)=st:=by
   apply List.ext_getElem
   ·simp
   ·intro i m d;simp[gf,d]
  conv=>lhs;rw[←s]
  rw[BA,M0];refine congrArg List.sum (ze λp _=>?_);simp
 rw[w,hi.lW.l];refine congrArg List.sum (ze λp C=>?_);have m:=Na (λA:AR=>decide (A.f p≠0)) H.bT λi j A B a u d g=>hi.wi.one p i j A B a u (qs d) (qs g);have d:(H.bT.map λA=>if A.f p≠0 then 1 else 0).sum=if H.bT.any (λA:AR=>decide (A.f p≠0))then 1 else 0:=by
  rw[←m];refine congrArg List.sum (ze λA _=>?_);simp
 rw[d];have g:H.bT.any (λA:AR=>decide (A.f p≠0))=true↔gf H.sp.st p≠0:=by
  rw[zw];constructor
  ·rintro⟨A,a,h⟩;obtain⟨k,b⟩:=zM a;exact(not_congr (hi.lW.z p)).2 ((hi.wi.ow k A b).own p (qs h))
  ·intro h;obtain⟨k,A,b,y⟩:=hi.wi.own p ((not_congr (hi.lW.z p)).1 h);exact⟨A,zE b,zT y⟩
 by_cases h6:gf H.sp.st p≠0
 ·rw[zB h6,zB (g.2 h6)]
 ·rw[zA h6,zA λh=>h6 (g.1 h)]
theorem Py (c:Nat){mv ru sp ro ta fr own o r:Nat}(e2:ru*c=r)(e3:sp*c=o+mv+ro+ta)(e4:sp+ru+fr=own):own*c=mv+ro+ta+fr*c+(o+r):=by
 subst e4;rw[zc,zc,e2,e3];omega
set_option maxRecDepth 8000 in
theorem Sw (hi:HI H held s0)(hh:∀g∈H.bR,g.bP=[])(hp:∀g∈H.bR,g.ph=none):QD H.live+(Uq H:Nat)+(ZW QN H:Nat)+(ZW Qf H*256:Nat)=((Qy H.sp.st*256:Nat):Int):=by
 have C:=Tz hi hh hp;have e:=SA hi;have d:∀p∈held,p.k<H.bT.length:=λp hp=>by obtain⟨A,a,_⟩:=hi.wi.hf p hp;exact(cQ.1 a).1
 have b:=JJ (λA=>((List.range A.n).countP λ(p:Nat)=>V7 A (p:Int))*256) (λA=>Kd A+Ue A+QN A+Qf A*256) (λk=>eH (λp=>p.k==k && !p.dF) held) H.bT 0 λk A a=>by
  have ga:=hi.wi.ga k A a;have w:Kd A=eH (Vg k) held:=ε hi.wi a;have i:VD A*256=eH (td k) held:=Wne hi.wi a;have m:Vf A*256=eH (yN k) held+Kd A+Ue A+QN A:=by rw[w];exact ξ hi.wi a
  have r:=MV ga;have u:eH (yN k) held+eH (td k) held=eH (λp=>p.k==k && !p.dF) held:=D9 held λp hp=>by
   obtain⟨B,x,hd⟩:=hi.wi.hf p hp;unfold yN td;by_cases hpk:p.k=k
   ·rcases hd with⟨c1,c2,_⟩|⟨j,c,c1,_⟩
    ·simp[hpk,c1,c2]
    ·have s:¬p.cls<0:=by omega
     simp[hpk,s]
   ·simp[hpk]
  simp only[zI];rw[←u];exact Py 256 i m r
 simp only[zI]at b;rw[Jb (λp=>!p.dF) _ _ d]at b;have y:(H.bT.map λA=>((List.range A.n).countP λ(p:Nat)=>V7 A (p:Int))*256).sum=Qy H.sp.st*256:=by rw[←e,Dr]
 have z:(H.bT.map λA=>Kd A+Ue A+QN A+Qf A*256).sum=ZW Kd H+ZW Ue H+ZW QN H+ZW Qf H*256:=by
  unfold ZW;rw[Dr,VR,VR,VR]
 unfold Uq;omega
end Go.Ar
namespace Go.Ar
open Go Go.Vc Go.Proofs
variable {σ v w:Hp}{s:Sl}{xs:List (Int×Int×Int)}
def M9 (c:bY)(size:Int):Int:=(c.size:Int)-size+(((c.tail+c.n-1)/c.n:Nat):Int)
def yH (xs:List (Int×Int×Int))(size align:Int):Int×Int:=if Qo xs then(if size<=16384/\K0 size align=true then(match gH (xs.map ZX) size align with
 | some k=>M9 ((xs.map ZX).getD k ⟨8,1,1⟩) size
 | none=>yT size-size,0)else(0,1))else(0,2)
theorem Si (ha:gM σ s xs){i:Nat}{x y z:Int}(hx:xs[i]?=some (x,y,z)){K:Int->Prop}(hK:K x):Ix s.a s.len (i:Int) 3 λa=>fL .i64 (a.add 0) σ K:=by
 have g:=(cQ.1 hx).1;obtain⟨j,h⟩:=ha;obtain⟨b,o,e,_,d,_⟩:=h i x y z hx;rw[e];refine ix O O (rl ?_ hK);rw[add_lit,add_lit];simpa using d
theorem Wha {c:bY}(hc:c.ok):c.tail<=1024/\1<=c.n/\c.n<=128/\(c.tail+c.n-1)/c.n<=1200:=by
 have d:=hc.qY;have b:=hc.lI;have a:c.tail<=1024:=by unfold bY.tail;have:=hc.2.2.2.2.1;omega
 exact⟨a,d,b,zJ (Nat.div_le_self _ _) O⟩
set_option maxRecDepth 8000 in
theorem WkP (ha:gM σ s xs)(size align:Int){R:Int->Int->Hp->Prop}(hR:∀σ',bO σ σ'->R (yH xs size align).1 (yH xs size align).2 σ'):Qi.c s size align σ R:=by
 refine Qi.o ?_;refine H5 ha λv e=>?_;have y:=YP ha e;cases hv:Qo xs with
 | false=>
  have:=hR v e;unfold yH at this;rw[hv]at this;exact cJ rfl this
 | true=>
  refine cG rfl ?_;have fin:∀r,r = !decide (size<=16384/\K0 size align=true)->(r=true->R 0 1 v)/\(r=false->size<=16384/\K0 size align=true):=by
   intro r b;refine⟨λh=>?_,λh=>?_⟩
   ·have Z:¬(size<=16384/\K0 size align=true):=by rw[b,pZ,decide_eq_false_iff_not]at h;exact h
    have:=hR v e;unfold yH at this;rw[hv,zB rfl,zA Z]at this;exact this
   ·rw[b]at h;simpa using h
  refine Ud (λr w=>v=w/\r=decide (size<1\/16384<size)) (λr w ⟨z,b⟩=>?_) λJ d=>cI (λh=>d _ _ ⟨rfl,(zT (.inl h)).symm⟩) λh=>d _ _ ⟨rfl,by rw[decide_eq_decide];omega⟩;subst z;refine Ud (λr p=>v=p/\r=decide (size<1\/16384<size\/align<1)) (λr p ⟨z,b⟩=>?_) λJ d=>cU (λh=>d _ _ ⟨rfl,by rw[b]at h;have:=qs h;exact(zT O).symm⟩) λh=>d _ _ ⟨rfl,by rw[b]at h;have:=uG h;rw[decide_eq_decide];omega⟩;subst z;refine Ud (λr p=>v=p/\r=decide (size<1\/16384<size\/align<1\/256<align)) (λr p ⟨z,b⟩=>?_) λJ d=>cU (λh=>d _ _ ⟨rfl,by rw[b]at h;have:=qs h;exact(zT O).symm⟩) λh=>d _ _ ⟨rfl,by rw[b]at h;have:=uG h;rw[decide_eq_decide];omega⟩;subst z;refine Ud (λr p=>v=p/\r = !decide (size<=16384/\K0 size align=true)) (λr p ⟨z,b⟩=>?_) λJ d=>cU (λh=>d _ _ ⟨rfl,?_⟩) λh=>?_
  ·subst z;obtain⟨W,f2⟩:=fin r b;refine cU W λV=>?_;obtain⟨hs,g⟩:=f2 V;have X:1<=size:=by simp only[K0,zG,zV]at g;exact g.1
   refine N8 y hv size align λP M=>?_;have a:=λF (C:bO P F)=>hR F ((e.trans M).trans C);unfold yH at a;rw[hv,zB rfl,zB ⟨hs,g⟩]at a;rw[g];cases hcl:gH (xs.map ZX) size align with
   | none=>
    rw[hcl]at a;refine cJ rfl (ar O O (ar O O (nz aB (ar (by rw[Yb O];omega) (by rw[Yb O];omega) ?_))));rw[Yb O];refine ar O O (ar O O ?_);have Q:=a P (Ext.refl _ _);simp only[yT]at Q;rw[show size+256-1=size+255 by omega];exact Q
   | some k=>
    rw[hcl]at a;have S:k<(xs.map ZX).length:=(B9.1 hcl).1;have x:(xs.map ZX)[k]?=some (xs.map ZX)[k]:=cM S;generalize (xs.map ZX)[k]=c at x;have E:(xs.map ZX).getD k ⟨8,1,1⟩=c:=by rw[zL,x];rfl
    simp only[E]at a;obtain⟨G,j⟩:=UW y hv x;obtain⟨b1,b2,b3,b4⟩:=Wha j;have B:=YP y M;have Y:=j.2.1;refine cG rfl ?_;simp only[zW,sS];refine Hi B G (UU _ _ _ (λi U L h2 N F C=>?_) λu=>?_)
    ·have H:i=c:=by
      cases i;cases c;simp only[bY.mk.injEq]at *;omega
     subst H;obtain⟨q,D⟩:∃q,(i.tail+i.n-1)/i.n=q:=⟨_,rfl⟩;rw[D]at b4;unfold M9 at a;rw[D]at a;have A:=YP B C;refine Hi A G (Ls j λv8 K=>?_);refine Si (YP A K) G (ar O O (cA (m:=i.tail+i.n) O O (cA (m:=i.tail+i.n-1) O O (nz O (cA (m:=q) ?_ O (ar O O ?_))))))
     ·rw[Yb O,←D];exact(Int.natCast_ediv _ _).symm
     ·exact a v8 (C.trans K)
    ·rw[(UM c).2 j]at u;cases u
  ·rw[b]at h;have L:=qs h;have:¬(size<=16384/\K0 size align=true):=λ⟨h2,N⟩=>by
    simp only[K0,zG,zV]at N;omega
   rw[zg this];rfl
  ·rw[b]at h;have L:=uG h;refine ar O O (d _ _ ⟨rfl,?_⟩);rw[Rb O O]
   congr 1
   rw[qN,zV];simp only[K0,zG,zV];exact⟨λh=>⟨O,O,O,O,h⟩,λh=>h.2.2.2.2⟩
end Go.Ar
namespace Go.Ar
open Go Go.Vc Go.Proofs
open Go.Vc (bW dG cR)
variable {σ σ0 v w w':Hp}{F P Q X T:Rg}{L:dQ}{H H':Hw}{held:List Pc}{s0:Sp}{t n:Nat}{g:Th}{mb am m:Nat}{x y:Me}{s:Sl}{xs:List (Int×Int×Int)}{bs:List Bk}
abbrev U6:=Int×Int×Int×Int×Int×Int
def uS (f:Bk->Int)(bs:List Bk)(c:Int):Int:=(bs.map λb=>if b.2.2.1=c then f b else 0).sum
def one (_:Bk):Int:=1
def sk (b:Bk):Int:=b.2.1
def sd (asked:List (Int×Int))(b:Bk):Int:=(bW asked b.1).getD 0
theorem DX {f:Bk->Int}{i:Nat}{b:Bk}(h:bs[i]?=some b)(c:Int):uS f (bs.take (i+1)) c=uS f (bs.take i) c+(if b.2.2.1=c then f b else 0):=by
 unfold uS;rw[zl,h];simp
theorem yr {f:Bk->Int}{k:Int}(hk:0<=k)(h:∀b∈bs,0<=f b/\f b<=k)(c:Int):0<=uS f bs c/\uS f bs c<=bs.length*k:=by
 refine UO (f:=λb:Bk=>if b.2.2.1=c then f b else 0) λb a=>?_
 have:=h b a;split<;>omega
theorem F9 {f:Bk->Int}{c:Int}:∀{bs:List Bk},uS one bs c=0->uS f bs c=0
 | [],_=>rfl
 | b::bs,h=>by
  have hp:=(yr (f:=one) (bs:=bs) (k:=1) O (λb _=>⟨by unfold one;omega,by unfold one;omega⟩) c).1;have d:uS one (b::bs) c=(if b.2.2.1=c then 1 else 0)+uS one bs c:=rfl
  have a:uS f (b::bs) c=(if b.2.2.1=c then f b else 0)+uS f bs c:=rfl
  rw[d]at h;by_cases hc:b.2.2.1=c
  ·rw[zB hc]at h;omega
  ·rw[zA hc]at h a;rw[a,F9 O];omega
def sN (asked:List (Int×Int))(bs:List Bk)(c:Int):U6:=(c,0,uS one bs c,uS sk bs c,uS (sd asked) bs c,0)
def DN (U:List (Int×U6))(asked:List (Int×Int))(bs:List Bk):Prop:=∀c,bW U c=if uS one bs c=0 then none else some (sN asked bs c)
theorem DN.q {U:List (Int×U6)}{asked:List (Int×Int)}(h:DN U asked bs)(c:Int):∃a,(bW U c).getD (0,0,0,0,0,0)=(a,0,uS one bs c,uS sk bs c,uS (sd asked) bs c,0):=by
 rw[h c];split
 ·rename_i h0;exact⟨0,by rw[h0,F9 h0,F9 h0];rfl⟩
 ·exact⟨c,rfl⟩
def pF (tb:List bY)(j:Nat):Int:=if j=0 then 0 else((tb.getD (j-1) ⟨8,1,1⟩).size:Int)
def pV (tb:List bY)(j:Nat)(l:Int):Int:=if j=0 then 0 else(l+((tb.getD (j-1) ⟨8,1,1⟩).n:Int)-1)/((tb.getD (j-1) ⟨8,1,1⟩).n:Int)
def vX (tb:List bY)(asked:List (Int×Int))(bs:List Bk)(j:Nat):Option U6:=if uS one bs ((j:Int)-1)=0 then none else
 some ((j:Int)-1,pF tb j,uS one bs ((j:Int)-1),uS sk bs ((j:Int)-1),uS (sd asked) bs ((j:Int)-1),pV tb j (uS one bs ((j:Int)-1)))
def uP (tb:List bY)(asked:List (Int×Int))(bs:List Bk)(m:Nat):List U6:=(List.range m).filterMap (vX tb asked bs)
def rZ (r:U6):List Value:=[.int .i64 r.1,.int .i64 r.2.1,.int .i64 r.2.2.1,.int .i64 r.2.2.2.1,.int .i64 r.2.2.2.2.1,.int .i64 r.2.2.2.2.2]
def qF (l:List U6):List Value:=l.flatMap rZ
theorem Μ (tb:List bY)(asked:List (Int×Int))(bs:List Bk)(m:Nat):uP tb asked bs (m+1)=uP tb asked bs m++(vX tb asked bs m).toList:=by
 unfold uP;rw[mD,yJ];cases h:vX tb asked bs m<;>simp[h]
theorem TW (tb:List bY)(asked:List (Int×Int))(bs:List Bk)(m:Nat):(uP tb asked bs m).length<=m:=by
 have:=List.length_filterMap_le (vX tb asked bs) (List.range m);rw[sH]at this;exact this
theorem Fk (l:List U6):(qF l).length=l.length*6:=by
 unfold qF
 induction l with
 | nil=>rfl
 | cons b bs ih=>rw[qb,zK,ih];simp[rZ];omega
theorem Re (ha:gM σ s xs){i:Nat}{x y z:Int}(hx:xs[i]?=some (x,y,z)){K:Int->Prop}(hK:K x):Ix s.a s.len (i:Int) 3 λa=>gW (λm=>bO σ m) bN (a.add 0) K:=by
 have p:=(cQ.1 hx).1;obtain⟨r,h⟩:=ha;obtain⟨b,o,g,_,e,_⟩:=h i x y z hx;rw[g];refine ix O O ⟨x,λm j=>?_,hK⟩;have d:cell σ ⟨b,o+(i:Int).toNat*3+0,none⟩=some (.int .i64 x):=by simpa using e
 rw[add_lit,add_lit,Q0 j (Q4 d) id];exact d
theorem Ih {k:IntKind}{c:CK}{r:Nat}{l:List (Int×c.T)}{n:Int}{o:Option c.T}{K:Option c.T->Prop}(hm:dN σ r k c l)(h:bW l n=o)(hK:K o):Lk k c (some r) n σ K:=⟨l,hm,by rw[h];exact hK⟩
def yO:List Value:=[.int .i64 0,.int .i64 0,.int .i64 0,.int .i64 0,.int .i64 0,.int .i64 0]
set_option maxRecDepth 16000 in
theorem PA (p:MP σ0 σ L H held s0 P mb am x)(mi:oF x){R:Sl->Hp->Prop}
 (hR:∀s w bs,bO σ w->mS H.live bs->bS s 6 (qF (uP H.tb x.asked bs (H.tb.length+1))) w (λb=>σ.size<=b)->R s w):YG.c (aW mb) σ R:=by
 refine YG.o ?_;refine Hs p (cG rfl (aG (p.b.rP rfl (I4 p.h p.h.qz λdH C e1 W=>xo λY hz2 e2 m2=>aG ?_))));have e12:=e1.trans e2;have p2:=p.fr e12;refine p2.b.rP rfl (LQ p2.h p.hi λs v3 bs e3 hl hrow=>?_);have e03:=e12.trans e3;have p3:=p.fr e03;have m3:dN v3 C.size .i64 (.ag 6) []:=e3.gS (m2 _ _) id;have hub:σ.size<=C.size:=e1.1;have hsl:s.len=bs.length:=by have:=hrow.1;rw[Cr]at this;omega
 have hbl:bs.length<=1000000:=by rw[hl.len];exact p.hi.jE
 have hb1:∀b∈bs,0<=sk b/\sk b<=270000:=λb hb=>by
  have:=p.hi.jO ((hl.mem b).1 hb);unfold sk;simp only at this;omega
 have hb2:∀b∈bs,0<=sd x.asked b/\sd x.asked b<=16384:=λb hb=>by
  unfold sd;cases hm:bW x.asked b.1 with
  | none=>exact⟨vE _,by decide⟩
  | some z=>exact mi.v _ (Vk hm)
 have Z:∀b∈bs,0<=one b/\one b<=1:=λb hb=>⟨by unfold one;omega,by unfold one;omega⟩;have hacts:gM v3 dH (H.tb.map lS):=YP (CN W) (e2.trans e3);have htl:dH.len=H.tb.length:=by have:=W.1;rw[KT]at this;omega
 refine ZV (a:=bN) (λ(i:Int) w=>∃(k:Nat) (U:List (Int×U6)),i=k/\k<=bs.length/\Ext (· = C.size) v3 w/\dN w C.size .i64 (.ag 6) U/\DN U x.asked (bs.take k)) (λi _=>bs.length-i.toNat) ⟨0,[],rfl,O,Ext.refl _ _,m3,λc=>rfl⟩ ?_;rintro(i:Int) w ⟨k,U,rfl,hk,e,hm,hU⟩;have pw:MP σ0 w L H held s0 P mb am x:=p3.out e λq _ (hq:q=C.size)=>by
  have h1:=p.b.lt;have h2:=p.m.lt;have h3:=p.e.1;exact⟨λhP=>by have:=(p.pP q hP).2;omega,O,O,O⟩
 refine cI (λhlt=>?_) λhge=>?_
 ·have hk':k<bs.length:=by omega
  have hg:bs[k]?=some bs[k]:=cM _;generalize bs[k]=b at hg;have hbm:=zE hg;have q0:=Z b hbm;have q1:=hb1 b hbm;have q2:=hb2 b hbm;have hlk:(bs.take k).length=k:=by rw[zP];omega
  have l0:=yr (bs:=bs.take k) O (λb h=>Z b (qt h)) b.2.2.1;have l1:=yr (bs:=bs.take k) O (λb h=>hb1 b (qt h)) b.2.2.1;have l2:=yr (bs:=bs.take k) O (λb h=>hb2 b (qt h)) b.2.2.1;rw[hlk]at l0 l1 l2;have n0:=λc=>DX (f:=one) hg c;have n1:=λc=>DX (f:=sk) hg c;have n2:=λc=>DX (f:=sd x.asked) hg c;obtain⟨a0,hq⟩:=hU.q b.2.2.1;have hrw:cT s 4 (kO bs) w (λq=>Y.size<=q):=bS.gE (aI.bU hrow e λq _ (h1:Y.size<=q) (h2:q=C.size)=>O);refine I5 hrw hg λbb o hc=>dZ (hc 0 _ rfl) (dZ (hc 1 _ rfl) (dZ (hc 2 _ rfl) (dZ (hc 3 _ rfl) ?_)));refine nw (cs:=[.int .i64 0,.int .i64 0,.int .i64 0,.int .i64 0]) λu2 hz2 f2 c2=>c2.s1 aA λu3 o3 c3=>c3.s1 aA λu4 o4 c4=>c4.s1 aA λu5 o5 c5=>c5.s1 aA λu6 o6 c6=>?_;have f6:bO w u6:=Ext.fresh (Ext.fresh (Ext.fresh (Ext.fresh f2 o3.ext λi hi=>O) o4.ext λi hi=>O) o5.ext λi hi=>O) o6.ext λi hi=>by omega
  have hm6:=f6.gS hm id;obtain⟨mu,D⟩:∃mu,bW U b.2.2.1=mu:=⟨_,rfl⟩;rw[D]at hq;refine c6.rI rfl (Ih hm6 D ?_);rw[hq];refine nw (cs:=yO) λu7 hz7 f7 d7=>?_;unfold yO at d7;refine d7.s1 aA λu8 o8 d8=>d8.s1 aA λu9 o9 d9=>d9.s1 aA λu10 fR V=>V.s1 aA λu11 N K=>K.s1 aA λu12 X S=>S.s1 aA λu13 Q A=>?_;have g:bO u6 u13:=Ext.fresh (Ext.fresh (Ext.fresh (Ext.fresh (Ext.fresh (Ext.fresh f7 o8.ext λi hi=>O) o9.ext λi hi=>O) fR.ext λi hi=>O) N.ext λi hi=>O) X.ext λi hi=>O) Q.ext λi hi=>by omega
  have c13:=g.bV c6 id;have hne:∀{u u':Hp},QJ u u' u6.size->bX u w.size (qv b)->bX u' w.size (qv b):=λo h=>o.ext.bV h λ(hx:w.size=u6.size)=>by have:=c6.lt;omega
  refine c13.rI rfl (A.s1 aA λu14 o14 E=>E.rI rfl (ar aC aC (E.s1 aA λu15 o15 ab=>ab.rI rfl ?_)));have c15:bX u15 w.size (qv b):=hne o15 (hne o14 c13);refine c15.rI rfl (ar (by show _<=uS sk (bs.take k) b.2.2.1+sk b;omega) (by show uS sk (bs.take k) b.2.2.1+sk b<=_;omega) (ab.s1 aA λu16 o16 aa=>aa.rI rfl (aG ?_)));have c16:=hne o16 c15;have f16:bO w u16:=Ext.fresh (Ext.fresh (Ext.fresh (f6.trans g) o14.ext λi hi=>by have:=f6.1;omega) o15.ext λi hi=>by have:=f6.1;omega) o16.ext λi hi=>by have:=f6.1;omega
  have p16:=pw.fr f16;refine p16.b.rM rfl (c16.rI rfl ⟨x.asked,p16.m,ar (by show _<=uS (sd x.asked) (bs.take k) b.2.2.1+sd x.asked b;omega) (by show uS (sd x.asked) (bs.take k) b.2.2.1+sd x.asked b<=_;omega) (aa.s1 aA λu17 o17 B=>?_)⟩);have c17:=hne o17 c16;have f17:bO w u17:=Ext.fresh f16 o17.ext λi hi=>by have:=f6.1;omega
  refine c17.rI rfl (B.rI rfl (B.rI rfl (B.rI rfl (B.rI rfl (B.rI rfl (B.rI rfl ⟨C.size,U,rfl,f17.gS hm id,λu18 o18 m18=>?_⟩))))));refine cA (m:=k+1) O O ⟨⟨k+1,_,rfl,O,?_,m18,?_⟩,O⟩
  ·exact(e.trans (bO.to f17)).trans o18.ext
  ·intro c;have hp0:=(yr (bs:=bs.take k) O (λb h=>Z b (qt h)) c).1;rw[Eg];by_cases M:c=b.2.2.1
   ·subst M;have e0:=n0 b.2.2.1;have e1:=n1 b.2.2.1;have e2:=n2 b.2.2.1;rw[zB rfl]at e0 e1 e2;have:¬uS one (bs.take (k+1)) b.2.2.1=0:=by rw[e0];unfold one at *;omega
    rw[zB rfl,zA this];unfold sN;rw[e0,e1,e2];rfl
   ·have hne':¬b.2.2.1=c:=λh=>M h.symm;have e0:=n0 c;have e1:=n1 c;have e2:=n2 c;rw[zA hne',Int.add_zero]at e0 e1 e2;rw[zA M,hU c];unfold sN;rw[e0,e1,e2]
 ·have hkk:k=bs.length:=by omega
  subst hkk;rw[zo]at hU;have r:=CN W;have hactw:gM w dH (H.tb.map lS):=DE hacts e λq (hq:q=C.size) o ha=>by
   obtain⟨_,hc⟩:=r;cases htb0:H.tb with
   | nil=>have:=p.cf.2.2;unfold oV at this;rw[htb0]at this;exact absurd this aB
   | cons c0 r0=>
    obtain⟨b',o',h1,h2,_⟩:=hc 0 c0.size c0.aF c0.batch (by rw[htb0];rfl);rw[ha]at h1;simp only[Option.some.injEq,Addr.mk.injEq]at h1;omega
  refine KA (a:=.s) (bb:=bN) (λ(out:Sl) (c:Int) u=>∃j:Nat,c=(j:Int)-1/\j<=H.tb.length+1/\Ext (λq=>Y.size<=q) w u/\bS out 6 (qF (uP H.tb x.asked bs j)) u (λq=>Y.size<=q)) (λ_ c _=>(H.tb.length+1)-(c+1).toNat) ⟨0,rfl,O,Ext.refl _ _,⟨rfl,.inl ⟨rfl,rfl⟩⟩⟩ ?_;rintro(out:Sl) (c:Int) u ⟨j,rfl,hj,eu,hout⟩;have ht40:=p.h.qz;have hwz:=e.1;have h3z:=e3.1;have huz:=eu.1;have hlen:=TW H.tb x.asked bs j;have hol:out.len<=j:=by have:=hout.1;rw[Fk]at this;omega
  refine cI (λhlt=>?_) λhge=>?_
  ·have D:dN u C.size .i64 (.ag 6) U:=eu.gS hm λ(hx:Y.size<=C.size)=>by omega
   have d:=Μ H.tb x.asked bs j;by_cases h0:uS one bs ((j:Int)-1)=0
   ·have hU0:bW U ((j:Int)-1)=none:=by rw[hU,zB h0]
    have hrow0:vX H.tb x.asked bs j=none:=by unfold vX;rw[zB h0]
    rw[hrow0]at d;refine Ih D hU0 ?_;refine nw (cs:=yO) λu7 hz7 f7 d7=>?_;unfold yO at d7;refine d7.s1 aA λu8 o8 d8=>d8.s1 aA λu9 o9 d9=>d9.s1 aA λu10 fR V=>V.s1 aA λu11 N K=>K.s1 aA λu12 X S=>S.s1 aA λu13 Q A=>?_;have g:bO u u13:=Ext.fresh (Ext.fresh (Ext.fresh (Ext.fresh (Ext.fresh (Ext.fresh f7 o8.ext λi hi=>O) o9.ext λi hi=>O) fR.ext λi hi=>O) N.ext λi hi=>O) X.ext λi hi=>O) Q.ext λi hi=>by omega
    refine cJ rfl (ar O O ⟨⟨j+1,O,O,eu.trans (bO.to g),?_⟩,O⟩);rw[d];simp only[Option.toList,lZ];exact aI.bK hout g
   ·have hU1:bW U ((j:Int)-1)=some (sN x.asked bs ((j:Int)-1)):=by rw[hU,zA h0]
    have hrow1:vX H.tb x.asked bs j=some ((j:Int)-1,pF H.tb j,uS one bs ((j:Int)-1),uS sk bs ((j:Int)-1),uS (sd x.asked) bs ((j:Int)-1),pV H.tb j (uS one bs ((j:Int)-1))):=by unfold vX;rw[zA h0]
    rw[hrow1]at d;have l0:=yr (bs:=bs) O Z ((j:Int)-1);unfold sN at hU1;generalize uS one bs ((j:Int)-1)=ul at *;generalize uS sk bs ((j:Int)-1)=ub at *;generalize uS (sd x.asked) bs ((j:Int)-1)=ua at *;refine Ih D hU1 ?_;refine nw (cs:=yO) λu7 hz7 f7 d7=>?_;unfold yO at d7;refine d7.s1 aA λu8 o8 d8=>d8.s1 aA λu9 o9 d9=>d9.s1 aA λu10 fR V=>V.s1 aA λu11 N K=>K.s1 aA λu12 X S=>S.s1 aA λu13 Q A=>?_;have g:bO u u13:=Ext.fresh (Ext.fresh (Ext.fresh (Ext.fresh (Ext.fresh (Ext.fresh f7 o8.ext λi hi=>O) o9.ext λi hi=>O) fR.ext λi hi=>O) N.ext λi hi=>O) X.ext λi hi=>O) Q.ext λi hi=>by omega
    refine cG rfl (uy (λq=>bO u q/\bX q u.size (rZ ((j:Int)-1,pF H.tb j,ul,ub,ua,pV H.tb j ul))) (λq ⟨eq,bq⟩=>?_) λJ hJ=>?_)
    ·refine bq.rI rfl (bq.rI rfl (bq.rI rfl (bq.rI rfl (bq.rI rfl (bq.rI rfl ?_)))));refine bS.push (F:=λq=>Y.size<=q) (vs:=rZ ((j:Int)-1,pF H.tb j,ul,ub,ua,pV H.tb j ul)) (aI.bK hout eq) (λb hb=>by have:=eq.1;show Y.size<=b;omega) rfl rfl (by simp[rZ,dP]) O O λs' u' hsl eu' hrow'=>?_;refine ar O O ⟨⟨j+1,O,O,(eu.trans (bO.to eq)).trans eu',?_⟩,O⟩;rw[d];have:qF (uP H.tb x.asked bs j++(some ((j:Int)-1,pF H.tb j,ul,ub,ua,pV H.tb j ul)).toList)=qF (uP H.tb x.asked bs j)++rZ ((j:Int)-1,pF H.tb j,ul,ub,ua,pV H.tb j ul):=by simp[qF]
     rw[this];exact hrow'
    ·refine cI (λhc0=>?_) λhc0=>?_
     ·obtain⟨k,rfl⟩:∃k,j=k+1:=⟨j-1,O⟩;have hck:(((k+1:Nat):Int)-1)=(k:Int):=by omega
      rw[hck]at A hJ ⊢;have hkt:k<H.tb.length:=by omega
      have hcl:H.tb[k]?=some H.tb[k]:=cM _;have hco:bY.ok H.tb[k]:=p.hi.ok _ (zf hkt);have hgd:H.tb.getD (k+1-1) ⟨8,1,1⟩=H.tb[k]:=by rw[FD,zL,hcl];rfl
      have hsz:pF H.tb (k+1)=(H.tb[k].size:Int):=by unfold pF;rw[zA O,hgd]
      have hsp:pV H.tb (k+1) ul=(ul+(H.tb[k].n:Int)-1)/(H.tb[k].n:Int):=by unfold pV;rw[zA O,hgd]
      rw[hsz,hsp]at hJ;generalize H.tb[k]=cl at hcl hco hJ;have hx:(H.tb.map lS)[k]?=some ((cl.size:Int),(cl.aF:Int),(cl.batch:Int)):=by rw[zi,hcl];rfl
      have G:gM u13 dH (H.tb.map lS):=YP (DE hactw eu λq (hq:Y.size<=q) o ha=>by
       obtain⟨_,hc⟩:=r;obtain⟨b',o',h1,h2,_⟩:=hc k _ _ _ hx;rw[ha]at h1;simp only[Option.some.injEq,Addr.mk.injEq]at h1;omega) g
      have n1:=hco.qY;have n2:=hco.lI;refine Hi G hx (UU _ _ _ (λc' hc' h1 h2 h3 v7 e7=>?_) λhbad=>?_)
      ·have M:c'=cl:=by
        cases c';cases cl;simp only[bY.mk.injEq]at *;omega
       subst M;have E:=e7.bV A id;refine⟨λm=>bO v7 m,Ext.refl _ _,Re (YP G e7) hx (bX.rH (c:=bN) (y:=ul) E rfl (ar O O (ar O O (nz O ?_))))⟩;have hq0:0<=(ul+(c'.n:Int)-1)/(c'.n:Int):=AB O O;have hq1:(ul+(c'.n:Int)-1)/(c'.n:Int)<=ul+(c'.n:Int)-1:=Int.ediv_le_self _ O;rw[Yb O];generalize (ul+(c'.n:Int)-1)/(c'.n:Int)=qq at hq0 hq1 hJ ⊢;refine ar O O (E.s1 aA λu14 o14 ab=>ab.s1 aA λu15 o15 aa=>hJ u15 ⟨?_,aa⟩);exact Ext.fresh (Ext.fresh (g.trans e7) o14.ext λi hi=>O) o15.ext λi hi=>by omega
      ·rw[(UM cl).2 hco]at hbad;cases hbad
     ·have hj0:j=0:=by omega
      subst hj0;exact hJ u13 ⟨g,A⟩
  ·have hjj:j=H.tb.length+1:=by omega
   subst hjj;refine hR out u bs (Ext.fresh (Ext.fresh e03 e λi (hi:i=C.size)=>O) eu λi (hi:Y.size<=i)=>O) hl (aI.mono hout λq _ (hq:Y.size<=q)=>by show σ.size<=q;omega)
end Go.Ar
namespace Go.Proofs
open Go.Vc
set_option maxRecDepth 100000
def W5.h:Hn:=.q .o1 (.q .o2 (.q (.q .o2 .aK) (.q .o7 (.q (.q (.cV (.seq [.op,.op,.op,.dB false 2 [.op,.op]])) .aK) (.q .o7 (.q .o4 (.q .o8 (.q (.cV (.seq [.op,.op,.op,.dB true 3 (RI.ops 3),.op,.dB true 3 (RI.ops 3),.op,.dB true 3 (RI.ops 3),.op,.dB true 5 (RI.ops 5),.op,.dB true 2 [.op,.op],.op,.dB true 2 [.op,.op],.op])) .l))))))))
theorem W5.o {a:Hp}{b:aO}(c:XH.c a λc d=>If c.isNone (b false d) (QR.c c d λe f g=>bZ (λh i=>If h (b false i) (Xz.c e 0 20 8 i λj k l=>Wy.c e l λm n o p q r s t u v w=>aV #[.I 0,.I 0,.I 0,.I 0,.I 0,.I 0,.I 0,.I 0,.I 0,.I 0] 56 w λx y=>aR x 0 (.I m) y λz=>aR x 1 (.I n) z λaa=>aR x 2 (.I o) aa λab=>aR x 3 (.I p) ab λac=>aR x 4 (.I q) ac λad=>aR x 5 (.I r) ad λae=>aR x 6 (.I s) ae λaf=>aR x 7 (.I t) af λag=>aR x 8 (.I u) ag λah=>aR x 9 (.I v) ah λai=>YX.c c ai λaj ak=>Qi.c aj 20 8 ak λal am an=>bZ (λao ap=>bZ (λaq ar=>bZ (λau av=>bZ (λaw ax=>bZ (λay az=>bZ (λa0 a1=>b a0 a1) λa2=>If ay (a2 (am==0) az) (a2 false az)) λa3=>If aw (a3 (al==6) ax) (a3 false ax)) λa4=>If au (YG.c e av λa5 a6=>aV #[.I 2,.I 24,.I 1,.I 24,.I 20,.I 1] 80 a6 λa7 a8=>X7.c a5 ⟨some a7,1,1⟩ a8 λa9 ba=>a4 a9 ba) (a4 false av)) λbb=>If aq (aQ x 7 ar λbc=>bb (bc==1) ar) (bb false ar)) λbd=>If ao (aQ x 1 ap λbe=>bd (be==24) ap) (bd false ap)) λbf=>If (k==0) (aQ x 0 an λbg=>bf (bg==20) an) (bf false an))) λbh=>If (f != 0) (bh true g) (bh e.isNone g))):W5.c a b:=Wa Tryz.func13 (x:=W5.h) (R0 c)
def X5.h:Hn:=.q .o2 (.q (.q (.cV (.seq [.op,.op,.op,.dB false 3 (RI.ops 3)])) .aK) (.q .o3 (.q (.q .o2 .aK) (.q .o7 (.q (.q (.cV (.seq [.op,.op,.op,.dB false 2 [.op,.op]])) .aK) (.q .o5 (.q (.q .o1 (.k (.loop [(11,.I)] (.q (.q .o4 (.c .l .l)) (.q (.k .o6) .o3))))) .aL)))))))
theorem X5.o {a b c d e f:Int}{g:Sl}{h:Int}{i:Hp}{j:Option Addr->Hp->Prop}(k:aV #[.I a,.I b,.I c,.I d,.I e,.I f] 65 i λk l=>aQ k 0 l λm=>aQ k 1 l λn=>aQ k 2 l λo=>aQ k 3 l λp=>aQ k 4 l λq=>aQ k 5 l λr=>WS.c m n o p q r l λs t=>bZ (λu v=>If u (j none v) (aQ k 0 v λw=>aQ k 1 v λx=>aQ k 2 v λy=>aQ k 3 v λz=>aQ k 4 v λaa=>aQ k 5 v λab=>Wu.c w x y z aa ab v λac ad=>If ac.isNone (j none ad) (QR.c ac ad λae af ag=>bZ (λah ai=>If ah (j none ai) (aV #[.pointer ac,.pointer ae,.slice none 0 0,.slice none 0 0,.I 0] 72 ai λaj ak=>Xb [bN] (λal=>al 0 ak) λam (an:Int) ao=>If (an<((g.len:Nat):Int)) (Ix g.a g.len an 8 λap=>aQ ap 0 ao λaq=>aQ ap 1 ao λar=>aQ ap 2 ao λau=>aQ ap 3 ao λav=>aQ ap 4 ao λaw=>aQ ap 5 ao λax=>aQ ap 6 ao λay=>bC ap 7 ao λaz=>Xr.c (some aj) aq ar au av aw ax ay az ao λa0 a1=>bL (an+1) λa2=>am a2 a1) (j (some aj) ao))) λa3=>If (af != 0) (a3 true ag) (a3 ae.isNone ag)))) λa4=>If s (a4 true t) (X1.c g h t λa5 a6=>a4 a5 a6)):X5.c a b c d e f g h i j:=Wa Tryz.func30 (x:=X5.h) (R0 k)
def WO.h:Hn:=.q .o1 (.q .o1 (.q (.q .o1 (.k (.loop [(3,.I),(4,.I)] (.q (.q .o7 (.c .l .l)) (.q (.k (.o 11)) .o3))))) .aL))
theorem WO.o {a:R2}{b:Hp}{c:aN}(d:Xb [bN,bN] (λd=>d 0 0 b) λe (f:Int) (g:Int) h=>bQ a λi=>aX i 3 h λj=>If (g<((j.len:Nat):Int)) (bE a 3 h λl=>Ix l.a l.len g 3 λm=>aQ m 1 h λn=>bL (f+n) λo=>bL (g+1) λp=>e o p h) (c f h)):WO.c a b c:=Wa Tryz.func32 (x:=WO.h) (R0 d)
def Xr.h:Hn:=.q .o2 (.q (.cV (.tail 5 (RI.ops 5) [.op,.op])) (.q (.q .o2 (.k (.q .o2 (.c (.q (.cV (.held true [10] (.tk [0,1,2,3,4,5,6,7,8,9] (.all [(10,.tk [11,12,13,14,15] (.done))])))) (.q (.q .o2 (.c (.q (.o 11) (.q (.cV (.held true [15] (.tk [0,1,2,3,4,5,6,7,8,9,10] (.all [(11,.all [(12,.take 13 (.take 14 (.all [(15,.done)])))])])))) (.cV (.held true [10] (.take 0 (.take 1 (.take 2 (.take 3 (.take 4 (.take 5 (.all [(6,.take 7 (.take 8 (.take 9 (.all [(10,.done)]))))]))))))))))) .l)) .aL)) (.q .o2 (.c (.q (.cV (.tail 7 (RI.ops 7) [.op,.op])) (.q (.q .o2 (.c (.q .o1 (.q (.q .o1 (.k (.loop [(9,.one .s),(10,.I)] (.q (.q .o7 (.c .l .l)) (.q (.k (.q .fR (.c (.o 11) .l))) .o3))))) .o5)) .l)) .aL)) (.kX [(122,.one .b)] (.q .o2 (.c .l (.q .o2 (.c .l (.q .o2 (.c .l (.q .o2 (.c .l .o2)))))))) (.c (.q (.cV (.held true [9] (.take 0 (.take 1 (.take 2 (.take 3 (.take 4 (.take 5 (.take 6 (.take 7 (.take 8 (.all [(9,.take 10 (.take 11 (.take 12 (.take 13 (.take 14 (.take 15 (.take 16 (.done))))))))])))))))))))) .aL) .l)))))))) .aM))
theorem Xr.o {a:R2}{b c d e f g h:Int}{i:ByteArray}{j:Hp}{k:aN}(l:aV #[.I b,.I c,.I d,.I e,.I f,.I g,.I h,.string i] 87 j λl m=>bE a 2 m λo=>aQ l 0 m λp=>aQ l 1 m λq=>aQ l 2 m λr=>aQ l 3 m λs=>aQ l 4 m λt=>aQ l 5 m λu=>aQ l 6 m λv=>bC l 7 m λw=>Yl.c o p q r s t u v w m λx y=>aQ l 0 y λz=>If (z==120) (dT y λaa=>bQ a λab=>aU aa ab 1 λac=>aS aa l 1 λad=>aS aa l 2 λae=>aS aa l 3 λaf=>Xz.c ac ad ae af y λag ah ai=>If (ah==0) (bE a 2 ai λak=>aV #[.I ag] 3 ai λal am=>App ak 1 8 3 [.I 0] ⟨some al,1,1⟩ am λan ao=>bQ a λap=>aR ap 2 (.slice an.a an.len an.cap) ao λaq=>dT aq λar=>bQ a λau=>aT ar au 3 λav=>aS ar l 2 λaw=>aS ar l 3 λax=>aV #[.I ag,.I aw,.I ax] 83 aq λay az=>And (ar az) <| App av 3 24 83 [.I 0,.I 0,.I 0] ⟨some ay,1,1⟩ az λa0 a1=>And (ar a1) <| bQ a λa2=>aR a2 3 (.slice a0.a a0.len a0.cap) a1 λa3=>dT a3 λa4=>bQ a λa5=>aS a4 a5 4 λa6=>WO.c a a3 λa7 a8=>And (a4 a8) <| bQ a λa9=>aR a9 4 (.I (if a7>a6 then a7 else a6)) a8 λba=>k ah ba) (k ah ai)) (If (z==121) (bF a 1 y λbc=>aQ l 1 y λbd=>Zc.c bc bd x y λbe bf=>
 If (be==0) (Xb [.s,bN] (λbg=>bg ⟨none,0,0⟩ 0 bf) λbh (bi:Sl) (bj:Int) bk=>bE a 3 bk λbm=>If (bj<((bm.len:Nat):Int)) (bE a 3 bk λbo=>Ix bo.a bo.len bj 3 λbp=>aQ bp 0 bk λbq=>If (bq != x) (bE a 3 bk λbs=>Ix bs.a bs.len bj 3 λbt=>aQ bt 0 bk λbu=>aQ bt 1 bk λbv=>aQ bt 2 bk λbw=>aV #[.I bu,.I bv,.I bw] 83 bk λbx bz=>App bi 3 24 83 [.I 0,.I 0,.I 0] ⟨some bx,1,1⟩ bz λb0 b1=>bL (bj+1) λb2=>bh b0 b2 b1) (bL (bj+1) λb3=>bh bi b3 bk)) (bQ a λb4=>aR b4 3 (.slice bi.a bi.len bi.cap) bk λb5=>k be b5)) (k be bf)) (Jn [.b] (λ(b6:Bool) b7=>If b6 (dT b7 λb8=>bQ a λb9=>aU b8 b9 0 λca=>bQ a λcb=>aT b8 cb 2 λcc=>aS b8 l 0 λcd=>aS b8 l 1 λce=>aS b8 l 2 λcf=>aS b8 l 3 λcg=>aS b8 l 4 λch=>aS b8 l 5 λci=>aS b8 l 6 λcj=>gW b8 .str (l.add 7) λ(ck:ByteArray)=>Zd.c ca cc cd ce cf cg ch ci cj ck b7 λcl cm cn co=>k cm co) (k 0 b7)) λcp=>If (z==2) (cp (z==2) y) (If (z==3) (cp (z==3) y) (If (z==8) (cp (z==8) y) (If (z==9) (cp (z==9) y) (cp (z==10) y))))))):Xr.c a b c d e f g h i j k:=Wa Tryz.func35 (x:=Xr.h) (R0 l)
end Go.Proofs
namespace Go.Proofs
open Go.Vc
set_option maxRecDepth 100000
def X7.h:Hn:=.q .o1 (.q (.q .o5 .aK) (.q (.q .o1 (.k (.loop [(5,.I)] (.q (.q .o4 (.c .l .l)) (.q (.k (.q (.oq 9) .aK)) .o3))))) .aM))
theorem X7.o {a b:Sl}{c:Hp}{d:aO}(e:If (((a.len:Nat):Int) != ((b.len:Nat):Int)) (d false c) (Xb [bN] (λe=>e 0 c) λf (g:Int) h=>If (g<((a.len:Nat):Int)) (Ix a.a a.len g 6 λi=>aQ i 0 h λj=>aQ i 1 h λk=>aQ i 2 h λl=>aQ i 3 h λm=>aQ i 4 h λn=>aQ i 5 h λo=>Ix b.a b.len g 6 λp=>aQ p 0 h λq=>aQ p 1 h λr=>aQ p 2 h λs=>aQ p 3 h λt=>aQ p 4 h λu=>aQ p 5 h λv=>If (!((j==q)&&((k==r)&&((l==s)&&((m==t)&&((n==u)&&((o==v)&&true))))))) (d false h) (bL (g+1) λw=>f w h)) (d true h))):X7.c a b c d:=Wa Tryz.func39 (x:=X7.h) (R0 e)
end Go.Proofs
namespace Go.Ar
open Go Go.Vc Go.Proofs
open Go.Vc (bW dG cR)
variable {σ σ0 v w w':Hp}{F G P Q X T:Rg}{L:dQ}{H H':Hw}{held:List Pc}{s0:Sp}{t n:Nat}{g:Th}{mb am m:Nat}{x y:Me}
theorem Fc {α:Type}{l:List (Int×α)}{n:Int}(h:bW l n=none)(v:α):dG l n v=l++[(n,v)]:=by
 unfold dG;rw[zA];intro hx;obtain⟨y,a,e⟩:=zw.1 hx;unfold bW at h;rw[uN,se]at h;exact h y a e
theorem HR {α:Type}{l:List (Int×α)}{n:Int}(h:bW l n=none):cR l n=l:=by
 unfold cR;rw[rp];intro y hy;unfold bW at h;rw[uN,se]at h;have:=h y hy;simpa using this
theorem oF.eP (mi:oF x){D:Nat}(hD:D<=128):oF (x.eP (D:Int)):=by
 have b:=mi.jF;have a:=mi.p;have hd:=mi.d;refine⟨mi.v,mi.l,mi.s,?_,?_,mi.c⟩
 ·unfold Me.eP;simp only;split<;>omega
 ·unfold Me.eP;simp only;split<;>omega
theorem oF.gR (mi:oF x){a size e:Int}{D:Nat}(h:bW x.asked a=none)(hc:x.calls<=899)(h0:0<=size)(h1:e=0->size<=16384)(hD:D<=128):oF (x.gR a size e D):=by
 unfold Me.calls at hc;refine oF.eP ?_ hD;by_cases he:e=0
 ·have h1:=h1 he;rw[zB he];have g:x.forget a=x:=by unfold Me.forget;rw[HR h,h];simp
  rw[g];unfold Me.count Me.add;rw[zB he,zB rfl,Fc h];refine⟨λy b=>?_,?_,?_,mi.p,mi.d,?_⟩
  ·rcases zU.1 b with b|b
   ·exact mi.v y b
   ·rw[zZ]at b;subst b;exact⟨h0,h1⟩
  ·have:=mi.l;simp only[zK,yd];omega
  ·simp only[zy,uv];rw[mi.s];simp
  ·unfold Me.calls;simp only;omega
 ·rw[zA he];unfold Me.count;rw[zA he];exact⟨mi.v,mi.l,mi.s,mi.p,mi.d,by unfold Me.calls;simp only;omega⟩
theorem jN.Eo {n m:Nat}{H H1 H2:Hw}{t:Nat}{p:Ph}{a1 e1 a2 e2:Int}(h:jN n H t p H1 a1 e1)(h':jN m H t p H2 a2 e2):H1=H2/\a1=a2/\e1=e2:=by
 induction h generalizing m with
 | done h1 h2=>
  cases h' with
  | done=>exact⟨rfl,rfl,rfl⟩
  | next _ h3 _=>rw[h2]at h3;cases h3
 | next h1 h2 _ ih=>
  cases h' with
  | done _ h3=>rw[h2]at h3;cases h3
  | next _ h3 h4=>rw[h2]at h3;cases h3;exact ih h4
theorem Hk.Eo {thread kind size align addr a1 e1 a2 e2:Int}{H1 H2:Hw}(h:Hk H thread kind size align addr H1 a1 e1)(h':Hk H thread kind size align addr H2 a2 e2):H1=H2/\a1=a2/\e1=e2:=by
 rcases h with⟨h1,_,rfl,rfl⟩|⟨t,p,n,h1,h2⟩
 ·rcases h' with⟨g1,_,rfl,rfl⟩|⟨_,_,_,g1,_⟩
  ·rw[h1]at g1;cases g1;exact⟨rfl,rfl,rfl⟩
  ·rw[h1]at g1;cases g1
 ·rcases h' with⟨g1,_⟩|⟨_,_,_,g1,g2⟩
  ·rw[h1]at g1;cases g1
  ·rw[h1]at g1;cases g1;exact h2.Eo g2
def wm:Hw×Int×Int:=tF w0 0 20 0
theorem FK:wm.2=(4096,0):=by decide +kernel
theorem DQ:Hk w0 0 0 20 8 0 wm.1 4096 0:=Iq rfl FK aB rfl
theorem Il:wm.1.sp.st.count 2<=128:=by decide +kernel
theorem NA:wm.1.live=[(4096,4096,24,2,0)]:=by decide +kernel
theorem JQ:wm.1.tb=xR:=by decide +kernel
theorem FW:yH (xR.map lS) 20 8=(6,0):=by decide +kernel
theorem Fj:uP xR [(4096,20)] [(4096,24,2,0)] (xR.length+1)=[(2,24,1,24,20,1)]:=by decide +kernel
theorem Wo9:wU w0 64:=by
 have h:=I7 (xs:=vF 8) (p:=64) (a:=1) (t:=1) (b:=1024) (r:=2) (Gg 8 aB aB) aB;rw[Bc]at h;exact h
theorem IF:∀{l:List U6} {i:Nat} {r:U6},l[i]?=some r->∀{j:Nat} {v:Value},(rZ r)[j]?=some v->(qF l)[6*i+j]?=some v
 | [],i,b,h,_,_,_=>by simp at h
 | a::bs,0,b,h,j,v,hv=>by
  simp only[An,Option.some.injEq]at h;subst h;have hj:=(cQ.1 hv).1;show(rZ a++qF bs)[6*0+j]?=_;rw[show 6*0+j=j by omega,zh hj];exact hv
 | a::bs,i+1,b,h,j,v,hv=>by
  have d:=IF (l:=bs) (i:=i) (r:=b) (by simpa using h) hv;show(rZ a++qF bs)[6*(i+1)+j]?=_;rw[zp (by simp[rZ];omega)];have:6*(i+1)+j-(rZ a).length=6*i+j:=by simp[rZ];omega
  rw[this];exact d
theorem Mo {s:Sl}{l:List U6}(hs:cT s 6 (qF l) σ F){i:Nat}{r:U6}(hb:l[i]?=some r){K:Addr->Prop}(hK:∀bb o,(∀(j:Nat) v,(rZ r)[j]?=some v->cell σ ⟨bb,o+j,none⟩=some v)->K ⟨bb,o,none⟩):Ix s.a s.len (i:Int) 6 K:=by
 have g:=(cQ.1 hb).1;have x:s.len=l.length:=by have:=hs.1;rw[Fk]at this;omega
 obtain⟨b,o,e,_⟩:=hs.cell (IF hb (j:=0) rfl);rw[e];refine ix O O ?_;rw[add_lit];refine hK b _ λj v p=>?_;obtain⟨u,w,d,m⟩:=hs.cell (IF hb p);rw[e]at d;cases d;rw[show o+(i:Int).toNat*6+j=o+(6*i+j) by omega];exact m
theorem WmT {a b:Sl}{l:List U6}(ha:cT a 6 (qF l) σ F)(hb:cT b 6 (qF l) σ G)(hl:l.length<=1000000){R:aO}(hR:R true σ):X7.c a b σ R:=by
 refine X7.o ?_;have x:=ha.1;have u:=hb.1;rw[Fk]at x u;have j:a.len=l.length:=by omega
 have g:b.len=l.length:=by omega
 refine cG (by rw[j,g];simp) (ZV (a:=bN) (λ(i:Int) w=>w=σ/\∃k:Nat,i=k/\k<=l.length) (λi _=>l.length-i.toNat) ⟨rfl,0,rfl,O⟩ ?_);rintro(i:Int) w ⟨rfl,k,rfl,hk⟩;refine cI (λs=>?_) λy=>hR;have p:l[k]?=some (l[k]' O):=cM _;generalize (l[k]' O)=r at p;refine Mo ha p λz o1 d=>dZ (d 0 _ rfl) (dZ (d 1 _ rfl) (dZ (d 2 _ rfl) (dZ (d 3 _ rfl) (dZ (d 4 _ rfl) (dZ (d 5 _ rfl) ?_)))));refine Mo hb p λA o2 e=>dZ (e 0 _ rfl) (dZ (e 1 _ rfl) (dZ (e 2 _ rfl) (dZ (e 3 _ rfl) (dZ (e 4 _ rfl) (dZ (e 5 _ rfl) ?_)))));exact cG aA (cA (m:=k+1) O O ⟨⟨rfl,k+1,rfl,O⟩,O⟩)
attribute [local irreducible] w0 wm tF xR
set_option maxRecDepth 8000 in
theorem IW (gl:Gl σ)(gd:Gd σ){R:aO}(hR:∀σ',bO σ σ'->R true σ'):W5.c σ R:=by
 refine W5.o ?_;refine WlT gl gd λv L N e hsN hNv h0=>cG rfl ?_;have D:=Wo9;have hc0:w0.cf.aF=64:=by have:=D.pg;omega
 refine NN e h0.cut D.hi D.cf D.ph O (λb hb=>⟨by have:N<=b:=hb.1;omega,hb.2⟩) (FY gl gd) λw mb am e1 _ _ p=>?_;refine bZ.intro (cG rfl (cG rfl ?_));refine Lj p Ef aB 0 20 8 λa er w2 ts H' U s0' P' e2 K hP2 k2 me hw=>?_;obtain⟨rfl,rfl,rfl⟩:=hw.Eo DQ;generalize hy:su.gR 4096 20 0 (wm.1.sp.st.count 2)=y at K;have G:y.sum=20/\y.cS=1/\y.asked=[(4096,20)]:=by subst hy;exact⟨rfl,rfl,rfl⟩
 obtain⟨y1,y2,y3⟩:=G;refine KC K λP e3 so=>?_;have H:QD wm.1.live=24:=by rw[NA];rfl
 rw[y1,y2,H];have p3:=K.fr e3;refine nw (cs:=QT) λw4 hz4 e4 E=>?_;unfold QT at E;refine E.s1 aA λv1 o1 b1=>b1.s1 aA λv2 o2 b2=>b2.s1 aA λv3 o3 b3=>b3.s1 aA λv4 o4 E=>E.s1 aA λv5 o5 b5=>b5.s1 aA λv6 o6 b6=>b6.s1 aA λv7 o7 b7=>b7.s1 aA λv8 o8 b8=>b8.s1 aA λv9 o9 b9=>b9.s1 aA λv10 fR S=>?_;have eo:Ext (· = P.size) w4 v10:=((((((((o1.ext.trans o2.ext).trans o3.ext).trans o4.ext).trans o5.ext).trans o6.ext).trans o7.ext).trans o8.ext).trans o9.ext).trans fR.ext;have Y:bO P v10:=Ext.fresh e4 eo λi (hi:i=P.size)=>by omega
 have m:=p3.fr Y;refine I4 m.h m.h.qz λdH v11 C A=>WkP (CN A) 20 8 λM z=>?_;rw[JQ,FW];have r:=(C.trans z).bV S id;refine bZ.intro (cJ rfl (r.rI rfl (bZ.intro (cJ rfl (r.rI rfl (bZ.intro (cJ rfl (r.rI rfl (bZ.intro (cJ rfl ?_))))))))));have x:=(m.fr C).fr z;refine PA x ?_ λs B Z F X d=>?_
 ·subst hy;exact Ef.gR rfl aB aB (λ_=>by decide) Il
 rw[NA]at X;have V:Z=[(4096,24,2,0)]:=by
  have h1:=X.len;obtain⟨b,rfl⟩:=List.length_eq_one_iff.1 (show Z.length=1 from h1);have h2:=(X.mem b).1 aA;simp only[zZ,Prod.mk.injEq]at h2;rw[h2.2]
 rw[V,y3,JQ,Fj]at d;refine nw (cs:=[.int .i64 2,.int .i64 24,.int .i64 1,.int .i64 24,.int .i64 20,.int .i64 1]) λg aa u J=>?_;have W:cT s 6 (qF [(2,24,1,24,20,1)]) g (λb=>M.size<=b):=bS.gE (aI.bK d u);have Q:cT ⟨some ⟨B.size,0,none⟩,1,1⟩ 6 (qF [(2,24,1,24,20,1)]) g (λb=>True):=⟨rfl,.inr ⟨B.size,0,_,trivial,rfl,J.q,λj _=>by rw[zI];rfl⟩⟩;refine WmT W Q aA (bZ.intro (cJ rfl (bZ.intro (cJ rfl ?_))));exact hR g ((x.fr F).fr u).e
end Go.Ar
namespace Go.Ar
open Go Go.Vc Go.Proofs
open Go.Vc (bW dG cR)
variable {σ w w':Hp}{F P Q X:Rg}{L:dQ}{H H':Hw}{held:List Pc}{s0:Sp}{t n:Nat}{g:Th}{σ0:Hp}{addrs:Sl}{ad:List Int}{l:Sl}{ds:List fG}
theorem kZ.push (p:kZ σ0 σ L H held s0 P Q addrs ad){s':Sl}{x:Int}(e:Ext Q σ w)(hr:bS s' 1 (Wv (ad++[x])) w (λb=>Q b\/σ.size<=b/\b<w.size))(hl:(ad++[x]).length<=60):kZ σ0 w L H held s0 P (λb=>Q b\/σ.size<=b/\b<w.size) s' (ad++[x]):=by
 have j:=e.1;have g:=p.e.1;refine⟨Ext.fH p.e e λb a=>.inr (p.pQ b a).1,p.h.bU e (λb a d i=>(p.pQ b i).2.2 d) (λb a=>p.g0.1 b (p.pQ b a).1) (λa=>p.g0.2 (p.pQ _ a).1),p.hi,p.cf,p.pg,λb a=>⟨(p.pP b a).1,by have:=(p.pP b a).2;omega⟩,λb a=>?_,hr,hl,p.g0⟩;rcases a with a|a
 ·exact⟨(p.pQ b a).1,by have:=(p.pQ b a).2.1;omega,(p.pQ b a).2.2⟩
 ·exact⟨O,a.2,λd=>by have:=(p.pP b d).2;omega⟩
theorem SQ {tb:List bY}{size align:Int}{k:Nat}(h:gH tb size align=some k):∃c,tb[k]?=some c/\size<=(c.size:Int)/\(c.size:Int)%align=0:=by
 unfold gH at h;obtain⟨b,a,_⟩:=rJ.1 h;simp only[zG,zV,zY]at a;exact⟨tb[k],cM b,a.1,a.2⟩
theorem Woq {tb:List bY}{size align:Int}(h:size<=16384/\K0 size align=true):size<=(tx tb size align).1/\(tx tb size align).2=0:=by
 unfold tx;rw[zB h];refine⟨?_,rfl⟩;cases hc:gH tb size align with
 | some k=>
  obtain⟨c,b,a,_⟩:=SQ hc;simp only;rw[zL,b];exact a
 | none=>simp only;unfold yT;omega
end Go.Ar
namespace Go.Ar
open Go Go.Vc Go.Proofs
open Go.Vc (bW dG cR)
variable {σ σ0 v w w':Hp}{F G P Q X T:Rg}{L:dQ}{H H':Hw}{held:List Pc}{s0:Sp}{t n:Nat}{g:Th}{mb am m:Nat}{x y:Me}
structure Oi (H H':Hw):Prop where
 hi:∃held s0,HI H' held s0
 kp:Qd H' H
 live:H'.live=H.live
 ph:(∀g∈H.bR,g.ph=none)->∀g∈H'.bR,g.ph=none
set_option maxRecDepth 8000 in
theorem Es (h:HH σ F L H)(gc:Gc σ)(hi:HI H held s0)(hc:pM H)(h208:H.cf.aF<=208){addrs:Sl}{ad:List Int}(hs:cT addrs 1 (Wv ad) σ X)(d:fG)(di:nY d)
 (hkd:d.kd=2\/d.kd=3\/d.kd=8\/d.kd=9\/d.kd=10) {R:Int->Int->Int->Hp->Prop}
 (hR:∀a e n σ' ts' H',Ext F σ σ'->HH σ' (Grow F σ) {L with ts:=ts'} H'->Oi H H'->R a e n σ') :
 Zd.c (aW L.p) addrs d.kd d.th d.a d.b d.of d.pl d.va d.s σ R:=by
 refine Zd.o ?_;refine nw (cs:=uC d) λv hz e i=>i.rI rfl (i.rI rfl (i.rI rfl (i.rI rfl (i.rI rfl (i.rI rfl (i.rI rfl (i.rT rfl ?_)))))));refine MZ (aH.bK (aH.cut hs) e) d λv1 J=>?_;have K:=((HK.start h).box e hz).fr J;have r:=J.bV i id;have C:=Ly (ad:=ad) di;generalize hx:xJ ad d=x at C;have m:∀{H'},jC H H'->Oi H H':=λo=>⟨o.hi,o.kp,o.live,λh g hg=>h g (by rw[←o.bR];exact hg)⟩;refine r.rI rfl (cU (λj=>absurd (qs (by simpa using j):d.kd=0) O) λaa=>?_);refine cU (λj=>absurd (show d.kd=1 by simpa using j) O) λhk1=>?_;refine cU (λj=>?_) λE=>?_
 ·obtain⟨H',er,hw,o,le⟩:=WeC hi d.th;refine r.rI rfl (Γ D0 K.h hc.2.2 hw λz ts y w=>?_);have K2:=K.to y w λb _ i=>i;exact hR _ _ _ z ts H' K2.e (K2.fin h) ⟨o.hi,o.kp,le,o.rest⟩
 refine cU (λj=>?_) λP=>?_
 ·refine r.rI rfl (Su K.h (gc.bK (e.trans J)) x d.va C.2 λz y w=>?_);have K2:=K.to y w λb _ i=>i;exact hR _ _ _ z L.ts _ K2.e (K2.fin h) ⟨⟨_,_,hi.write x d.va⟩,⟨rfl,rfl,rfl,rfl⟩,rfl,id⟩
 have k2:d.kd≠2:=by simpa using E
 have k3:d.kd≠3:=by simpa using P
 refine cU (λj=>absurd (show d.kd=4 by simpa using j) O) λhk4=>?_;refine cU (λj=>absurd (show d.kd=5 by simpa using j) O) λhk5=>?_;refine cU (λj=>absurd (show d.kd=6 by simpa using j) O) λhk6=>?_;refine cU (λj=>absurd (show d.kd=7 by simpa using j) O) λhk7=>?_;refine cU (λj=>?_) λQ=>?_
 ·have u:=TA hi d.a;refine r.rI rfl (Ξ K.h d.a di.a.2 (λn A N M=>?_) (λn N=>?_) (λV=>?_) λW z y w=>?_)
  ·obtain⟨B,U,S⟩:=(u n).1.hi;exact S.oD (by rw[(u n).1.kp.2.1];exact h208) M
  ·have:=(u n).2;have:=h.s.a2;omega
  ·exact hR _ _ _ v1 L.ts _ K.e (K.fin h) ⟨⟨_,_,hi⟩,Qd.refl _,rfl,id⟩
  ·have K2:=K.to y w λb _ i=>i;exact hR _ _ _ z L.ts _ K2.e (K2.fin h) (m (u _).1)
 refine cU (λj=>?_) λG=>?_
 ·have Z:=Wjz hi;refine O2 K.h (λn N=>?_) λz y w=>?_
  ·have:=(Z n).2;have:=h.s.a2;omega
  ·have K2:=K.to y w λb _ i=>i;exact hR _ _ _ z L.ts _ K2.e (K2.fin h) (m (Z _).1)
 refine cU (λj=>?_) λD=>?_
 ·have Y:=Wkf hi;refine PJ K.h (λn A N M=>?_) λz y w=>?_
  ·obtain⟨B,U,S⟩:=(Y n).hi;exact(S.wi.ga n A M).DT
  ·have K2:=K.to y w λb _ i=>i;exact hR _ _ _ z L.ts _ K2.e (K2.fin h) (m (Y _))
 have k8:d.kd≠8:=by simpa using Q
 have k9:d.kd≠9:=by simpa using G
 have k10:d.kd≠10:=by simpa using D
 omega
abbrev Kn:=Int×Int×Int
def pC (tb:List bY)(size align:Int):Int:=match gH tb size align with
 | some k=>(k:Int)
 | none=>-1
def Dh (tb:List bY)(k:Kn):Int×Int×Int:=(k.1,(tx tb k.2.1 k.2.2).1,pC tb k.2.1 k.2.2)
structure KI (H:Hw) (x:Me) (kn:List Kn):Prop where
 asked:x.asked=kn.map λk=>(k.1,k.2.1)
 live:H.live.map (λe=>(e.1,e.2.2.1,e.2.2.2.1))=kn.map (Dh H.tb)
 arg:∀k∈kn,1<=k.2.1/\k.2.1<=16384/\K0 k.2.1 k.2.2=true
 jH:x.cS=x.fK+kn.length
theorem KI.addr {kn:List Kn}(k:KI H x kn):H.live.map (·.1)=kn.map (·.1):=by
 have:=congrArg (List.map λe:Int×Int×Int=>e.1) k.live;rw[zk,zk]at this;exact this
theorem MJ {α β:Type}{l:List (Int×α)}{l':List (Int×β)}(h:l.map (·.1)=l'.map (·.1))(n:Int):bW l n=none↔bW l' n=none:=by
 have key:∀{γ:Type} (l:List (Int×γ)),bW l n=none↔n∉l.map (·.1):=λl=>by
  unfold bW;rw[uN,se];simp only[zC,not_exists,not_and,zY]
 rw[key,key,h]
theorem KI.same {kn:List Kn}(k:KI H x kn)(hl:H'.live=H.live)(ht:H'.tb=H.tb):KI H' x kn:=⟨k.asked,by rw[hl,ht];exact k.live,k.arg,k.jH⟩
end Go.Ar
namespace Go.Ar
open Go Go.Vc Go.Proofs
open Go.Vc (bW dG cR)
variable {σ σ0 v w w':Hp}{F G P Q X T:Rg}{L:dQ}{H H':Hw}{held:List Pc}{s0:Sp}{t n:Nat}{g:Th}{mb am m xb:Nat}{x y:Me}
def ql (hp mb:Nat)(addrs kns:Sl)(most:Int):List Value:=[.pointer (some ⟨hp,0,none⟩),.pointer (some ⟨mb,0,none⟩),.slice addrs.a addrs.len addrs.cap,.slice kns.a kns.len kns.cap,.int .i64 most]
structure OF (σ0 σ:Hp) (xb:Nat) (L:dQ) (H:Hw) (held:List Pc) (s0:Sp) (P:Rg) (mb am:Nat) (x:Me) (Qa Qk:Rg) (addrs:Sl) (ad:List Int) (kns:Sl) (kn:List Kn) (most:Int):Prop where
 p:MP σ0 σ L H held s0 P mb am x
 b:bX σ xb (ql L.p mb addrs kns most)
 ra:bS addrs 1 (Wv ad) σ Qa
 rk:bS kns 3 (mH kn) σ Qk
 vH:σ0.size<=xb/\¬P xb/\xb≠mb/\xb≠am/\¬Qa xb/\¬Qk xb
 qa:∀b,Qa b->σ0.size<=b/\b<σ.size/\¬P b/\b≠mb/\b≠am
 qk:∀b,Qk b->σ0.size<=b/\b<σ.size/\¬P b/\b≠mb/\b≠am
 qq:∀b,Qa b->¬Qk b
structure OP (σ0 σ:Hp) (xb:Nat) (L:dQ) (H:Hw) (held:List Pc) (s0:Sp) (P:Rg) (mb am:Nat) (x:Me) (Qa Qk:Rg) (addrs:Sl) (ad:List Int) (kns:Sl) (kn:List Kn) (most:Int):Prop where
 f:OF σ0 σ xb L H held s0 P mb am x Qa Qk addrs ad kns kn most
 mi:oF x
 k:KI H x kn
 al:ad.length<=x.cS
 pk:x.sum<=x.dM/\x.dM=most
variable {Qa Qk:Rg}{addrs kns:Sl}{ad:List Int}{kn:List Kn}{most:Int}
theorem OF.fr (o:OF σ0 σ xb L H held s0 P mb am x Qa Qk addrs ad kns kn most)(e:bO σ w):OF σ0 w xb L H held s0 P mb am x Qa Qk addrs ad kns kn most:=
 ⟨o.p.fr e,e.bV o.b id,aI.bK o.ra e,aI.bK o.rk e,o.vH,λb a=>by have h:=o.qa b a;have:=e.1;exact⟨h.1,O,h.2.2⟩,λb a=>by have h:=o.qk b a;have:=e.1;exact⟨h.1,O,h.2.2⟩,o.qq⟩
theorem OF.fS (o:OF σ0 σ xb L H held s0 P mb am x Qa Qk addrs ad kns kn most){L':dQ}{held':List Pc}{s0':Sp}{P':Rg}(e:Ext (Md P mb am) σ w)(p':MP σ0 w L' H' held' s0' P' mb am y)(hL:L'.p=L.p)(hP:∀b,P' b->P b\/σ.size<=b) :
 OF σ0 w xb L' H' held' s0' P' mb am y Qa Qk addrs ad kns kn most:=by
 have D:=e.1;have j:=o.b.lt;obtain⟨u,m,s,r,A,C⟩:=o.vH;have d:∀b,b<σ.size->¬P b->¬P' b:=λb E z B=>by
  rcases hP b B with h4|h4
  ·exact z h4
  ·omega
 refine⟨p',?_,aI.bU o.ra e λb _ g a=>?_,aI.bU o.rk e λb _ g a=>?_,⟨u,d _ j m,s,r,A,C⟩,λb i=>?_,λb i=>?_,o.qq⟩
 ·rw[hL];exact e.bV o.b λa=>by
   rcases a with a|a|a
   ·exact m a
   ·exact s a
   ·exact r a
 ·have h:=o.qa b g;rcases a with a|a|a
  ·exact h.2.2.1 a
  ·exact h.2.2.2.1 a
  ·exact h.2.2.2.2 a
 ·have h:=o.qk b g;rcases a with a|a|a
  ·exact h.2.2.1 a
  ·exact h.2.2.2.1 a
  ·exact h.2.2.2.2 a
 ·have h:=o.qa b i;exact⟨h.1,O,d b h.2.1 h.2.2.1,h.2.2.2⟩
 ·have h:=o.qk b i;exact⟨h.1,O,d b h.2.1 h.2.2.1,h.2.2.2⟩
theorem OF.cC (o:OF σ0 σ xb L H held s0 P mb am x Qa Qk addrs ad kns kn most){s':Sl}{ad':List Int}(e:Ext Qa σ w)(hr:bS s' 1 (Wv ad') w λb=>Qa b\/σ.size<=b/\b<w.size){K:aP}
 (hK:∀u,Ext (· = xb) w u->OF σ0 u xb L H held s0 P mb am x (λb=>Qa b\/σ.size<=b/\b<w.size) Qk s' ad' kns kn most->K u):cY (Addr.add ⟨xb,0,none⟩ 2) (.slice s'.a s'.len s'.cap) w K:=by
 have R:=e.1;have J:=o.b.lt;obtain⟨z,A,D,E,r,B⟩:=o.vH;have s:=o.p.out e λb _ d=>by have h:=o.qa b d;exact⟨h.2.2.1,h.2.2.2.1,h.2.2.2.2,h.1⟩
 have y:=aI.bU o.rk e λb _ i N=>o.qq b N i;refine(e.bV o.b r).s1 (by simp[ql]) λu C b=>?_;have j:=C.ext;have M:=C.1;have G:=s.b.lt;have F:=s.m.lt;refine hK u j ⟨s.out j λb _ (d:b=xb)=>by subst d;exact⟨A,D,E,z⟩,b,aI.bU hr j λb _ g (d:b=xb)=>?_,aI.bU y j λb _ g (d:b=xb)=>B (d▸g),⟨z,A,D,E,?_,B⟩,λb d=>?_,λb d=>by have h:=o.qk b d;exact⟨h.1,O,h.2.2⟩,λb d i=>?_⟩
 ·subst d;rcases g with g|g
  ·exact r g
  ·omega
 ·rintro(g|g)
  ·exact r g
  ·omega
 ·rcases d with d|d
  ·have h:=o.qa b d;exact⟨h.1,O,h.2.2⟩
  ·have:=o.p.e.1;have S:=o.p.b.lt;have U:=o.p.m.lt;exact⟨O,O,λQ=>by have:=(o.p.pP b Q).2;omega,O,O⟩
 ·rcases d with d|d
  ·exact o.qq b d i
  ·have:=(o.qk b i).2.1;omega
theorem OF.AM (o:OF σ0 σ xb L H held s0 P mb am x Qa Qk addrs ad kns kn most){s':Sl}{kn':List Kn}(e:Ext Qk σ w)(hr:bS s' 3 (mH kn') w λb=>Qk b\/σ.size<=b/\b<w.size){K:aP}
 (hK:∀u,Ext (· = xb) w u->OF σ0 u xb L H held s0 P mb am x Qa (λb=>Qk b\/σ.size<=b/\b<w.size) addrs ad s' kn' most->K u):cY (Addr.add ⟨xb,0,none⟩ 3) (.slice s'.a s'.len s'.cap) w K:=by
 have N:=e.1;have M:=o.b.lt;obtain⟨y,A,C,D,z,r⟩:=o.vH;have J:=o.p.out e λb _ d=>by have h:=o.qk b d;exact⟨h.2.2.1,h.2.2.2.1,h.2.2.2.2,h.1⟩
 have s:=aI.bU o.ra e λb _ F i=>o.qq b F i;refine(e.bV o.b r).s1 (by simp[ql]) λu B b=>?_;have j:=B.ext;have E:=B.1;refine hK u j ⟨J.out j λb _ (d:b=xb)=>by subst d;exact⟨A,C,D,y⟩,b,aI.bU s j λb _ g (d:b=xb)=>z (d▸g),aI.bU hr j λb _ g (d:b=xb)=>?_,⟨y,A,C,D,z,?_⟩,λb d=>by have h:=o.qa b d;exact⟨h.1,O,h.2.2⟩,λb d=>?_,λb d i=>?_⟩
 ·subst d;rcases g with g|g
  ·exact r g
  ·omega
 ·rintro(g|g)
  ·exact r g
  ·omega
 ·rcases d with d|d
  ·have h:=o.qk b d;exact⟨h.1,O,h.2.2⟩
  ·have:=o.p.e.1;have R:=o.p.b.lt;have Q:=o.p.m.lt;exact⟨O,O,λG=>by have:=(o.p.pP b G).2;omega,O,O⟩
 ·rcases i with i|i
  ·exact o.qq b d i
  ·have:=(o.qa b d).2.1;omega
theorem OF.FO (o:OF σ0 σ xb L H held s0 P mb am x Qa Qk addrs ad kns kn most)(most':Int){K:aP}(hK:∀u,Ext (· = xb) σ u->OF σ0 u xb L H held s0 P mb am x Qa Qk addrs ad kns kn most'->K u):cY (Addr.add ⟨xb,0,none⟩ 4) (.int .i64 most') σ K:=by
 obtain⟨j,r,i,s,m,y⟩:=o.vH;refine o.b.s1 (by simp[ql]) λu g b=>?_;have d:=g.ext;have w:=g.1;exact hK u d ⟨o.p.out d λb _ (a:b=xb)=>by subst a;exact⟨r,i,s,j⟩,b,aI.bU o.ra d λb _ e (a:b=xb)=>m (a▸e),aI.bU o.rk d λb _ e (a:b=xb)=>y (a▸e),o.vH,λb a=>by have h:=o.qa b a;exact⟨h.1,O,h.2.2⟩,λb a=>by have h:=o.qk b a;exact⟨h.1,O,h.2.2⟩,o.qq⟩
def G7 (kn:List Kn):Int:=(kn.map λk=>k.2.1).sum
theorem OP.sum (o:OP σ0 σ xb L H held s0 P mb am x Qa Qk addrs ad kns kn most):x.sum=G7 kn:=by
 rw[o.mi.s,o.k.asked];unfold G7;rw[zk];rfl
theorem DO {s:Sl}{l:List T3}(hs:cT s 3 (mH l) σ F){i:Nat}{r:T3}(hb:l[i]?=some r){K:Addr->Prop}(hK:∀bb o,(∀(j:Nat) v,(v3 r)[j]?=some v->cell σ ⟨bb,o+j,none⟩=some v)->K ⟨bb,o,none⟩):Ix s.a s.len (i:Int) 3 K:=by
 have p:=(cQ.1 hb).1;have y:s.len=l.length:=by have:=hs.1;rw[UD]at this;omega
 obtain⟨b,o,g,_⟩:=hs.cell (j:=i*3+0) (v:=.int .i64 r.1) ((GK hb O).trans rfl);rw[g];refine ix O O ?_;rw[add_lit];refine hK b _ λj v e=>?_;have m:j<3:=(cQ.1 e).1;obtain⟨w,x,d,u⟩:=hs.cell ((GK hb m).trans e);rw[g]at d;cases d;rw[show o+(i:Int).toNat*3+j=o+(i*3+j) by omega];exact u
theorem Td {hp:Nat}(hb:bX σ xb (ql hp mb addrs kns most))(hs:cT kns 3 (mH kn) σ F)(hl:kn.length<=1000)(ha:∀k∈kn,0<=k.2.1/\k.2.1<=16384){R:aN}(hR:R (G7 kn) σ):WO.c (aW xb) σ R:=by
 refine WO.o ?_;have u:kns.len=kn.length:=by have:=hs.1;rw[UD]at this;omega
 refine KA (a:=bN) (bb:=bN) (λ(sum i:Int) w=>w=σ/\∃k:Nat,i=k/\k<=kn.length/\sum=G7 (kn.take k)) (λ_ i _=>kn.length-i.toNat) ⟨rfl,0,rfl,O,by simp[G7]⟩ ?_;rintro(sum:Int) (i:Int) w ⟨rfl,k,rfl,hk,rfl⟩;refine aG (hb.rS rfl (cI (λe=>?_) λj=>?_))
 ·have x:k<kn.length:=by simp only at e;omega
  have d:kn[k]?=some kn[k]:=cM _;generalize kn[k]=r at d;have z:=ha r (zE d);have A:=UO (l:=kn.take k) (f:=λk:Kn=>k.2.1) (c:=16384) λb h=>ha b (qt h);have B:(kn.take k).length=k:=by rw[zP];omega
  have s:G7 (kn.take (k+1))=G7 (kn.take k)+r.2.1:=by unfold G7;rw[zl,d];simp
  have y:G7 (kn.take k)=((kn.take k).map λk:Kn=>k.2.1).sum:=rfl;refine aG (hb.rS rfl (DO hs d λbb o p=>dZ (p 1 _ rfl) (ar O O (cA (m:=k+1) O O ⟨⟨rfl,k+1,rfl,O,s.symm⟩,O⟩))))
 ·have g:k=kn.length:=by simp only at j;omega
  subst g;rw[zo];exact hR
end Go.Ar
namespace Go.Ar
open Go Go.Vc Go.Proofs
open Go.Vc (bW dG cR)
variable {H H':Hw}{x y:Me}{kn:List Kn}{a size align e:Int}{D:Nat}
theorem UP {α β:Type}(l:List (Int×α))(f:Int×α->Int×β)(hf:∀z∈l,(f z).1=z.1)(n:Int):(cR l n).map f=cR (l.map f) n:=by
 unfold cR
 induction l with
 | nil=>rfl
 | cons z l ih=>
  have d:=hf z nE;have b:=ih λz a=>hf z (mJ _ a);simp only[zH,sA,d];by_cases a:z.1=n
  ·simp[a,b]
  ·simp[a,b]
theorem KI.fresh (k:KI H x kn)(h:bW H.live a=none):bW x.asked a=none:=by
 rw[k.asked];refine(MJ ?_ a).1 h;rw[k.addr,zk];rfl
theorem KI.gR (k:KI H x kn)(ht:H'.tb=H.tb)(me:xA H size align H' a e):(e=0->KI H' (x.gR a size e D) (kn++[(a,size,align)]))/\(e≠0->KI H' (x.gR a size e D) kn):=by
 refine⟨λd=>?_,λd=>?_⟩
 ·rcases me with⟨h1,_⟩|⟨_,hm,hok,cl,m,hcl⟩
  ·exact absurd d h1
  ·have b:=k.fresh hm;have p:x.forget a=x:=by unfold Me.forget;rw[HR b,b];simp
   have g:(x.gR a size e D).asked=x.asked++[(a,size)]/\(x.gR a size e D).cS=x.cS+1/\(x.gR a size e D).fK=x.fK:=by
    unfold Me.gR;rw[zB d,p];unfold Me.count Me.add Me.eP;rw[zB d,zB rfl];exact⟨Fc b _,rfl,rfl⟩
   refine⟨?_,?_,λq i=>?_,?_⟩
   ·rw[g.1,k.asked];simp
   ·rw[m,Fc hm,zy,zy,k.live,ht]
    congr 1
    simp only[zH,uB,Dh]
    congr 3
    unfold pC;rcases hcl with⟨j,rfl,hj⟩|⟨rfl,hj⟩<;>rw[hj]
   ·rcases zU.1 i with i|i
    ·exact k.arg q i
    ·rw[zZ]at i;subst i;exact⟨hok.1,hok.2.1,hok.2.2⟩
   ·rw[g.2.1,g.2.2,k.jH,zK,yd];omega
 ·have m:H'.live=H.live:=by
   rcases me with⟨_,_,h⟩|⟨h,_⟩
   ·exact h
   ·exact absurd h d
  have g:(x.gR a size e D).asked=x.asked/\(x.gR a size e D).cS=x.cS/\(x.gR a size e D).fK=x.fK:=by
   unfold Me.gR;rw[zA d];unfold Me.count Me.eP;rw[zA d];exact⟨rfl,rfl,rfl⟩
  exact⟨g.1.trans k.asked,by rw[m,ht];exact k.live,k.arg,by rw[g.2.1,g.2.2];exact k.jH⟩
theorem Mq {l:List (Int×Int)}{n v:Int}(hn:(l.map (·.1)).Nodup)(h:bW l n=some v):(l.map (·.2)).sum=v+((cR l n).map (·.2)).sum/\l.length=(cR l n).length+1:=by
 have a:=Vk h;refine⟨IC hn a,?_⟩;clear h;unfold cR
 induction l with
 | nil=>simp at a
 | cons z l ih=>
  simp only[zH,zr]at hn;rcases zR.1 a with h1|h1
  ·subst h1;have:l.filter (λy=>!(y.1==n))=l:=by
    rw[rp];intro y hy;have:y.1≠n:=λe=>hn.1 (zC.2 ⟨y,hy,e⟩);simpa using this
   rw[wH aA,this];rfl
  ·have b:z.1≠n:=λe=>hn.1 (zC.2 ⟨_,h1,e.symm⟩);rw[wE (by simpa using b),zN,zN,ih hn.2 h1]
theorem Ts (k:KI H x kn)(ht:H'.tb=H.tb)(he:e=0)(hl:H'.live=cR H.live a){b:Bk}(hm:bW H.live a=some b)(hn:(H.live.map (·.1)).Nodup):KI H' (x.jW a e D) (kn.filter λq=>!(q.1==a))/\(∃v,bW x.asked a=some v)/\kn.length=(kn.filter λq=>!(q.1==a)).length+1:=by
 have m:(x.jW a e D).asked=cR x.asked a/\(x.jW a e D).cS=x.cS/\(x.jW a e D).fK=x.fK+1:=by
  unfold Me.jW;rw[zB he];unfold Me.count Me.forget Me.eP;rw[zB he,zA aB];exact⟨rfl,rfl,rfl⟩
 have j:x.asked.map (·.1)=H.live.map (·.1):=by rw[k.asked,k.addr,zk];rfl
 obtain⟨v,p⟩:∃v,bW x.asked a=some v:=by
  cases h:bW x.asked a with
  | none=>rw[(MJ j a).1 h]at hm;cases hm
  | some v=>exact⟨v,rfl⟩
 have d:=(Mq (by rw[j];exact hn) p).2;have i:cR x.asked a=(kn.filter λq=>!(q.1==a)).map λq=>(q.1,q.2.1):=by
  rw[k.asked];exact(UP kn (λq=>(q.1,q.2.1)) (λ_ _=>rfl) a).symm
 have g:kn.length=(kn.filter λq=>!(q.1==a)).length+1:=by
  rw[i,zX]at d;rw[←d,k.asked,zX]
 refine⟨⟨m.1.trans i,?_,λq r=>k.arg q (zF.1 r).1,?_⟩,⟨v,p⟩,g⟩
 ·rw[hl,ht,UP H.live (λe=>(e.1,e.2.2.1,e.2.2.2.1)) (λ_ _=>rfl) a,k.live];exact(UP kn (Dh H.tb) (λ_ _=>rfl) a).symm
 ·rw[m.2.1,m.2.2,k.jH,g];omega
theorem KI.uW (k:KI H x kn)(ht:H'.tb=H.tb)(he:e≠0)(hl:H'.live=H.live):KI H' (x.jW a e D) kn:=by
 have b:(x.jW a e D).asked=x.asked/\(x.jW a e D).cS=x.cS/\(x.jW a e D).fK=x.fK:=by
  unfold Me.jW;rw[zA he];unfold Me.count Me.eP;rw[zA he];exact⟨rfl,rfl,rfl⟩
 exact⟨b.1.trans k.asked,by rw[hl,ht];exact k.live,k.arg,by rw[b.2.1,b.2.2];exact k.jH⟩
theorem oF.jW (mi:oF x)(hn:(x.asked.map (·.1)).Nodup)(hv:e=0->∃v,bW x.asked a=some v)(hc:x.calls<=899)(hD:D<=128):oF (x.jW a e D):=by
 unfold Me.calls at hc;refine oF.eP ?_ hD;by_cases he:e=0
 ·rw[zB he];obtain⟨v,hv⟩:=hv he;have g:=Mq hn hv;unfold Me.count Me.forget;rw[zB he,zA aB];refine⟨λy b=>mi.v y (zF.1 b).1,?_,?_,mi.p,mi.d,?_⟩
  ·have:=mi.l;simp only;omega
  ·have:=mi.s;simp only[hv,sS];omega
  ·unfold Me.calls;simp only;omega
 ·rw[zA he];unfold Me.count;rw[zA he];exact⟨mi.v,mi.l,mi.s,mi.p,mi.d,by unfold Me.calls;simp only;omega⟩
end Go.Ar
namespace Go.Ar
open Go Go.Vc Go.Proofs
open Go.Vc (bW dG cR)
variable {σ σ0 v w w':Hp}{F G P Q X T:Rg}{L:dQ}{H H':Hw}{held:List Pc}{s0:Sp}{t n:Nat}{g:Th}{mb am m xb:Nat}{x y:Me}{Qa Qk:Rg}{addrs kns:Sl}{ad:List Int}{kn:List Kn}{most:Int}
theorem FH {S:aP}{b i:Nat}{cs:List Value}{c:CK}{y:c.T}(hS:∀m,S m->bX m b cs)(hc:cs[i]?=some (c.v y)){K:c.T->Prop}(hK:K y):gW S c (Addr.add ⟨b,0,none⟩ i) K:=
 ⟨y,λm a=>by rw[add_lit,(hS m a).cell,zI];exact hc,hK⟩
theorem WpT {S:aP}(hr:bS kns 3 (mH kn) σ Q)(hl:kn.length<=1000)(k:Kn)(hS0:∀u,bO σ u->S u){e t:Nat}{K:Sl->Hp->Prop}
 (hK:∀s' w,Ext Q σ w->bS s' 3 (mH (kn++[k])) w (λb=>Q b\/σ.size<=b/\b<w.size)->S w/\K s' w) :
 Nw (.cells #[.int .i64 k.1,.int .i64 k.2.1,.int .i64 k.2.2] t (0,0)) σ λn v=>And (S v)<|App kns 3 24 e [.int .i64 0,.int .i64 0,.int .i64 0] ⟨some n,1,1⟩ v λs' w=>And (S w)<|K s' w:=by
 have z:kns.len=kn.length:=by have:=hr.1;rw[UD]at this;omega
 refine nw (cs:=v3 k) λv x d i=>⟨hS0 v d,?_⟩;have a:=aI.bK hr d;refine a.app (ys:=v3 k) rfl (by simp[v3]) ?_ (by simp[v3,dP]) ?_ ?_ qW λs' h' p m g=>?_
 ·intro j u hu;rw[add_lit,zI,i.cell];exact hu
 ·simp only;omega
 ·simp only;omega
 ·have y:Ext Q σ h':=d.to.trans m;refine hK s' h' y ?_;rw[EY];refine aI.mono (aI.cut g) λb s r=>?_;rcases r.1 with h1|h1
  ·exact .inl h1
  ·exact .inr ⟨O,s⟩
structure vD (d:fG) (x y:Me) (H':Hw):Prop where
 calls:y.calls=x.calls+(if d.kd=120\/d.kd=121 then 1 else 0)
 dM:x.dM<=y.dM
 dL:x.dL<=y.dL
 dd:d.kd=120\/d.kd=121->(H'.sp.st.count 2:Int)*256<=y.dL
theorem Ca (x:Me)(D:Int):x.dM<=(x.eP D).dM/\x.sum<=(x.eP D).dM/\x.dL<=(x.eP D).dL/\D*256<=(x.eP D).dL/\(x.eP D).dM=(if x.sum>x.dM then x.sum else x.dM)/\(x.eP D).calls=x.calls/\(x.eP D).sum=x.sum:=by
 unfold Me.eP Me.calls;refine⟨?_,?_,?_,?_,rfl,rfl,rfl⟩<;>simp only<;>split<;>omega
theorem Ds (x:Me)(e:Int)(gR:Bool):(x.count e gR).calls=x.calls+1/\(x.count e gR).dM=x.dM/\(x.count e gR).dL=x.dL/\(x.count e gR).sum=x.sum:=by
 unfold Me.count Me.calls;split
 ·split
  ·exact⟨by simp only;omega,rfl,rfl,rfl⟩
  ·exact⟨by simp only;omega,rfl,rfl,rfl⟩
 ·exact⟨by simp only;omega,rfl,rfl,rfl⟩
theorem Pt {d:fG}(hd:d.kd=120)(x:Me)(a size e:Int):vD d x (x.gR a size e (H'.sp.st.count 2)) H':=by
 have b:=Ca ((if e=0 then(x.forget a).add a size else x).count e true) (H'.sp.st.count 2:Nat)
 have i:=Ds (if e=0 then(x.forget a).add a size else x) e true
 have g:(if e=0 then(x.forget a).add a size else x).calls=x.calls/\(if e=0 then(x.forget a).add a size else x).dM=x.dM/\(if e=0 then(x.forget a).add a size else x).dL=x.dL:=by
  split<;>exact⟨rfl,rfl,rfl⟩
 refine⟨?_,?_,?_,λ_=>b.2.2.2.1⟩
 ·rw[zB (.inl hd)];show(Me.eP _ _).calls=_;omega
 ·show x.dM<=(Me.eP _ _).dM;omega
 ·show x.dL<=(Me.eP _ _).dL;omega
theorem P4 {d:fG}(hd:d.kd=121)(x:Me)(a e:Int):vD d x (x.jW a e (H'.sp.st.count 2)) H':=by
 have b:=Ca ((if e=0 then x.forget a else x).count e false) (H'.sp.st.count 2:Nat)
 have i:=Ds (if e=0 then x.forget a else x) e false
 have g:(if e=0 then x.forget a else x).calls=x.calls/\(if e=0 then x.forget a else x).dM=x.dM/\(if e=0 then x.forget a else x).dL=x.dL:=by
  split<;>exact⟨rfl,rfl,rfl⟩
 refine⟨?_,?_,?_,λ_=>b.2.2.2.1⟩
 ·rw[zB (.inr hd)];show(Me.eP _ _).calls=_;omega
 ·show x.dM<=(Me.eP _ _).dM;omega
 ·show x.dL<=(Me.eP _ _).dL;omega
theorem OP.fr (o:OP σ0 σ xb L H held s0 P mb am x Qa Qk addrs ad kns kn most)(e:bO σ w):OP σ0 w xb L H held s0 P mb am x Qa Qk addrs ad kns kn most:=⟨o.f.fr e,o.mi,o.k,o.al,o.pk⟩
theorem MP.Aw (p:MP σ0 σ L H held s0 P mb am x):H.sp.st.count 2<=128:=by
 have e:=y9 (a:=2) (l:=H.sp.st);have d:=p.hi.sl;have b:=p.pg;omega
def uj (P:Rg)(mb am xb:Nat)(Qa Qk:Rg):Rg:=λb=>Md P mb am b\/b=xb\/Qa b\/Qk b
theorem AG {P P' Qa Qa' Qk Qk':Rg}{n:Nat}(hP:∀b,P' b->P b\/n<=b)(hA:∀b,Qa' b->Qa b\/n<=b)(hK:∀b,Qk' b->Qk b\/n<=b):∀b,uj P' mb am xb Qa' Qk' b->uj P mb am xb Qa Qk b\/n<=b:=by
 rintro b ((h|h|h)|h|h|h)
 ·exact(hP b h).imp (λh=>.inl (.inl h)) id
 ·exact .inl (.inl (.inr (.inl h)))
 ·exact .inl (.inl (.inr (.inr h)))
 ·exact .inl (.inr (.inl h))
 ·exact(hA b h).imp (λh=>.inr (.inr (.inl h))) id
 ·exact(hK b h).imp (λh=>.inr (.inr (.inr h))) id
set_option maxRecDepth 16000 in
theorem Sm (o:OP σ0 σ xb L H held s0 P mb am x Qa Qk addrs ad kns kn most)(gc:Gc σ0)(hc:x.calls<=899)(d:fG)(di:nY d){R:aN}
 (hR:∀e w L' H' held' s0' P' y Qa' Qk' addrs' ad' kns' kn' most',OP σ0 w xb L' H' held' s0' P' mb am y Qa' Qk' addrs' ad' kns' kn' most'->L'.p=L.p->Qd H' H->vD d x y H'->Ext (uj P mb am xb Qa Qk) σ w/\(∀b,uj P' mb am xb Qa' Qk' b->uj P mb am xb Qa Qk b\/σ.size<=b)->R e w) :
 Xr.c (aW xb) d.kd d.th d.a d.b d.of d.pl d.va d.s σ R:=by
 refine Xr.o ?_;have tM:∀{u u':Hp},Ext (Md P mb am) u u'->Ext (uj P mb am xb Qa Qk) u u':=λe=>e.sub λb z=>.inl z;have tX:∀{u u':Hp},Ext (· = xb) u u'->Ext (uj P mb am xb Qa Qk) u u':=λe=>e.sub λb z=>.inr (.inl z);have tA:∀{u u':Hp},Ext Qa u u'->Ext (uj P mb am xb Qa Qk) u u':=λe=>e.sub λb z=>.inr (.inr (.inl z));have tK:∀{u u':Hp},Ext Qk u u'->Ext (uj P mb am xb Qa Qk) u u':=λe=>e.sub λb z=>.inr (.inr (.inr z));have hxb:=o.f.b.lt;have hmb:=o.f.p.b.lt;have ham:=o.f.p.m.lt;have h00:=o.f.p.e.1;refine nw (cs:=uC d) λv hz e z=>aG ((o.f.fr e).b.rS rfl (z.rI rfl (z.rI rfl (z.rI rfl (z.rI rfl (z.rI rfl (z.rI rfl (z.rI rfl (z.rT rfl ?_)))))))));have o1:=o.f.fr e;refine MZ (bS.gE o1.ra) d λv1 M=>?_;have o2:=o1.fr M;have Y:σ.size<=v1.size:=(e.trans M).1;have A:=M.bV z id;have hat:=Ly (ad:=ad) di;generalize hx:xJ ad d=ax at hat;have hkl:kn.length<=900:=by have U:=o.k.jH;have V:=o.mi.c;unfold Me.calls at V;omega
 have hal:ad.length<=900:=by have U:=o.al;have V:=o.mi.c;unfold Me.calls at V;omega
 have hnM:¬Md P mb am σ.size:=λG=>by
  rcases G with G|G|G
  ·have:=(o.f.p.pP _ G).2;omega
  ·omega
  ·omega
 refine A.rI rfl (cU (λhk=>?_) λhk0=>?_)
 ·have S:d.kd=120:=by simpa using hk
  refine⟨λm=>bO v1 m,Ext.refl _ _,aG (bX.rH (c:=.p) (y:=some ⟨mb,0,none⟩) o2.b rfl (bX.rH (c:=bN) (y:=d.th) A rfl (bX.rH (c:=bN) (y:=d.a) A rfl (bX.rH (c:=bN) (y:=d.b) A rfl ?_))))⟩;refine Lj o2.p o.mi hc d.th d.a d.b λa j w ts H' held' s0' P' E p3 K kp me hw=>?_;have o3:=o2.fS E p3 rfl K;have hb3:=E.bV A hnM;have X:=Pt (H':=H') S x a d.a j;obtain⟨km1,km2⟩:=o.k.gR (D:=H'.sp.st.count 2) kp.1 me;have N:=p3.Aw;refine cU (λh0=>?_) λh0=>?_
  ·have g:j=0:=by simpa using h0
   have hfr:bW x.asked a=none/\1<=d.a/\d.a<=16384:=by
    rcases me with⟨B,_⟩|⟨_,B,U,_⟩
    ·exact absurd g B
    ·exact⟨o.k.fresh B,U.1,U.2.1⟩
   have C:=o.mi.gR (size:=d.a) (e:=j) hfr.1 hc O (λ_=>hfr.2.2) N;have hmc:(x.gR a d.a j (H'.sp.st.count 2)).cS=x.cS+1:=by
    unfold Me.gR Me.count Me.eP;rw[zB g,zB g,zB rfl];rfl
   refine aG (o3.b.rS rfl (WpU o3.ra O a λs' u1 e4 hr4=>aG (o3.cC e4 hr4 λu2 e5 o5=>?_)));have hb5:bX u2 σ.size (uC d):=e5.bV (e4.bV hb3 λhq=>by have:=(o.f.qa _ hq).2.1;omega) λ(hx:σ.size=xb)=>by omega
   refine⟨λm=>bX m xb (ql _ mb s' kns most)/\bX m σ.size (uC d),⟨o5.b,hb5⟩,aG (FH (c:=.s) (y:=kns) (λm G=>G.1) rfl (FH (c:=bN) (y:=d.a) (λm G=>G.2) rfl (FH (c:=bN) (y:=d.b) (λm G=>G.2) rfl ?_)))⟩;refine WpT o5.rk O (a,d.a,d.b) (λu W=>⟨W.bV o5.b id,W.bV hb5 id⟩) λs2 u3 e6 hr6=>⟨⟨e6.bV o5.b o5.vH.2.2.2.2.2,e6.bV hb5 λhq=>?_⟩,aG (o5.AM e6 hr6 λu4 e7 o7=>?_)⟩
   ·have:=(o.f.qk _ hq).2.1;omega
   have kk:=km1 g;have hsum:(x.gR a d.a j (H'.sp.st.count 2)).sum=G7 (kn++[(a,d.a,d.b)]):=by
    rw[C.s,kk.asked];unfold G7;rw[zk];rfl
   refine⟨λm=>bO u4 m,Ext.refl _ _,aG (bX.rH (c:=bN) (y:=most) o7.b rfl (Td o7.b (bS.gE o7.rk) (by rw[zK,yd];omega) (λq hq=>by have:=kk.arg q hq;omega) ⟨Ext.refl _ _,aG (o7.FO _ λu5 e8 o8=>?_)⟩))⟩;refine hR j u5 _ H' held' s0' P' _ _ _ _ _ _ _ _ ⟨o8,C,kk,?_,?_⟩ rfl kp X ⟨((((((bO.to (e.trans M)).trans (tM E)).trans (tA e4)).trans (tX e5)).trans (tK e6)).trans (tX e7) |>.trans (tX e8)),AG (λb h=>(K b h).imp id λh=>zJ Y h) (λb h=>h.imp id λh=>zJ (zJ Y E.1) h.1) (λb h=>h.imp id λh=>zJ (zJ (zJ (zJ Y E.1) e4.1) e5.1) h.1)⟩
   ·rw[zK,yd,hmc];have:=o.al;omega
   ·have B:=Ca ((if j=0 then(x.forget a).add a d.a else x).count j true) (H'.sp.st.count 2:Nat)
    have U:=Ds (if j=0 then(x.forget a).add a d.a else x) j true
    have V:(if j=0 then(x.forget a).add a d.a else x).dM=x.dM:=by split<;>rfl
    have Z:=o.pk;have M:(x.gR a d.a j (H'.sp.st.count 2)).dM=(Me.eP ((if j=0 then(x.forget a).add a d.a else x).count j true) (H'.sp.st.count 2:Nat)).dM:=rfl
    have e2:(x.gR a d.a j (H'.sp.st.count 2)).sum=(Me.eP ((if j=0 then(x.forget a).add a d.a else x).count j true) (H'.sp.st.count 2:Nat)).sum:=rfl
    refine⟨O,?_⟩;rw[←hsum,M,B.2.2.2.2.1,U.2.1,V,Z.2,e2,B.2.2.2.2.2.2]
  ·have g:j≠0:=by simpa using h0
   have C:oF (x.gR a d.a j (H'.sp.st.count 2)):=by
    have B:x.gR a d.a j (H'.sp.st.count 2)=x.jW a j (H'.sp.st.count 2):=by
     unfold Me.gR Me.jW Me.count;rw[zA g,zA g,zA g,zA g]
    rw[B];exact o.mi.jW (o2.p.m.nodup) (λh=>absurd h g) hc N
   have hmc:(x.gR a d.a j (H'.sp.st.count 2)).cS=x.cS:=by
    unfold Me.gR Me.count Me.eP;rw[zA g,zA g]
   refine hR j w _ H' held' s0' P' _ _ _ _ _ _ _ _ ⟨o3,C,km2 g,by rw[hmc];exact o.al,?_⟩ rfl kp X ⟨(bO.to (e.trans M)).trans (tM E),AG (λb h=>(K b h).imp id λh=>zJ Y h) (λ_=>.inl) (λ_=>.inl)⟩;have Z:=o.pk;have h5:(x.gR a d.a j (H'.sp.st.count 2)).sum=x.sum:=by unfold Me.gR Me.count Me.eP;rw[zA g,zA g]
   have h6:(x.gR a d.a j (H'.sp.st.count 2)).dM=x.dM:=by
    unfold Me.gR Me.count Me.eP;rw[zA g,zA g];exact zA aC
   exact⟨by rw[h5,h6];exact Z.1,by rw[h6];exact Z.2⟩
 have k0:d.kd≠120:=by simpa using hk0
 refine cU (λhk=>?_) λhk1=>?_
 ·have S:d.kd=121:=by simpa using hk
  refine aG (o2.b.rP rfl (A.rI rfl (S8 o2.p o.mi hc d.th ax hat.2 λj w ts H' held' s0' P' E p3 K kp fe=>?_)));have o3:=o2.fS E p3 rfl K;have X:=P4 (H':=H') S x ax j;have N:=p3.Aw;refine cU (λh0=>?_) λh0=>?_
  ·have g:j=0:=by simpa using h0
   obtain⟨b0,G,hlv⟩:∃b,bW H.live ax=some b/\H'.live=cR H.live ax:=by
    rcases fe with⟨B,_⟩|⟨_,_,B,_⟩|⟨_,b,G,_,hl⟩
    ·exact absurd g B
    ·exact absurd g B
    ·exact⟨b,G,hl⟩
   obtain⟨kk,hv,hlen⟩:=Ts (D:=H'.sp.st.count 2) o.k kp.1 g hlv G o2.p.hi.lk;have C:=o.mi.jW (e:=j) (D:=H'.sp.st.count 2) o2.p.m.nodup (λ_=>hv) hc N;refine KA (a:=.s) (bb:=bN) (λ(l:Sl) (i:Int) u=>∃k:Nat,i=k/\k<=kn.length/\Ext (λb=>w.size<=b) w u/\bS l 3 (mH ((kn.take k).filter λq=>!(q.1==ax))) u (λb=>w.size<=b)) (λ_ i _=>kn.length-i.toNat) ⟨0,rfl,O,Ext.refl _ _,⟨rfl,.inl ⟨rfl,rfl⟩⟩⟩ ?_;rintro(l:Sl) (i:Int) u ⟨k,rfl,hk,W,hl⟩;have aa:bO w u:=⟨W.1,λb z _=>W.2 b z O⟩;have ou:=o3.fr aa;have hknl:kns.len=kn.length:=by have:=ou.rk.1;rw[UD]at this;omega
   have hll:l.len<=k:=by
    have B:((kn.take k).filter λq:Kn=>!(q.1==ax)).length*3=l.len*3:=by have:=hl.1;rw[UD]at this;exact this
    have U:=qB (λq:Kn=>!(q.1==ax)) (kn.take k);rw[zP,uF hk]at U;omega
   refine aG (ou.b.rS rfl (cI (λhlt=>?_) λhge=>?_))
   ·have hk':k<kn.length:=by simp only at hlt;omega
    have hg:kn[k]?=some kn[k]:=cM _;generalize kn[k]=q at hg;have htk:kn.take (k+1)=kn.take k++[q]:=by rw[zl,hg];rfl
    refine aG (ou.b.rS rfl (DO (bS.gE ou.rk) hg λbb o' Q=>dZ (Q 0 _ rfl) (cU (λhne=>?_) λab=>?_)))
    ·have hne:¬q.1=ax:=by simpa using hne
     refine aG (ou.b.rS rfl (DO (bS.gE ou.rk) hg λbb o' Q=>dZ (Q 0 _ rfl) (dZ (Q 1 _ rfl) (dZ (Q 2 _ rfl) ?_))));refine bS.push (F:=λb=>w.size<=b) (vs:=v3 q) hl (λb z=>by have:=W.1;show w.size<=b;omega) rfl rfl (by simp[v3,dP]) O O λs' u' hsl eu' hrow'=>?_;refine cA (m:=k+1) O O ⟨⟨k+1,rfl,O,W.trans eu',?_⟩,O⟩;rw[htk,yw,wE (by simpa using hne),List.filter_nil,EY];exact hrow'
    ·have ab:q.1=ax:=by simpa using ab
     refine cA (m:=k+1) O O ⟨⟨k+1,rfl,O,W,?_⟩,O⟩;rw[htk,yw,wH (by simp[ab]),List.filter_nil,lZ];exact hl
   ·have hkk:k=kn.length:=by simp only at hge;omega
    subst hkk;rw[zo]at hl;refine aG (o3.AM (bO.to aa) (aI.mono (aI.cut hl) λb _ z=>.inr ⟨z.1,z.2⟩) λu2 e9 o4=>?_);refine hR j u2 _ H' held' s0' P' _ _ _ _ _ _ _ _ ⟨o4,C,kk,?_,?_⟩ rfl kp X ⟨(((bO.to (e.trans M)).trans (tM E)).trans (bO.to aa)).trans (tX e9),AG (λb h=>(K b h).imp id λh=>zJ Y h) (λ_=>.inl) (λb h=>h.imp id λh=>zJ (zJ Y E.1) h.1)⟩
    ·have:(x.jW ax j (H'.sp.st.count 2)).cS=x.cS:=by
      unfold Me.jW Me.count Me.eP;rw[zB g,zB g,zA aB];rfl
     rw[this];exact o.al
    ·have Z:=o.pk;obtain⟨vv,hvv⟩:=hv;have hvr:=o.mi.v _ (Vk hvv);have h5:(x.jW ax j (H'.sp.st.count 2)).sum=x.sum-vv:=by
      unfold Me.jW Me.count Me.eP;rw[zB g,zB g,zA aB];unfold Me.forget;rw[hvv];rfl
     have B:=Ca ((if j=0 then x.forget ax else x).count j false) (H'.sp.st.count 2:Nat)
     have U:=Ds (if j=0 then x.forget ax else x) j false
     have V:(if j=0 then x.forget ax else x).dM=x.dM:=by split<;>rfl
     have h6:(x.jW ax j (H'.sp.st.count 2)).dM=(Me.eP ((if j=0 then x.forget ax else x).count j false) (H'.sp.st.count 2:Nat)).dM:=rfl
     have h7:(x.jW ax j (H'.sp.st.count 2)).sum=(Me.eP ((if j=0 then x.forget ax else x).count j false) (H'.sp.st.count 2:Nat)).sum:=rfl
     have h8:(x.jW ax j (H'.sp.st.count 2)).dM=x.dM:=by
      rw[h6,B.2.2.2.2.1,U.2.1,V];have:((if j=0 then x.forget ax else x).count j false).sum=x.sum-vv:=by rw[←B.2.2.2.2.2.2,←h7];exact h5
      rw[this];exact zA (by simp only at hvr;omega)
     simp only at hvr;exact⟨by rw[h5,h8];omega,by rw[h8];exact Z.2⟩
  ·have g:j≠0:=by simpa using h0
   have hlv:H'.live=H.live:=by
    rcases fe with⟨_,B,_⟩|⟨_,_,_,B⟩|⟨_,b,_,B,_⟩
    ·rw[B]
    ·exact B
    ·exact absurd B g
   have C:=o.mi.jW (a:=ax) (e:=j) (D:=H'.sp.st.count 2) o2.p.m.nodup (λh=>absurd h g) hc N;have hf:(x.jW ax j (H'.sp.st.count 2)).cS=x.cS/\(x.jW ax j (H'.sp.st.count 2)).sum=x.sum/\(x.jW ax j (H'.sp.st.count 2)).dM=x.dM:=by
    have Z:=o.pk;unfold Me.jW Me.count Me.eP;rw[zA g,zA g];exact⟨rfl,rfl,zA aC⟩
   exact hR j w _ H' held' s0' P' _ _ _ _ _ _ _ _ ⟨o3,C,o.k.uW kp.1 g hlv,by rw[hf.1];exact o.al,by rw[hf.2.1,hf.2.2];exact o.pk⟩ rfl kp X ⟨(bO.to (e.trans M)).trans (tM E),AG (λb h=>(K b h).imp id λh=>zJ Y h) (λ_=>.inl) (λ_=>.inl)⟩
 have k1:d.kd≠121:=by simpa using hk1
 have X:∀H',vD d x x H':=λH'=>⟨by rw[zA O];omega,vE _,vE _,λh=>O⟩;refine D8 (λr w=>v1=w/\(r=true->d.kd=2\/d.kd=3\/d.kd=8\/d.kd=9\/d.kd=10)) (λr w ⟨hw,hr⟩=>?_) λJ hJ=>?_
 ·subst hw;refine cU (λht=>?_) λhf=>hR 0 v1 L H held s0 P x _ _ _ _ _ _ _ (o.fr (e.trans M)) rfl (Qd.refl _) (X H) ⟨bO.to (e.trans M),λ_=>.inl⟩;have S:=hr ht;refine⟨λm=>bO v1 m,Ext.refl _ _,aG (bX.rH (c:=.p) (y:=some ⟨L.p,0,none⟩) o2.b rfl (aG (bX.rH (c:=.s) (y:=addrs) o2.b rfl (bX.rH (c:=bN) (y:=d.kd) A rfl (bX.rH (c:=bN) (y:=d.th) A rfl (bX.rH (c:=bN) (y:=d.a) A rfl (bX.rH (c:=bN) (y:=d.b) A rfl (bX.rH (c:=bN) (y:=d.of) A rfl (bX.rH (c:=bN) (y:=d.pl) A rfl (bX.rH (c:=bN) (y:=d.va) A rfl (bX.rH (c:=.str) (y:=d.s) A rfl ?_)))))))))))⟩;refine Es o2.p.h (gc.bK o2.p.e) o2.p.hi o2.p.cf (by have:=o2.p.pg;omega) (bS.gE o2.ra) d di S λa' e' n' w ts H' E V dq=>?_;obtain⟨held',s0',hi'⟩:=dq.hi;have p3:=o2.p.step E V hi' dq.kp (dq.ph o2.p.ph);have o3:=o2.fS (E.sub λb z=>.inl z) p3 rfl λb z=>z.1;exact hR e' w _ H' held' s0' _ x _ _ _ _ _ _ _ ⟨o3,o.mi,o.k.same dq.live dq.kp.1,o.al,o.pk⟩ rfl dq.kp (X H') ⟨(bO.to (e.trans M)).trans (tM (E.sub λb z=>.inl z)),AG (λb z=>z.1.imp id λh=>zJ Y h) (λ_=>.inl) (λ_=>.inl)⟩
 ·exact cU (λh=>hJ _ _ ⟨rfl,λ_=>.inl (by simpa using h)⟩) λ_=>cU (λh=>hJ _ _ ⟨rfl,λ_=>.inr (.inl (by simpa using h))⟩) λ_=>cU (λh=>hJ _ _ ⟨rfl,λ_=>.inr (.inr (.inl (by simpa using h)))⟩) λ_=>cU (λh=>hJ _ _ ⟨rfl,λ_=>.inr (.inr (.inr (.inl (by simpa using h))))⟩) λ_=>hJ _ _ ⟨rfl,λh=>.inr (.inr (.inr (.inr (by simpa using h))))⟩
end Go.Ar
namespace Go.Ar
open Go Go.Vc Go.Proofs
open Go.Vc (bW dG cR)
variable {σ w w':Hp}{l:Sl}{ds:List fG}
def yY (d:fG):Bool:=d.kd==120||d.kd==121
theorem TX (d:fG):(if yY d=true then 1 else 0)=if d.kd=120\/d.kd=121 then 1 else 0:=by
 unfold yY;by_cases h1:d.kd=120
 ·simp[h1]
 ·by_cases h2:d.kd=121
  ·simp[h2]
  ·simp[h1,h2]
set_option maxRecDepth 8000 in
theorem WjW (gl:Gl σ)(gc:Gc σ)(b b1 b2 b3 b4 b5:Int)(hd:jQ σ l ds)(most:Int)(hmost:most<=60){R:Option Addr->Hp->Prop}(h0:∀σ',bO σ σ'->R none σ')
 (h1:∀σ' xb L H held s0 P mb am x Qa Qk addrs ad kns kn mo,OP σ σ' xb L H held s0 P mb am x Qa Qk addrs ad kns kn mo->x.calls=ds.countP yY->(H.cf.aF:Int)=b1->ds.length<=60->R (some ⟨xb,0,none⟩) σ'):X5.c b b1 b2 b3 b4 b5 l most σ R:=by
 refine X5.o ?_;have hl:=hd.len;have hbig:=hd.C2;refine nw (cs:=[.int .i64 b,.int .i64 b1,.int .i64 b2,.int .i64 b3,.int .i64 b4,.int .i64 b5]) λv hz e g=>g.rI rfl (g.rI rfl (g.rI rfl (g.rI rfl (g.rI rfl (g.rI rfl (WS.o ?_))))));refine nw (cs:=[.int .i64 b,.int .i64 b1,.int .i64 b2,.int .i64 b3,.int .i64 b4,.int .i64 b5]) λv1 V e1 Y=>Y.gG rfl ?_;have j:=e.trans e1;have s:=e1.bV g id;refine Ud (λr w=>v1=w/\(r=false->b1<=128/\(ds.length:Int)<=most)) (λr w ⟨hw,hr⟩=>?_) λJ hJ=>cI (λh=>hJ _ _ ⟨rfl,λh=>by cases h⟩) λh=>OQ (hJ _ _ ⟨rfl,λh'=>by have:=uG h';exact⟨O,O⟩⟩);subst hw;refine cU (λht=>h0 v1 j) λhf=>?_;obtain⟨hpg,hlm⟩:=hr hf;refine s.rI rfl (s.rI rfl (s.rI rfl (s.rI rfl (s.rI rfl (s.rI rfl ?_)))));refine PV (gl.bK j) (gc.bK j).gd b b1 b2 b3 b4 b5 (λv2 e2=>cJ rfl (h0 v2 (j.trans e2))) λv2 L0 N H0 e2 hsN hNv hh D=>cG rfl ?_;have M:=j.trans e2;refine NN M hh.cut D.hi D.cf D.ph (by have:=D.pg;omega) (λb g=>⟨by have:=j.1;have:N<=b:=g.1;omega,g.2⟩) (FY gl gc.gd) λw mb am e3 hm1 hm2 p=>bZ.intro (cG rfl (cG rfl ?_));refine nw (cs:=ql L0.p mb ⟨none,0,0⟩ ⟨none,0,0⟩ 0) λw1 V e4 W=>?_;have p4:=p.fr e4;have hmb:=p.b.lt;have ham:=p.m.lt;have K:=p.e.1;have o4:OP σ w1 w.size L0 H0 [] (VC H0.cf.aF) _ mb am su (λ_=>False) (λ_=>False) ⟨none,0,0⟩ [] ⟨none,0,0⟩ [] 0:=
  ⟨⟨p4,W,⟨rfl,.inl ⟨rfl,rfl⟩⟩,⟨rfl,.inl ⟨rfl,rfl⟩⟩,⟨K,λhP=>by have:=(p.pP _ hP).2;omega,O,O,id,id⟩,λb g=>g.elim,λb g=>g.elim,λb g=>g.elim⟩,Ef,⟨rfl,by rw[D.live];rfl,by simp,rfl⟩,by simp,by simp[su]⟩
 refine ZV (a:=bN) (λ(z:Int) u=>∃(i:Nat) (L:dQ) (H:Hw) (held:List Pc) (s0:Sp) (P:Rg) (x:Me) (Qa Qk:Rg) (addrs:Sl) (ad:List Int) (kns:Sl) (kn:List Kn) (mo:Int),z=i/\i<=ds.length/\OP σ u w.size L H held s0 P mb am x Qa Qk addrs ad kns kn mo/\x.calls=(ds.take i).countP yY/\(H.cf.aF:Int)=b1) (λz _=>ds.length-z.toNat)
  ⟨0,L0,H0,_,_,_,_,_,_,_,_,_,_,_,rfl,O,o4,by simp[su,Me.calls],D.pg⟩ ?_
 rintro(z:Int) u ⟨i,L,H,held,s0,P,x,Qa,Qk,addrs,ad,kns,kn,mo,rfl,hi,o,hcl,hpp⟩;refine cI (λhlt=>?_) λhge=>?_
 ·have F:ds[i]?=some (ds[i]' O):=cM _;generalize (ds[i]' O)=d at F;have U:=hd.i _ (zE F);have hle:(ds.take i).countP yY<=60:=by
   have h1:=xS (p:=yY) (l:=ds.take i);rw[zP]at h1;omega
  refine hd.rd o.f.p.e F λba oa B=>dZ (B _ o.f.p.e 0 _ rfl) (dZ (B _ o.f.p.e 1 _ rfl) (dZ (B _ o.f.p.e 2 _ rfl) (dZ (B _ o.f.p.e 3 _ rfl) (dZ (B _ o.f.p.e 4 _ rfl) (dZ (B _ o.f.p.e 5 _ rfl) (dZ (B _ o.f.p.e 6 _ rfl) (Fg (B _ o.f.p.e 7 _ rfl) ?_)))))));refine Sm o gc O d U λer u2 L' H' C X P' y Qa' Qk' A S E Z G o' hLp kp po _=>?_;refine cA (m:=i+1) O O ⟨⟨i+1,L',H',C,X,P',y,Qa',Qk',A,S,E,Z,G,rfl,O,o',?_,by rw[kp.2.1];exact hpp⟩,O⟩;rw[po.calls,hcl,←TX,zl,F,yl];simp[ud]
 ·have Q:i=ds.length:=by omega
  subst Q;rw[zo]at hcl;exact h1 u w.size L H held s0 P mb am x Qa Qk addrs ad kns kn mo o hcl hpp O
end Go.Ar
namespace Go.Proofs
open Go.Vc
set_option maxRecDepth 100000
end Go.Proofs
namespace Go.Ar
open Go Go.Vc Go.Proofs
open Go.Vc (bW dG cR)
variable {σ w w':Hp}{l:Sl}{ds:List fG}
theorem KI.given {H:Hw}{x:Me}{kn:List Kn}(k:KI H x kn):QD H.live=(kn.map λq=>(tx H.tb q.2.1 q.2.2).1).sum:=by
 have h:=congrArg (List.map λe:Int×Int×Int=>e.2.1) k.live;rw[zk,zk]at h;unfold QD;exact congrArg List.sum h
theorem LL {α:Type}{f g:α->Int}:∀{l:List α},(∀a∈l,f a<=g a)->(l.map f).sum<=(l.map g).sum
 | [],_=>by simp
 | a::l,h=>by
  have h1:=h a nE;have e:=LL λb d=>h b (mJ _ d);simp only[zH,zS];omega
theorem KI.le {H:Hw}{x:Me}{kn:List Kn}(k:KI H x kn):G7 kn<=QD H.live:=by
 rw[k.given];exact LL λq a=>by
  have h:=k.arg q a;exact(Woq ⟨h.2.1,h.2.2⟩).1
end Go.Ar
namespace Go.Ar
open Go Go.Vc Go.Proofs
open Go.Vc (bW dG cR)
variable {σ v w w':Hp}{F:Rg}{tb:List bY}{asked:List (Int×Int)}{bs:List Bk}{H:Hw}{x:Me}{kn:List Kn}{held:List Pc}{s0:Sp}
theorem KI.Of (k:KI H x kn)(hl:mS H.live bs){b:Bk}(hb:b∈bs):∃q∈kn,Dh H.tb q=(b.1,b.2.1,b.2.2.1):=by
 have a:(b.1,b.2.1,b.2.2.1)∈H.live.map (λe=>(e.1,e.2.2.1,e.2.2.2.1)):=zC.2 ⟨_,(hl.mem b).1 hb,rfl⟩;rw[k.live]at a;obtain⟨q,d,g⟩:=zC.1 a;exact⟨q,d,g⟩
theorem Wom (tb:List bY)(size align:Int) : -1<=pC tb size align/\pC tb size align+1<((tb.length+1:Nat):Int):=by
 unfold pC;cases h:gH tb size align with
 | none=>simp only;omega
 | some k=>
  have:=(B9.1 h).1;simp only;omega
theorem KI.cls (k:KI H x kn)(hl:mS H.live bs){b:Bk}(hb:b∈bs) : -1<=b.2.2.1/\b.2.2.1+1<((H.tb.length+1:Nat):Int):=by
 obtain⟨q,_,a⟩:=k.Of hl hb;have d:pC H.tb q.2.1 q.2.2=b.2.2.1:=congrArg (λe:Int×Int×Int=>e.2.2) a;rw[←d];exact Wom _ _ _
theorem KI.size (k:KI H x kn)(hl:mS H.live bs){b:Bk}(hb:b∈bs){c:Nat}(hc:b.2.2.1=(c:Int)):b.2.1=((H.tb.getD c ⟨8,1,1⟩).size:Int):=by
 obtain⟨q,i,d⟩:=k.Of hl hb;have a:pC H.tb q.2.1 q.2.2=b.2.2.1:=congrArg (λe:Int×Int×Int=>e.2.2) d;have m:(tx H.tb q.2.1 q.2.2).1=b.2.1:=congrArg (λe:Int×Int×Int=>e.2.1) d;have g:=k.arg q i;rw[←m];unfold tx;rw[zB ⟨g.2.1,g.2.2⟩];unfold pC at a;cases h:gH H.tb q.2.1 q.2.2 with
 | none=>rw[h]at a;simp only at a;omega
 | some j=>
  rw[h]at a;simp only at a ⊢;have:j=c:=by omega
  rw[this]
end Go.Ar
namespace Go.Proofs
open Go.Vc
set_option maxRecDepth 100000
end Go.Proofs
namespace Go.Ar
open Go Go.Vc Go.Proofs
open Go.Vc (bW dG cR)
variable {σ w w':Hp}{l:Sl}{ds:List fG}{tb:List bY}{asked:List (Int×Int)}{bs:List Bk}{H:Hw}{x:Me}{kn:List Kn}{held:List Pc}{s0:Sp}
end Go.Ar
namespace Go.Proofs
open Go.Vc
set_option maxRecDepth 100000
end Go.Proofs
namespace Go.Ar
open Go Go.Vc Go.Proofs
open Go.Vc (bW dG cR)
variable {σ σ0 v w w':Hp}{l:Sl}{ds:List fG}{P Qa Qk:Rg}{L:dQ}{H:Hw}{held:List Pc}{s0:Sp}{mb am xb nb:Nat}{x:Me}{addrs kns:Sl}{ad:List Int}{kn:List Kn}{most:Int}
theorem OP.out (o:OP σ0 σ xb L H held s0 P mb am x Qa Qk addrs ad kns kn most)(e:Ext (· = nb) σ w)(h:¬uj P mb am xb Qa Qk nb)(h0:σ0.size<=nb):OP σ0 w xb L H held s0 P mb am x Qa Qk addrs ad kns kn most:=by
 have u:=e.1;have j:¬P nb:=λk=>h (.inl (.inl k));have r:nb≠mb:=λk=>h (.inl (.inr (.inl k)));have m:nb≠am:=λk=>h (.inl (.inr (.inr k)));have s:xb≠nb:=λk=>h (.inr (.inl k.symm));have g:¬Qa nb:=λk=>h (.inr (.inr (.inl k)));have i:¬Qk nb:=λk=>h (.inr (.inr (.inr k)));refine⟨⟨o.f.p.out e λb _ (a:b=nb)=>by subst a;exact⟨j,r,m,h0⟩,e.bV o.f.b s,aI.bU o.f.ra e λb _ d (a:b=nb)=>g (a▸d),aI.bU o.f.rk e λb _ d (a:b=nb)=>i (a▸d),o.f.vH,λb a=>?_,λb a=>?_,o.f.qq⟩,o.mi,o.k,o.al,o.pk⟩
 ·have h:=o.f.qa b a;exact⟨h.1,O,h.2.2⟩
 ·have h:=o.f.qk b a;exact⟨h.1,O,h.2.2⟩
def v10 (a:Int×Int×Int×Int×Int×Int×Int×Int×Int×Int):List Value:=[.int .i64 a.1,.int .i64 a.2.1,.int .i64 a.2.2.1,.int .i64 a.2.2.2.1,.int .i64 a.2.2.2.2.1,.int .i64 a.2.2.2.2.2.1,.int .i64 a.2.2.2.2.2.2.1,.int .i64 a.2.2.2.2.2.2.2.1,.int .i64 a.2.2.2.2.2.2.2.2.1,.int .i64 a.2.2.2.2.2.2.2.2.2]
theorem N1 {b:Nat}{z:Int×Int×Int×Int×Int×Int×Int×Int×Int×Int}(hb:bX v b (v10 z))(a0 a1 a2 a3 a4 a5 a6 a7 a8 a9:Int){K:aP}(hK:∀w,Ext (· = b) v w->bX w b (v10 (a0,a1,a2,a3,a4,a5,a6,a7,a8,a9))->K w) :
 cY (Addr.add ⟨b,0,none⟩ 0) (.int .i64 a0) v λv57=>cY (Addr.add ⟨b,0,none⟩ 1) (.int .i64 a1) v57 λv58=>cY (Addr.add ⟨b,0,none⟩ 2) (.int .i64 a2) v58 λv59=>cY (Addr.add ⟨b,0,none⟩ 3) (.int .i64 a3) v59 λv60=>
 cY (Addr.add ⟨b,0,none⟩ 4) (.int .i64 a4) v60 λv61=>cY (Addr.add ⟨b,0,none⟩ 5) (.int .i64 a5) v61 λv62=>cY (Addr.add ⟨b,0,none⟩ 6) (.int .i64 a6) v62 λv63=>cY (Addr.add ⟨b,0,none⟩ 7) (.int .i64 a7) v63 λv64=>
 cY (Addr.add ⟨b,0,none⟩ 8) (.int .i64 a8) v64 λv65=>cY (Addr.add ⟨b,0,none⟩ 9) (.int .i64 a9) v65 K:=by
 unfold v10 at hb;refine hb.s1 aA λy o1 m=>m.s1 aA λu o2 r=>r.s1 aA λv3 o3 d=>d.s1 aA λD o4 i=>i.s1 aA λE o5 g=>g.s1 aA λC o6 s=>s.s1 aA λx o7 p=>p.s1 aA λA o8 j=>j.s1 aA λB o9 e=>e.s1 aA λv10 fR a=>?_;exact hK v10 (((((((((o1.ext.trans o2.ext).trans o3.ext).trans o4.ext).trans o5.ext).trans o6.ext).trans o7.ext).trans o8.ext).trans o9.ext).trans fR.ext) a
theorem jQ.none:jQ σ ⟨none,0,0⟩ []:=⟨rfl,λi d h=>by simp at h,λd h=>by simp at h,by decide⟩
end Go.Ar
namespace Go.Proofs
open Go.Vc
set_option maxRecDepth 100000
def Xq.h:Hn:=.q .o2 (.q .o4 (.q (.q .o2 .aJ) (.q (.cV (.iH true [13] [(6,.one .ad),(7,.one .ad)] (.tk [0,1,2,3,5,6,7,8] (.all [(4,.all [(9,.all [(10,.all [(11,.all [(12,.all [(13,.done)])])]),(11,.all [(10,.all [(12,.all [(13,.done)])])])]),(10,.all [(9,.all [(11,.all [(12,.all [(13,.done)])])]),(11,.all [(9,.all [(12,.all [(13,.done)])])])]),(11,.all [(9,.all [(10,.all [(12,.all [(13,.done)])])]),(10,.all [(9,.all [(12,.all [(13,.done)])])])])]),(10,.all [(4,.all [(9,.all [(11,.all [(12,.all [(13,.done)])])]),(11,.all [(9,.all [(12,.all [(13,.done)])])])]),(11,.all [(4,.all [(9,.all [(12,.all [(13,.done)])])])])]),(11,.all [(4,.all [(9,.all [(10,.all [(12,.all [(13,.done)])])]),(10,.all [(9,.all [(12,.all [(13,.done)])])])]),(10,.all [(4,.all [(9,.all [(12,.all [(13,.done)])])])])])])))) (.q .fR (.q (.o 12) (.q (.q (.cV (.seq [.op,.op,.op,.op,.op,.op,.dB false 6 (RI.ops 6),.op,.dB false 6 (RI.ops 6)])) .aK) (.q (.cV (.seq [.op,.op,.op,.dB false 29 [.op,.op,.op,.dB true 2 [.op,.op],.op,.dB true 9 (RI.ops 9),.op,.dB true 10 (RI.ops 10)],.op,.dB true 1 [.op],.op])) .l)))))))
theorem Xq.o {a b c d e f:Int}{g:Sl}{h:Hp}{i:aO}(j:aV #[.I a,.I b,.I c,.I d,.I e,.I f] 65 h λj k=>aQ j 0 k λl=>aQ j 1 k λm=>aQ j 2 k λn=>aQ j 3 k λo=>aQ j 4 k λp=>aQ j 5 k λq=>X5.c l m n o p q g 60 k λr s=>If r.isNone (W5.c s λt u=>i t u) (Jn [.ad,.ad] (λ(v:Addr) (w:Addr) x=>bF r 1 x λz=>YI.c z x λaa ab ac=>aQ v 1 ac λad=>aQ v 2 ac λae=>bL (ad+ae) λaf=>aQ v 3 ac λag=>bL (af+ag) λah=>aQ v 4 ac λai=>bL (ah+ai) λaj=>aQ w 9 ac λak=>bL (ak*256) λal=>bZ (λam an=>bZ (λao ap=>If ao (i false ap) (bZ (λaq ar=>bZ (λau av=>i au av) λaw=>If aq (W5.c ar λax ay=>aw ax ay) (aw false ar)) λaz=>If (ab != 0) (az true ap) (bZ (λa0 a1=>bZ (λa2 a3=>bZ (λa4 a5=>az a4 a5) λa6=>If a2 (aQ v 0 a3 λa7=>bL (aj-a7) λa8=>bL (1000*a8) λa9=>bL (aa+1) λba=>bL (ba*aj) λbb=>a6 (decide (a9<bb)) a3) (a6 false a3)) λbc=>If a0 (bL (aa*aj) λbd=>aQ v 0 a1 λbe=>bL (aj-be) λbf=>bL (1000*bf) λbg=>bc (decide (bd<=bg)) a1) (bc false a1)) λbh=>If (aa≥0) (bh (decide (aa<1000)) ap) (bh false ap)))) λbi=>If am (bi true an) (aQ v 0 an λbj=>bi (!((ab==4)==(bj==0))) an)) λbk=>If (aj != al) (bk true ac) (aQ v 4 ac λbl=>aQ w 8 ac λbm=>bL (bm*256) λbn=>bk (bl != bn) ac)) λbo=>dT s λbp=>bQ r λbq=>
 aU bp bq 1 λbr=>bQ r λbs=>aU bp bs 0 λbt=>(Wy.c br s λbu bv bw bx bz b0 b1 b2 b3 b4 b5=>And (bp b5) <| (Ww.c bt b5 λb6 b7 b8 b9 ca cb cc cd ce cf cg ch=>And (bp ch) <| (aV #[.I 0,.I 0,.I 0,.I 0,.I 0,.I 0,.I 0,.I 0,.I 0,.I 0] 56 ch λci cj=>And (bp cj) <| aV #[.I 0,.I 0,.I 0,.I 0,.I 0,.I 0,.I 0,.I 0,.I 0,.I 0,.I 0] 89 cj λck cl=>And (bp cl) <| aR ci 0 (.I bu) cl λcm=>aR ci 1 (.I bv) cm λcn=>aR ci 2 (.I bw) cn λco=>aR ci 3 (.I bx) co λcp=>aR ci 4 (.I bz) cp λcq=>aR ci 5 (.I b0) cq λcr=>aR ci 6 (.I b1) cr λcs=>aR ci 7 (.I b2) cs λct=>aR ci 8 (.I b3) ct λcu=>aR ci 9 (.I b4) cu λcv=>And (bp cv) <| aR ck 0 (.I b6) cv λcw=>aR ck 1 (.I b7) cw λcx=>aR ck 2 (.I b8) cx λcy=>aR ck 3 (.I b9) cy λcz=>aR ck 4 (.I ca) cz λc0=>aR ck 5 (.I cb) c0 λc1=>aR ck 6 (.I cc) c1 λc2=>aR ck 7 (.I cd) c2 λc3=>aR ck 8 (.I ce) c3 λc4=>aR ck 9 (.I cf) c4 λc5=>aR ck 10 (.I cg) c5 λc6=>bo ci ck c6) ∧ (aV #[.I 0,.I 0,.I 0,.I 0,.I 0,.I 0,.I 0,.I 0,.I 0,.I 0,.I 0] 89 ch λc7 c8=>And (bp c8) <| aV #[.I 0,.I 0,.I 0,.I 0,.I 0,.I 0,.I 0,.I 0,.I 0,.I 0] 56 c8 λc9 da=>And (bp da) <| aR c9 0 (.I bu) da λdb=>aR c9 1 (.I bv) db λdc=>aR c9 2 (.I bw) dc λdd=>aR c9 3 (.I bx) dd λde=>aR c9 4 (.I bz) de λdf=>
 aR c9 5 (.I b0) df λdg=>aR c9 6 (.I b1) dg λdh=>aR c9 7 (.I b2) dh λdi=>aR c9 8 (.I b3) di λdj=>aR c9 9 (.I b4) dj λdk=>And (bp dk) <| aR c7 0 (.I b6) dk λdl=>aR c7 1 (.I b7) dl λdm=>aR c7 2 (.I b8) dm λdn=>aR c7 3 (.I b9) dn λdp=>aR c7 4 (.I ca) dp λdq=>aR c7 5 (.I cb) dq λdr=>aR c7 6 (.I cc) dr λds=>aR c7 7 (.I cd) ds λdt=>aR c7 8 (.I ce) dt λdu=>aR c7 9 (.I cf) du λdv=>aR c7 10 (.I cg) dv λdw=>bo c9 c7 dw)) ∧ (aV #[.I 0,.I 0,.I 0,.I 0,.I 0,.I 0,.I 0,.I 0,.I 0,.I 0] 56 b5 λdx dy=>And (bp dy) <| (Ww.c bt dy λdz d0 d1 d2 d3 d4 d5 d6 d7 d8 d9 ea=>And (bp ea) <| aV #[.I 0,.I 0,.I 0,.I 0,.I 0,.I 0,.I 0,.I 0,.I 0,.I 0,.I 0] 89 ea λeb ec=>And (bp ec) <| aR dx 0 (.I bu) ec λed=>aR dx 1 (.I bv) ed λee=>aR dx 2 (.I bw) ee λef=>aR dx 3 (.I bx) ef λeg=>aR dx 4 (.I bz) eg λeh=>aR dx 5 (.I b0) eh λei=>aR dx 6 (.I b1) ei λej=>aR dx 7 (.I b2) ej λek=>aR dx 8 (.I b3) ek λel=>aR dx 9 (.I b4) el λem=>And (bp em) <| aR eb 0 (.I dz) em λen=>aR eb 1 (.I d0) en λeo=>aR eb 2 (.I d1) eo λep=>aR eb 3 (.I d2) ep λeq=>aR eb 4 (.I d3) eq λer=>aR eb 5 (.I d4) er λes=>aR eb 6 (.I d5) es λet=>aR eb 7 (.I d6) et λeu=>aR eb 8 (.I d7) eu λev=>aR eb 9 (.I d8) ev λew=>aR eb 10 (.I d9) ew λex=>bo dx eb ex) ∧
 (aV #[.I 0,.I 0,.I 0,.I 0,.I 0,.I 0,.I 0,.I 0,.I 0,.I 0,.I 0] 89 dy λey ez=>And (bp ez) <| Ww.c bt ez λe0 e1 e2 e3 e4 e5 e6 e7 e8 e9 fa fb=>And (bp fb) <| aR dx 0 (.I bu) fb λfc=>aR dx 1 (.I bv) fc λfd=>aR dx 2 (.I bw) fd λfe=>aR dx 3 (.I bx) fe λff=>aR dx 4 (.I bz) ff λfg=>aR dx 5 (.I b0) fg λfh=>aR dx 6 (.I b1) fh λfi=>aR dx 7 (.I b2) fi λfj=>aR dx 8 (.I b3) fj λfk=>aR dx 9 (.I b4) fk λfl=>And (bp fl) <| aR ey 0 (.I e0) fl λfm=>aR ey 1 (.I e1) fm λfn=>aR ey 2 (.I e2) fn λfo=>aR ey 3 (.I e3) fo λfp=>aR ey 4 (.I e4) fp λfq=>aR ey 5 (.I e5) fq λfr=>aR ey 6 (.I e6) fr λfs=>aR ey 7 (.I e7) fs λft=>aR ey 8 (.I e8) ft λfu=>aR ey 9 (.I e9) fu λfv=>aR ey 10 (.I fa) fv λfw=>bo dx ey fw)) ∧ (aV #[.I 0,.I 0,.I 0,.I 0,.I 0,.I 0,.I 0,.I 0,.I 0,.I 0,.I 0] 89 b5 λfx fy=>And (bp fy) <| (Ww.c bt fy λfz f0 f1 f2 f3 f4 f5 f6 f7 f8 f9 ga=>And (bp ga) <| aV #[.I 0,.I 0,.I 0,.I 0,.I 0,.I 0,.I 0,.I 0,.I 0,.I 0] 56 ga λgb gc=>And (bp gc) <| aR gb 0 (.I bu) gc λgd=>aR gb 1 (.I bv) gd λge=>aR gb 2 (.I bw) ge λgf=>aR gb 3 (.I bx) gf λgg=>aR gb 4 (.I bz) gg λgh=>aR gb 5 (.I b0) gh λgi=>aR gb 6 (.I b1) gi λgj=>aR gb 7 (.I b2) gj λgk=>aR gb 8 (.I b3) gk λgl=>aR gb 9 (.I b4) gl λgm=>And (bp gm) <| aR fx 0 (.I fz) gm λgn=>
 aR fx 1 (.I f0) gn λgo=>aR fx 2 (.I f1) go λgp=>aR fx 3 (.I f2) gp λgq=>aR fx 4 (.I f3) gq λgr=>aR fx 5 (.I f4) gr λgs=>aR fx 6 (.I f5) gs λgt=>aR fx 7 (.I f6) gt λgu=>aR fx 8 (.I f7) gu λgv=>aR fx 9 (.I f8) gv λgw=>aR fx 10 (.I f9) gw λgx=>bo gb fx gx) ∧ (aV #[.I 0,.I 0,.I 0,.I 0,.I 0,.I 0,.I 0,.I 0,.I 0,.I 0] 56 fy λgy gz=>And (bp gz) <| Ww.c bt gz λg0 g1 g2 g3 g4 g5 g6 g7 g8 g9 ha hb=>And (bp hb) <| aR gy 0 (.I bu) hb λhc=>aR gy 1 (.I bv) hc λhd=>aR gy 2 (.I bw) hd λhe=>aR gy 3 (.I bx) he λhf=>aR gy 4 (.I bz) hf λhg=>aR gy 5 (.I b0) hg λhh=>aR gy 6 (.I b1) hh λhi=>aR gy 7 (.I b2) hi λhj=>aR gy 8 (.I b3) hj λhk=>aR gy 9 (.I b4) hk λhl=>And (bp hl) <| aR fx 0 (.I g0) hl λhm=>aR fx 1 (.I g1) hm λhn=>aR fx 2 (.I g2) hn λho=>aR fx 3 (.I g3) ho λhp=>aR fx 4 (.I g4) hp λhq=>aR fx 5 (.I g5) hq λhr=>aR fx 6 (.I g6) hr λhs=>aR fx 7 (.I g7) hs λht=>aR fx 8 (.I g8) ht λhu=>aR fx 9 (.I g9) hu λhv=>aR fx 10 (.I ha) hv λhw=>bo gy fx hw))) ∧ (aV #[.I 0,.I 0,.I 0,.I 0,.I 0,.I 0,.I 0,.I 0,.I 0,.I 0] 56 s λhx hy=>And (bp hy) <| (Wy.c br hy λhz h0 h1 h2 h3 h4 h5 h6 h7 h8 h9=>And (bp h9) <| (Ww.c bt h9 λia ib ic id ie ig ih ii ij ik il im=>And (bp im) <|
 aV #[.I 0,.I 0,.I 0,.I 0,.I 0,.I 0,.I 0,.I 0,.I 0,.I 0,.I 0] 89 im λio ip=>And (bp ip) <| aR hx 0 (.I hz) ip λiq=>aR hx 1 (.I h0) iq λir=>aR hx 2 (.I h1) ir λit=>aR hx 3 (.I h2) it λiu=>aR hx 4 (.I h3) iu λiv=>aR hx 5 (.I h4) iv λiw=>aR hx 6 (.I h5) iw λix=>aR hx 7 (.I h6) ix λiy=>aR hx 8 (.I h7) iy λiz=>aR hx 9 (.I h8) iz λi0=>And (bp i0) <| aR io 0 (.I ia) i0 λi1=>aR io 1 (.I ib) i1 λi2=>aR io 2 (.I ic) i2 λi3=>aR io 3 (.I id) i3 λi4=>aR io 4 (.I ie) i4 λi5=>aR io 5 (.I ig) i5 λi6=>aR io 6 (.I ih) i6 λi7=>aR io 7 (.I ii) i7 λi8=>aR io 8 (.I ij) i8 λi9=>aR io 9 (.I ik) i9 λja=>aR io 10 (.I il) ja λjb=>bo hx io jb) ∧ (aV #[.I 0,.I 0,.I 0,.I 0,.I 0,.I 0,.I 0,.I 0,.I 0,.I 0,.I 0] 89 h9 λjc jd=>And (bp jd) <| Ww.c bt jd λje jf jg jh ji jj jk jl jm jn jo jp=>And (bp jp) <| aR hx 0 (.I hz) jp λjq=>aR hx 1 (.I h0) jq λjr=>aR hx 2 (.I h1) jr λjs=>aR hx 3 (.I h2) js λjt=>aR hx 4 (.I h3) jt λju=>aR hx 5 (.I h4) ju λjv=>aR hx 6 (.I h5) jv λjw=>aR hx 7 (.I h6) jw λjx=>aR hx 8 (.I h7) jx λjy=>aR hx 9 (.I h8) jy λjz=>And (bp jz) <| aR jc 0 (.I je) jz λj0=>aR jc 1 (.I jf) j0 λj1=>aR jc 2 (.I jg) j1 λj2=>aR jc 3 (.I jh) j2 λj3=>aR jc 4 (.I ji) j3 λj4=>aR jc 5 (.I jj) j4 λj5=>
 aR jc 6 (.I jk) j5 λj6=>aR jc 7 (.I jl) j6 λj7=>aR jc 8 (.I jm) j7 λj8=>aR jc 9 (.I jn) j8 λj9=>aR jc 10 (.I jo) j9 λka=>bo hx jc ka)) ∧ (aV #[.I 0,.I 0,.I 0,.I 0,.I 0,.I 0,.I 0,.I 0,.I 0,.I 0,.I 0] 89 hy λkb kc=>And (bp kc) <| Wy.c br kc λkd ke kf kg kh ki kj kk kl km kn=>And (bp kn) <| Ww.c bt kn λko kp kq kr ks kt ku kv kw kx ky kz=>And (bp kz) <| aR hx 0 (.I kd) kz λk0=>aR hx 1 (.I ke) k0 λk1=>aR hx 2 (.I kf) k1 λk2=>aR hx 3 (.I kg) k2 λk3=>aR hx 4 (.I kh) k3 λk4=>aR hx 5 (.I ki) k4 λk5=>aR hx 6 (.I kj) k5 λk6=>aR hx 7 (.I kk) k6 λk7=>aR hx 8 (.I kl) k7 λk8=>aR hx 9 (.I km) k8 λk9=>And (bp k9) <| aR kb 0 (.I ko) k9 λla=>aR kb 1 (.I kp) la λlb=>aR kb 2 (.I kq) lb λlc=>aR kb 3 (.I kr) lc λld=>aR kb 4 (.I ks) ld λle=>aR kb 5 (.I kt) le λlf=>aR kb 6 (.I ku) lf λlg=>aR kb 7 (.I kv) lg λlh=>aR kb 8 (.I kw) lh λli=>aR kb 9 (.I kx) li λlj=>aR kb 10 (.I ky) lj λlk=>bo hx kb lk)) ∧ (aV #[.I 0,.I 0,.I 0,.I 0,.I 0,.I 0,.I 0,.I 0,.I 0,.I 0,.I 0] 89 s λll lm=>And (bp lm) <| (Wy.c br lm λln lo lp lq lr ls lt lu lv lw lx=>And (bp lx) <| (Ww.c bt lx λly lz l0 l1 l2 l3 l4 l5 l6 l7 l8 l9=>And (bp l9) <| aV #[.I 0,.I 0,.I 0,.I 0,.I 0,.I 0,.I 0,.I 0,.I 0,.I 0] 56 l9 λma mb=>And (bp mb) <| aR ma 0 (.I ln) mb λmc=>aR ma 1 (.I lo) mc λmd=>
 aR ma 2 (.I lp) md λme=>aR ma 3 (.I lq) me λmf=>aR ma 4 (.I lr) mf λmg=>aR ma 5 (.I ls) mg λmh=>aR ma 6 (.I lt) mh λmi=>aR ma 7 (.I lu) mi λmj=>aR ma 8 (.I lv) mj λmk=>aR ma 9 (.I lw) mk λml=>And (bp ml) <| aR ll 0 (.I ly) ml λmm=>aR ll 1 (.I lz) mm λmn=>aR ll 2 (.I l0) mn λmo=>aR ll 3 (.I l1) mo λmp=>aR ll 4 (.I l2) mp λmq=>aR ll 5 (.I l3) mq λmr=>aR ll 6 (.I l4) mr λms=>aR ll 7 (.I l5) ms λmt=>aR ll 8 (.I l6) mt λmu=>aR ll 9 (.I l7) mu λmv=>aR ll 10 (.I l8) mv λmw=>bo ma ll mw) ∧ (aV #[.I 0,.I 0,.I 0,.I 0,.I 0,.I 0,.I 0,.I 0,.I 0,.I 0] 56 lx λmx my=>And (bp my) <| Ww.c bt my λmz m0 m1 m2 m3 m4 m5 m6 m7 m8 m9 na=>And (bp na) <| aR mx 0 (.I ln) na λnb=>aR mx 1 (.I lo) nb λnc=>aR mx 2 (.I lp) nc λnd=>aR mx 3 (.I lq) nd λne=>aR mx 4 (.I lr) ne λnf=>aR mx 5 (.I ls) nf λng=>aR mx 6 (.I lt) ng λnh=>aR mx 7 (.I lu) nh λni=>aR mx 8 (.I lv) ni λnj=>aR mx 9 (.I lw) nj λnk=>And (bp nk) <| aR ll 0 (.I mz) nk λnl=>aR ll 1 (.I m0) nl λnm=>aR ll 2 (.I m1) nm λnn=>aR ll 3 (.I m2) nn λno=>aR ll 4 (.I m3) no λnp=>aR ll 5 (.I m4) np λnq=>aR ll 6 (.I m5) nq λnr=>aR ll 7 (.I m6) nr λns=>aR ll 8 (.I m7) ns λnt=>aR ll 9 (.I m8) nt λnu=>aR ll 10 (.I m9) nu λnv=>bo mx ll nv)) ∧
 (aV #[.I 0,.I 0,.I 0,.I 0,.I 0,.I 0,.I 0,.I 0,.I 0,.I 0] 56 lm λnw nx=>And (bp nx) <| Wy.c br nx λny nz n0 n1 n2 n3 n4 n5 n6 n7 n8=>And (bp n8) <| Ww.c bt n8 λn9 oa ob oc od oe og oh oi oj ok ol=>And (bp ol) <| aR nw 0 (.I ny) ol λom=>aR nw 1 (.I nz) om λon=>aR nw 2 (.I n0) on λoo=>aR nw 3 (.I n1) oo λop=>aR nw 4 (.I n2) op λoq=>aR nw 5 (.I n3) oq λor=>aR nw 6 (.I n4) or λos=>aR nw 7 (.I n5) os λot=>aR nw 8 (.I n6) ot λou=>aR nw 9 (.I n7) ou λov=>And (bp ov) <| aR ll 0 (.I n9) ov λow=>aR ll 1 (.I oa) ow λox=>aR ll 2 (.I ob) ox λoy=>aR ll 3 (.I oc) oy λoz=>aR ll 4 (.I od) oz λo0=>aR ll 5 (.I oe) o0 λo1=>aR ll 6 (.I og) o1 λo2=>aR ll 7 (.I oh) o2 λo3=>aR ll 8 (.I oi) o3 λo4=>aR ll 9 (.I oj) o4 λo5=>aR ll 10 (.I ok) o5 λo6=>bo nw ll o6)))):Xq.c a b c d e f g h i:=Wa Tryz.func11 (x:=Xq.h) (R0 j)
end Go.Proofs
namespace Go.Ar
open Go Go.Vc Go.Proofs
open Go.Vc (bW dG cR)
variable {σ σ0 v w w':Hp}{l:Sl}{ds:List fG}{P:Rg}{L:dQ}{H:Hw}{held:List Pc}{s0:Sp}{mb am:Nat}{x:Me}
theorem M8 (hi:HI H held s0):0<=QD H.live/\QD H.live<=270000000000:=by
 have d:=UO (l:=H.live) (f:=λe:Int×Bk=>e.2.2.1) (c:=270000) λe a=>by have:=hi.jO a;omega
 have b:=hi.jE;unfold QD;omega
def mT (H:Hw):Int:=QD H.live+(Uq H:Nat)+(ZW QN H:Nat)+(ZW Qf H*256:Nat)
set_option maxRecDepth 16000 in
theorem PX (p:MP σ0 σ L H held s0 P mb am x)(h0:0<=x.sum)(h1:x.sum<=QD H.live){R:Int->Int->Hp->Prop}
 (hR:∀w,bO σ w->R (if x.sum=0 then 0 else 1000*(mT H-x.sum)/mT H) (if x.sum=0 then 4 else 0) w):YI.c (aW mb) σ R:=by
 refine YI.o ?_;refine Hs p (cG rfl (KC p λS U X=>nw (cs:=QT) λw4 V W Y=>N1 (z:=(0,0,0,0,0,0,0,0,0,0)) Y _ _ _ _ _ _ _ _ _ _ λw5 Z e=>?_));have u:bO S w5:=Ext.fresh W Z λi (hi:i=S.size)=>by omega
 have E:=U.trans u;obtain⟨A,y,C,j,F,B,s⟩:=X;have hg:=M8 p.hi;have m:Uq H=KF H+ZW Kd H+ZW Ue H:=rfl;have d:mT H=QD H.live+(Uq H:Nat)+(ZW QN H:Nat)+(ZW Qf H*256:Nat):=rfl;have b:=hR w5 E;simp only[v10]at e;refine e.rI rfl (e.rI rfl (ar O O (e.rI rfl (ar O O (e.rI rfl (ar O O (e.rI rfl ?_)))))));rw[←d];have G:x.sum<=mT H:=by omega
 have D:mT H<=1000000000000:=by omega
 generalize mT H=all at G D b ⊢;clear d m A y C j F B s;refine Ud (λr w=>w5=w/\r=decide (x.sum=0)) (λr w ⟨hw,M⟩=>?_) λJ K=>cU (λh=>K _ _ ⟨rfl,?_⟩) λh=>K _ _ ⟨rfl,?_⟩
 ·subst hw;refine cU (λN=>?_) λQ=>?_
  ·rw[M]at N;have g:=qs N;rw[zB g,zB g]at b;exact b
  ·rw[M]at Q;have g:=uG Q;rw[zA g,zA g]at b;have q1:0<=1000*(all-x.sum)/all:=AB O O;have q2:1000*(all-x.sum)/all<=1000*(all-x.sum):=Int.ediv_le_self _ O;have q3:=Int.tmod_nonneg (a:=1000*(all-x.sum)) all O;refine e.rI rfl (ar O O (ar O O (nz O (ar (by rw[Yb O];omega) (by rw[Yb O];omega) (nz O (cG (zg O) ?_))))));rw[Yb O];exact b
 ·have:x.sum=0:=by simpa using h
  rw[zT this]
 ·have:¬x.sum=0:=by simpa using h
  rw[zg this];simpa using(show ¬all=0 by omega)
theorem Wpe {a s:Nat}(e:bO σ v)(b6:bX v a QT)(b7:bX v s Qz)(h1:σ.size<=a)(h2:σ.size<=s)(h3:a≠s)(a0 a1 a2 a3 a4 a5 a6 a7 a8 a9 z0 z1 z2 z3 z4 z5 z6 z7 z8 z9 z10:Int){K:aP}
 (hK:∀w,bO σ w->bX w a (v10 (a0,a1,a2,a3,a4,a5,a6,a7,a8,a9))->bX w s ([z0,z1,z2,z3,z4,z5,z6,z7,z8,z9,z10].map (Value.int .i64))->K w) :
 cY (Addr.add ⟨a,0,none⟩ 0) (.int .i64 a0) v λu0=>cY (Addr.add ⟨a,0,none⟩ 1) (.int .i64 a1) u0 λu1=>cY (Addr.add ⟨a,0,none⟩ 2) (.int .i64 a2) u1 λu2=>cY (Addr.add ⟨a,0,none⟩ 3) (.int .i64 a3) u2 λu3=>cY (Addr.add ⟨a,0,none⟩ 4) (.int .i64 a4) u3 λu4=>cY (Addr.add ⟨a,0,none⟩ 5) (.int .i64 a5) u4 λu5=>cY (Addr.add ⟨a,0,none⟩ 6) (.int .i64 a6) u5 λu6=>cY (Addr.add ⟨a,0,none⟩ 7) (.int .i64 a7) u6 λu7=>cY (Addr.add ⟨a,0,none⟩ 8) (.int .i64 a8) u7 λu8=>cY (Addr.add ⟨a,0,none⟩ 9) (.int .i64 a9) u8 λu9=>And (bO σ u9)<|cY (Addr.add ⟨s,0,none⟩ 0) (.int .i64 z0) u9 λw0=>cY (Addr.add ⟨s,0,none⟩ 1) (.int .i64 z1) w0 λw1=>cY (Addr.add ⟨s,0,none⟩ 2) (.int .i64 z2) w1 λw2=>cY (Addr.add ⟨s,0,none⟩ 3) (.int .i64 z3) w2 λw3=>cY (Addr.add ⟨s,0,none⟩ 4) (.int .i64 z4) w3 λw4=>cY (Addr.add ⟨s,0,none⟩ 5) (.int .i64 z5) w4 λw5=>cY (Addr.add ⟨s,0,none⟩ 6) (.int .i64 z6) w5 λw6=>cY (Addr.add ⟨s,0,none⟩ 7) (.int .i64 z7) w6 λw7=>cY (Addr.add ⟨s,0,none⟩ 8) (.int .i64 z8) w7 λw8=>cY (Addr.add ⟨s,0,none⟩ 9) (.int .i64 z9) w8 λw9=>cY (Addr.add ⟨s,0,none⟩ 10) (.int .i64 z10) w9 K:=by
 refine N1 (z:=(0,0,0,0,0,0,0,0,0,0)) b6 _ _ _ _ _ _ _ _ _ _ λu g m=>?_;have j:bO σ u:=Ext.fresh e g λi (r:i=a)=>by omega
 refine⟨j,ve (g.bV b7 λ(b:s=a)=>h3 b.symm) _ _ _ _ _ _ _ _ _ _ _ λw d p=>hK w (Ext.fresh j d λi (r:i=s)=>O) (d.bV m λ(b:a=s)=>h3 b) p⟩
theorem PR {K:eT [.ad,.ad]}{body:eT [.ad,.ad]->Prop}(P:Addr->Addr->Hp->Prop)(h1:∀r s w,P r s w->K r s w)(h2:∀J:eT [.ad,.ad],(∀r s w,P r s w->J r s w)->body J):Jn [.ad,.ad] K body:=Jn.intro (h2 K h1)
set_option maxRecDepth 16000 in
theorem Wle (gl:Gl σ)(gc:Gc σ)(b b1 b2 b3 b4 b5:Int)(hd:jQ σ l ds){R:aO}(hR:∀σ',bO σ σ'->R true σ'):Xq.c b b1 b2 b3 b4 b5 l σ R:=by
 refine Xq.o ?_;refine nw (cs:=[.int .i64 b,.int .i64 b1,.int .i64 b2,.int .i64 b3,.int .i64 b4,.int .i64 b5]) λv G e S=>S.rI rfl (S.rI rfl (S.rI rfl (S.rI rfl (S.rI rfl (S.rI rfl ?_)))));refine WjW (gl.bK e) (gc.bK e) b b1 b2 b3 b4 b5 (hd.bK e) 60 aB (λQ g=>?_) λQ xb L H held s0 P mb am x Qa Qk addrs ad kns kn mo o hcl hpp hlen=>cG rfl ?_
 ·exact cJ rfl (IW (gl.bK (e.trans g)) (gc.bK (e.trans g)).gd λv2 d=>hR v2 ((e.trans g).trans d))
 have E:=e.trans o.f.p.e;refine PR (λa s w=>bO Q w/\(∃nb a5 a6 a7 a8 a9,a=⟨nb,0,none⟩/\bX w nb (v10 (x.sum,QD H.live,(Uq H:Nat),(ZW QN H:Nat),(ZW Qf H*256:Nat),a5,a6,a7,a8,a9)))/\∃sb z0 z1 z2 z3 z4 z5 z6 z7 W,s=⟨sb,0,none⟩/\bX w sb ([z0,z1,z2,z3,z4,z5,z6,z7,((ZW Qf H:Nat):Int),((Qy H.sp.st:Nat):Int),W].map (Value.int .i64))) (λa s w hP=>?_) λJ hJ=>?_
 ·obtain⟨ew,⟨nb,a5,a6,a7,a8,a9,rfl,hnb⟩,sb,z0,z1,z2,z3,z4,z5,z6,z7,W,rfl,hsb⟩:=hP;have ow:=o.fr ew;have V:=o.mi.jF;have hle:x.sum<=QD H.live:=by rw[o.sum];exact o.k.le
  refine aG (ow.f.b.rP rfl (PX ow.f.p V.1 hle λz d=>?_));have C:=d.bV hnb id;simp only[v10]at C;have c7:=d.bV hsb id;have E2:=(E.trans ew).trans d;have X:=Sw o.f.p.hi o.f.p.bP o.f.p.ph;have hg:=M8 o.f.p.hi;have hmp:Qy H.sp.st<=1024:=by
   have h1:Qy H.sp.st<=H.sp.st.length:=xS;have h2:=o.f.p.hi.sl;have h3:=o.f.p.pg;omega
  have M:mT H=QD H.live+(Uq H:Nat)+(ZW QN H:Nat)+(ZW Qf H*256:Nat):=rfl;have aa:∀q,bO z q->R true q:=λq eq=>hR q (E2.trans eq);have haw:∀{R':Bool->Hp->Prop},(∀q,bO z q->R' true q)->W5.c z R':=λ{R'} h=>IW (gl.bK E2) (gc.bK E2).gd h;refine C.rI rfl (C.rI rfl (ar O O (C.rI rfl (ar O O (C.rI rfl (ar O O (c7.rI rfl (ar O O ?_))))))));rw[←M];have hm:mT H=((Qy H.sp.st:Nat):Int)*256:=by omega
  have hb1:x.sum<=mT H:=by omega
  have hb2:mT H<=300000:=by omega
  have hfr:((ZW Qf H*256:Nat):Int)=((ZW Qf H:Nat):Int)*256:=by omega
  have hfb:((ZW Qf H:Nat):Int)*256<=300000:=by omega
  have hfb0:0<=((ZW Qf H:Nat):Int)*256:=by omega
  generalize mT H=all at hb1 hb2 hm ⊢;clear M X;refine Ud (λr w=>z=w/\r=false) (λr w ⟨Z,U⟩=>?_) λJ1 hJ1=>cG (by rw[hm];simp) (C.rI rfl (c7.rI rfl (ar O O (hJ1 _ _ ⟨rfl,by rw[hfr];simp⟩))));subst Z;subst U;refine Ud (λr w=>z=w/\r=false) (λr w ⟨Z,U⟩=>?_) λJ2 hJ2=>cG rfl (C.rI rfl (hJ2 _ _ ⟨rfl,?_⟩))
  ·subst Z;subst U;refine cG rfl (Ud (λr w=>z=w/\r=true) (λr w ⟨Z,U⟩=>?_) λJ3 Y=>?_)
   ·subst Z;subst U;exact bZ.intro (cJ rfl (haw aa))
   ·by_cases G:x.sum=0
    ·rw[zB G,zB G];exact cJ rfl (Y _ _ ⟨rfl,rfl⟩)
    ·rw[zA G,zA G];have d1:=Int.mul_ediv_add_emod (1000*(all-x.sum)) all;have d2:=Int.emod_nonneg (1000*(all-x.sum)) (b:=all) O;have d3:=Int.emod_lt_of_pos (1000*(all-x.sum)) (b:=all) O;have d4:0<=1000*(all-x.sum)/all:=AB O O;have d5:1000*(all-x.sum)/all<1000:=Int.ediv_lt_of_lt_mul O O;generalize 1000*(all-x.sum)/all=q at d1 d4 d5 ⊢;generalize 1000*(all-x.sum)%all=r at d1 d2 d3;have d6:q*all=all*q:=Int.mul_comm _ _;have d7:(q+1)*all=all*q+all:=by rw[Int.add_mul,Int.one_mul,d6]
     have d8:0<=all*q:=Int.mul_nonneg O d4;refine cG rfl (bZ.intro (cJ (zT d4) (bZ.intro (cJ (zT d5) (ar O O (C.rI rfl (ar O O (ar O O (bZ.intro (cJ (zT O) (C.rI rfl (ar O O (ar O O (ar O O (ar O O (Y _ _ ⟨rfl,zT O⟩))))))))))))))))
  ·by_cases G:x.sum=0
   ·rw[G];rfl
   ·have:(x.sum==0)=false:=by simpa using G
    rw[zA G,this];rfl
 ·have fin:=λ(u:Hp) (a s:Nat) (e:bO Q u) (b6:bX u a QT) (b7:bX u s Qz) (h1:Q.size<=a) (h2:Q.size<=s) (h3:a≠s)=>
   Wpe e b6 b7 h1 h2 h3 x.sum (QD H.live) (Uq H:Nat) (ZW QN H:Nat) (ZW Qf H*256:Nat) x.dM x.dL (x.cS:Nat) (x.fK:Nat) (x.iF:Nat)
    (U7 H.live) (KF H:Nat) 0 (ZW Kd H:Nat) (ZW Ue H:Nat) (ZW QN H:Nat) (ZW VD H*256:Nat) (ZW Vf H:Nat) (ZW Qf H:Nat) (Qy H.sp.st:Nat) (H.sp.st.count 2:Nat)
    (K:=λw=>J ⟨a,0,none⟩ ⟨s,0,none⟩ w) λw ew C c7=>hJ _ _ _ ⟨ew,⟨_,_,_,_,_,_,rfl,C⟩,_,_,_,_,_,_,_,_,_,_,rfl,c7⟩
  refine⟨λm=>bO Q m,Ext.refl _ _,aG (bX.rH (c:=.p) (y:=some ⟨mb,0,none⟩) o.f.b rfl (aG (bX.rH (c:=.p) (y:=some ⟨L.p,0,none⟩) o.f.b rfl ?_)))⟩;refine⟨KC (o.f.p.fr (Ext.refl _ _)) λw1 g _=>⟨g,?_,?_,?_⟩,nw (cs:=QT) λw1 hz1 g b1=>⟨g,KC (o.f.p.fr g) λz d _=>⟨g.trans d,?_,?_⟩,?_⟩,nw (cs:=Qz) λw1 hz1 g b1=>⟨g,KC (o.f.p.fr g) λz d _=>⟨g.trans d,?_,?_⟩,?_⟩⟩
  ·refine Qv (o.f.p.fr g).h o.f.p.hi o.f.p.bP λz d _=>⟨(g.trans d),?_,?_⟩
   ·exact nw (cs:=QT) λF B i b3=>⟨((g.trans d).trans i),nw (cs:=Qz) λD A j b4=>⟨(((g.trans d).trans i).trans j),fin _ _ _ (((g.trans d).trans i).trans j) (j.bV b3 id) b4 (by have:=g.1;have:=d.1;have:=i.1;have:=j.1;omega) (by have:=g.1;have:=d.1;have:=i.1;have:=j.1;omega) (by have:=g.1;have:=d.1;have:=i.1;have:=j.1;omega)⟩⟩
   ·exact nw (cs:=Qz) λF B i b3=>⟨((g.trans d).trans i),nw (cs:=QT) λD A j b4=>⟨(((g.trans d).trans i).trans j),fin _ _ _ (((g.trans d).trans i).trans j) b4 (j.bV b3 id) (by have:=g.1;have:=d.1;have:=i.1;have:=j.1;omega) (by have:=g.1;have:=d.1;have:=i.1;have:=j.1;omega) (by have:=g.1;have:=d.1;have:=i.1;have:=j.1;omega)⟩⟩
  ·refine nw (cs:=QT) λz N d b2=>⟨(g.trans d),?_,?_⟩
   ·exact Qv (o.f.p.fr (g.trans d)).h o.f.p.hi o.f.p.bP λF i _=>⟨((g.trans d).trans i),nw (cs:=Qz) λD A j b4=>⟨(((g.trans d).trans i).trans j),fin _ _ _ (((g.trans d).trans i).trans j) (j.bV (i.bV b2 id) id) b4 (by have:=g.1;have:=d.1;have:=i.1;have:=j.1;omega) (by have:=g.1;have:=d.1;have:=i.1;have:=j.1;omega) (by have:=g.1;have:=d.1;have:=i.1;have:=j.1;omega)⟩⟩
   ·exact nw (cs:=Qz) λF B i b3=>⟨((g.trans d).trans i),Qv (o.f.p.fr ((g.trans d).trans i)).h o.f.p.hi o.f.p.bP λD j _=>⟨(((g.trans d).trans i).trans j),fin _ _ _ (((g.trans d).trans i).trans j) (j.bV (i.bV b2 id) id) (j.bV b3 id) (by have:=g.1;have:=d.1;have:=i.1;have:=j.1;omega) (by have:=g.1;have:=d.1;have:=i.1;have:=j.1;omega) (by have:=g.1;have:=d.1;have:=i.1;have:=j.1;omega)⟩⟩
  ·refine nw (cs:=Qz) λz N d b2=>⟨(g.trans d),?_,?_⟩
   ·exact Qv (o.f.p.fr (g.trans d)).h o.f.p.hi o.f.p.bP λF i _=>⟨((g.trans d).trans i),nw (cs:=QT) λD A j b4=>⟨(((g.trans d).trans i).trans j),fin _ _ _ (((g.trans d).trans i).trans j) b4 (j.bV (i.bV b2 id) id) (by have:=g.1;have:=d.1;have:=i.1;have:=j.1;omega) (by have:=g.1;have:=d.1;have:=i.1;have:=j.1;omega) (by have:=g.1;have:=d.1;have:=i.1;have:=j.1;omega)⟩⟩
   ·exact nw (cs:=QT) λF B i b3=>⟨((g.trans d).trans i),Qv (o.f.p.fr ((g.trans d).trans i)).h o.f.p.hi o.f.p.bP λD j _=>⟨(((g.trans d).trans i).trans j),fin _ _ _ (((g.trans d).trans i).trans j) (j.bV b3 id) (j.bV (i.bV b2 id) id) (by have:=g.1;have:=d.1;have:=i.1;have:=j.1;omega) (by have:=g.1;have:=d.1;have:=i.1;have:=j.1;omega) (by have:=g.1;have:=d.1;have:=i.1;have:=j.1;omega)⟩⟩
  ·exact Qv (o.f.p.fr (g.trans d)).h o.f.p.hi o.f.p.bP λF i _=>⟨((g.trans d).trans i),nw (cs:=Qz) λD A j b4=>⟨(((g.trans d).trans i).trans j),fin _ _ _ (((g.trans d).trans i).trans j) (j.bV (i.bV (d.bV b1 id) id) id) b4 (by have:=g.1;have:=d.1;have:=i.1;have:=j.1;omega) (by have:=g.1;have:=d.1;have:=i.1;have:=j.1;omega) (by have:=g.1;have:=d.1;have:=i.1;have:=j.1;omega)⟩⟩
  ·exact nw (cs:=Qz) λF B i b3=>⟨((g.trans d).trans i),Qv (o.f.p.fr ((g.trans d).trans i)).h o.f.p.hi o.f.p.bP λD j _=>⟨(((g.trans d).trans i).trans j),fin _ _ _ (((g.trans d).trans i).trans j) (j.bV (i.bV (d.bV b1 id) id) id) (j.bV b3 id) (by have:=g.1;have:=d.1;have:=i.1;have:=j.1;omega) (by have:=g.1;have:=d.1;have:=i.1;have:=j.1;omega) (by have:=g.1;have:=d.1;have:=i.1;have:=j.1;omega)⟩⟩
  ·exact nw (cs:=Qz) λz N d b2=>⟨(g.trans d),KC (o.f.p.fr (g.trans d)) λF i _=>⟨((g.trans d).trans i),Qv (o.f.p.fr ((g.trans d).trans i)).h o.f.p.hi o.f.p.bP λD j _=>⟨(((g.trans d).trans i).trans j),fin _ _ _ (((g.trans d).trans i).trans j) (j.bV (i.bV (d.bV b1 id) id) id) (j.bV (i.bV b2 id) id) (by have:=g.1;have:=d.1;have:=i.1;have:=j.1;omega) (by have:=g.1;have:=d.1;have:=i.1;have:=j.1;omega) (by have:=g.1;have:=d.1;have:=i.1;have:=j.1;omega)⟩⟩⟩
  ·exact Qv (o.f.p.fr (g.trans d)).h o.f.p.hi o.f.p.bP λF i _=>⟨((g.trans d).trans i),nw (cs:=QT) λD A j b4=>⟨(((g.trans d).trans i).trans j),fin _ _ _ (((g.trans d).trans i).trans j) b4 (j.bV (i.bV (d.bV b1 id) id) id) (by have:=g.1;have:=d.1;have:=i.1;have:=j.1;omega) (by have:=g.1;have:=d.1;have:=i.1;have:=j.1;omega) (by have:=g.1;have:=d.1;have:=i.1;have:=j.1;omega)⟩⟩
  ·exact nw (cs:=QT) λF B i b3=>⟨((g.trans d).trans i),Qv (o.f.p.fr ((g.trans d).trans i)).h o.f.p.hi o.f.p.bP λD j _=>⟨(((g.trans d).trans i).trans j),fin _ _ _ (((g.trans d).trans i).trans j) (j.bV b3 id) (j.bV (i.bV (d.bV b1 id) id) id) (by have:=g.1;have:=d.1;have:=i.1;have:=j.1;omega) (by have:=g.1;have:=d.1;have:=i.1;have:=j.1;omega) (by have:=g.1;have:=d.1;have:=i.1;have:=j.1;omega)⟩⟩
  ·exact nw (cs:=QT) λz N d b2=>⟨(g.trans d),KC (o.f.p.fr (g.trans d)) λF i _=>⟨((g.trans d).trans i),Qv (o.f.p.fr ((g.trans d).trans i)).h o.f.p.hi o.f.p.bP λD j _=>⟨(((g.trans d).trans i).trans j),fin _ _ _ (((g.trans d).trans i).trans j) (j.bV (i.bV b2 id) id) (j.bV (i.bV (d.bV b1 id) id) id) (by have:=g.1;have:=d.1;have:=i.1;have:=j.1;omega) (by have:=g.1;have:=d.1;have:=i.1;have:=j.1;omega) (by have:=g.1;have:=d.1;have:=i.1;have:=j.1;omega)⟩⟩⟩
end Go.Ar
namespace Go.Ar
open Go Go.Vc Go.Proofs Go.ChangeShapes Go.WideShapes Go.RowKit Go.Deep
theorem GX {H:Type}{enc:TypeId×Value->H}{P:Program}{w:World}{base:Nat}{sp:Nat->Bool}{held:Bool}{fuel:Nat}{t:TypeId}{c:Value}{y:DataW H×List MemPlace}
 (ht:P.underlying t=some .bool) (h:DataW.trod enc P w base sp held fuel t [c]=some y):∃n,c=.bool n/\y=(.lit (.bool n),[]):=by
 cases fuel with
 | zero=>simp[DataW.trod]at h
 | succ fuel=>
  cases c<;>simp[DataW.trod,ht]at h
  rename_i n;exact⟨n,rfl,by simpa using h.symm⟩
theorem IP {P:Program}{w:World}{t:TypeId}{f0 f1:Field}{cs:Array Value}{fuel:Nat}{p:List MemPlace}{x y:Bool}(ht:P.underlying t=some (.struct #[f0,f1]))(hone:oneCellFields P #[f0,f1]=true)(hC:P.cellsOf t=2)
 (h0:P.underlying f0.type=some .bool) (h1:P.underlying f1.type=some .bool) (h:DataW.trod (λ_=>()) P w 0 (λ_=>true) false fuel t cs.toList=some (.agg [.lit (.bool x),.lit (.bool y)],p)):cs = #[.bool x,.bool y]:=by
 obtain⟨A,n,D,j,a,d,b⟩:=DataW.trod_struct ht h;obtain⟨l⟩:=cs;have e:l.length=2:=by rw[←hC];simpa using a
 match l,e with
 | [c0,c1],_=>
  have g:=b 0 f0 rfl;have i:=b 1 f1 rfl;obtain⟨s,r⟩:=hone_of hone 0 f0 rfl;obtain⟨o1,m⟩:=hone_of hone 1 f1 rfl;rw[s,r]at g;rw[o1,m]at i
  match A,d with
  | [y0,y1],_=>
   obtain⟨C,rfl,u⟩:=GX h0 (c:=c0) (y:=y0) (by simpa using g);obtain⟨B,rfl,z⟩:=GX h1 (c:=c1) (y:=y1) (by simpa using i);subst u;subst z;simp at j;obtain⟨⟨rfl,rfl⟩,_⟩:=j;rfl
theorem Gf {w:World}{a:Addr}{v:Value}(h:w.cell? a=some v):cell w.heap a=some v:=h
section
variable {H:Type}{enc:TypeId×Value->H}{P:Program}{w:World}
theorem Wo0 {x:Int}(h:(Lit.int .i64 x).wf=true):pa x:=by
 unfold pa;simp[Lit.wf,IntKind.min,IntKind.max,IntKind.bits,IntKind.signed]at h;omega
theorem R3 {t:TypeId}{f0 f1 f2 f3 f4 f5 f6 f7:Field}{fuel:Nat}{cs:List Value}{y:DataW H×List MemPlace}
 (ht:P.underlying t=some (.struct #[f0,f1,f2,f3,f4,f5,f6,f7])) (hone:oneCellFields P #[f0,f1,f2,f3,f4,f5,f6,f7]=true) (hC:P.cellsOf t=8)
 (h0:P.underlying f0.type=some (.int .i64)) (h1:P.underlying f1.type=some (.int .i64)) (h2:P.underlying f2.type=some (.int .i64)) (h3:P.underlying f3.type=some (.int .i64)) (h4:P.underlying f4.type=some (.int .i64)) (h5:P.underlying f5.type=some (.int .i64)) (h6:P.underlying f6.type=some (.int .i64)) (h7:P.underlying f7.type=some .string)
 (h:DataW.trod enc P w 0 (λ_=>true) true fuel t cs=some y):∃d:fG,cs=uC d/\nY d:=by
 obtain⟨A,n,W,V,b,p,r⟩:=DataW.trod_struct ht h;have m:cs.length=8:=by rw[←hC];exact b
 match cs,m with
 | [c0,c1,c2,c3,c4,c5,c6,c7],_=>
  have one:∀(j:Nat) (f:Field) (c:Value),(#[f0,f1,f2,f3,f4,f5,f6,f7]:Array Field)[j]?=some f->[c0,c1,c2,c3,c4,c5,c6,c7][j]?=some c->∃z,DataW.trod enc P w 0 (λ_=>true) true n f.type [c]=some z:=by
   intro j f c hj hc;obtain⟨E,B⟩:=hone_of hone j f hj;have h3:=r j f hj;rw[E,B]at h3;have e:=(cQ.1 hc).1;have R:([c0,c1,c2,c3,c4,c5,c6,c7].drop j).take 1=[c]:=by
    rw[ur e,vK,Cs,(cQ.1 hc).2]
   rw[R]at h3;have i:A[j]?=some (A[j]'(by rw[p];simp at e ⊢;omega)):=cM _;rw[i]at h3;exact⟨_,h3⟩
  have int:∀(j:Nat) (f:Field) (c:Value),(#[f0,f1,f2,f3,f4,f5,f6,f7]:Array Field)[j]?=some f->[c0,c1,c2,c3,c4,c5,c6,c7][j]?=some c->P.underlying f.type=some (.int .i64)->∃x:Int,c=.int .i64 x/\pa x:=by
   intro j f c hj hc hu;obtain⟨z,g⟩:=one j f c hj hc;obtain⟨x,a,_,Q⟩:=DataW.trod_int hu g;simp only[List.cons.injEq,and_true]at a;exact⟨x,a,Wo0 Q⟩
  obtain⟨G,rfl,_⟩:=int 0 f0 c0 rfl rfl h0;obtain⟨C,rfl,_⟩:=int 1 f1 c1 rfl rfl h1;obtain⟨F,rfl,J⟩:=int 2 f2 c2 rfl rfl h2;obtain⟨K,rfl,N⟩:=int 3 f3 c3 rfl rfl h3;obtain⟨S,rfl,_⟩:=int 4 f4 c4 rfl rfl h4;obtain⟨D,rfl,U⟩:=int 5 f5 c5 rfl rfl h5;obtain⟨L,rfl,M⟩:=int 6 f6 c6 rfl rfl h6;obtain⟨z,g⟩:=one 7 f7 c7 rfl rfl;obtain⟨s,u,_⟩:=DataW.trod_string h7 g;simp only[List.cons.injEq,and_true]at u;subst u;exact⟨⟨G,C,F,K,S,D,L,s⟩,rfl,J,N,U,M⟩
theorem Tc {t e:TypeId}{f0 f1 f2 f3 f4 f5 f6 f7:Field}{a:Option Addr}{len cap:Nat}{d:DataW H}{ps:List MemPlace}
 (htl:P.underlying t=some (.slice e)) (ht:P.underlying e=some (.struct #[f0,f1,f2,f3,f4,f5,f6,f7])) (hone:oneCellFields P #[f0,f1,f2,f3,f4,f5,f6,f7]=true) (hC:P.cellsOf e=8)
 (h0:P.underlying f0.type=some (.int .i64)) (h1:P.underlying f1.type=some (.int .i64)) (h2:P.underlying f2.type=some (.int .i64)) (h3:P.underlying f3.type=some (.int .i64)) (h4:P.underlying f4.type=some (.int .i64)) (h5:P.underlying f5.type=some (.int .i64)) (h6:P.underlying f6.type=some (.int .i64)) (h7:P.underlying f7.type=some .string)
 (h:DataW.Trod enc P w 0 (λ_=>true) true t (.slice a len cap) d ps):∃ds,jQ w.heap ⟨a,len,cap⟩ ds:=by
 obtain⟨Q,S⟩:=h;rcases open_slice htl S with⟨r,_⟩|⟨ad,len',cap',m,n,D,Pl,r,_,hl,hm,hmm,z,y⟩
 ·simp[Value.cells]at r;obtain⟨rfl,rfl,rfl⟩:=r;exact⟨[],rfl,λi x z=>by simp at z,by simp,by simp⟩
 ·simp[Value.cells]at r;obtain⟨rfl,rfl,rfl⟩:=r;have W:m=cap:=by simpa using hmm
  have key:∀i,i<len->∃u:fG,(∀j v,(uC u)[j]?=some v->cell w.heap ((ad.add (i*8)).add j)=some v)/\nY u:=by
   intro i p;obtain⟨R,C,M⟩:=y i O;rw[hC]at C;obtain⟨x,r,J⟩:=R3 ht hone hC h0 h1 h2 h3 h4 h5 h6 h7 M;obtain⟨_,V,K⟩:=World.cells?_some C;refine⟨x,λj v E=>?_,J⟩;have U:=(cQ.1 E).1;have:=K j (by simpa[uC]using U);rw[r]at this;rw[E]at this;exact this
  let g:Nat->fG:=λi=>if y:i<len then(key i y).choose else⟨0,0,0,0,0,0,0,ByteArray.empty⟩
  have N:∀i,(y:i<len)->g i=(key i y).choose:=λi y=>by simp only[g,y,dif_pos]
  refine⟨(List.range len).map g,by simp,λi x z=>?_,λx z=>?_,?_⟩
  ·have p:i<len:=by
    have:=(cQ.1 z).1;simpa using this
   have B:g i=x:=by simpa[p]using z
   rw[N i p]at B;have F:=(key i p).choose_spec;rw[B]at F;obtain⟨C,_⟩:=F;have L:=(key 0 O).choose_spec.1;have G:=L 0 _ rfl;have A:=NJ G;simp only[yL,Addr.add_zero']at A;obtain⟨b,o,s⟩:=ad;have F:s=none:=A.2;subst F;refine⟨b,o,rfl,A.1,λj v E=>?_⟩;have:=C j v E;rw[add_lit,add_lit]at this;exact this
  ·obtain⟨i,y,rfl⟩:=zC.1 z;have p:=zQ.1 y;rw[N i p];exact(key i p).choose_spec.2
  ·have:maxLen=9223372036854775807:=rfl;simp;omega
theorem WgX {b0:Nat}{t:TypeId}{f0 f1 g0 g1 g2 g3 g4:Field}{v:Value}{d:DataW H}{ps:List MemPlace}
 (ht:P.underlying t=some (.struct #[f0,f1])) (hC:P.cellsOf t=6) (ho:f0.offset=0/\P.cellsOf f0.type=1/\f1.offset=1/\P.cellsOf f1.type=5)
 (h0:P.underlying f0.type=some (.int .i64)) (h1:P.underlying f1.type=some (.struct #[g0,g1,g2,g3,g4])) (hone:oneCellFields P #[g0,g1,g2,g3,g4]=true)
 (k0:P.underlying g0.type=some (.int .i64)) (k1:P.underlying g1.type=some (.int .i64)) (k2:P.underlying g2.type=some (.int .i64)) (k3:P.underlying g3.type=some (.int .i64)) (k4:P.underlying g4.type=some (.int .i64))
 (hval:Value.okWide P w .any b0 t v) (h:DataW.Trod enc P w 0 (λ_=>true) true t v d ps):∃(x0 x1 x2 x3 x4 x5:Int),v=.agg #[.int .i64 x0,.int .i64 x1,.int .i64 x2,.int .i64 x3,.int .i64 x4,.int .i64 x5]:=by
 unfold Value.okWide at hval;rw[ht]at hval;obtain⟨M,rfl,u,_⟩:=hval;obtain⟨b,B⟩:=h;obtain⟨l⟩:=M;have E:l.length=6:=by rw[←hC];simpa using u
 obtain⟨y,p,m,C⟩:=ho
 match l,E with
 | [c0,c1,c2,c3,c4,c5],_=>
  have B:DataW.trod enc P w 0 (λ_=>true) true b t [c0,c1,c2,c3,c4,c5]=some (d,ps):=B;obtain⟨y0,y1,n,_,_,F,J⟩:=trod_struct2 ht B;rw[y,p]at F;rw[m,C]at J;have s:DataW.trod enc P w 0 (λ_=>true) true n f0.type [c0]=some y0:=F;have D:DataW.trod enc P w 0 (λ_=>true) true n f1.type [c1,c2,c3,c4,c5]=some y1:=J;obtain⟨x0,a,_,_⟩:=DataW.trod_int h0 s;simp only[List.cons.injEq,and_true]at a;subst a;obtain⟨G,n,R,Q,K,A,r⟩:=DataW.trod_struct h1 D;have int:∀(j:Nat) (f:Field) (c:Value),(#[g0,g1,g2,g3,g4]:Array Field)[j]?=some f->[c1,c2,c3,c4,c5][j]?=some c->P.underlying f.type=some (.int .i64)->∃x:Int,c=.int .i64 x:=by
   intro j f c hj hc hu;obtain⟨ho,L⟩:=hone_of hone j f hj;have g:=r j f hj;rw[ho,L]at g;have e:=(cQ.1 hc).1;have N:([c1,c2,c3,c4,c5].drop j).take 1=[c]:=by
    rw[ur e,vK,Cs,(cQ.1 hc).2]
   rw[N]at g;have i:G[j]?=some (G[j]'(by rw[A];simp at e ⊢;omega)):=cM _;rw[i]at g;obtain⟨x,z,_,_⟩:=DataW.trod_int hu g;exact⟨x,by simpa using z⟩
  obtain⟨x1,rfl⟩:=int 0 g0 c1 rfl rfl k0;obtain⟨x2,rfl⟩:=int 1 g1 c2 rfl rfl k1;obtain⟨x3,rfl⟩:=int 2 g2 c3 rfl rfl k2;obtain⟨x4,rfl⟩:=int 3 g3 c4 rfl rfl k3;obtain⟨x5,rfl⟩:=int 4 g4 c5 rfl rfl k4;exact⟨x0,x1,x2,x3,x4,x5,rfl⟩
end
end Go.Ar