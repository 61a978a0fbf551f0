/- Texts joined. -/
import Derived.Test.YtaikomcgmhaekaaGreatDoorM5
set_option linter.unusedVariables false
set_option linter.unusedSimpArgs false
namespace Go.Ar
open Go Go.Vc Go.Proofs
variable {U u u':Hp}{F B P:Rg}{L:dS}{H H':Hw}{t k n:Nat}{A:AR}{Y:Lay}{x:dQ}{g:Th}{c:cD}{l:Li}{cs:List Value}
structure HK (F:Rg) (U:Hp) (B:Rg) (u:Hp) (P:Rg) (L:dS) (H:Hw):Prop where
 h:HH u P L H
 e:Ext F U u
 p:∀b,P b->(F b/\b<U.size\/U.size<=b)/\¬B b/\b<u.size
 b:∀b,B b->U.size<=b/\b<u.size
 o:jk (λb=>U.size<=b)/\¬U.size<=1
theorem HK.start (h:HH U F L H):HK F U (λ_=>False) U (Cut F U) L H:=⟨h.cut,Ext.refl _ _,λb a=>⟨.inl ⟨a.1,a.2⟩,id,a.2⟩,λb a=>a.elim,h.mf⟩
theorem HK.box (K:HK F U B u P L H)(e:aG u u')(hz:u'.size=u.size+1):HK F U (λb=>B b\/b=u.size) u' P L H:=
 ⟨K.h.aF e,K.e.trans (aG.to e),λb a=>⟨(K.p b a).1,λd=>d.elim (K.p b a).2.1 λg=>by have:=(K.p b a).2.2;omega,by have:=(K.p b a).2.2;omega⟩,λb a=>by
  have:=K.e.1;rcases a with a|a
  ·have:=K.b b a;omega
  ·omega,K.o⟩
theorem HK.fr (K:HK F U B u P L H)(e:aG u u'):HK F U B u' P L H:=
 ⟨K.h.aF e,K.e.trans (aG.to e),λb a=>⟨(K.p b a).1,(K.p b a).2.1,by have:=(K.p b a).2.2;have:=e.1;omega⟩,λb a=>by have:=K.b b a;have:=e.1;omega,K.o⟩
theorem HK.own (K:HK F U B u P L H)(o:QT u u' n)(hn:B n):HK F U B u' P L H:=by
 have s:=K.b n hn;have r:=o.1;have e:Ext (· = n) u u':=o.ext;have g:∀b,b<u.size->P b->¬(b=n):=λb _ a i=>(K.p b a).2.1 (i▸hn);have d:jk (λb=>b=n)/\¬(1=n):=⟨K.o.1.sub λb m=>O,λm=>K.o.2 O⟩;exact⟨K.h.bV e g d.1 d.2,K.e.eY e λb (j:b=n)=>.inr O,λb a=>⟨(K.p b a).1,(K.p b a).2.1,by have:=(K.p b a).2.2;omega⟩,λb a=>by have:=K.b b a;omega,K.o⟩
theorem HK.cX (K:HK F U B u P L H)(e:Ext P u u')(hb:bY u n cs)(hn:B n):bY u' n cs:=e.bX hb λhp=>(K.p n hp).2.1 hn
theorem HK.sS (K:HK F U B u P L H){Q:Rg}{L':dS}(e:Ext P u u')(h:HH u' Q L' H')(hq:∀b,b<u'.size->Q b->P b\/u.size<=b\/(F b/\b<U.size\/U.size<=b)/\¬B b):HK F U B u' (Cut Q u') L' H':=by
 have g:=e.1;have i:=K.e.1;refine⟨h.cut,K.e.eY e λb a=>(K.p b a).1.imp (λh=>h.1) id,λb a=>⟨?_,λd=>?_,a.2⟩,λb a=>by have:=K.b b a;omega,K.o⟩
 ·rcases hq b a.2 a.1 with h1|h1|h1
  ·exact(K.p b h1).1
  ·exact .inr O
  ·exact h1.1
 ·rcases hq b a.2 a.1 with h1|h1|h1
  ·exact(K.p b h1).2.1 d
  ·have:=K.b b d;omega
  ·exact h1.2 d
theorem HK.to (K:HK F U B u P L H){Q:Rg}{L':dS}(e:Ext P u u')(h:HH u' Q L' H')(hq:∀b,b<u'.size->Q b->P b\/u.size<=b):HK F U B u' (Cut Q u') L' H':=K.sS e h λb a d=>(hq b a d).imp id .inl
theorem HK.fin (K:HK F U B u P L H){L0:dS}{H0:Hw}(h0:HH U F L0 H0):HH u (Grow F U) L H:=h0.grown K.h λb _ a=>(K.p b a).1.imp (λh=>h.1) id
def Fr (A' A:AR):Prop:=A'.tb=A.tb/\A'.room=A.room/\A'.cF=A.cF
theorem Fr.cA {A' A:AR}(h:Fr A' A)(Y:Lay):Go.Ar.cA A' Y=Go.Ar.cA A Y:=by
 funext k;unfold Go.Ar.cA;rw[h.1,h.2.1,h.2.2]
theorem FK (A:AR)(k m:Int):Fr (YU A k m) A:=by
 unfold YU;split<;>exact⟨rfl,rfl,rfl⟩
theorem Iy (A:AR)(k:Int)(xs:List Int):Fr (Zh A k xs) A:=⟨(V0 A k xs).1,(V0 A k xs).2.1,(V0 A k xs).2.2.1⟩
theorem ES (A:AR)(sp:Sp)(m a no:Nat):Fr (dC A sp m a no).2.1 A:=⟨(Cn A sp m a no).1,(Cn A sp m a no).2.2.2.1,(Cn A sp m a no).2.2.1⟩
theorem EP (A:AR)(x:Int):Fr (Q5 A x) A:=by
 unfold Q5;split<;>exact⟨rfl,rfl,rfl⟩
theorem Jm (A:AR)(sp:Sp)(k:Int):Fr (cR A sp k).1 A:=by
 unfold cR;split
 ·split
  ·rename_i c ss h1 h2;have h:=ES A sp c.bK 1 (k.toNat+1);generalize dC A sp c.bK 1 (k.toNat+1)=r at h;obtain⟨o,A',a⟩:=r;cases o with
   | none=>exact h
   | some x=>
    simp only;split<;>exact h
  ·exact⟨rfl,rfl,rfl⟩
 ·exact⟨rfl,rfl,rfl⟩
theorem Jq (A:AR)(sp:Sp)(m a:Int):Fr (cE A sp m a).1 A:=by
 unfold cE;split
 ·have h:=ES A sp m.toNat a.toNat 41;generalize dC A sp m.toNat a.toNat 41=r at h;obtain⟨o,A',b⟩:=r;cases o<;>exact h
 ·exact⟨rfl,rfl,rfl⟩
theorem M9 (A:AR)(k:Int):(ZV A k).tb=A.tb:=by unfold ZV;split<;>rfl
theorem Nb (A:AR)(k:Int)(xs:List Int):(KC A k xs).tb=A.tb:=by unfold KC;split<;>rfl
theorem HH.nc (h:HH U F L H)(hk:H.bT[k]?=some A)(hy:L.ys[k]?=some Y):∃G:Rg,(∀b,G b->F b)/\dA U G Y A (cA A Y)/\∀(σ':Hp) (A':AR) (Q:Rg),A'.tb=A.tb->Ext G U σ'->(∀b,Q b->G b\/U.size<=b)->dA σ' (λb=>Grow G U b/\¬Q b) Y A' (cA A' Y) →
 Ext F U σ'/\HH σ' (λb=>Grow F U b/\¬Q b) L (H.cG k A'):=by
 obtain⟨Y',G,d,_,j,u,g⟩:=h.xe hk;rw[hy]at d;cases d;refine⟨G,j,u,λσ' A' Q i e s p=>?_⟩;obtain⟨e1,r⟩:=g σ' A' _ i e (λb a=>a.1) p;refine⟨e1,r.mono (λb _ a=>?_) (h.oG.sub λb a=>a.1) λa=>h.qB a.1⟩;rcases a with a|a
 ·exact⟨.inl a.1,λm=>by
   rcases s b m with h2|h2
   ·exact a.2.2 h2
   ·have:=a.2.1;omega⟩
 ·exact⟨a.1.imp (j b) id,a.2⟩
theorem dA.xk {T:Nat->Hp->Rg->Prop}{G Q:Rg}(h:dA U G Y A T)(hq:∀b,¬Q b):dA U (λb=>G b/\¬Q b) Y A T:=h.mono λb _ a=>⟨a,hq b⟩
theorem HH.lL (h:HH U F L H)(hk:H.bT[k]?=some A)(hy:L.ys[k]?=some Y):∃G:Rg,(∀b,G b->F b)/\dA U G Y A (cA A Y)/\∀(σ':Hp) (A':AR),A'.tb=A.tb->Ext G U σ'->dA σ' (Grow G U) Y A' (cA A' Y) →
 Ext F U σ'/\HH σ' (Grow F U) L (H.cG k A'):=by
 obtain⟨G,i,p,a⟩:=h.nc hk hy;refine⟨G,i,p,λσ' A' g e j=>?_⟩;obtain⟨e1,m⟩:=a σ' A' (λ_=>False) g e (λb d=>d.elim) (j.xk λ_=>id);exact⟨e1,m.mono (λb _ d=>d.1) h.oG h.qB⟩
theorem MZ (h:HH U F L H)(hk:H.bT[k]?=some A)(hy:L.ys[k]?=some Y)(c:Int){R:Sl->Int->Hp->Prop}
 (hR:∀s σ' (Q:Rg),Ext F U σ'->(∀b,Q b->F b)->cS s 1 (Wu (YQ A c)) σ' Q->s.len<=s.cap->HH σ' (λb=>Grow F U b/\¬Q b) L (H.cG k (ZV A c))->R s (Qq A c) σ') :
 WD.c (aW Y.p) c U R:=by
 obtain⟨G,j,w,g⟩:=h.nc hk hy;refine Ps w c λs σ' e i m d r=>?_;obtain⟨e1,u⟩:=g σ' (ZV A c) (lg s) (M9 A c) e (λb a=>.inl (i b a)) (r.mono λb _ a=>⟨.inl a.1,a.2⟩);exact hR s σ' (lg s) e1 (λb a=>j b (i b a)) m d u
theorem TI (h:HH U F L H)(hk:H.bT[k]?=some A)(hy:L.ys[k]?=some Y)(c m:Int){R:Sl->Int->Hp->Prop}
 (hR:∀s σ' (Q:Rg),Ext F U σ'->(∀b,Q b->U.size<=b)->bR s 1 (ints (Yy A c m)) σ' Q->HH σ' (λb=>Grow F U b/\¬Q b) L (H.cG k (YU A c m))->R s (Q3 A c m) σ') :
 WF.c (aW Y.p) c m U R:=by
 obtain⟨G,w,u,d⟩:=h.nc hk hy;refine N2 u c m λs σ' e i j=>?_;have g:cA (YU A c m) Y=cA A Y:=(FK A c m).cA Y;obtain⟨e1,r⟩:=d σ' (YU A c m) (λb=>U.size<=b) (FK A c m).1 e (λb a=>.inr a) (by rw[g];exact j.mono λb _ a=>⟨.inl a.1,by have:=a.2;omega⟩);exact hR s σ' _ e1 (λb a=>a) i r
theorem SD (h:HH U F L H)(hk:H.bT[k]?=some A)(hy:L.ys[k]?=some Y)(c:Int){sl:Sl}{xs:List Int}{X:Rg}(hs:cS sl 1 (Wu xs) U X)(hi:∀x∈xs,iz x){R:Bool->Int->Hp->Prop}
 (hR:∀σ',Ext F U σ'->HH σ' (Grow F U) L (H.cG k (KC A c xs))->R (VM A c xs) (Gs A c xs) σ'):WK.c (aW Y.p) c sl U R:=by
 obtain⟨G,i,g,a⟩:=h.lL hk hy;refine Se g c hs hi λσ' e b=>?_;obtain⟨e1,d⟩:=a σ' _ (Nb A c xs) e b;exact hR σ' e1 d
theorem RR (h:HH U F L H)(hk:H.bT[k]?=some A)(hy:L.ys[k]?=some Y)(c:Int){sl:Sl}{xs:List Int}{X:Rg}(hs:cS sl 1 (Wu xs) U X)(hX:∀b,b<U.size->X b->¬F b)(hi:∀x∈xs,iz x)(hl:xs.length<=1000000)(hcap:sl.len<=sl.cap){R:aN}
 (hR:∀σ',Ext F U σ'->HH σ' (Grow F U) L (H.cG k (Zh A c xs))->R (Km A c xs) σ'):WC.c (aW Y.p) c sl U R:=by
 obtain⟨G,i,r,a⟩:=h.lL hk hy;refine EU r c hi hl hcap (.inl ⟨X,hs,λb s u g=>hX b s u (i b g)⟩) λσ' e j=>?_;have d:cA (Zh A c xs) Y=cA A Y:=(Iy A c xs).cA Y;obtain⟨e1,m⟩:=a σ' _ (Iy A c xs).1 e (by rw[d];exact j);exact hR σ' e1 m
theorem Mj (h:HH U F L H)(hk:H.bT[k]?=some A)(hy:L.ys[k]?=some Y)(x:Int)(hf:∀r∈A.runs,r.1<=1000000){R:aN}
 (hR:∀σ',Ext F U σ'->HH σ' (Grow F U) L (H.cG k (Q5 A x))->R (Vy A x) σ'):WV.c (aW Y.p) x U R:=by
 obtain⟨G,j,i,a⟩:=h.lL hk hy;refine PB i x hf λσ' e d=>?_;have b:cA (Q5 A x) Y=cA A Y:=(EP A x).cA Y;obtain⟨e1,g⟩:=a σ' _ (EP A x).1 e (by rw[b];exact d);exact hR σ' e1 g
theorem Pe (h:HH U F L H)(hk:H.bT[k]?=some A)(hy:L.ys[k]?=some Y)(c:Int){R:aN}
 (hR:∀σ',Ext F U σ'->HH σ' (Grow F U) L {H.cG k (cR A H.sp c).1 with sp:=(cR A H.sp c).2}->R (Vr A H.sp c) σ'):Yl.c (aW Y.p) c U R:=by
 obtain⟨Y',G,D,a,_,m,b⟩:=h.lQ hk;rw[hy]at a;cases a;refine R8 m c λσ' G' D' g e i=>?_;have d:cA (cR A H.sp c).1 Y=cA A Y:=(Jm A H.sp c).cA Y;obtain⟨e1,j⟩:=b σ' _ _ G' D' (Jm A H.sp c).1 e g (by rw[d];exact i);exact hR σ' e1 j
theorem Oy (h:HH U F L H)(hk:H.bT[k]?=some A)(hy:L.ys[k]?=some Y)(m a:Int){R:Int->Int->Hp->Prop}
 (hR:∀σ',Ext F U σ'->HH σ' (Grow F U) L {H.cG k (cE A H.sp m a).1 with sp:=(cE A H.sp m a).2}->R ((Qo A H.sp m a:Nat):Int) (QS A H.sp m a) σ'):WW.c (aW Y.p) m a U R:=by
 obtain⟨Y',G,D,b,_,s,d⟩:=h.lQ hk;rw[hy]at b;cases b;refine Mz s m a λσ' G' D' i e j=>?_;have g:cA (cE A H.sp m a).1 Y=cA A Y:=(Jq A H.sp m a).cA Y;obtain⟨e1,r⟩:=d σ' _ _ G' D' (Jq A H.sp m a).1 e i (by rw[g];exact j);exact hR σ' e1 r
def Hw.dZ (H:Hw)(t:Nat)(g:Th)(ls:List Li):Hw:={H with bQ:=H.bQ.set t {g with ls:=ls}}
theorem HH.lE (h:HH U F L H)(hx:L.ts[t]?=some x)(hg:H.bQ[t]?=some g):∃G:Rg,(∀b,G b->F b)/\dY U G x.c H.tb H.cf.cT g.ls/\∀(σ':Hp) (ls:List Li) (Y':gQ) (Q:Rg),Y'.p=x.c.p->Ext G U σ'->(∀b,Q b->U.size<=b)->dY σ' (λb=>Grow G U b/\¬Q b) Y' H.tb H.cf.cT ls →
 Ext F U σ'/\HH σ' (λb=>Grow F U b/\¬Q b) {L with ts:=L.ts.set t {x with c:=Y'}} (H.dZ t g ls):=by
 obtain⟨G,i,m,d⟩:=h.qa hx hg;refine⟨G,i,m,λσ' ls Y' Q hp e u r=>?_⟩;obtain⟨e1,s⟩:=d σ' ls Y' _ hp e (λb a=>a.1) r;refine⟨e1,s.mono (λb _ a=>?_) (h.oG.sub λb a=>a.1) λa=>h.qB a.1⟩;rcases a with a|a
 ·exact⟨.inl a.1,λj=>by have:=a.2.1;have:=u b j;omega⟩
 ·exact⟨a.1.imp (i b) id,a.2⟩
theorem HH.lM (h:HH U F L H)(hx:L.ts[t]?=some x)(hg:H.bQ[t]?=some g):∃G:Rg,(∀b,G b->F b)/\dY U G x.c H.tb H.cf.cT g.ls/\∀(σ':Hp) (ls:List Li) (Y':gQ),Y'.p=x.c.p->Ext G U σ'->dY σ' (Grow G U) Y' H.tb H.cf.cT ls →
 Ext F U σ'/\HH σ' (Grow F U) {L with ts:=L.ts.set t {x with c:=Y'}} (H.dZ t g ls):=by
 obtain⟨G,i,j,a⟩:=h.lE hx hg;refine⟨G,i,j,λσ' ls Y' hp e m=>?_⟩;obtain⟨e1,r⟩:=a σ' ls Y' (λ_=>False) hp e (λb d=>d.elim) (m.mono λb _ d=>⟨d,id⟩);exact⟨e1,r.mono (λb _ d=>d.1) h.oG h.qB⟩
theorem PY (h:HH U F L H)(hx:L.ts[t]?=some x)(hg:H.bQ[t]?=some g)(hc:H.tb[k]?=some c)(hl:g.ls[k]?=some l){R:Int->Int->Hp->Prop}
 (hR:∀σ' ts',Ext F U σ'->HH σ' (Grow F U) {L with ts:=ts'} (H.dZ t g (g.ls.set k (KJ c l).2))->R ((KJ c l).1.getD 0) (if(KJ c l).1.isSome then 0 else 4) σ'):Ys.c (aW x.c.p) (k:Int) U R:=by
 obtain⟨G,j,i,a⟩:=h.lM hx hg;refine lD i hc hl λσ' Y' e hp b=>?_;obtain⟨e1,d⟩:=a σ' _ Y' hp e b;exact hR σ' _ e1 d
theorem MF (h:HH U F L H)(hx:L.ts[t]?=some x)(hg:H.bQ[t]?=some g)(hc:H.tb[k]?=some c)(hl:g.ls[k]?=some l){R:Int->Int->Hp->Prop}
 (hR:∀σ' ts',Ext F U σ'->HH σ' (Grow F U) {L with ts:=ts'} H->R ((qd c l:Nat):Int) 0 σ'):Yp.c (aW x.c.p) (k:Int) U R:=by
 obtain⟨G,j,i,a⟩:=h.lM hx hg;refine TZ i hc hl λσ' Y' e hp d=>?_;obtain⟨e1,b⟩:=a σ' _ Y' hp e d;have e2:H.dZ t g g.ls=H:=by
  unfold Hw.dZ;rw[QG hg]
 rw[e2]at b;exact hR σ' _ e1 b
theorem N3 (h:HH U F L H)(hx:L.ts[t]?=some x)(hg:H.bQ[t]?=some g)(hc:H.tb[k]?=some c)(hl:g.ls[k]?=some l){sl:Sl}{xs:List Int}{X:Rg}(hs:cS sl 1 (Wu xs) U X)(hX:∀q,X q->¬F q)(hfit:l.os.length+xs.length<=256){R:aN}
 (hR:∀σ' ts',Ext F U σ'->HH σ' (Grow F U) {L with ts:=ts'} (H.dZ t g (g.ls.set k (eM xs.reverse l)))->R 0 σ'):Yh.c (aW x.c.p) (k:Int) sl U R:=by
 obtain⟨G,b,m,a⟩:=h.lM hx hg;refine PO m hc hl hs (λq d hg=>hX q d (b q hg)) hfit λσ' Y' e hp i=>?_;obtain⟨e1,j⟩:=a σ' _ Y' hp e i;exact hR σ' _ e1 j
theorem L3 (h:HH U F L H)(hx:L.ts[t]?=some x)(hg:H.bQ[t]?=some g)(hc:H.tb[k]?=some c)(hl:g.ls[k]?=some l)(y:Int){R:Sl->Int->Hp->Prop}
 (hR:∀σ' ts' s e (Q:Rg),Ext F U σ'->(∀q,Q q->U.size<=q)->bR s 1 (Wu (dM c y l).1) σ' Q->HH σ' (λb=>Grow F U b/\¬Q b) {L with ts:=ts'} (H.dZ t g (g.ls.set k (dM c y l).2))->R s e σ'):YV.c (aW x.c.p) (k:Int) y U R:=by
 obtain⟨G,w,u,a⟩:=h.lE hx hg;refine S3 u hc hl y λσ' Y' s i Q e hp _ d j m=>?_;obtain⟨e1,r⟩:=a σ' _ Y' Q hp e d m;exact hR σ' _ s i Q e1 d j r
theorem SQ (h:HH U F L H)(hx:L.ts[t]?=some x)(hg:H.bQ[t]?=some g){R:aO}(hR:∀σ',aG U σ'->R (decide (H.cf.cT<KA H.tb g.ls)) σ'):Yt.c (aW x.c.p) U R:=by
 obtain⟨G,d,b,a⟩:=h.lM hx hg;exact RK b hR
theorem RL (hso:HQ)(h:HH U F L H)(hx:L.ts[t]?=some x)(hg:H.bQ[t]?=some g){R:Sl->Hp->Prop}
 (hR:∀σ' s (Q:Rg),Ext F U σ'->(∀q,Q q->U.size<=q)->gC s (KI Z6 H.tb g.ls) σ' Q->HH σ' (λb=>Grow F U b/\¬Q b) L (H.dZ t g (KE Z6 H.tb g.ls))->R s σ'):XO.c (aW x.c.p) U R:=by
 obtain⟨G,u,r,a⟩:=h.lE hx hg;refine PI hso r λσ' s Q e i m j=>?_;obtain⟨e1,d⟩:=a σ' _ x.c Q rfl e i m;rw[show L.ts.set t {x with c:=x.c}=L.ts from QG hx]at d;exact hR σ' s Q e1 i j d
theorem MY (hso:HQ)(h:HH U F L H)(hx:L.ts[t]?=some x)(hg:H.bQ[t]?=some g){R:Sl->Hp->Prop}
 (hR:∀σ' s (Q:Rg),Ext F U σ'->(∀q,Q q->U.size<=q)->gC s (KI Vp H.tb g.ls) σ' Q->HH σ' (λb=>Grow F U b/\¬Q b) L (H.dZ t g (KE Vp H.tb g.ls))->R s σ'):Xb.c (aW x.c.p) U R:=by
 obtain⟨G,u,r,a⟩:=h.lE hx hg;refine Sf hso r λσ' s Q e i m j=>?_;obtain⟨e1,d⟩:=a σ' _ x.c Q rfl e i m;rw[show L.ts.set t {x with c:=x.c}=L.ts from QG hx]at d;exact hR σ' s Q e1 i j d
def nJ (S:aP)(L:dS)(tb:List cD):Prop:=∀m,S m->∃(P:Rg) (ts:List dQ) (H:Hw),HH m P {L with ts:=ts} H/\H.tb=tb
theorem nJ.cH {S:aP}{tb:List cD}(hS:nJ S L tb){K:Sl->Prop}(hK:K L.cH):fR S .s (Addr.add ⟨L.p,0,none⟩ 0) K:=⟨L.cH,λm a=>by obtain⟨_,_,_,h,_⟩:=hS m a;rw[add_lit,h.hd.cell];rfl,hK⟩
theorem nJ.eT {S:aP}{tb:List cD}(hS:nJ S L tb){K:Sl->Prop}(hK:K L.eT):fR S .s (Addr.add ⟨L.p,0,none⟩ 7) K:=⟨L.eT,λm a=>by obtain⟨_,_,_,h,_⟩:=hS m a;rw[add_lit,h.hd.cell];rfl,hK⟩
theorem nJ.rA {S:aP}{tb:List cD}(hS:nJ S L tb)(h:HH U F L H)(hy:L.ys[k]?=some Y){K:Option Addr->Prop}(hK:K (some ⟨Y.p,0,none⟩)):Ix L.eT.a L.eT.len (k:Int) 1 λa=>fR S .p a K:=by
 have i:(eB (L.ys.map (·.p)))[k]?=some (.pointer (some ⟨Y.p,0,none⟩)):=by simp[eB,hy]
 obtain⟨b,o,j,_⟩:=h.nO.cell i;have y:=(cV.1 hy).1;have u:=h.jZ;have:=h.s.ys;rw[j];refine ix O O ⟨_,λm r=>?_,hK⟩;obtain⟨_,_,_,e,_⟩:=hS m r;obtain⟨x,w,d,g⟩:=e.nO.cell i;rw[j]at d;cases d;rw[add_lit,show o+(k:Int).toNat*1=o+k by omega];exact g
theorem nJ.rC {S:aP}(hS:nJ S L H.tb)(h:HH U F L H)(hc:H.tb[k]?=some c){K:Int->Prop}(hK:K (c.size:Int)):Ix L.cH.a L.cH.len (k:Int) 3 λa=>fR S bN (a.add 0) K:=by
 have e:(fB H.tb)[3*k+0]?=some (.int .i64 (c.size:Int)):=(yb hc).1;obtain⟨b,o,r,_⟩:=h.iW.cell e;have y:=(cV.1 hc).1;have u:=h.oy;rw[r];refine ix O O ⟨_,λm s=>?_,hK⟩;obtain⟨_,_,_,g,p⟩:=hS m s;rw[←p]at e;obtain⟨x,w,d,j⟩:=g.iW.cell e;have d:L.cH.a=_:=d;rw[r]at d;cases d;rw[add_lit,add_lit,show o+(k:Int).toNat*3+0=o+(3*k+0) by omega];exact j
end Go.Ar
namespace Go.Ar
open Go Go.Vc Go.Proofs
variable {U u u':Hp}{F B P Q:Rg}{L:dS}{H H':Hw}{t k n pb:Nat}{A:AR}{Y:Lay}{x:dQ}{g:Th}{c:cD}{l:Li}{cs:List Value}{parts:List (List Int)}{xs:List Int}
theorem HK.BD (K:HK F U B u P L H)(e:Ext B u u'){B':Rg}(hB:∀b,B' b->B b\/u.size<=b/\b<u'.size):HK F U B' u' P L H:=by
 have r:=e.1;have m:=K.e.1;have i:jk B/\¬B 1:=⟨K.o.1.sub λb g=>(K.b b g).1,λg=>K.o.2 (K.b _ g).1⟩;refine⟨K.h.bV e (λb _ a d=>(K.p b a).2.1 d) i.1 i.2,K.e.eY e λb j=>.inr (K.b b j).1,λb a=>⟨(K.p b a).1,λg=>?_,by have:=(K.p b a).2.2;omega⟩,λb a=>?_,K.o⟩
 ·rcases hB b g with d|d
  ·exact(K.p b a).2.1 d
  ·have:=(K.p b a).2.2;omega
 ·rcases hB b a with d|d
  ·have:=K.b b d;omega
  ·omega
def sV (s:Sl):Value:=.slice s.a s.len s.cap
def nr (pb:Nat)(parts:List (List Int)):Hp->Rg->Prop:=λu Q=>∃(ps:List Sl) (Qs:Nat->Rg),ps.length=parts.length/\Q pb/\bY u pb (ps.map sV)/\(∀j b,Qs j b->Q b/\b≠pb)/\(∀j j' b,Qs j b->Qs j' b->j=j') ∧
 ∀j s xs,ps[j]?=some s->parts[j]?=some xs->dL s 1 (Wu xs) u (Qs j)
theorem nr.loc (pb:Nat)(parts:List (List Int)):dH (nr pb parts):=by
 rintro U E F G ⟨y,Qs,u,x,p,g,r,B⟩ w i;have hp:=i pb p.lt x;obtain⟨e,C⟩:=p;refine⟨y,λj b=>Qs j b/\b<U.size,u,hp.1,⟨e,hp.2.trans C⟩,λj b d=>⟨(i b d.2 (g j b d.1).1).1,(g j b d.1).2⟩,λj A b a z=>r j A b a.1 z.1,λj s D a b=>(dL.loc _ _ _) _ _ _ _ (B j s D a b) w λb d m=>⟨⟨m,d⟩,(i b d (g j b m).1).2⟩⟩
theorem nr.add (h:nr pb parts u Q){a m e1 e2:Nat}(hm:m=parts.length)(ha:parts[a]?=some xs)(y:Int)(hl:xs.length<=1000000){K:aP}(hK:∀u',Ext Q u u'->nr pb (parts.set a (xs++[y])) u' (Grow Q u)->K u') :
 Ix (some ⟨pb,0,none⟩) m (a:Int) 1 λa1=>ji a1 u λt35=>Nw (.cells #[.int .i64 y] e1 (0,0)) u λn37 v4=>App t35 1 8 e2 [.int .i64 0] ⟨some n37,1,1⟩ v4 λt38 v5=>Ix (some ⟨pb,0,none⟩) m (a:Int) 1 λa39=>eP a39 (.slice t38.a t38.len t38.cap) v5 λv6=>K v6:=by
 obtain⟨B,Qs,V,N,G,A,P,S⟩:=h;have H:=(cV.1 ha).1;have z:B[a]?=some (B[a]' O):=cQ _;generalize (B[a]' O)=s at z;have i:=S a s xs z ha;have Z:s.len=xs.length:=by have:=i.1;simp[Wu]at this;omega
 refine ix O O ?_;rw[add_lit,show 0+(a:Int).toNat*1=a by omega];refine G.yA (a:=s.a) (n:=s.len) (c:=s.cap) (by simp[z,sV]) ?_;refine nw (cs:=[.int .i64 y]) λv4 hz e d=>?_;have r:=(dL.loc _ _ _).aF ((dL.loc _ _ _).cut i) e;have M:=e.bX G id;refine r.app (x:=⟨some ⟨u.size,0,none⟩,1,1⟩) (ys:=[.int .i64 y]) rfl rfl ?_ (by simp[dJ]) ?_ ?_ mu λW v5 hl5 E F=>?_
 ·intro j w hw;rw[add_lit,zG,d.cell];exact hw
 ·simp only;omega
 ·simp only;omega
 have X:=E.1;have J:bY v5 pb (B.map sV):=E.bX M λp=>(A a pb p.1).2 rfl;refine ix O O ?_;rw[add_lit,show 0+(a:Int).toNat*1=a by omega];refine J.s0 aE λu' R g=>?_;have hz6:=R.1;have L:Ext (· = pb) v5 u':=R.ext;have eQ:Ext Q u u':=((aG.to e).trans (E.sub λb d=>(A a b d.1).1)).trans (L.sub λb d=>by rw[d];exact N);have hpb:=G.lt;refine hK u' eQ ⟨B.set a W,λj b=>Qs j b/\b<u.size\/j=a/\v4.size<=b/\b<v5.size,by simp[V],.inl N,?_,λj b d=>?_,λj j' b d g=>?_,λj U ys C D=>?_⟩
 ·rw[tA];exact g
 ·rcases d with d|d
  ·exact⟨.inl (A j b d.1).1,(A j b d.1).2⟩
  ·exact⟨.inr O,O⟩
 ·rcases d with d|d<;>rcases g with g|g
  ·exact P j j' b d.1 g.1
  ·omega
  ·omega
  ·omega
 ·by_cases hja:j=a
  ·subst hja;rw[zK O]at C;rw[zK H]at D;cases C;cases D;have:=(dL.loc _ _ _).bV ((dL.loc _ _ _).cut F) L λb _ d p=>by
    rcases d.1 with h7|h7
    ·exact(A j b h7.1).2 p
    ·omega
   have Y:Wu (xs++[y])=Wu xs++[.int .i64 y]:=by simp[Wu]
   rw[Y];refine(dL.loc _ _ _).mono this λb _ d=>?_;rcases d.1 with h7|h7
   ·exact .inl h7
   ·exact .inr ⟨rfl,h7,d.2⟩
  ·rw[zd (Ne.symm hja)]at C D;have:=(dL.loc _ _ _).cut (S j U ys C D);have:=(dL.loc _ _ _).bV ((dL.loc _ _ _).bV ((dL.loc _ _ _).aF this e) E λb _ d p=>hja (P j a b d.1 p.1)) L λb _ d p=>(A j b d.1).2 p;exact(dL.loc _ _ _).mono this λb _ d=>.inl d
theorem nr.get (h:nr pb parts u Q){a m:Nat}(hm:m=parts.length)(ha:parts[a]?=some xs){K:Sl->Prop}(hK:∀s,dL s 1 (Wu xs) u Q->s.len=xs.length->K s):Ix (some ⟨pb,0,none⟩) m (a:Int) 1 λa1=>ji a1 u K:=by
 obtain⟨g,Qs,z,x,r,i,y,j⟩:=h;have p:=(cV.1 ha).1;have e:g[a]?=some (g[a]' O):=cQ _;generalize (g[a]' O)=s at e;have d:=j a s xs e ha;refine ix O O ?_;rw[add_lit,show 0+(a:Int).toNat*1=a by omega];refine r.yA (a:=s.a) (n:=s.len) (c:=s.cap) (by simp[e,sV]) (hK s ((dL.loc _ _ _).mono d λb _ w=>(i a b w).1) ?_);have:=d.1;simp[Wu]at this;omega
theorem Gq {bT:List AR}{x:Int}(h:0<=Ye bT x):(Ye bT x).toNat<bT.length/\Ye bT x=((Ye bT x).toNat:Int):=by
 refine⟨?_,O⟩;unfold Ye at *;split at h
 ·omega
 ·rename_i hx;rw[zA hx];split at h
  ·rename_i i hi;have:=(BR.1 hi).1;simp only[dE];exact this
  ·omega
theorem S8 {bT:List AR}{x:Int}{xs:List Int}(h:0<=Ye bT x):((List.range bT.length).map (Z4 bT xs)).set (Ye bT x).toNat (Z4 bT xs (Ye bT x).toNat++[x])=(List.range bT.length).map (Z4 bT (xs++[x])):=by
 have a:=Gq h;apply zp;intro j;by_cases hj:j<bT.length
 ·by_cases e:(Ye bT x).toNat=j
  ·subst e;rw[zK (by simpa using hj)];simp only[zk,nW hj,zh,Z4,y5]
   congr 2
   rw[xQ (by rw[←a.2];simp)];rfl
  ·rw[zd e];simp only[zk,nW hj,zh,Z4,y5];have:List.filter (λy=>Ye bT y==(j:Int)) [x]=[]:=by
    rw[yX (by simp only[za];omega)];rfl
   rw[this,j7]
 ·rw[zO aE,zO aE]
theorem Ko {K:aO}{body:(Bool->Hp->Prop)->Prop}(P:aO)(h1:∀r w,P r w->K r w)(h2:∀J:Bool->Hp->Prop,(∀r w,P r w->J r w)->body J):bW K body:=bW.intro (h2 K h1)
theorem Ld {K:eR [.b]}{body:eR [.b]->Prop}(P:aO)(h1:∀r w,P r w->K r w)(h2:∀J:eR [.b],(∀r w,P r w->J r w)->body J):Jn [.b] K body:=Jn.intro (h2 K h1)
theorem tU {K:eR []}{body:eR []->Prop}(P:aP)(h1:∀w,P w->K w)(h2:∀J:eR [],(∀w,P w->J w)->body J):Jn [] K body:=Jn.intro (h2 K h1)
theorem VO {H:Hw}{k:Nat}{part:Nat->List Int}(j:Nat):VG H k part (List.range (j+1))=(match (VG H k part (List.range j)).bT[j]? with
 | some A=>if part j=[]then VG H k part (List.range j)else(VG H k part (List.range j)).cG j (Zh A (k:Int) (part j))
 | none=>VG H k part (List.range j)):=by
 unfold VG;rw[kI,lb];rfl
theorem T6 {H:Hw}{k:Nat}{part:Nat->List Int}(j:Nat):(VG H k part (List.range j)).bT.length=H.bT.length:=by
 induction j with
 | zero=>rfl
 | succ j ih=>
  rw[VO];split
  ·split
   ·exact ih
   ·simp[Hw.cG,ih]
  ·exact ih
theorem OW {H:Hw}{k:Nat}{part:Nat->List Int}(j:Nat):(VG H k part (List.range j)).bQ=H.bQ:=by
 induction j with
 | zero=>rfl
 | succ j ih=>
  rw[VO];split
  ·split<;>exact ih
  ·exact ih
theorem Cu (H:Hw)(own k:Nat)(xs:List Int):(G7 H own k xs).bQ=H.bQ:=by
 unfold G7;split
 ·split
  ·rfl
  ·rw[OW];split<;>rfl
 ·rfl
def Dw (F:Rg)(U:Hp)(L:dS)(H:Hw)(pb:Nat)(parts:List (List Int))(cs:List Value)(w:Hp):Prop:=∃Q P:Rg,HK F U (λb=>b=U.size\/Q b) w P L H/\nr pb parts w Q/\bY w U.size cs/\∀b,Q b->b≠U.size
theorem OG (h:HH U F L H){own:Nat}(ho:own<H.bT.length)(k:Nat){sl:Sl}{xs:List Int}{X:Rg}(hs:cS sl 1 (Wu xs) U X)(hX:∀b,b<U.size->X b->¬F b)(hcap:sl.len<=sl.cap)(hx:∀x∈xs,iz x/\0<=Ye H.bT x)(hl:xs.length<=1000000){R:aP}
 (hR:∀σ',Ext F U σ'->HH σ' (Grow F U) L (G7 H own k xs)->R σ'):ZF.c (aW L.p) (own:Int) (k:Int) sl U R:=by
 refine ZF.o ?_;unfold ZF.v;have hsl:sl.len=xs.length:=by have:=hs.1;simp[Wu]at this;omega
 have ha2:=h.s.a2;have hal:=h.jZ;have hs1:∀u,Ext F U u->cS sl 1 (Wu xs) u (λb=>X b/\b<U.size):=λu eu=>aH.bV (aH.cut hs) eu λb _ hx hf=>hX b hx.2 hx.1 hf;refine nw (cs:=[.int .i64 (k:Int),.slice sl.a sl.len sl.cap]) λv hz e d=>?_;have K1:=(HK.start h).box e hz;refine bO (K1.h.hd.rS rfl ?_);simp only;refine mk (n:=L.eT.len) O O λv1 ac e1 hb1=>?_;have K2:=K1.box e1 ac;have hb2:=e1.bX d id;have W:nr v.size ((List.range H.bT.length).map (Z4 H.bT [])) v1 (λb=>b=v.size):=by
  refine⟨List.replicate H.bT.length ⟨none,0,0⟩,λ_ _=>False,by simp,rfl,?_,λj b d=>d.elim,λj j' b d=>d.elim,λj s ys g h2=>?_⟩
  ·have:(List.replicate L.eT.len [Value.slice none 0 0]).flatten=(List.replicate H.bT.length (⟨none,0,0⟩:Sl)).map sV:=by
    rw[hal];simp[sV]
   rw[←this];exact hb1
  ·simp only[zk,qA]at h2;obtain⟨a,_,rfl⟩:=h2;simp only[mD]at g;split at g
   ·cases g;exact dL.nil _ _ _ _
   ·cases g
 have ae:∀ys:List Int,L.eT.len=((List.range H.bT.length).map (Z4 H.bT ys)).length:=λys=>by simp[hal]
 refine hb2.rS rfl ?_;refine Zw (a:=bN) (λ(z:Int) w=>∃i:Nat,z=(i:Int)/\i<=xs.length/\Dw F U L H v.size ((List.range H.bT.length).map (Z4 H.bT (xs.take i))) [.int .i64 (k:Int),.slice sl.a sl.len sl.cap] w) (λz _=>xs.length-z.toNat)
  ⟨0,rfl,O,λb=>b=v.size,_,⟨K2.h,K2.e,λb d=>⟨(K2.p b d).1,λhx=>(K2.p b d).2.1 (hx.imp .inr id),(K2.p b d).2.2⟩,λb d=>K2.b b (d.imp .inr id),K2.o⟩,W,hb2,λb d=>O⟩ ?_
 rintro z w ⟨i,rfl,hi,Q,P,K,W,C,hQ⟩;refine cL (λD=>?_) λhge=>?_
 ·simp only at D;have hi':i<xs.length:=by omega
  have Z:xs[i]?=some xs[i]:=cQ hi';generalize xs[i]=y at Z;have hy:=hx y (zE Z);refine(hs1 w K.e).nK Z (Gm K.h y hy.1 λw1 e1=>?_);have D:=Gq hy.2;rw[D.2];have hP1:nr v.size _ w1 (λb=>Q b/\b<w.size):=(nr.loc _ _).aF ((nr.loc _ _).cut W) e1;have hpart:((List.range H.bT.length).map (Z4 H.bT (xs.take i)))[(Ye H.bT y).toNat]?=some (Z4 H.bT (xs.take i) (Ye H.bT y).toNat):=by
   simp only[zk,nW D.1,zh]
  have hpl1:(Z4 H.bT (xs.take i) (Ye H.bT y).toNat).length<=1000000:=by
   have:=ny (λx=>Ye H.bT x==(((Ye H.bT y).toNat:Nat):Int)) (xs.take i);simp only[Z4];rw[zL]at this;omega
  refine hP1.add (ae _) hpart y hpl1 λw2 e2 hP2=>?_;rw[S8 hy.2]at hP2;have ht:xs.take i++[y]=xs.take (i+1):=by rw[zj,Z];rfl
  rw[ht]at hP2;have ac:=e1.1;have hz2:=e2.1;refine cC (m:=i+1) O O ⟨⟨i+1,rfl,O,λb=>(Q b/\b<w.size)\/w1.size<=b/\b<w2.size,P,(K.fr e1).BD (e2.sub λb d=>.inr d.1) λb d=>?_,(nr.loc _ _).mono hP2 λb d V=>?_,?_,λb d=>?_⟩,O⟩
  ·rcases d with d|d|d
   ·exact .inl (.inl d)
   ·exact .inl (.inr d.1)
   ·exact .inr d
  ·rcases V with V|V
   ·exact .inl V
   ·exact .inr ⟨V,d⟩
  ·exact e2.bX (e1.bX C id) λhx=>hQ _ hx.1 rfl
  ·have:=(K.b U.size (.inl rfl)).2;rcases d with d|d
   ·exact hQ b d.1
   ·omega
 ·have hii:i=xs.length:=by simp only at hge;omega
  subst hii;rw[zy]at W;obtain⟨A,hA⟩:∃A,H.bT[own]?=some A:=⟨_,cQ ho⟩;obtain⟨Y,hY,_,_⟩:=h.ar hA;have E:G7 H own k xs=(if(Z4 H.bT xs own).length=xs.length/\VM A (k:Int) xs=true then H.cG own (KC A (k:Int) xs)
   else VG (if(Z4 H.bT xs own).length=xs.length then H.cG own (KC A (k:Int) xs)else H) k (Z4 H.bT xs) (List.range H.bT.length)):=by
   unfold G7;rw[hA]
  have hown:((List.range H.bT.length).map (Z4 H.bT xs))[own]?=some (Z4 H.bT xs own):=by
   simp only[zk,nW ho,zh]
  refine tU (λw=>¬((Z4 H.bT xs own).length=xs.length/\VM A (k:Int) xs=true)/\Dw F U L (if(Z4 H.bT xs own).length=xs.length then H.cG own (KC A (k:Int) xs)else H) v.size ((List.range H.bT.length).map (Z4 H.bT xs)) [.int .i64 (k:Int),.slice sl.a sl.len sl.cap] w) (λw hw=>?_) λJ hJ=>?_
  ·obtain⟨hno,hw⟩:=hw;rw[zA hno]at E;generalize hH1:(if(Z4 H.bT xs own).length=xs.length then H.cG own (KC A (k:Int) xs)else H)=H1 at hw E
   have hH1l:H1.bT.length=H.bT.length:=by
    rw[←hH1];split
    ·simp[Hw.cG]
    ·rfl
   refine Zw (a:=bN) (λ(z:Int) w=>∃j:Nat,z=(j:Int)/\j<=H.bT.length/\Dw F U L (VG H1 k (Z4 H.bT xs) (List.range j)) v.size ((List.range H.bT.length).map (Z4 H.bT xs)) [.int .i64 (k:Int),.slice sl.a sl.len sl.cap] w) (λz _=>H.bT.length-z.toNat) ⟨0,rfl,O,hw⟩ ?_;rintro z w ⟨j,rfl,hj,Q,P,K,W,C,hQ⟩;refine cL (λD=>?_) λhge=>?_
   ·simp only at D;have hj':j<H.bT.length:=by omega
    have hpj:((List.range H.bT.length).map (Z4 H.bT xs))[j]?=some (Z4 H.bT xs j):=by
     simp only[zk,nW hj',zh]
    refine W.get (ae _) hpj λs N S=>?_;have hfl:=T6 (H:=H1) (k:=k) (part:=Z4 H.bT xs) j;obtain⟨B,hB⟩:∃B,(VG H1 k (Z4 H.bT xs) (List.range j)).bT[j]?=some B:=⟨_,cQ O⟩;have G:=VO (H:=H1) (k:=k) (part:=Z4 H.bT xs) j;rw[hB]at G;simp only at G;refine cL (λhpos=>?_) λhz0=>?_
    ·have M:Z4 H.bT xs j≠[]:=λe=>by rw[e]at S;simp at S;omega
     rw[zA M]at G;obtain⟨Y,hY,_,_⟩:=K.h.ar hB;refine bO (K.h.hd.rS rfl (K.h.rA hY (C.rI rfl ?_)));refine RR K.h hB hY (k:Int) (dL.fM N) (λb _ V hp=>(K.p b hp).2.1 (.inr V)) (λx af=>(hx x (zH.1 af).1).1) ?_ (dL.cap N) λw1 e1 g=>?_
     ·have:=ny (λx=>Ye H.bT x==(j:Int)) xs;simp only[Z4];omega
     ·have ac:=e1.1;rw[←G]at g;refine cC (m:=j+1) O O ⟨⟨j+1,rfl,O,Q,_,K.to e1 g λb _ d=>d,(nr.loc _ _).bV W e1 λb _ V hp=>(K.p b hp).2.1 (.inr V),K.cX e1 C (.inl rfl),hQ⟩,O⟩
    ·have M:Z4 H.bT xs j=[]:=BA O;rw[zB M]at G;refine cC (m:=j+1) O O ⟨⟨j+1,rfl,O,Q,P,by rw[G];exact K,W,C,hQ⟩,O⟩
   ·have hjj:j=H.bT.length:=by simp only at hge;omega
    subst hjj;rw[E]at hR;exact hR w K.e (K.fin h)
  ·refine W.get (ae _) hown λs N S=>C.rS rfl ?_;refine cU (λheq=>?_) λM=>?_
   ·have ab:(Z4 H.bT xs own).length=xs.length:=by simp only[za]at heq;omega
    rw[zB ab]at E hJ;have hS:nJ (λu=>(∃P' H',HH u P' L H'/\H'.tb=H.tb)/\bY u U.size [.int .i64 (k:Int),.slice sl.a sl.len sl.cap]) L H.tb:=λm hm=>by
     obtain⟨⟨P',H',g,h2⟩,_⟩:=hm;exact⟨P',L.ts,H',g,h2⟩
    refine⟨λu=>(∃P' H',HH u P' L H'/\H'.tb=H.tb)/\bY u U.size [.int .i64 (k:Int),.slice sl.a sl.len sl.cap],⟨⟨_,_,K.h,rfl⟩,C⟩,bO (hS.eT (hS.rA K.h hY ?_))⟩;refine⟨(k:Int),λm hm=>by rw[add_lit,hm.2.cell];rfl,⟨sl,λm hm=>by rw[add_lit,hm.2.cell];rfl,?_⟩⟩;refine SD K.h hA hY (k:Int) (hs1 w K.e) (λx af=>(hx x af).1) λw1 e1 g=>?_;have K1:=K.to e1 g λb _ d=>d;refine⟨⟨⟨_,_,g,rfl⟩,K.cX e1 C (.inl rfl)⟩,?_⟩;have fin:∀r,r=VM A (k:Int) xs->((r=true->R w1)/\(r=false->J w1)):=λr hr=>by
     refine⟨λad=>?_,λad=>hJ w1 ⟨λhx=>Bool.noConfusion ((ad.symm.trans hr).trans hx.2),Q,_,K1,(nr.loc _ _).bV W e1 λb _ V hp=>(K.p b hp).2.1 (.inr V),K.cX e1 C (.inl rfl),hQ⟩⟩;rw[zB ⟨ab,by rw[←hr,ad]⟩]at E;rw[E]at hR;exact hR w1 K1.e (K1.fin h)
    refine Ko (λr w=>w=w1/\r=VM A (k:Int) xs) (λr w' ⟨hw,hr⟩=>?_) λJ3 hJ3=>?_
    ·subst hw;exact cU (λg=>(fin r hr).1 g) λg=>(fin r hr).2 g
    ·refine cU (λg=>hJ3 _ _ ⟨rfl,?_⟩) λg=>hJ3 _ _ ⟨rfl,g.symm⟩;have:Gs A (k:Int) xs=0:=by
      unfold VM at g;simp only[zF,zU]at g;exact g.1
     rw[this,g];rfl
   ·have aa:¬(Z4 H.bT xs own).length=xs.length:=by
     simp only[kR]at M;omega
    rw[zA aa]at hJ;exact hJ w ⟨λhx=>aa hx.1,Q,P,K,W,C,hQ⟩
theorem gX {w:Hp}(K:HK F U B w P L H)(hB:B n){p q:Int}(hb:bY w n [.int .i64 p,.int .i64 q]){x y:Int}{K':Int->Int->Hp->Prop}(hK:∀w',HK F U B w' P L H->K' x y w') :
 eP (Addr.add ⟨n,0,none⟩ 0) (.int .i64 x) w λv3=>eP (Addr.add ⟨n,0,none⟩ 1) (.int .i64 y) v3 λv4=>gO .i64 (Addr.add ⟨n,0,none⟩ 0) v4 λres=>gO .i64 (Addr.add ⟨n,0,none⟩ 1) v4 λpK=>K' res pK v4:=
 hb.s1 aA λv3 o3 b=>b.s1 aA λv4 o4 a=>a.rI rfl (a.rI rfl (hK v4 ((K.own o3 hB).own o4 hB)))
theorem N5 (h:HH U F L H)(ht:t<H.bQ.length)(x:Int)(hx:iz x)(hr:cB H.live x=none->∀A∈H.bT,gY A)(hlen:∀g,H.bQ[t]?=some g->g.bP.length<=1000)(h0:∀b,cB H.live x=some b->0<=x){R:Value->Int->Int->Hp->Prop}
 (hR:∀σ' ts',Ext F U σ'->HH σ' (Grow F U) {L with ts:=ts'} (HL H t x).1->R (j9 (HL H t x).2.1) (HL H t x).2.2.1 (HL H t x).2.2.2 σ'):ZI.c (aW L.p) (t:Int) x U R:=by
 refine ZI.o ?_;unfold ZI.v;refine nw (cs:=[.int .i64 0,.int .i64 0]) λv hz e hb=>?_;have K1:=(HK.start h).box e hz;refine bO (K1.h.hd.rM rfl ⟨_,K1.h.jd,?_⟩);refine nw (cs:=[.int .i64 0,.int .i64 0,.int .i64 0,.int .i64 0]) λv1 hz1 e1 hb1=>?_;have K2:=K1.box e1 hz1;have hbv:=e1.bX hb id;have s:U.size≠v.size:=by omega
 refine hb1.s1 aA λv2 o2 b2=>b2.s1 aA λv3 o3 b3=>b3.s1 aA λv4 o4 b4=>b4.s1 aA λv5 o5 b5=>?_;have K5:=(((K2.own o2 (.inr rfl)).own o3 (.inr rfl)).own o4 (.inr rfl)).own o5 (.inr rfl);have B:=Wm o5 (Wm o4 (Wm o3 (Wm o2 hbv s) s) s) s;have hL:L = {L with ts:=L.ts}:=rfl;cases hm:cB H.live x with
 | none=>
  have hno:HL H t x=(H,none,0,mA H x):=by unfold HL;rw[hm]
  rw[hno]at hR;simp only at hR;refine cJ rfl ?_;refine tU (λw=>mA H x=8/\aG v5 w) (λw ⟨h8,ew⟩=>?_) λJ K=>?_
  ·rw[h8]at hR;exact gX (n:=U.size) (K5.fr ew) (.inl (.inr rfl)) (ew.bX B id) λG K'=>hR G L.ts K'.e (K'.fin h)
  ·refine Gm K5.h x hx λv9 Q=>?_;have K9:=K5.fr Q;have hb9:=Q.bX B id;refine cL (λW=>?_) λhlt=>K v9 ⟨zA O,Q⟩;have ac:=Gq W;obtain⟨A,hA⟩:∃A,H.bT[(Ye H.bT x).toNat]?=some A:=⟨_,cQ ac.1⟩;obtain⟨Y,hY,_,hAY⟩:=K9.h.ar hA;have a:mA H x=(match Ux A x with
    | some (k,y)=>if 0<=k/\(y:Int)=x then(9:Int)else 8
    | none=>8):=by unfold mA;rw[zB W,hA];rfl
   rw[ac.2];refine bO (K9.h.hd.rS rfl (K9.h.rA hY ?_));refine FD hAY (hr hm A (zE hA)) x hx (λC k y d hf=>?_) λC d hf=>?_
   ·rw[hf]at a;simp only at a;rw[a]at hR K;have K10:=K9.fr d;have aa:=d.bX hb9 id;refine Ko (λr w=>w=C/\r=decide (0<=k)) (λr w ⟨N,i⟩=>?_) λJ1 z=>?_
    ·subst N;subst i;refine Ko (λr w2=>w2=w/\r=decide (0<=k/\(y:Int)=x)) (λr w2 ⟨N,i⟩=>?_) λJ2 P=>?_
     ·subst i;rw[N];refine cL (λD=>?_) λD=>?_
      ·rw[zB D]at hR;exact gX (n:=U.size) K10 (.inl (.inr rfl)) aa λG K'=>hR G L.ts K'.e (K'.fin h)
      ·exact K w ⟨zA D,Q.trans d⟩
     ·refine cL (λD=>P _ _ ⟨rfl,?_⟩) λD=>P _ _ ⟨rfl,?_⟩
      ·by_cases hyx:(y:Int)=x
       ·rw[zI (⟨D,hyx⟩:0<=k/\(y:Int)=x),za.2 hyx]
       ·rw[zJ (λhx=>hyx hx.2),kR.2 hyx]
      ·rw[zJ (λhx=>D hx.1)]
    ·exact cJ rfl (z _ _ ⟨rfl,rfl⟩)
   ·rw[hf]at a;simp only at a;rw[a]at K;refine Ko (λr w=>w=C/\r=false) (λr w ⟨N,i⟩=>?_) λJ1 z=>bZ rfl (z _ _ ⟨rfl,rfl⟩);subst N;subst i;exact bW.intro (bZ rfl (bZ rfl (K w ⟨rfl,Q.trans d⟩)))
 | some b=>
  have hb0:=h0 b hm;have hfd:HL H t x=(if b.2.2.1<0 then({H with live:=dK H.live x},some (.dG (x/256) b.2.2.2),0,0)
   else(Kl {H with live:=dK H.live x} t b.2.2.1.toNat [x],some (.put b.2.2.1.toNat x),0,0)):=by unfold HL;rw[hm]
  rw[hfd]at hR;have hgb:(cB H.live x).getD ((0,0,0,0):Bk)=b:=by rw[hm];rfl
  rw[hgb]at b5;refine bZ rfl ?_;refine bO (K5.h.hd.rM rfl ?_);obtain⟨hF,S⟩:=K5.h.sA;refine⟨_,K5.h.jd,λv6 o6 _ hm6=>?_⟩;obtain⟨e6,h6⟩:=S v6 _ (o6 _ rfl) hm6;have K6:=K5.to e6 h6 λb _ hb=>.inl hb;have X:=K5.cX e6 B (.inl (.inr rfl));have m:=K5.cX e6 b5 (.inr rfl);refine m.rI rfl (cL (λV=>?_) λhnn=>?_)
  ·have E:b.2.2.1<0:=V;rw[zB E]at hR;refine nz aB (ar (by rw[Xq O];omega) (by rw[Xq O];unfold iz at hx;omega) (m.rI rfl ?_));rw[Xq O];exact gX (n:=U.size) K6 (.inl (.inr rfl)) X λG K'=>hR G L.ts K'.e (K'.fin h)
  ·have ab:¬b.2.2.1<0:=hnn;rw[zA ab]at hR;refine m.rI rfl (nw (cs:=[.int .i64 x]) λv7 hz7 e7 hb7=>?_);have K7:=K6.box e7 hz7;have Z:=e7.bX X id;have hc7:=e7.bX m id;have M:b.2.2.1=((b.2.2.1.toNat:Nat):Int):=by omega
   have hs7:cS ⟨some ⟨v6.size,0,none⟩,1,1⟩ 1 (Wu [x]) v7 (· = v6.size):=hb7.fM (o:=0) rfl rfl λj hj=>by rw[zG];rfl
   have hz6:=K6.e.1;rw[M];refine y9 K7.h (t:=t) ht b.2.2.1.toNat hs7 (zC _) aA (λq _ u hp=>(K7.p q hp).2.1 (.inr u)) (K7.o.1.sub λq u=>O) (λu=>K7.o.2 O) hlen λv8 ts8 e8 h8=>?_;have K8:=(K6.fr e7).sS e8 h8 λq hql u=>by
    rcases u with u|u
    ·exact u.imp id .inl
    ·refine .inr (.inr ⟨.inr O,λhB=>?_⟩);have:=(K6.b q hB).2;omega
   have hb8:=K7.cX e8 Z (.inl (.inl (.inr rfl)));have hc8:=K7.cX e8 hc7 (.inl (.inr rfl));refine hc8.rI (x:=((b.2.2.1.toNat:Nat):Int)) (by rw[←M];rfl) ?_;exact gX (n:=U.size) K8 (.inl (.inr rfl)) hb8 λG K'=>hR G ts8 K'.e (K'.fin h)
end Go.Ar
namespace Go.Ar
open Go Go.Vc Go.Proofs
variable {U u u':Hp}{F B P Q:Rg}{L:dS}{H H':Hw}{t k n pb:Nat}{A:AR}{Y:Lay}{x:dQ}{g:Th}{c:cD}{l:Li}{cs:List Value}
theorem rQ {t' t:TypeId}{w:Value}{A B:Prop}(hne:t'≠t)(h:B):∃is:Bool,kL (.iface t' w) t [] [] is/\If is A B:=⟨false,⟨rfl,.inr ⟨_,_,rfl,hne⟩⟩,bZ rfl h⟩
theorem lO {t' t:TypeId}{w:Value}{A B:Int->Prop}(hne:t'≠t)(h:B 0):∃x:Int,∃is:Bool,kL (.iface t' w) t [.int .i64 x] [.int .i64 0] is/\If is (A x) (B x):=⟨0,false,⟨rfl,.inr ⟨_,_,rfl,hne⟩⟩,bZ rfl h⟩
theorem jH {t' t:TypeId}{w:Value}{A B:Int->Int->Prop}(hne:t'≠t)(h:B 0 0):∃x:Int,∃y:Int,∃is:Bool,kL (.iface t' w) t [.int .i64 x,.int .i64 y] [.int .i64 0,.int .i64 0] is/\If is (A x y) (B x y):=⟨0,0,false,⟨rfl,.inr ⟨_,_,rfl,hne⟩⟩,bZ rfl h⟩
theorem AN {t:TypeId}{A B:Prop}(h:A):∃is:Bool,kL (.iface t (.agg #[])) t [] [] is/\If is A B:=⟨true,rfl,cJ rfl h⟩
theorem C9 {t:TypeId}{a:Int}{A B:Int->Prop}(h:A a):∃x:Int,∃is:Bool,kL (.iface t (.agg #[.int .i64 a])) t [.int .i64 x] [.int .i64 0] is/\If is (A x) (B x):=⟨a,true,rfl,cJ rfl h⟩
theorem vI {t:TypeId}{a b:Int}{A B:Int->Int->Prop}(h:A a b):∃x:Int,∃y:Int,∃is:Bool,kL (.iface t (.agg #[.int .i64 a,.int .i64 b])) t [.int .i64 x,.int .i64 y] [.int .i64 0,.int .i64 0] is/\If is (A x y) (B x y):=⟨a,b,true,rfl,cJ rfl h⟩
theorem HH.tc (h:HH u P L H)(hx:L.ts[t]?=some x)(hg:H.bQ[t]?=some g){b o:Nat}(ha:L.cK.a=some ⟨b,o,none⟩){d:Nat}(hd:d<3){v:Value}(hv:(iF (x,g))[d]?=some v):cell u (Addr.add ⟨b,o+3*t,none⟩ d)=some v:=by
 obtain⟨m,j,e,i⟩:=UR h.ky hx hg hd hv;rw[ha]at e;cases e;rw[add_lit,show o+3*t+d=o+(3*t+d) by omega];exact i
theorem HH.wh (h:HH u P L H)(hP:∀b,P b->b<u.size)(hx:L.ts[t]?=some x)(hg:H.bQ[t]?=some g)(N:Rg)(hN:∀b,b<u.size->P b->¬N b)(oN:jk N)(oN2:¬N 1) :
 ∃G D:Rg,(∀b,G b->P b)/\(∀b,D b->P b)/\(∀b,G b->¬D b)/\gC x.h g.bP u G/\(∀u1,Ext G u u1->cS L.cK 3 (gI L.ts H.bQ) u1 D) ∧
 ∀(u1:Hp) (s:Sl) (bs:List Bt) (G':Rg),Ext G u u1->(∀b,G' b->G b\/N b)->gC s bs u1 G'->∀{b o:Nat} (ha:L.cK.a=some ⟨b,o,none⟩) {K:aP},
  (∀u2,Ext D u1 u2->HH u2 (λb=>P b/\¬G b\/G' b/\b<u1.size) {L with ts:=L.ts.set t {x with h:=s}} {H with bQ:=H.bQ.set t {g with bP:=bs}}->K u2) →
  eP (Addr.add ⟨b,o+3*t,none⟩ 1) (.slice s.a s.len s.cap) u1 K:=by
 have W:=h.jb;have Q:=HN h.s.ts;have U:=(cV.1 hg).1;obtain⟨G,D,z,y,hd,J,E,_,w⟩:=h.sD hx hg N hN oN oN2;have p:∀u1,Ext G u u1->bR L.cK 3 (gI L.ts H.bQ) u1 D:=λu1 e=>aI.bV E e λb _ d hx=>hd b hx d;refine⟨G,D,z,y,hd,J,λu1 e=>bR.fM (p u1 e),λu1 s bs G' e i A b o ha K M=>?_⟩;have S:o=0:=by
  rcases E.2 with⟨h0,_⟩|⟨R,_,_,ha',_⟩
  ·omega
  ·rw[ha]at ha';cases ha';rfl
 subst S;have m:∀b,G' b->¬D b:=λb d hx=>by
  rcases i b d with h1|h1
  ·exact hd b h1 hx
  ·exact hN b (hP b (y b hx)) (y b hx) h1
 refine(p u1 e).st (j:=3*t+1) O (λR r=>by rw[ha]at r;cases r;rw[add_lit];congr 1;omega) λu2 e2 B=>?_;have C:=(gC.loc _ _).bV ((gC.loc _ _).cut A) e2 λb _ d hx=>m b d.1 hx;obtain⟨V,F⟩:=w u2 s bs (Cut G' u1) D ((e.sub λb d=>.inl d).trans (e2.sub λb d=>.inr d)) (λb d=>(i b d.1).imp .inl id) (λb d=>.inl (.inr d)) (λb d=>m b d.1) C B;refine M u2 e2 (F.mono (λb _ d=>?_) (λb (d:P b/\¬G b\/G' b/\b<u1.size)=>?_) λ(d:P _/\¬G _\/G' _/\_<u1.size)=>?_)
 ·rcases d with d|d|d
  ·exact .inl ⟨d.1,λhx=>d.2.2 (.inl hx)⟩
  ·exact .inr d
  ·exact .inl ⟨y b d,λhx=>hd b hx d⟩
 ·rcases d with d|d
  ·exact h.o b d.1
  ·exact(i b d.1).elim (λhx=>h.o b (z b hx)) (oN b)
 ·rcases d with d|d
  ·exact h.o2 d.1
  ·exact(i _ d.1).elim (λhx=>h.o2 (z _ hx)) oN2
theorem gC.mX {s:Sl}{G:Rg}{xs:List Int}{r:List Bt}(h:gC s ((k,xs)::r) u G):∃(so:Sl) (ps:List (Nat×Sl)) (D:Rg),dL s 2 (fO ((k,so)::ps)) u (λb=>G b/\¬D b)/\cS so 1 (Wu xs) u (λb=>D b/\lg so b)/\so.len<=so.cap/\kV ps r u (λb=>D b/\¬lg so b)/\(∀b,D b->G b)/\uN ps/\(∀x∈r,x.2≠[])/\xs≠[]:=by
 obtain⟨ps,D,d,j,E,B,g⟩:=h;cases ps with
 | nil=>have:=j.1;simp at this
 | cons p ps=>
  obtain⟨K,so⟩:=p;obtain⟨e1,y,z⟩:=j.2 0 (K,so) (k,xs) rfl rfl;simp only at e1 y z;subst e1;have e:=nB.1 B;refine⟨so,ps,D,d,y.yP,z,⟨by have:=j.1;simpa using this,λi p x hp m=>?_⟩,E,e.2,λx m=>g x (mM _ m),g _ mY⟩;obtain⟨H,L,F⟩:=j.2 (i+1) p x (by simpa using hp) (by simpa using m);refine⟨H,aH.mono L.yP λb _ w=>⟨w.1,?_⟩,F⟩;rintro⟨a,h1,h2⟩;obtain⟨C,J,A⟩:=w.2;exact e.1 p (zE hp) a C h1 J (h2.trans A.symm)
theorem gC.l9 {s:Sl}{G:Rg}{b:Bt}{r:List Bt}(h:gC s (b::r) u G):gC ⟨if s.cap=1 then s.a else s.a.map (·.add (1*2)),s.len-1,s.cap-1⟩ r u G:=by
 have p:=h.len;obtain⟨k,B⟩:=b;obtain⟨x,m,D,d,y,z,g,w,i,e,A⟩:=h.mX;exact⟨m,D,d.from (lo:=1) (by simp at p;omega),(kV.loc _ _).mono g λb _ j=>j.1,w,i,e⟩
theorem JM {s so:Sl}{ps:List (Nat×Sl)}{G:Rg}(h:cS s 2 (fO ((k,so)::ps)) u G){K:Addr->Prop}(hK:∀a,cell u (Addr.add a 0)=some (.int .i64 (k:Int))->cell u (Addr.add a 1)=some (.slice so.a so.len so.cap)->K a):Ix s.a s.len 0 2 K:=by
 obtain⟨b,o,i,m⟩:=h.cell (j:=0) (v:=.int .i64 (k:Int)) rfl;obtain⟨r,p,d,e⟩:=h.cell (j:=1) (v:=.slice so.a so.len so.cap) rfl;have g:=h.1;rw[Vm]at g;simp only[zV]at g;rw[i]at d;cases d;rw[i];refine ix O O ?_;rw[add_lit];exact hK _ (by rw[add_lit];exact m) (by rw[add_lit];exact e)
theorem gC.app {s s2:Sl}{G Q:Rg}{bs bs2:List Bt}{e:Nat}(h:gC s bs u G)(h2:gC s2 bs2 u Q)(hd:∀b,G b->¬Q b)(hl:bs.length+bs2.length<=1000){K:Sl->Hp->Prop}
 (hK:∀s' u',Ext G u u'->gC s' (bs++bs2) u' (λb=>G b\/Q b\/u.size<=b)->K s' u'):App s 2 32 e [.int .i64 0,.slice none 0 0] s2 u K:=by
 have l1:=h.len;have l2:=h2.len;obtain⟨U,D,w,H,L,C,z⟩:=h;obtain⟨E,D2,A,m,r,V,y⟩:=h2;by_cases h0:s2.len=0
 ·have S:bs2=[]:=BA O;subst S;refine w.AI h0 (by
   have:s.len*32<=1000*32:=lV (by simp at hl;omega) O;omega) (by simp at hl;omega) λX=>hK _ u (Ext.refl _ _) ?_
  rw[j7];exact⟨U,D,(dL.loc _ _ _).mono X λb _ d=>⟨.inl d.1,d.2⟩,H,λb d=>.inl (L b d),C,z⟩
 ·have e1:(s.len+s2.len)*32<=1000*32:=lV O O;refine((dL.loc _ _ _).cut w).app (ys:=fO E) rfl (by rw[Vm];have:=m.1;omega) A.fM.rd Ga O O O λs' u' _ J X=>hK s' u' (J.sub λb d=>d.1.1) ?_;have hz:=J.1;have M:=H.1;refine⟨U++E,λb=>D b/\b<u.size\/D2 b/\b<u.size,?_,⟨by simp[H.1,m.1],λi p x hp g=>?_⟩,λb d=>?_,pC.2 ⟨C,V,λp hp q hq a a' N R e3=>?_⟩,λx g=>(zS.1 g).elim (z x) (y x)⟩
  ·rw[HG];refine(dL.loc _ _ _).mono X λb _ d=>?_;rcases d with d|d
   ·exact⟨.inl d.1.1,λg=>g.elim (λg=>d.1.2 g.1) λg=>hd b d.1.1 (r b g.1)⟩
   ·exact⟨.inr (.inr d),λg=>by rcases g with g|g<;>omega⟩
  ·rcases zq i U.length with B|B
   ·rw[zQ B]at hp;rw[zQ O]at g;obtain⟨Y,P,W⟩:=H.2 i p x hp g;exact⟨Y,aH.mono (aH.bV (aH.cut P) J λb _ d g=>g.1.2 d.1) λb _ d=>.inl d,W⟩
   ·rw[zg B]at hp;rw[zg O,←M]at g;obtain⟨Y,P,W⟩:=m.2 _ p x hp g;exact⟨Y,aH.mono (aH.bV (aH.cut P) J λb _ d g=>hd b g.1.1 (r b d.1)) λb _ d=>.inr d,W⟩
  ·rcases d with d|d
   ·exact .inl (L b d.1)
   ·exact .inr (.inl (r b d.1))
  ·obtain⟨i,B⟩:=zN hp;obtain⟨j,C⟩:=zN hq;have hil:=(cV.1 B).1;have hjl:=(cV.1 C).1;have Z:bs[i]?=some (bs[i]' O):=cQ _;have F:bs2[j]?=some (bs2[j]'(by have:=m.1;omega)):=cQ _;have b1:=(H.2 i p _ B Z).2.1.bX (by simpa[Wu]using z _ (zE Z)) ⟨a,N,rfl⟩;have b2:=(m.2 j q _ C F).2.1.bX (by simpa[Wu]using y _ (zE F)) ⟨a',R,rfl⟩;rw[e3]at b1;exact hd _ (L _ b1.1) (r _ b2.1)
theorem HK.xj (K:HK F U B u P L H){B':Rg}(h1:∀b,B' b->U.size<=b/\b<u.size/\¬P b):HK F U (λb=>B b\/B' b) u P L H:=
 ⟨K.h,K.e,λb a=>⟨(K.p b a).1,λg=>g.elim (K.p b a).2.1 λd=>(h1 b d).2.2 a,(K.p b a).2.2⟩,λb a=>a.elim (K.b b) λd=>⟨(h1 b d).1,(h1 b d).2.1⟩,K.o⟩
theorem ZQ (hg:H.bQ[t]?=some g)(f:Th->Th):H.eC t f = {H with bQ:=H.bQ.set t (f g)}:=by
 unfold Hw.eC;rw[VF hg]
theorem sk (hg:H.bQ[t]?=some g):H.kr t=g:=by unfold Hw.kr;rw[zM,hg];rfl
theorem UL (hc:H.tb[k]?=some c):H.cls k=c:=by unfold Hw.cls;rw[zM,hc];rfl
theorem yx (hl:g.ls[k]?=some l):g.li k=l:=by unfold Th.li;rw[zM,hl];rfl
theorem Dg (ha:H.bT[H.own t]?=some A):H.eI t=A:=by unfold Hw.eI;rw[zM,ha];rfl
theorem kq (h:HS L H)(t:Nat):H.own t<H.bT.length:=uX _ (by have:=h.a1;omega)
theorem HH.BI (h:HH u P L H)(hx:L.ts[t]?=some x)(hg:H.bQ[t]?=some g):g.ls.length=H.tb.length:=by
 obtain⟨G,_,a,_⟩:=h.qa hx hg;exact a.len
theorem ID (ha:H.bT[k]?=some A):H.cG k A=H:=by unfold Hw.cG;rw[QG ha]
theorem WoF (l:List Nat):ints l=Wu (l.map λ(x:Nat)=>(x:Int)):=by simp[ints,Wu]
theorem CB (f:cD->Li->List Int×Li)(tb:List cD)(ls:List Li):(KI f tb ls).length<=tb.length:=by
 unfold KI;exact zP (List.length_filterMap_le _ _) aA
theorem HH.ov (h:HH u P L H):H.tb.length<=40:=by
 obtain⟨x,g,b,a⟩:=h.th (t:=0) h.s.t1;obtain⟨G,_,d,_⟩:=h.qa b a;exact d.lA
theorem Mo {s:Sl}{b o:Nat}(ha:s.a=some ⟨b,o,none⟩)(hl:0<s.len){K:Addr->Prop}(hK:K ⟨b,o+0,none⟩):Ix s.a s.len 0 1 K:=by
 rw[ha];exact ix (wK _) O (by rw[add_lit];exact hK)
theorem M0 {s:Sl}{ps:List (Nat×Sl)}{G:Rg}(h:cS s 2 (fO ps) U G)(hl:s.len<=1000000){R:Sl->Hp->Prop}(hR:∀s' σ',s'.len=s.len->aG U σ'->bR s' 2 (fO ps) σ' (λb=>U.size<=b)->R s' σ'):Wr.c s U R:=by
 refine Wr.o ?_;unfold Wr.v;exact yc h O rfl Ga O hl hR
def ve (H:Hw)(t:Nat):Ph->Prop
 | .take k=>k<H.tb.length/\∀y l,KJ (H.cls k) ((H.kr t).li k)=(some y,l)->iz y
 | .cN k _=>k<H.tb.length/\(Qq (H.eI t) (k:Int)=0->YQ (H.eI t) (k:Int)≠[])
 | .cP _ _=>True
 | .grow _ _=>True
 | .fill=>∃k x xs r,(H.kr t).bP=(k,x::xs)::r/\k<H.tb.length/\iz x/\((H.kr t).li k).os.length+xs.length<=256
 | .eN m=>Qo (H.eI t) H.sp (m:Int) 1<=1000000
 | .find x=>iz x/\(cB H.live x=none->∀A∈H.bT,gY A)/\∀b,cB H.live x=some b->0<=x
 | .put k _=>k<H.tb.length/\(H.kr t).bP≠[]
 | .back=>∃k xs r,(H.kr t).bP=(k,xs)::r/\(∀x∈xs,iz x/\0<=Ye H.bT x)/\xs.length<=1000000
 | .dG _ a=>0<=a/\a.toNat<H.bT.length/\∀A∈H.bT,∀r∈A.runs,r.1<=1000000
 | .drain=>True
def O4 (U:Hp)(F:Rg)(L:dS)(o:tv)(R:Value->Int->Int->Hp->Prop):Prop:=∀σ' ts',Ext F U σ'->HH σ' (Grow F U) {L with ts:=ts'} o.1->R (j9 o.2.1) o.2.2.1 o.2.2.2 σ'
set_option maxRecDepth 8000 in
theorem Nk (hso:HQ)(h:HH U F L H)(ht:t<H.bQ.length)(p:Ph)(hp:ve H t p)(hlen:∀g,H.bQ[t]?=some g->g.bP.length<=900){R:Value->Int->Int->Hp->Prop}(hR:O4 U F L (Wv H t p) R) :
 ZC.c (aW L.p) (t:Int) (j9 (some p)) U R:=by
 refine ZC.o ?_;unfold ZC.v;have hlen':∀g,H.bQ[t]?=some g->g.bP.length<=1000:=λg hg=>by have:=hlen g hg;omega
 refine nw (cs:=[.int .i64 0,.int .i64 0]) λv hz e i=>?_;have K1:=(HK.start h).box e hz;obtain⟨x,g,E,hg⟩:=h.th ht;have hlen:=hlen g hg;have htg:=sk hg;have hol:=kq h.s t;obtain⟨A,hA⟩:∃A,H.bT[H.own t]?=some A:=⟨_,cQ hol⟩;have hAe:=Dg hA;obtain⟨Y,hY,_,_⟩:=h.ar hA;refine bO (K1.h.hd.rS rfl ?_);refine A4 K1.h.ky K1.h.s.ts E hg (d:=0) O rfl λtb0 to0 ha _=>?_;have hS1:nJ (λu=>u=v) L H.tb:=λm hm=>by cases hm;exact⟨_,L.ts,H,K1.h,rfl⟩
 refine⟨λu=>u=v,rfl,bO (hS1.eT (FJ K1.h t ⟨rfl,K1.h.rA hY ⟨rfl,?_⟩⟩))⟩;refine tU (λw=>∃P ts',HK F U (λb=>False\/b=U.size) w P {L with ts:=ts'} (Wv H t p).1/\bY w U.size [.int .i64 0,.int .i64 0]/\(Wv H t p).2=(none,0,0)) (λw ⟨P,ts',K,hbw,W⟩=>?_) λJ hJ=>?_
 ·refine gX (n:=U.size) K (.inr rfl) hbw λw' K'=>?_;have:=hR w' ts' K'.e (K'.fin h);rw[W]at this;exact this
 cases p with
 | take k=>
  obtain⟨hk,hy9⟩:k<H.tb.length/\∀y l,KJ (H.cls k) ((H.kr t).li k)=(some y,l)->iz y:=hp;obtain⟨c,hc⟩:∃c,H.tb[k]?=some c:=⟨_,cQ hk⟩;have hll:=h.BI E hg;obtain⟨l,hl⟩:∃l,g.ls[k]?=some l:=⟨_,cQ (by rw[hll];exact hk)⟩;have hce:=UL hc;have hle:=yx hl;rw[hce,htg,hle]at hy9;refine C9 (nw (cs:=[.int .i64 0]) λv5 M X N=>?_);have K5:=K1.box X M;refine N.s0 aA λv6 o6 hb6=>?_;have K6:=K5.own o6 (.inr rfl);have C:=Wm o6 (X.bX i id) O;refine⟨λu=>u=v6,rfl,bO ⟨some ⟨x.c.p,0,none⟩,λu V=>by cases V;exact K6.h.tc E hg ha O rfl,⟨(k:Int),λu V=>by cases V;rw[add_lit,hb6.cell];rfl,?_⟩⟩⟩;refine PY K6.h E hg hc hl λv7 ts7 Z h7=>?_;have K7:=K6.to Z h7 λb _ i=>i;have hb7:=K6.cX Z hb6 (.inr rfl);have B:=K6.cX Z C (.inl (.inr rfl));cases htk:KJ c l with
  | mk o l'=>
  rw[htk]at h7 K7;cases o with
  | some y=>
   have W:Wv H t (.take k)=(Ub (H.dZ t g (g.ls.set k l')) y (c.size:Int) (k:Int),none,y,0):=by
    simp only[Wv,hce,htg,hle,htk,ZQ hg];rfl
   rw[W]at hR;have hS2:nJ (λu=>(∃P ts H',HH u P {L with ts:=ts} H'/\H'.tb=H.tb)/\bY u v.size [.int .i64 (k:Int)]) L H.tb:=λm hm=>hm.1;refine cJ rfl ⟨λu=>(∃P ts H',HH u P {L with ts:=ts} H'/\H'.tb=H.tb)/\bY u v.size [.int .i64 (k:Int)],⟨⟨_,_,_,K7.h,rfl⟩,hb7⟩,bO (hS2.cH ⟨(k:Int),λu V=>by rw[add_lit,V.2.cell];rfl,?_⟩)⟩;refine nJ.rC (L:={L with ts:=ts7}) (H:=H.dZ t g (g.ls.set k l')) hS2 K7.h hc ⟨(k:Int),λu V=>by rw[add_lit,V.2.cell];rfl,?_⟩;refine CI K7.h y (c.size:Int) (k:Int) (hy9 y l' htk) λv8 e8 h8=>?_;have K8:=K7.to e8 h8 λb _ i=>.inl i;refine⟨⟨⟨_,_,_,h8,rfl⟩,K7.cX e8 hb7 (.inr rfl)⟩,?_⟩;exact gX (n:=U.size) K8 (.inl (.inr rfl)) (K7.cX e8 B (.inl (.inr rfl))) λw' K'=>hR w' ts7 K'.e (K'.fin h)
  | none=>
   have W:Wv H t (.take k)=(H.dZ t g (g.ls.set k l'),some (.cN k (qd c l')),0,0):=by
    simp only[Wv,hce,htg,hle,htk,ZQ hg];rfl
   rw[W]at hR;have htlt:=(cV.1 hg).1;have hklt:=(cV.1 hl).1;have hg7:(H.dZ t g (g.ls.set k l')).bQ[t]?=some {g with ls:=g.ls.set k l'}:=by simp[Hw.dZ,htlt]
   obtain⟨x7,g7,hx7,_⟩:=K7.h.th (t:=t) (by simp[Hw.dZ,htlt]);have hl7:({g with ls:=g.ls.set k l'}:Th).ls[k]?=some l':=by simp[hklt]
   refine bZ rfl ⟨λu=>u=v7,rfl,bO ⟨some ⟨x7.c.p,0,none⟩,λu V=>by cases V;exact K7.h.tc hx7 hg7 ha O rfl,⟨(k:Int),λu V=>by cases V;rw[add_lit,hb7.cell];rfl,?_⟩⟩⟩;refine MF K7.h hx7 hg7 hc hl7 λv8 ts8 e8 h8=>?_;have K8:=K7.to e8 h8 λb _ i=>i;refine(K7.cX e8 hb7 (.inr rfl)).rI rfl ?_;exact gX (n:=U.size) K8 (.inl (.inr rfl)) (K7.cX e8 B (.inl (.inr rfl))) λw' K'=>hR w' ts8 K'.e (K'.fin h)
 | cN k w=>
  obtain⟨hk,hne0⟩:k<H.tb.length/\(Qq (H.eI t) (k:Int)=0->YQ (H.eI t) (k:Int)≠[]):=hp;rw[hAe]at hne0;obtain⟨c,hc⟩:∃c,H.tb[k]?=some c:=⟨_,cQ hk⟩;have hce:=UL hc;refine lO aB (vI (nw (cs:=[.int .i64 0,.int .i64 0]) λv5 M X N=>?_));have K5:=K1.box X M;refine N.s1 aA λv5b o5 b5=>b5.s1 aA λv6 o6 b6=>?_;have K6:=(K5.own o5 (.inr rfl)).own o6 (.inr rfl);have S:U.size≠v.size:=by omega
  have C:=Wm o6 (Wm o5 (X.bX i id) S) S;refine tU (λu=>(∃P',HK F U (λb=>(False\/b=U.size)\/b=v.size) u P' L H)/\bY u U.size [.int .i64 0,.int .i64 0]/\bY u v.size [.int .i64 (k:Int),.int .i64 (w:Int)]/\Wv H t (.cN k w)=(H,some (.cP k w),0,0)) (λu ⟨⟨P',K⟩,hbw,hbx,W⟩=>?_) λJ1 hJ1=>?_
  ·rw[W]at hR;exact hbx.rI rfl (hbx.rI rfl (gX (n:=U.size) K (.inl (.inr rfl)) hbw λw' K'=>hR w' L.ts K'.e (K'.fin h)))
  ·refine b6.rI rfl (bO (K6.h.hd.rS rfl (b6.rI rfl (r8 K6.h.iW hc (d:=2) O ?_))));simp only[zA (show ¬(2=0) by omega),zA (show ¬(2=1) by omega)];refine cU (λheq=>b6.rI rfl ?_) λhne'=>hJ1 v6 ⟨⟨_,K6⟩,C,b6,?_⟩
   ·have heq':w=c.batch:=by simp only[za]at heq;omega
    refine MZ K6.h hA hY (k:Int) λs v7 Q Z hQ hs7 hcap h7=>?_;have K7:=K6.to Z h7 λb _ i=>i.1;have b7:=K6.cX Z b6 (.inr rfl);have B:=K6.cX Z C (.inl (.inr rfl));refine cU (λh0=>b7.rI rfl ?_) λhn0=>?_
    ·have h0':Qq A (k:Int)=0:=by simpa using h0
     have W:Wv H t (.cN k w)=(Kl (H.cG (H.own t) (ZV A (k:Int))) t k (YQ A (k:Int)),some .fill,0,0):=by
      simp only[Wv,hce,hAe,heq',h0',zT]
     rw[W]at hR;refine y9 K7.h (t:=t) ht k hs7 hcap (hne0 h0') (λb _ z E=>E.1.2 z) (K6.h.o.sub hQ) (λz=>K6.h.o2 (hQ _ z)) hlen' λv8 ts8 e8 h8=>?_;have K8:=K7.sS e8 h8 λb i z=>by
      rcases z with z|z
      ·exact z.imp id .inl
      ·exact .inr (.inr ⟨(K6.p b (hQ b z)).1,(K6.p b (hQ b z)).2.1⟩)
     exact gX (n:=U.size) K8 (.inl (.inr rfl)) (K7.cX e8 B (.inl (.inr rfl))) λw' K'=>hR w' ts8 K'.e (K'.fin h)
    ·have hn0':Qq A (k:Int)≠0:=by simpa using hn0
     have hsame:ZV A (k:Int)=A:=by unfold ZV;rw[zA hn0']
     rw[hsame,ID hA]at K7;refine hJ1 v7 ⟨⟨_,K7⟩,B,b7,?_⟩;simp only[Wv,hce,hAe,heq',zA hn0',zT]
   ·have hne2:w≠c.batch:=λe=>by rw[e]at hne';simp at hne'
    simp only[Wv,hce,zA hne2]
 | cP k w=>
  refine lO aB (jH aB (vI (nw (cs:=[.int .i64 0,.int .i64 0]) λv5 M X N=>?_)));have K5:=K1.box X M;refine N.s1 aA λv5b o5 b5=>b5.s1 aA λv6 o6 b6=>?_;have K6:=(K5.own o5 (.inr rfl)).own o6 (.inr rfl);have S:U.size≠v.size:=by omega
  have C:=Wm o6 (Wm o5 (X.bX i id) S) S;refine b6.rI rfl (b6.rI rfl (TI K6.h hA hY (k:Int) (w:Int) λs v7 Q Z hQ hs7 h7=>?_));have K7:=K6.to Z h7 λb _ i=>i.1;have b7:=K6.cX Z b6 (.inr rfl);have B:=K6.cX Z C (.inl (.inr rfl));have hsl:s.len=(Yy A (k:Int) (w:Int)).length:=by have:=hs7.1;simp[ints]at this;omega
  by_cases hemp:Yy A (k:Int) (w:Int)=[]
  ·have W:Wv H t (.cP k w)=(H.cG (H.own t) (YU A (k:Int) (w:Int)),some (.grow k w),0,0):=by
    simp only[Wv,hAe,zB hemp]
   rw[W]at hR;refine dR (by rw[hsl,hemp];simp) (b7.rI rfl (b7.rI rfl ?_));exact gX (n:=U.size) K7 (.inl (.inr rfl)) B λw' K'=>hR w' L.ts K'.e (K'.fin h)
  ·have W:Wv H t (.cP k w)=(Kl (H.cG (H.own t) (YU A (k:Int) (w:Int))) t k ((Yy A (k:Int) (w:Int)).map λ(x:Nat)=>(x:Int)),some .fill,0,0):=by
    simp only[Wv,hAe,zA hemp]
   rw[W]at hR;have hpos:=qo.2 hemp;refine jt (by rw[hsl];omega) (b7.rI rfl ?_);have hs7':=bR.fM hs7;rw[WoF]at hs7';have hz6:=K6.e.1;refine y9 K7.h (t:=t) ht k hs7' (bR.oc hs7) (by simpa using hemp) (λb _ z E=>E.1.2 z) (K6.o.1.sub λb i=>by have:=hQ b i;omega) (λz=>K6.o.2 (by have:=hQ _ z;omega)) hlen' λv8 ts8 e8 h8=>?_;have K8:=K7.sS e8 h8 λb i z=>by
    rcases z with z|z
    ·exact z.imp id .inl
    ·have:=hQ b z;exact .inr (.inr ⟨.inr O,λhB=>by have:=(K6.b b hB).2;omega⟩)
   exact gX (n:=U.size) K8 (.inl (.inr rfl)) (K7.cX e8 B (.inl (.inr rfl))) λw' K'=>hR w' ts8 K'.e (K'.fin h)
 | grow k w=>
  refine lO aB (jH aB (jH aB (vI (nw (cs:=[.int .i64 0,.int .i64 0]) λv5 M X N=>?_))));have K5:=K1.box X M;refine N.s1 aA λv5b o5 b5=>b5.s1 aA λv6 o6 b6=>?_;have K6:=(K5.own o5 (.inr rfl)).own o6 (.inr rfl);have S:U.size≠v.size:=by omega
  have C:=Wm o6 (Wm o5 (X.bX i id) S) S;refine b6.rI rfl (Pe K6.h hA hY (k:Int) λv7 Z h7=>?_);have K7:=K6.to Z h7 λb _ i=>i;have b7:=K6.cX Z b6 (.inr rfl);have B:=K6.cX Z C (.inl (.inr rfl));refine cU (λhn0=>?_) λh0=>?_
  ·have hn0':Vr A H.sp (k:Int)≠0:=by simpa using hn0
   have W:Wv H t (.grow k w)=({H.cG (H.own t) (cR A H.sp (k:Int)).1 with sp:=(cR A H.sp (k:Int)).2},none,0,Vr A H.sp (k:Int)):=by
    simp only[Wv,hAe,zA hn0']
   rw[W]at hR;exact gX (n:=U.size) K7 (.inl (.inr rfl)) B λw' K'=>hR w' L.ts K'.e (K'.fin h)
  ·have h0':Vr A H.sp (k:Int)=0:=by simpa using h0
   have W:Wv H t (.grow k w)=({H.cG (H.own t) (cR A H.sp (k:Int)).1 with sp:=(cR A H.sp (k:Int)).2},some (.cP k w),0,0):=by
    simp only[Wv,hAe,zB h0']
   rw[W]at hR;refine b7.rI rfl (b7.rI rfl ?_);exact gX (n:=U.size) K7 (.inl (.inr rfl)) B λw' K'=>hR w' L.ts K'.e (K'.fin h)
 | fill=>
  obtain⟨k,y,ys,r,hh,hk,hy9,hfit⟩:∃k x xs r,(H.kr t).bP=(k,x::xs)::r/\k<H.tb.length/\iz x/\((H.kr t).li k).os.length+xs.length<=256:=hp;rw[htg]at hh hfit;obtain⟨c,hc⟩:∃c,H.tb[k]?=some c:=⟨_,cQ hk⟩;have hll:=h.BI E hg;obtain⟨l,hl⟩:∃l,g.ls[k]?=some l:=⟨_,cQ (by rw[hll];exact hk)⟩;have hce:=UL hc;have hle:=yx hl;rw[hle]at hfit;refine lO aB (jH aB (jH aB (jH aB (AN (nw (cs:=[]) λv5 M X N=>?_)))));have K5:=K1.box X M;have hbv5:=X.bX i id;obtain⟨G,D,hG,hD,hd,aa,hr,hput⟩:=K5.h.wh (λb i=>(K5.p b i).2.2) E hg (λ_=>False) (λb _ _ z=>z) (K5.o.1.sub λb i=>i.elim) (λz=>z);rw[hh]at aa;obtain⟨so,ps,Dn,hrow,hso1,hcap,hBr,hDn,hj,S,hxne⟩:=aa.mX;have hz5':=K5.e.1;have hsol:so.len=ys.length+1:=by have:=hso1.1;simp[Wu]at this;omega
  refine bO (nR (K5.h.tc E hg ha (d:=1) O rfl) (JM (dL.fM hrow) λa ha0 ha1=>nL ha0 (nR ha1 ?_)));refine nw (cs:=[.int .i64 0,.slice none 0 0]) λv43 hz43 e43 hb43=>hb43.s1 aA λv44 o44 b44=>b44.s1 aA λv45 o45 b45=>?_;have e45:aG v5 v45:=(e43.only o44 (.inr (zC _))).only o45 (.inr (zC _));have hz45:v5.size<v45.size:=b45.lt;refine bO (hput v45 ⟨none,0,0⟩ [] (λ_=>False) (aG.to e45) (λb i=>i.elim) (gC.nil _ _ _) ha λv46 e46 h46=>?_);have hz46:=e46.1;have e546:Ext _ v5 v46:=(aG.to e45).trans (e46.sub hD);have K46:=K5.to e546 h46 λb _ z=>by
   rcases z with z|z
   ·exact .inl z.1
   ·exact z.1.elim
  have hbv46:=K5.cX e546 hbv5 (.inl (.inr rfl));have b46:bY v46 v5.size _:=e46.bX b45 λE=>by have:=(K5.p _ (hD _ E)).2.2;omega
  have K46b:=K46.xj (B':=λb=>b=v5.size) λb i=>⟨O,O,λE=>by
   subst i;rcases E.1 with h1|h1
   ·have:=(K5.p _ h1.1).2.2;omega
   ·exact h1.1⟩
  have hso46:=aH.bV (aH.aF (aH.cut hso1) e45) e46 λb _ i E=>hd b (hDn b i.1.1) E;have hXn:∀b,(Dn b/\lg so b)/\b<v5.size->¬Cut (λb=>(Cut F U b/\¬G b)\/False/\b<v45.size) v46 b:=λb i E=>by
   rcases E.1 with h1|h1
   ·exact h1.2 (hDn b i.1.1)
   ·exact h1.1
  have hg46:({H with bQ:=H.bQ.set t {g with bP:=[]}}:Hw).bQ[t]?=some {g with bP:=[]}:=by simp[ht]
  have hx46:(L.ts.set t {x with h:=⟨none,0,0⟩})[t]?=some {x with h:=⟨none,0,0⟩}:=zK (cV.1 E).1;refine bO (tN (K46b.h.tc hx46 hg46 ha (d:=0) O rfl) (b46.rI rfl (b46.rS (a:=so.a) (n:=so.len) (c:=so.cap) rfl (jI (lo:=1) (by show 1<=so.len;omega) hcap (zC _) ?_))));have hsub:=cS.sub hso46 (lo:=1) (hi:=so.len) (mx:=so.cap) O (zC _) hcap;have hsx:((Wu (y::ys)).drop (1*1)).take ((so.len-1)*1)=Wu ys:=by
   rw[l0 (by simp[Wu];omega)];rfl
  rw[hsx]at hsub;have hl46:({g with bP:=[]}:Th).ls[k]?=some l:=hl;refine N3 K46b.h hx46 hg46 hc hl46 hsub hXn hfit λv47 ts47 e47 h47=>?_;have K47:=K46b.to e47 h47 λb _ i=>i;have hso47:=aH.bV hso46 e47 λb _ i E=>hXn b i E;have b47:=K46b.cX e47 b46 (.inr rfl);have hbv47:=K46b.cX e47 hbv46 (.inl (.inl (.inr rfl)));have W:Wv H t .fill=(Ub {H with bQ:=H.bQ.set t {g with ls:=g.ls.set k (eM ys.reverse l),bP:=[]}} y (c.size:Int) (k:Int),none,y,0):=by
   simp only[Wv,htg,hh,ZQ hg,hle,hce]
  rw[W]at hR;obtain⟨b0,o0,ha0',hc0⟩:=hso47.cell (j:=0) (v:=.int .i64 y) rfl;have hS4:nJ (λu=>((∃P ts H',HH u P {L with ts:=ts} H'/\H'.tb=H.tb)/\bY u v5.size [.int .i64 (k:Int),.slice so.a so.len so.cap])/\cell u ⟨b0,o0+0,none⟩=some (.int .i64 y)) L H.tb:=λm hm=>hm.1.1;refine⟨λu=>((∃P ts H',HH u P {L with ts:=ts} H'/\H'.tb=H.tb)/\bY u v5.size [.int .i64 (k:Int),.slice so.a so.len so.cap])/\cell u ⟨b0,o0+0,none⟩=some (.int .i64 y),⟨⟨⟨_,_,_,K47.h,rfl⟩,b47⟩,hc0⟩,⟨so,λu V=>by rw[add_lit,V.1.2.cell];rfl,?_⟩⟩;refine Mo ha0' O ⟨y,λu V=>V.2,bO (hS4.cH ⟨(k:Int),λu V=>by rw[add_lit,V.1.2.cell];rfl,?_⟩)⟩;refine nJ.rC (L:={L with ts:=ts47}) (H:=Hw.dZ {H with bQ:=H.bQ.set t {g with bP:=[]}} t {g with bP:=[]} (g.ls.set k (eM ys.reverse l))) hS4 K47.h hc ⟨(k:Int),λu V=>by rw[add_lit,V.1.2.cell];rfl,?_⟩;refine CI K47.h y (c.size:Int) (k:Int) hy9 λv48 e48 h48=>?_;have K48:=K47.to e48 h48 λb _ i=>.inl i;have hz4747:=e47.1;have hso48:=aH.bV hso47 e48 λb _ i E=>by
   rcases E.1 with h1|h1
   ·exact hXn b i h1
   ·have:=i.2;omega
  refine⟨⟨⟨⟨_,_,_,h48,rfl⟩,K47.cX e48 b47 (.inr rfl)⟩,?_⟩,?_⟩
  ·obtain⟨b1,o1,ha1',hc1⟩:=hso48.cell (j:=0) (v:=.int .i64 y) rfl;rw[ha0']at ha1';cases ha1';exact hc1
  ·have K49:=K48;simp only[Hw.dZ,oJ]at K49;exact gX (n:=U.size) K49 (.inl (.inl (.inr rfl))) (K47.cX e48 hbv47 (.inl (.inl (.inr rfl)))) λw' K'=>hR w' ts47 K'.e (K'.fin h)
 | eN m=>
  have hp:Qo (H.eI t) H.sp (m:Int) 1<=1000000:=hp;rw[hAe]at hp;refine lO aB (jH aB (jH aB (jH aB (rQ aB (C9 (nw (cs:=[.int .i64 0]) λv5 M X N=>?_))))));have K5:=K1.box X M;refine N.s0 aA λv6 o6 b6=>?_;have K6:=K5.own o6 (.inr rfl);have C:=Wm o6 (X.bX i id) O;refine b6.rI rfl (Oy K6.h hA hY (m:Int) 1 λv7 Z h7=>?_);have K7:=K6.to Z h7 λb _ i=>i;have b7:=K6.cX Z b6 (.inr rfl);have B:=K6.cX Z C (.inl (.inr rfl));refine cU (λhn0=>?_) λh0=>?_
  ·have hn0':QS A H.sp (m:Int) 1≠0:=by simpa using hn0
   have W:Wv H t (.eN m)=({H.cG (H.own t) (cE A H.sp (m:Int) 1).1 with sp:=(cE A H.sp (m:Int) 1).2},none,0,QS A H.sp (m:Int) 1):=by
    simp only[Wv,hAe,zA hn0']
   rw[W]at hR;exact gX (n:=U.size) K7 (.inl (.inr rfl)) B λw' K'=>hR w' L.ts K'.e (K'.fin h)
  ·have h0':QS A H.sp (m:Int) 1=0:=by simpa using h0
   have hm:m<=64:=by
    unfold QS at h0';split at h0'
    ·rename_i hpo;simp only[KO,zF,zU]at hpo;omega
    ·omega
   have W:Wv H t (.eN m)=(Ub {H.cG (H.own t) (cE A H.sp (m:Int) 1).1 with sp:=(cE A H.sp (m:Int) 1).2} ((Qo A H.sp (m:Int) 1*256:Nat):Int) ((m*256:Nat):Int) (-1),none,((Qo A H.sp (m:Int) 1*256:Nat):Int),0):=by
    simp only[Wv,hAe,zB h0']
   rw[W]at hR;refine cC (m:=Qo A H.sp (m:Int) 1*256) O O (b7.rI rfl (cC (m:=m*256) O O ?_));refine CI K7.h _ _ _ O λv8 e8 h8=>?_;have K8:=K7.to e8 h8 λb _ i=>.inl i;exact gX (n:=U.size) K8 (.inl (.inr rfl)) (K7.cX e8 B (.inl (.inr rfl))) λw' K'=>hR w' L.ts K'.e (K'.fin h)
 | find x=>
  obtain⟨hx9,hro,hlv⟩:iz x/\(cB H.live x=none->∀A∈H.bT,gY A)/\∀b,cB H.live x=some b->0<=x:=hp;refine lO aB (jH aB (jH aB (jH aB (rQ aB (lO aB (C9 (nw (cs:=[.int .i64 0]) λv5 M X N=>?_)))))));have K5:=K1.box X M;refine N.s0 aA λv6 o6 b6=>?_;have K6:=K5.own o6 (.inr rfl);have C:=Wm o6 (X.bX i id) O;refine b6.rI rfl (N5 K6.h ht x hx9 hro hlen' hlv λv7 ts7 Z h7=>?_);have K7:=K6.to Z h7 λb _ i=>i;have B:=K6.cX Z C (.inl (.inr rfl));exact gX (n:=U.size) K7 (.inl (.inr rfl)) B λw' K'=>hR w' ts7 K'.e (K'.fin h)
 | put k y=>
  obtain⟨hk,hne0⟩:k<H.tb.length/\(H.kr t).bP≠[]:=hp;rw[htg]at hne0;obtain⟨c,hc⟩:∃c,H.tb[k]?=some c:=⟨_,cQ hk⟩;have hll:=h.BI E hg;obtain⟨l,hl⟩:∃l,g.ls[k]?=some l:=⟨_,cQ (by rw[hll];exact hk)⟩;have hce:=UL hc;have hle:=yx hl;refine lO aB (jH aB (jH aB (jH aB (rQ aB (lO aB (lO aB (vI (nw (cs:=[.int .i64 0,.int .i64 0]) λv5 M X N=>?_))))))));have K5:=K1.box X M;refine N.s1 aA λv5b o5 b5=>b5.s1 aA λv6 o6 b6=>?_;have K6:=(K5.own o5 (.inr rfl)).own o6 (.inr rfl);have S:U.size≠v.size:=by omega
  have C:=Wm o6 (Wm o5 (X.bX i id) S) S;generalize hgg:(if(dM c y l).1=[]then({g with ls:=g.ls.set k (dM c y l).2}:Th)else{g with ls:=g.ls.set k (dM c y l).2,bP:=g.bP++[(k,(dM c y l).1)]})=g2
  have hg2n:g2.bP≠[]/\g2.bP.length<=901:=by
   rw[←hgg];split
   ·exact⟨hne0,by simp;omega⟩
   ·exact⟨by simp,by simp;omega⟩
  refine tU (λw=>∃P ts',HK F U (λb=>(False\/b=U.size)\/b=v.size) w P {L with ts:=ts'} {H with bQ:=H.bQ.set t g2}/\bY w U.size [.int .i64 0,.int .i64 0]) (λw ⟨P,ts2,K,hbw⟩=>?_) λJ2 hJ2=>?_
  ·have hg3:({H with bQ:=H.bQ.set t g2}:Hw).bQ[t]?=some g2:=by simp[ht]
   obtain⟨x2,_,hx2,_⟩:=K.h.th (t:=t) (by simpa using ht);obtain⟨G,D,hG,hD,hd,aa,hr,hput⟩:=K.h.wh (λb i=>(K.p b i).2.2) hx2 hg3 (λ_=>False) (λb _ _ z=>z) (K.o.1.sub λb i=>i.elim) (λz=>z);have hbl:=aa.len;have hbc:=aa.cap;obtain⟨b0,r0,hbr⟩:∃b r,g2.bP=b::r:=by
    cases hh:g2.bP with
    | nil=>exact absurd hh hg2n.1
    | cons b r=>exact⟨b,r,rfl⟩
   have m6:g2.bP.drop 1=r0:=by rw[hbr];rfl
   rw[hbr]at aa;have hpos:1<=x2.h.len:=by rw[hbl,hbr];simp
   refine bO (nR (K.h.tc hx2 hg3 ha (d:=1) O rfl) ?_);refine jI (lo:=1) hpos hbc (zC _) ?_;refine bO (hput w _ _ G (Ext.refl _ _) (λb i=>.inl i) aa.l9 ha λw1 e1 h1=>?_);have e1':=e1.sub hD;have K1b:=K.to e1' h1 λb _ z=>by
    rcases z with z|z
    ·exact .inl z.1
    ·exact .inl (hG b z.1)
   have hbw1:=K.cX e1' hbw (.inl (.inr rfl));have K3:=K1b;simp only[oJ]at K3;generalize hg3':({g2 with bP:=r0}:Th)=g3 at K3;have hl3:g3.bP=r0/\g3.ls=g2.ls:=by rw[←hg3'];exact⟨rfl,rfl⟩
   have hr0:r0.length<=900:=by have:=hg2n.2;rw[hbr]at this;simp at this;omega
   have hg3e:({H with bQ:=H.bQ.set t g3}:Hw).bQ[t]?=some g3:=by simp[ht]
   have hpe:iJ H t k y=(if H.cf.cT<KA H.tb g3.ls then{H with bQ:=H.bQ.set t {g3 with ls:=KE Vp H.tb g3.ls,bP:=g3.bP++KI Vp H.tb g3.ls}}else{H with bQ:=H.bQ.set t g3}):=by
    have e2:(if(dM c y l).1=[]then H.eC t λh=>h.iP k (dM c y l).2 else Kl (H.eC t λh=>h.iP k (dM c y l).2) t k (dM c y l).1) = {H with bQ:=H.bQ.set t g2}:=by
     rw[←hgg];split
     ·rw[ZQ hg];rfl
     ·rw[ZQ hg];unfold Kl Hw.eC;simp only;rw[VF (t:=g.iP k (dM c y l).2) (by simp[ht]),oJ];rfl
    have e3:({H with bQ:=H.bQ.set t g2}:Hw).eC t (λh=>{h with bP:=h.bP.drop 1}) = {H with bQ:=H.bQ.set t g3}:=by
     rw[ZQ hg3];simp only[oJ,m6,hg3']
    unfold iJ;simp only[hce,htg,hle,e2,e3,sk hg3e,ZQ hg3e,oJ]
   have hx3:(ts2.set t {x2 with h:=⟨if x2.h.cap=1 then x2.h.a else x2.h.a.map (·.add (1*2)),x2.h.len-1,x2.h.cap-1⟩})[t]?=some {x2 with h:=⟨if x2.h.cap=1 then x2.h.a else x2.h.a.map (·.add (1*2)),x2.h.len-1,x2.h.cap-1⟩}:=zK (cV.1 hx2).1
   generalize hx3':({x2 with h:=⟨if x2.h.cap=1 then x2.h.a else x2.h.a.map (·.add (1*2)),x2.h.len-1,x2.h.cap-1⟩}:dQ)=x3 at hx3 K3
   generalize ts2.set t x3=ts3 at hx3 K3;refine tU (λw=>∃P ts',HK F U (λb=>(False\/b=U.size)\/b=v.size) w P {L with ts:=ts'} (iJ H t k y)/\bY w U.size [.int .i64 0,.int .i64 0]) (λw ⟨P,ts',K,hbw⟩=>?_) λJ3 hJ3=>?_
   ·have W:Wv H t (.put k y)=(iJ H t k y,kj (iJ H t k y) t,0,0):=rfl;rw[W]at hR;refine Uv K.h (t:=t) ?_ ?_
    ·rw[hpe];split<;>simpa using ht
    ·exact gX (n:=U.size) K (.inl (.inr rfl)) hbw λw' K'=>hR w' ts' K'.e (K'.fin h)
   ·refine bO (tN (K3.h.tc hx3 hg3e ha (d:=0) O rfl) ?_);refine SQ K3.h hx3 hg3e λv10 e10=>?_;have K10:=K3.fr e10;have hbw10:=e10.bX hbw1 id;refine cL (λhov=>?_) λhno=>hJ3 v10 ⟨_,ts3,by rw[hpe,zA hno];exact K10,hbw10⟩;refine⟨λu=>cell u (Addr.add ⟨tb0,to0+3*t,none⟩ 1)=some (.slice x3.h.a x3.h.len x3.h.cap)/\cell u (Addr.add ⟨tb0,to0+3*t,none⟩ 0)=some (.pointer (some ⟨x3.c.p,0,none⟩)),⟨K10.h.tc hx3 hg3e ha (d:=1) O rfl,K10.h.tc hx3 hg3e ha (d:=0) O rfl⟩,bO ⟨x3.h,λu V=>V.1,bO ⟨some ⟨x3.c.p,0,none⟩,λu V=>V.2,?_⟩⟩⟩;refine MY hso K10.h hx3 hg3e λv11 s Q e11 hQ hB h11=>?_;have K11:=K10.to e11 h11 λb _ i=>i.1;have hbw11:=K10.cX e11 hbw10 (.inl (.inr rfl));have hg11:(Hw.dZ {H with bQ:=H.bQ.set t g3} t g3 (KE Vp H.tb g3.ls)).bQ[t]?=some {g3 with ls:=KE Vp H.tb g3.ls}:=by simp[Hw.dZ,ht]
    refine⟨⟨K11.h.tc hx3 hg11 ha (d:=1) O rfl,K11.h.tc hx3 hg11 ha (d:=0) O rfl⟩,?_⟩;have hz0:=K10.e.1;obtain⟨G,D,hG,hD,hd,aa,hr,hput⟩:=K11.h.wh (λb i=>i.2) hx3 hg11 (λb=>Q b\/v11.size<=b) (λb i hP z=>z.elim (λz=>hP.1.2 z) λz=>O) (K10.o.1.sub λb i=>i.elim (λi=>by have:=hQ b i;omega) λi=>by have:=K11.e.1;omega) (λz=>K10.o.2 (z.elim (λi=>by have:=hQ _ i;omega) λi=>by have:=K11.e.1;omega));refine gC.app aa hB (λb hg z=>(hG b hg).1.2 z) ?_ λs' v12 e12 hB12=>?_
    ·have:=CB Vp H.tb g3.ls;have:H.tb.length<=40:=K3.h.ov;simp only[hl3.1];omega
    have hcell:∀{d:Nat} {w:Value},d<3->(iF (x3,({g3 with ls:=KE Vp H.tb g3.ls}:Th)))[d]?=some w->cell v12 (Addr.add ⟨tb0,to0+3*t,none⟩ d)=some w:=λhd3 hv=>by
     obtain⟨b',o',ha',hc'⟩:=UR (hr v12 e12) hx3 hg11 hd3 hv;rw[ha]at ha';cases ha';rw[add_lit,qu];exact hc'
    refine⟨⟨hcell (d:=1) O rfl,hcell (d:=0) O rfl⟩,bO (hput v12 s' _ _ e12 (λb i=>i.imp id id) hB12 ha λv13 e13 h13=>?_)⟩;have e13':=(e12.sub hG).trans (e13.sub hD);have K13:=K11.sS e13' h13 λb i z=>by
     rcases z with z|z
     ·exact .inl z.1
     ·rcases z.1 with h1|h1|h1
      ·exact .inl (hG b h1)
      ·have:=hQ b h1;exact .inr (.inr ⟨.inr O,λhB=>by have:=(K10.b b hB).2;omega⟩)
      ·exact .inr (.inl h1)
    have hbw13:=K11.cX e13' hbw11 (.inl (.inr rfl));have K14:=K13;simp only[Hw.dZ,oJ]at K14;have hpe':=hpe;rw[zB hov]at hpe';rw[hpe']at hJ3;exact hJ3 v13 ⟨_,_,K14,hbw13⟩
  ·refine⟨λu=>u=v6,rfl,bO ⟨some ⟨x.c.p,0,none⟩,λu V=>by cases V;exact K6.h.tc E hg ha (d:=0) O rfl,⟨(k:Int),λu V=>by cases V;rw[add_lit,b6.cell];rfl,⟨y,λu V=>by cases V;rw[add_lit,b6.cell];rfl,?_⟩⟩⟩⟩;refine L3 K6.h E hg hc hl y λv7 ts7 s ee Q Z hQ hs7 h7=>?_;have K7:=K6.to Z h7 λb _ i=>i.1;have b7:=K6.cX Z b6 (.inr rfl);have B:=K6.cX Z C (.inl (.inr rfl));have hsl:s.len=(dM c y l).1.length:=by have:=hs7.1;simp[Wu]at this;omega
   by_cases hemp:(dM c y l).1=[]
   ·rw[zB hemp]at hgg;rw[←hgg]at hJ2;exact dR (by rw[hsl,hemp];simp) (hJ2 v7 ⟨_,ts7,K7,B⟩)
   ·rw[zA hemp]at hgg;have hpos:=qo.2 hemp;have hz6:=K6.e.1;refine jt (by rw[hsl];omega) (b7.rI rfl ?_);refine y9 K7.h (t:=t) (by simpa[Hw.dZ]using ht) k (bR.fM hs7) (bR.oc hs7) hemp (λb _ z E=>E.1.2 z) (K6.o.1.sub λb i=>by have:=hQ b i;omega) (λz=>K6.o.2 (by have:=hQ _ z;omega)) (λg' hg'=>?_) λv8 ts8 e8 h8=>?_
    ·have:(H.dZ t g (g.ls.set k (dM c y l).2)).bQ[t]?=some {g with ls:=g.ls.set k (dM c y l).2}:=by simp[Hw.dZ,ht]
     rw[this]at hg';cases hg';simp only;omega
    ·have K8:=K7.sS e8 h8 λb i z=>by
      rcases z with z|z
      ·exact z.imp id .inl
      ·have:=hQ b z;exact .inr (.inr ⟨.inr O,λhB=>by have:=(K6.b b hB).2;omega⟩)
     have e9:Kl (H.dZ t g (g.ls.set k (dM c y l).2)) t k (dM c y l).1 = {H with bQ:=H.bQ.set t g2}:=by
      rw[←hgg];unfold Kl Hw.eC Hw.dZ;simp only;rw[VF (t:={g with ls:=g.ls.set k (dM c y l).2}) (by simp[ht]),oJ]
     rw[e9]at K8;exact hJ2 v8 ⟨_,ts8,K8,K7.cX e8 B (.inl (.inr rfl))⟩
 | back=>
  obtain⟨k,xs,r,hh,hxs,hxl⟩:∃k xs r,(H.kr t).bP=(k,xs)::r/\(∀x∈xs,iz x/\0<=Ye H.bT x)/\xs.length<=1000000:=hp;rw[htg]at hh;refine lO aB (jH aB (jH aB (jH aB (rQ aB (lO aB (lO aB (jH aB (AN (nw (cs:=[]) λv5 M X N=>?_)))))))));have K5:=K1.box X M;have hbv5:=X.bX i id;obtain⟨G,D,hG,hD,hd,aa,hr,hput⟩:=K5.h.wh (λb i=>(K5.p b i).2.2) E hg (λb=>v5.size<=b) (λb i _ z=>O) K5.h.mf.1 K5.h.mf.2;have hbl:=aa.len;have hbc:=aa.cap;rw[hh]at aa;obtain⟨so,ps,Dn,hrow,hso1,hcap,hBr,hDn,hj,S,hxne⟩:=aa.mX;have hz5':=K5.e.1;refine bO (nR (K5.h.tc E hg ha (d:=1) O rfl) (JM (dL.fM hrow) λa ha0 ha1=>nL ha0 (nR ha1 ?_)));refine nw (cs:=[.int .i64 0,.slice none 0 0]) λv81 hz81 e81 hb81=>hb81.s1 aA λv82 o82 b82=>b82.s1 aA λv83 o83 b83=>?_;have e83:aG v5 v83:=(e81.only o82 (.inr (zC _))).only o83 (.inr (zC _));have hz83:v5.size<v83.size:=b83.lt;have hcell:∀{u1:Hp},Ext G v5 u1->∀{d:Nat} {w:Value},d<3->(iF (x,g))[d]?=some w->cell u1 (Addr.add ⟨tb0,to0+3*t,none⟩ d)=some w:=λhe _ _ hd3 hv=>by
   obtain⟨b',o',ha',hc'⟩:=UR (hr _ he) E hg hd3 hv;rw[ha]at ha';cases ha';rw[add_lit,qu];exact hc'
  refine bO (nR (hcell (aG.to e83) (d:=1) (w:=.slice x.h.a x.h.len x.h.cap) O rfl) ?_);have hpos:1<=x.h.len:=by rw[hbl,hh];simp
  refine jI (lo:=1) hpos hbc (zC _) ?_;have hrow':=aH.aF (aH.cut (dL.fM (hrow.from (lo:=1) hpos))) e83;have m6:(fO ((k,so)::ps)).drop (1*2)=fO ps:=rfl;rw[m6]at hrow';refine M0 hrow' aC λs' v84 hs'l e84 hs'=>?_;have hBt':gC s' r v84 (λb=>Dn b/\¬lg so b/\b<v5.size\/v83.size<=b):=by
   refine⟨ps,λb=>Dn b/\¬lg so b/\b<v5.size,(dL.loc _ _ _).mono hs'.o λb _ i=>⟨.inr i,λE=>O⟩,(kV.loc _ _).aF ((kV.loc _ _).aF ((kV.loc _ _).mono ((kV.loc _ _).cut hBr) λb _ i=>⟨i.1.1,i.1.2,i.2⟩) e83) e84,λb i=>.inl i,hj,S⟩
  have e584:aG v5 v84:=e83.trans e84;refine bO (hput v84 s' r _ (aG.to e584) (λb i=>i.elim (λi=>.inl (hDn b i.1)) λi=>.inr O) hBt' ha λv85 e85 h85=>?_);have hz84:=e84.1;have hz85:=e85.1;have e585:Ext _ v5 v85:=(aG.to e584).trans (e85.sub hD);have K85:=K5.to e585 h85 λb _ z=>by
   rcases z with z|z
   ·exact .inl z.1
   ·rcases z.1 with h1|h1
    ·exact .inl (hG b (hDn b h1.1))
    ·exact .inr O
  have hbv85:=K5.cX e585 hbv5 (.inl (.inr rfl));have b85:bY v85 v5.size _:=e85.bX (e84.bX b83 id) λE=>by have:=(K5.p _ (hD _ E)).2.2;omega
  have K85b:=K85.xj (B':=λb=>b=v5.size) λb i=>⟨O,O,λE=>by
   subst i;rcases E.1 with h1|h1
   ·have:=(K5.p _ h1.1).2.2;omega
   ·rcases h1.1 with h2|h2<;>omega⟩
  have hso5:=aH.bV (aH.aF (aH.cut hso1) e584) e85 λb _ i E=>hd b (hDn b i.1.1) E;have W:Wv H t .back=(G7 {H with bQ:=H.bQ.set t {g with bP:=r}} (H.own t) k xs,kj (G7 {H with bQ:=H.bQ.set t {g with bP:=r}} (H.own t) k xs) t,0,0):=by
   simp only[Wv,htg,hh,ZQ hg]
  rw[W]at hR;refine⟨λu=>u=v85,rfl,⟨(k:Int),λu V=>by cases V;rw[add_lit,b85.cell];rfl,⟨so,λu V=>by cases V;rw[add_lit,b85.cell];rfl,?_⟩⟩⟩;refine FJ K85b.h t ⟨rfl,OG K85b.h hol k hso5 (λb _ i E=>?_) hcap hxs hxl λv87 e87 h87=>?_⟩
  ·rcases E.1 with h1|h1
   ·exact h1.2 (hDn b i.1.1)
   ·rcases h1.1 with h2|h2
    ·exact h2.2.1 i.1.2
    ·have:=i.2;omega
  have K87:=K85b.to e87 h87 λb _ i=>i;have hbl7:(G7 {H with bQ:=H.bQ.set t {g with bP:=r}} (H.own t) k xs).bQ.length=H.bQ.length:=by
   rw[Cu];simp
  refine Uv K87.h (t:=t) (by rw[hbl7];exact ht) ?_;exact gX (n:=U.size) K87 (.inl (.inl (.inr rfl))) (K85b.cX e87 hbv85 (.inl (.inl (.inr rfl)))) λw' K'=>hR w' _ K'.e (K'.fin h)
 | dG s a=>
  obtain⟨ha0,hal,hru⟩:0<=a/\a.toNat<H.bT.length/\∀A∈H.bT,∀r∈A.runs,r.1<=1000000:=hp;obtain⟨A2,hA2⟩:∃A,H.bT[a.toNat]?=some A:=⟨_,cQ hal⟩;have hae:a=((a.toNat:Nat):Int):=by omega
  refine lO aB (jH aB (jH aB (jH aB (rQ aB (lO aB (lO aB (jH aB (rQ aB (vI (nw (cs:=[.int .i64 0,.int .i64 0]) λv5 M X N=>?_))))))))));have K5:=K1.box X M;refine N.s1 aA λv5b o5 b5=>b5.s1 aA λv6 o6 b6=>?_;have K6:=(K5.own o5 (.inr rfl)).own o6 (.inr rfl);have S:U.size≠v.size:=by omega
  have C:=Wm o6 (Wm o5 (X.bX i id) S) S;obtain⟨Y2,hY2,_,_⟩:=K6.h.ar hA2;refine bO (K6.h.hd.rS rfl (b6.rI (x:=((a.toNat:Nat):Int)) (by rw[←hae];rfl) (K6.h.rA hY2 (b6.rI rfl ?_))));refine Mj K6.h hA2 hY2 s (hru A2 (zE hA2)) λv7 Z h7=>?_;have K7:=K6.to Z h7 λb _ i=>i;have B:=K6.cX Z C (.inl (.inr rfl));have W:Wv H t (.dG s a)=(H.cG a.toNat (Q5 A2 s),none,0,0):=by
   simp only[Wv,hA2]
  refine hJ v7 ⟨_,L.ts,⟨?_,K7.e,λb i=>⟨(K7.p b i).1,λE=>(K7.p b i).2.1 (.inl E),(K7.p b i).2.2⟩,λb i=>K7.b b (.inl i),K7.o⟩,B,by rw[W]⟩;rw[W];exact K7.h
 | drain=>
  refine lO aB (jH aB (jH aB (jH aB (rQ aB (lO aB (lO aB (jH aB (rQ aB (jH aB (AN (nw (cs:=[]) λv5 M X N=>?_)))))))))));have K5:=K1.box X M;have hbv5:=X.bX i id;refine bO (tN (K5.h.tc E hg ha (d:=0) O rfl) ?_);refine RL hso K5.h E hg λv7 s Q Z hQ hB h7=>?_;have K7:=K5.to Z h7 λb _ i=>i.1;have B:=K5.cX Z hbv5 (.inl (.inr rfl));have hz0:=K5.e.1;have hg7:(H.dZ t g (KE Z6 H.tb g.ls)).bQ[t]?=some {g with ls:=KE Z6 H.tb g.ls}:=by simp[Hw.dZ,ht]
  obtain⟨G,D,hG,hD,hd,aa,hr,hput⟩:=K7.h.wh (λb i=>i.2) E hg7 Q (λb _ i z=>i.1.2 z) (K5.o.1.sub λb i=>by have:=hQ b i;omega) (λz=>K5.o.2 (by have:=hQ _ z;omega));refine bO (hput v7 s _ Q (Ext.refl _ _) (λb i=>.inr i) hB ha λv8 e8 h8=>?_);have e8':=e8.sub hD;have K8:=K7.sS e8' h8 λb _ z=>by
   rcases z with z|z
   ·exact .inl z.1
   ·have:=hQ b z.1;exact .inr (.inr ⟨.inr O,λhB=>by have:=(K5.b b hB).2;omega⟩)
  have hbv8:=K7.cX e8' B (.inl (.inr rfl));have W:Wv H t .drain=({H with bQ:=H.bQ.set t {g with ls:=KE Z6 H.tb g.ls,bP:=KI Z6 H.tb g.ls}},kj {H with bQ:=H.bQ.set t {g with ls:=KE Z6 H.tb g.ls,bP:=KI Z6 H.tb g.ls}} t,0,0):=by
   simp only[Wv,ZQ hg]
  have K9:=K8;simp only[Hw.dZ,oJ]at K9;rw[W]at hR;refine Uv K9.h (t:=t) (by simpa using ht) ?_;exact gX (n:=U.size) K9 (.inl (.inr rfl)) hbv8 λw' K'=>hR w' _ K'.e (K'.fin h)
def eO (H:Hw)(t:Nat)(p:Option Ph):Hw:=H.eC t λh=>{h with ph:=p}
theorem VZ (H:Hw)(t:Nat)(f:Th->Th):(H.eC t f).bQ.length=H.bQ.length:=by simp[Hw.eC]
theorem Me (H:Hw)(t k:Nat)(x:Int):(iJ H t k x).bQ.length=H.bQ.length:=by
 unfold iJ;simp only;split<;>split<;>simp[VZ,Kl]
theorem IL (H:Hw)(t:Nat)(p:Ph):(Wv H t p).1.bQ.length=H.bQ.length:=by
 cases p with
 | take k=>simp only[Wv];split<;>simp[Ub,VZ]
 | cN k w=>
  simp only[Wv];split
  ·split<;>simp[Kl,VZ,Hw.cG]
  ·rfl
 | cP k w=>simp only[Wv];split<;>simp[Kl,VZ,Hw.cG]
 | grow k w=>simp only[Wv];split<;>simp[Hw.cG]
 | fill=>simp only[Wv];split<;>simp[Ub,VZ]
 | eN m=>simp only[Wv];split<;>simp[Ub,Hw.cG]
 | find x=>
  simp only[Wv,HL];split
  ·rfl
  ·split<;>simp[Kl,VZ]
 | put k x=>exact Me H t k x
 | back=>simp only[Wv];split<;>simp[Cu,VZ]
 | dG s a=>simp only[Wv];split<;>simp[Hw.cG]
 | drain=>simp[Wv,VZ]
def uq (H:Hw)(t:Nat)(p:Ph):Prop:=ve H t p/\∀g,H.bQ[t]?=some g->g.bP.length<=900
def Q6 (H:Hw)(t:Nat)(p:Ph):Hw:=eO (Wv H t p).1 t (Wv H t p).2.1
theorem IV (hso:HQ)(h:HH U F L H)(hg:H.bQ[t]?=some g){p:Ph}(hp:g.ph=some p)(hok:uq H t p){R:Bool->Int->Int->Int->Hp->Prop}
 (hR:∀σ' ts',Ext F U σ'->HH σ' (Grow F U) {L with ts:=ts'} (Q6 H t p)->R (Wv H t p).2.1.isNone (Wv H t p).2.2.1 (Wv H t p).2.2.2 0 σ'):XE.c (aW L.p) (t:Int) U R:=by
 refine XE.o ?_;unfold XE.v;have D:=(cV.1 hg).1;refine nw (cs:=[.int .i64 0,.int .i64 0]) λv V e r=>?_;have K1:=(HK.start h).box e V;obtain⟨x,g',P,m⟩:=h.th D;rw[hg]at m;cases m;refine QP K1.h (bZ rfl (H5 K1.h (t:Int) (bZ (by rw[zI O];rfl) ?_)));refine bO (K1.h.hd.rS rfl (K1.h.tR P hg ?_));rw[hp];refine⟨tQ _,bZ (by rw[vY];rfl) (bO (K1.h.hd.rS rfl (K1.h.tR P hg ?_)))⟩;rw[hp];refine Nk hso K1.h D p hok.1 hok.2 λv9 K Q X=>?_;have K9:=K1.to Q X λb _ r=>r;have y:=K1.cX Q r (.inr rfl);refine nw (cs:=[.int .i64 0,.int .i64 0]) λY j A u=>?_;have K10:=K9.box A j;refine u.s1 aA λW w G=>G.s1 aA λS z C=>?_;have K12:=(K10.own w (.inr rfl)).own z (.inr rfl);have s:U.size≠v9.size:=by have:=(K9.b U.size (.inr rfl)).2;omega
 have i:=Wm z (Wm w (A.bX y id) s) s;have N:t<(Wv H t p).1.bQ.length:=by rw[IL];exact D
 obtain⟨x9,g9,E,B⟩:=K12.h.th N;have J:Q6 H t p = {(Wv H t p).1 with bQ:=(Wv H t p).1.bQ.set t {g9 with ph:=(Wv H t p).2.1}}:=ZQ B _;refine bO (K12.h.hd.rS rfl (K12.h.sJ E B (Wv H t p).2.1 λv13 d M=>?_));have K13:=K12.to d M λb _ r=>.inl r;have a:=K12.cX d C (.inr rfl);rw[←J]at K13;refine⟨tQ _,a.rI rfl (a.rI rfl ?_)⟩;refine gX (n:=U.size) K13 (.inl (.inr rfl)) (K12.cX d i (.inl (.inr rfl))) λZ K'=>?_;rw[vY];exact hR Z K K'.e (K'.fin h)
theorem BU {p:Nat->Prop}(h:∃n,p n):∃n,p n/\∀m,p m->n<=m:=by
 obtain⟨n,d⟩:=h
 induction n using Nat.strongRecOn with
 | _ n ih=>
  by_cases hm:∃m,m<n/\p m
  ·obtain⟨m,a,b⟩:=hm;exact ih m a b
  ·exact⟨n,d,λm b=>Nat.le_of_not_lt λa=>hm ⟨m,a,b⟩⟩
theorem Nh {start:eR []->Prop}{round:eR []->eR []}(Inv:Nat->Hp->Prop)(h0:start λh=>∃n,Inv n h)(hr:∀n h,Inv n h->∀J:Hp->Prop,(∀m h',m<n->Inv m h'->J h')->round J h):WU [] start round:=by
 classical
 refine Fl (λh=>∃n,Inv n h) (λh=>if hx:∃n,Inv n h then(BU hx).choose else 0) h0 λh d=>?_
 have g:=(BU d).choose_spec;refine hr _ h g.1 _ λm h' e b=>⟨⟨m,b⟩,?_⟩;have a:∃n,Inv n h':=⟨m,b⟩;rw[dif_pos a,dif_pos d];exact Nat.lt_of_le_of_lt ((BU a).choose_spec.2 m b) e
inductive jP:Nat->Hw->Nat->Ph->Hw->Int->Int->Prop
 | done {H:Hw} {t:Nat} {p:Ph}:uq H t p->(Wv H t p).2.1=none->jP 1 H t p (Q6 H t p) (Wv H t p).2.2.1 (Wv H t p).2.2.2
 | next {n:Nat} {H:Hw} {t:Nat} {p p':Ph} {H':Hw} {a e:Int}:uq H t p->(Wv H t p).2.1=some p'->jP n (Q6 H t p) t p' H' a e->jP (n+1) H t p H' a e
theorem J5 {p:Ph}(ht:t<H.bQ.length):∃g,(Q6 H t p).bQ[t]?=some g/\g.ph=(Wv H t p).2.1:=by
 have a:t<(Wv H t p).1.bQ.length:=by rw[IL];exact ht
 exact⟨{(Wv H t p).1.bQ[t]with ph:=(Wv H t p).2.1},by simp[Q6,eO,Hw.eC,tB,cQ a],rfl⟩
end Go.Ar
namespace Go.Ar
open Go Go.Vc Go.Proofs
open Go.Bu (fZ)
variable {U:Hp}{F:Rg}
def VA (size align:Int):Bool:=decide (1<=size)&&(decide (1<=align)&&(decide (align<=256)&&fZ align))
def iC (tb:List cD)(size align:Int):Option Nat:=tb.findIdx? λc=>decide (size<=(c.size:Int))&&((c.size:Int)%align==0)
theorem SY (n:Int)(h1:1<=n)(h2:n<=256){R:aN}(hR:∀p:Int,(p != n) = !fZ n->R p U):Qz.c n U R:=by
 refine Qz.o ?_;unfold Qz.v;refine Vu (a:=bN) (bb:=bN) (λ(p q:Int) w=>w=U/\(p=0/\q=1\/∃k:Nat,k<=8/\p=((2^k:Nat):Int)/\q=((2^(k+1):Nat):Int)/\p<=n)) (λp q _=>1000-q.toNat) ⟨rfl,.inl ⟨rfl,rfl⟩⟩ ?_;rintro(p:Int) (q:Int) w ⟨rfl,hpq⟩;refine cL (λd=>?_) λg=>?_
 ·rcases hpq with⟨rfl,rfl⟩|⟨k,hk,rfl,rfl,hp⟩
  ·exact cC (m:=2) O O ⟨⟨rfl,.inr ⟨0,O,by simp,by simp,O⟩⟩,by simp⟩
  ·have s:k<=7:=by
    apply Classical.byContradiction;intro hc;have:2^9<=2^(k+1):=po aB O;omega
   have r:=lj (k+1);exact cC (m:=2^(k+1+1)) (by rw[mV 2 (k+1)];omega) (by rw[mV 2 (k+1)];omega) ⟨⟨rfl,.inr ⟨k+1,O,rfl,rfl,d⟩⟩,by rw[mV 2 (k+1)];omega⟩
 ·rcases hpq with⟨rfl,rfl⟩|⟨k,hk,rfl,rfl,hp⟩
  ·omega
  ·refine hR _ ?_;by_cases e:((2^k:Nat):Int)=n
   ·have:fZ n=true:=by
     unfold fZ;rw[kM];exact⟨k,ze.2 O,by simp[←e]⟩
    rw[this,e];simp
   ·have:fZ n=false:=by
     unfold fZ;rw[mE];intro j hj he;have b:n=((2^j:Nat):Int):=by simpa using he
     rcases pa j k with h3|h3|h3
     ·have:2^(j+1)<=2^k:=po aB h3;rw[mV]at this;have:=lj j;omega
     ·subst h3;exact e b.symm
     ·have:2^(k+1)<=2^j:=po aB h3;omega
    rw[this];simpa using e
theorem Em {s:Sl}{xs:List (Int×Int×Int)}(ha:iB U s xs)(hv:QM xs=true)(size align:Int){R:Int->Int->Hp->Prop}
 (hR:∀σ',aG U σ'->R (if VA size align then((iC (xs.map Qx) size align).getD 0:Nat)else 0) (if VA size align then(if(iC (xs.map Qx) size align).isSome then 0 else 4)else 1) σ'):Z7.c s size align U R:=by
 refine Z7.o ?_;unfold Z7.v;refine nw (cs:=[.int .i64 size]) λv hz e hb=>nw (cs:=[.int .i64 align]) λv1 Q e1 V=>?_;have S:=e1.bX hb id;refine Aq (Qg ha (e.trans e1)) λx e2=>?_;rw[hv];have F:=e2.bX S id;have y:=e2.bX V id;have u:=(e.trans e1).trans e2;refine bZ rfl ?_;have key:∀r,r = !VA size align->(If r (R 0 1 x) (Wn.c s ⟨97,#[],#[.pointer (some ⟨U.size,0,none⟩),.pointer (some ⟨v.size,0,none⟩)]⟩ x λk v4=>If (decide (k<0)) (R 0 4 v4) (R k 0 v4))):=by
  intro r b;cases hok:VA size align with
  | false=>
   rw[hok]at b;have:=hR x u;rw[hok]at this;exact cJ (by rw[b];rfl) this
  | true=>
   rw[hok]at b;refine bZ (by rw[b];rfl) ?_;have K:=hok;simp only[VA,zF,zU]at K;refine Wn.o ?_;unfold Wn.v;have hlen:=ha.1;have hxl:=((Qr xs).1 hv).2.1;refine Zw (a:=bN) (λ(z:Int) w=>∃i:Nat,z=(i:Int)/\i<=xs.length/\aG x w/\∀j c,j<i->(xs.map Qx)[j]?=some c->(decide (size<=(c.size:Int))&&((c.size:Int)%align==0))=false) (λz _=>xs.length-z.toNat) ⟨0,rfl,O,Ext.refl _ _,λj c h=>O⟩ ?_;rintro(z:Int) w ⟨i,rfl,hi,ew,hno⟩;refine cL (λhlt=>?_) λY=>?_
   ·have P:i<xs.length:=by omega
    have B:(xs.map Qx)[i]?=some (Qx xs[i]):=by simp[P]
    generalize Qx xs[i]=c at B;have H:=Qg ha (u.trans ew);obtain⟨hx,hcok⟩:=HV H hv B;refine Ak H hx ?_;refine oP (all := #[.agg #[.int .i64 (c.size:Int),.int .i64 (c.bK:Int),.int .i64 (c.batch:Int)],.pointer (some ⟨U.size,0,none⟩),.pointer (some ⟨v.size,0,none⟩)]) (by kernel_rfl) aA ?_;refine Z9.o ?_;unfold Z9.v;refine nw (cs:=[.int .i64 (c.size:Int),.int .i64 (c.bK:Int),.int .i64 (c.batch:Int)]) λw1 Q e1 G=>?_;have W:=e1.bX (ew.bX F id) id;have Z:=e1.bX (ew.bX y id) id;have D:=ew.trans e1;have go:∀r,r=(decide (size<=(c.size:Int))&&((c.size:Int)%align==0))->If r (If (decide ((i:Int)<0)) (R 0 4 w1) (R (i:Int) 0 w1)) (Ar .i64 ((i:Int)+1) λC=>(∃i:Nat,C=(i:Int)/\i<=xs.length/\aG x w1/\∀j c,j<i->(xs.map Qx)[j]?=some c->(decide (size<=(c.size:Int))&&((c.size:Int)%align==0))=false)/\xs.length-C.toNat<xs.length-(i:Int).toNat):=by
     intro r b;refine cU (λN=>dR O ?_) λh0=>?_
     ·have M:iC (xs.map Qx) size align=some i:=by
       obtain⟨X,rfl⟩:=cV.1 B;exact pd.2 ⟨X,by rw[←b];exact N,λj E=>by rw[hno j _ E (cQ O)];simp⟩
      have:=hR w1 (u.trans D);rw[hok,M]at this;exact this
     ·exact cC (m:=i+1) O O ⟨⟨i+1,rfl,O,D,λj d E hd=>by
       by_cases e:j=i
       ·subst e;rw[B]at hd;cases hd;rw[←b];exact h0
       ·exact hno j d O hd⟩,O⟩
    refine G.rI rfl (W.sM rfl ?_);refine Ko (λr w=>w=w1/\r=(decide (size<=(c.size:Int))&&((c.size:Int)%align==0))) (λr w ⟨hw,b⟩=>by subst hw;exact go r b) λJ A=>?_;refine cL (λY=>G.rI rfl (Z.sM rfl (nz O (A _ _ ⟨rfl,?_⟩)))) λhlt2=>A _ _ ⟨rfl,?_⟩
    ·rw[QY O,zI (by omega:size<=(c.size:Int)),sF]
    ·rw[zJ O,rO]
   ·have M:iC (xs.map Qx) size align=none:=by
     unfold iC;rw[uD];intro c B;obtain⟨j,E⟩:=zN B;have:=(cV.1 E).1;simp at this;exact hno j c O E
    have:=hR w (u.trans ew);rw[hok,M]at this;exact jt aB this
 refine Ld (λr w=>w=x/\r = !VA size align) (λr w ⟨hw,b⟩=>by subst hw;exact key r b) λJ A=>?_;have L:∀m,m=x->cell m ⟨U.size,0,none⟩=some (.int .i64 size):=λm hm=>by rw[hm,F.cell];rfl
 have g:∀m,m=x->cell m ⟨v.size,0,none⟩=some (.int .i64 align):=λm hm=>by rw[hm,y.cell];rfl
 refine⟨λm=>m=x,rfl,⟨size,L,?_⟩⟩;refine cL (λN=>A _ _ ⟨rfl,?_⟩) λN=>⟨align,g,cL (λh2=>A _ _ ⟨rfl,?_⟩) λh2=>⟨align,g,cL (λh3=>A _ _ ⟨rfl,?_⟩) λh3=>⟨align,g,⟨align,g,?_⟩⟩⟩⟩
 ·simp only[VA,zJ (by omega:¬1<=size),rO,Ab]
 ·simp only[VA,zJ (by omega:¬1<=align),rO,sL,Ab]
 ·simp only[VA,zJ (by omega:¬align<=256),rO,sL,Ab]
 ·refine SY align O O λp hp=>⟨rfl,A _ _ ⟨rfl,?_⟩⟩;rw[hp];simp only[VA,zI (by omega:1<=size),zI (by omega:1<=align),zI (by omega:align<=256),sF]
end Go.Ar
namespace Go.Ar
open Go Go.Vc Go.Proofs
variable {U u u':Hp}{F B P Q:Rg}{L:dS}{H H':Hw}{t k n pb:Nat}{A:AR}{Y:Lay}{x:dQ}{g:Th}{c:cD}{l:Li}{cs:List Value}
def kE (c:cD):Int×Int×Int:=((c.size:Int),(c.bK:Int),(c.batch:Int))
theorem Lr (tb:List cD):(tb.map kE).map Qx=tb:=by
 rw[mC]
 conv=>rhs;rw[←wE tb]
 apply k5;intro c _;rfl
theorem EV {s:Sl}{tb:List cD}(h:cS s 3 (fB tb) U F):iB U s (tb.map kE):=by
 have A:=h.1;rw[V7]at A;refine⟨by simp;omega,λi x y z j=>?_⟩;rw[zk,qA]at j;obtain⟨c,D,g⟩:=j;obtain⟨C,p,B⟩:=yb D;simp only[kE,Prod.mk.injEq]at g;obtain⟨rfl,rfl,rfl⟩:=g;obtain⟨b,o,d,e⟩:=h.cell C;obtain⟨w,m,a,r⟩:=h.cell p;rw[d]at a;cases a;obtain⟨w,m,a,u⟩:=h.cell B;rw[d]at a;cases a;exact⟨b,o,d,KB e,by rw[show o+i*3=o+3*i by omega];exact e,by rw[show o+i*3+1=o+(3*i+1) by omega];exact r,by rw[show o+i*3+2=o+(3*i+2) by omega];exact u⟩
def kZ (tb:List cD):Prop:=QM (tb.map kE)=true
def iL (tb:List cD)(kind size align addr:Int):Option Ph:=
 if kind=0 then(if 1<=size/\size<=16384 then(if VA size align then(match iC tb size align with
  | some k=>some (.take k)
  | none=>some (.eN ((size+255).toNat/256)))else none)else none)
 else if kind=1 then some (.find addr)else if kind=2 then some .drain else none
theorem PQ (h:HH U F L H)(hv:kZ H.tb)(kind size align addr:Int){R:Value->Hp->Prop}(hR:∀σ',aG U σ'->R (j9 (iL H.tb kind size align addr)) σ'):YJ.c (aW L.p) kind size align addr U R:=by
 refine YJ.o ?_;unfold YJ.v;refine nw (cs:=[.int .i64 kind,.int .i64 size,.int .i64 align,.int .i64 addr]) λv M e j=>j.rI rfl ?_;have C:=h.aF e;have a:=hR v e;refine cU (λz=>?_) λz=>?_
 ·have g:kind=0:=by simpa using z
  have D:iL H.tb kind size align addr=(if 1<=size/\size<=16384 then(if VA size align then(match iC H.tb size align with
   | some k=>some (.take k)
   | none=>some (.eN ((size+255).toNat/256)))else none)else none):=by unfold iL;rw[zB g]
  rw[D]at hR a;refine j.rI rfl (Ko (λr w=>w=v/\r = !decide (1<=size/\size<=16384)) (λr w ⟨K,y⟩=>?_) λJ B=>?_)
  ·subst K;by_cases hs:1<=size/\size<=16384
   ·rw[zB hs]at hR;rw[zI hs]at y;refine bZ (by rw[y];rfl) ⟨λm=>m=w,rfl,bO ⟨L.cH,λm x=>by rw[x,add_lit,C.hd.cell];rfl,⟨size,λm x=>by rw[x,add_lit,j.cell];rfl,⟨align,λm x=>by rw[x,add_lit,j.cell];rfl,?_⟩⟩⟩⟩;refine Em (EV C.iW) hv size align λG e2=>?_;rw[Lr];have A:=e2.bX j id;have b:=hR G (e.trans e2);cases hok:VA size align with
    | false=>
     rw[hok]at b;exact bZ rfl (bZ rfl b)
    | true=>
     rw[hok]at b;simp only[zT]at b ⊢;cases hcl:iC H.tb size align with
     | some k=>rw[hcl]at b;exact cJ rfl b
     | none=>
      rw[hcl]at b;refine bZ rfl (cJ rfl (A.rI rfl (ar O O (ar O O (nz aB (ar (by rw[Xq O];omega) (by rw[Xq O];omega) ?_))))));rw[Xq O];have:(size+256-1)/256=(((size+255).toNat/256:Nat):Int):=by omega
      rw[this];exact b
   ·rw[zA hs]at a;rw[zJ hs]at y;exact cJ (by rw[y];rfl) a
  ·refine cL (λE=>B _ _ ⟨rfl,?_⟩) λE=>j.rI rfl (B _ _ ⟨rfl,?_⟩)
   ·rw[zJ O];rfl
   ·by_cases h2:size>16384
    ·rw[zI h2,zJ O];rfl
    ·rw[zJ h2,zI O];rfl
 ·have g:kind≠0:=by simpa using z
  refine cU (λs=>j.rI rfl ?_) λs=>?_
  ·have d:kind=1:=by simpa using s
   unfold iL at a;rw[zA g,zB d]at a;exact a
  ·have d:kind≠1:=by simpa using s
   refine cU (λu=>?_) λu=>?_
   ·have i:kind=2:=by simpa using u
    unfold iL at a;rw[zA g,zA d,zB i]at a;exact a
   ·have i:kind≠2:=by simpa using u
    unfold iL at a;rw[zA g,zA d,zA i]at a;exact a
def Va (H:Hw)(thread kind size align addr:Int):Int ⊕ (Nat×Ph):=
 if 0<=thread/\thread<(H.bQ.length:Int)then(match H.bQ[thread.toNat]? with
  | some g=>(if g.ph=none then(match iL H.tb kind size align addr with
   | some p=>.inr (thread.toNat,p)
   | none=>.inl 1)else .inl 5)
  | none=>.inl 1)else .inl 1
theorem BN (h:HH U F L H)(hv:kZ H.tb)(thread kind size align addr:Int){R:aN}(h0:∀e,Va H thread kind size align addr=.inl e->e≠0->∀σ',Ext F U σ'->HH σ' (Grow F U) L H->R e σ')
 (h1:∀t p,Va H thread kind size align addr=.inr (t,p)->thread=(t:Int)->t<H.bQ.length->∀σ',Ext F U σ'->HH σ' (Grow F U) L (eO H t (some p))->R 0 σ'):Yo.c (aW L.p) thread kind size align addr U R:=by
 refine Yo.o ?_;unfold Yo.v;refine nw (cs:=[.int .i64 kind,.int .i64 size,.int .i64 align,.int .i64 addr]) λv u e d=>?_;have K1:=(HK.start h).box e u;refine QP K1.h (bZ rfl (H5 K1.h thread ?_));by_cases hth:0<=thread/\thread<(H.bQ.length:Int)
 ·obtain⟨t,rfl⟩:∃t:Nat,thread=(t:Int):=⟨thread.toNat,O⟩;have j:t<H.bQ.length:=by omega
  obtain⟨x,g,m,i⟩:=h.th j;have a:Va H (t:Int) kind size align addr=(if g.ph=none then(match iL H.tb kind size align addr with
   | some p=>.inr (t,p)
   | none=>.inl 1)else .inl 5):=by
   unfold Va;rw[zB hth,dE,i]
  refine bZ (by rw[zI hth];rfl) (bO (K1.h.hd.rS rfl (K1.h.tR m i ⟨tQ _,?_⟩)));cases hp:g.ph with
  | some p=>
   rw[hp,zA aA]at a;exact cJ (by rw[vY];rfl) (h0 5 a aB v K1.e (K1.fin h))
  | none=>
   rw[hp,zB rfl]at a;refine bZ rfl (d.rI rfl (d.rI rfl (d.rI rfl (d.rI rfl (PQ K1.h hv kind size align addr λv3 z=>⟨tQ _,?_⟩)))));have K3:=K1.fr z;rw[vY];cases hq:iL H.tb kind size align addr with
   | none=>
    rw[hq]at a;exact cJ rfl (h0 1 a aB v3 K3.e (K3.fin h))
   | some p=>
    rw[hq]at a;refine bZ rfl (bO (K3.h.hd.rS rfl (K3.h.sJ m i (some p) λw y r=>?_)));have K4:=K3.to y r λb _ d=>.inl d;have s:eO H t (some p) = {H with bQ:=H.bQ.set t {g with ph:=some p}}:=ZQ i _;rw[←s]at K4;exact h1 t p a rfl j w K4.e (K4.fin h)
 ·have a:Va H thread kind size align addr=.inl 1:=by unfold Va;rw[zA hth]
  exact cJ (by rw[zJ hth];rfl) (h0 1 a aB v K1.e (K1.fin h))
theorem Le {p:Option Ph}(ht:t<H.bQ.length):∃g,(eO H t p).bQ[t]?=some g/\g.ph=p:=
 ⟨{H.bQ[t]with ph:=p},by simp[eO,Hw.eC,tB,cQ ht],rfl⟩
theorem DN (hso:HQ)(h:HH U F L H)(hv:kZ H.tb)(thread kind size align addr:Int){R:Int->Int->Hp->Prop}(h0:∀e,Va H thread kind size align addr=.inl e->e≠0->∀σ',Ext F U σ'->HH σ' (Grow F U) L H->R 0 e σ')
 (h1:∀t p,Va H thread kind size align addr=.inr (t,p)->∃n H' a e,jP n (eO H t (some p)) t p H' a e/\∀σ' ts',Ext F U σ'->HH σ' (Grow F U) {L with ts:=ts'} H'->R a e σ'):XX.c (aW L.p) thread kind size align addr U R:=by
 refine XX.o ?_;unfold XX.v;refine nw (cs:=[.int .i64 kind,.int .i64 size,.int .i64 align,.int .i64 addr]) λv hz e i=>i.rI rfl (i.rI rfl (i.rI rfl (i.rI rfl ?_)));have K1:=(HK.start h).box e hz;refine BN K1.h hv thread kind size align addr (λz he C v1 e1 u=>?_) λt p ad Q ht v1 e1 u=>?_
 ·have K2:=K1.to e1 u λb _ i=>i;exact cJ (by simpa using C) (h0 z he C v1 K2.e (K2.fin h))
 ·subst Q;have K2:=K1.to e1 u λb _ i=>i;obtain⟨n,Hf,a,z,d,E⟩:=h1 t p ad;refine bZ rfl (Nh (λn w=>∃(B P:Rg) (ts:List dQ) (H:Hw) (p:Ph),HK F U B w P {L with ts:=ts} H/\(∃g,H.bQ[t]?=some g/\g.ph=some p)/\jP n H t p Hf a z) ⟨n,_,_,L.ts,_,p,K2,Le ht,d⟩ ?_);rintro n w ⟨B,P,ts,H2,j,K,⟨g,hg,aa⟩,d⟩ J hJ;have go:uq H2 t j->((Wv H2 t j).2.1.isNone=true->(Wv H2 t j).2.2.1=a/\(Wv H2 t j).2.2.2=z/\Q6 H2 t j=Hf)->((Wv H2 t j).2.1.isNone=false->∃m M,m<n/\(Wv H2 t j).2.1=some M/\jP m (Q6 H2 t j) t M Hf a z)->XE.c (aW L.p) (t:Int) w λW D y t223 v3=>Nw (.cells #[.int .i64 0,.int .i64 0] 108 (0,0)) v3 λr v4=>eP (r.add 0) (.int .i64 D) v4 λv5=>eP (r.add 1) (.int .i64 y) v5 λs=>If W (gO .i64 (r.add 0) s λZ=>gO .i64 (r.add 1) s λae=>R Z ae s) (J s):=by
   intro hok hd hn;refine IV hso K.h hg aa hok λv3 G e3 ab=>?_;have K3:=K.to e3 ab λb _ i=>i;refine nw (cs:=[.int .i64 0,.int .i64 0]) λv4 af e4 N=>?_;have K4:=K3.box e4 af;refine N.s1 aA λv5 o5 b5=>b5.s1 aA λs o6 b6=>?_;have K6:=(K4.own o5 (.inr rfl)).own o6 (.inr rfl);refine cU (λS=>?_) λV=>?_
   ·obtain⟨q1,q2,q3⟩:=hd S;rw[q3]at K6;refine b6.rI rfl (b6.rI rfl ?_);rw[q1,q2];exact E s G K6.e (K6.fin h)
   ·obtain⟨m,M,hm,Y,X⟩:=hn V;have ac:t<H2.bQ.length:=(cV.1 hg).1;obtain⟨g',ag,x⟩:=J5 (p:=j) ac;exact hJ m s hm ⟨_,_,G,_,M,K6,⟨g',ag,by rw[x,Y]⟩,X⟩
  cases d with
  | done hok hnone=>exact go hok (λ_=>⟨rfl,rfl,rfl⟩) λA=>by rw[hnone]at A;cases A
  | next hok hsome hrun'=>exact go hok (λA=>by rw[hsome]at A;cases A) λ_=>⟨_,_,Nat.lt_succ_self _,hsome,hrun'⟩
end Go.Ar
namespace Go.Ar
open Go Go.Vc Go.Proofs
variable {U u w w':Hp}{F B P Q:Rg}{n:Nat}{cs:List Value}{tb:List cD}{cf:Cf}
def Uy (tb:List cD)(cf:Cf):Hw:=⟨tb,cf,VT cf.bK,List.replicate cf.gS (fI cf.bK cf.room tb),List.replicate cf.threads ⟨List.replicate tb.length il,[],none⟩,[]⟩
def rU (p a t b r:Int):Bool:=decide (32<=p)&&decide (p<=1024)&&(p%16==0)&&decide (1<=a)&&decide (a<=4)&&decide (1<=t)&&decide (t<=4)&&decide (0<=b)&&decide (b<=65536)&&decide (0<=r)&&decide (r<=8)
theorem lvl {K:aO}{r:Bool}{a:Addr}{x:Int}{k:IntKind}{f:Int->Bool}(hl:∀{K':Int->Prop},K' x->gO k a w K')(h:K (r&&f x) w):bW K λJ=>If r (gO k a w λt=>J (f t) w) (J false w):=
 bW.intro (cU (λb=>hl (by rw[b]at h;exact h)) λb=>by rw[b]at h;exact h)
theorem T4 (p a t b r:Int){R:aO}(hR:∀σ',aG U σ'->R (rU p a t b r) σ'):QV.c p a t b r U R:=by
 refine QV.o ?_;unfold QV.v;refine nw (cs:=[.int .i64 p,.int .i64 a,.int .i64 t,.int .i64 b,.int .i64 r]) λv z e g=>g.rI rfl ?_;have i:=hR v e;unfold rU at i;refine Ko (λm w=>w=v/\m=(decide (32<=p)&&decide (p<=1024))) (λm w ⟨x,u⟩=>?_) λJ j=>?_
 ·subst x;subst u;refine Ko (λm w2=>w2=w/\m=(decide (32<=p)&&decide (p<=1024)&&(p%16==0))) (λm w2 ⟨x,u⟩=>?_) λJ j=>?_
  ·rw[x];subst u;exact lvl (λd=>g.rI rfl d) (lvl (λd=>g.rI rfl d) (lvl (λd=>g.rI rfl d) (lvl (λd=>g.rI rfl d) (lvl (λd=>g.rI rfl d) (lvl (λd=>g.rI rfl d) (lvl (λd=>g.rI rfl d) (lvl (λd=>g.rI rfl d) i)))))))
  ·refine cU (λs=>g.rI rfl (nz aB (j _ _ ⟨rfl,?_⟩))) λy=>j _ _ ⟨rfl,?_⟩
   ·simp only[zF,zU]at s;rw[QY O,zI s.1,zI s.2];rfl
   ·rw[y];rfl
 ·refine cL (λs=>g.rI rfl (j _ _ ⟨rfl,?_⟩)) λy=>j _ _ ⟨rfl,?_⟩
  ·rw[zI (by omega:32<=p)];rfl
  ·rw[zJ O];rfl
structure pH where
 p:Nat
 cH:Sl
 lm:Nat
 hs:Option Nat
 hp:Option Nat
 aw:Sl
 al:List Nat
 ha:Sl
 tw:Sl
 tl:List Value
 ht:Sl
 ys:List Lay
 cs:List gQ
def rh (cf:Cf)(N:pH):List Value:=[.slice N.cH.a N.cH.len N.cH.cap,.int .i64 (cf.bK:Int),.int .i64 (cf.gS:Int),.int .i64 (cf.threads:Int),.int .i64 (cf.cT:Int),.int .i64 (cf.room:Int),
 .pointer (N.hp.map λq=>⟨q,0,none⟩),.slice N.ha.a N.ha.len N.ha.cap,.slice N.ht.a N.ht.len N.ht.cap,.map (some N.lm)]
def sB (n room:Nat)(tb:List cD)(y:Option Lay):Hp->Rg->Prop:=λU F=>match y with
 | some Y=>dA U F Y (fI n room tb) (cA (fI n room tb) Y)
 | none=>True
def sE (tb:List cD)(bud:Nat)(y:Option gQ):Hp->Rg->Prop:=λU F=>match y with
 | some Y=>dY U F Y tb bud (List.replicate tb.length il)
 | none=>True
def yv (n:Nat)(q:Option Nat):Hp->Rg->Prop:=λU F=>match q with
 | some q=>cZ U F q (VT n)
 | none=>True
def jv (tb:List cD)(cf:Cf)(N:pH):iq->Hp->Rg->Prop
 | .hd=>gR N.p (rh cf N)
 | .cH=>cS N.cH 3 (fB tb)
 | .sp=>yv cf.bK N.hs
 | .eT=>bR N.aw 1 (eB N.al)
 | .cK=>bR N.tw 3 N.tl
 | .live=>iT N.lm .i64 (.ag 4) []
 | .ar k=>sB cf.bK cf.room tb N.ys[k]?
 | .ca k=>sE tb cf.cT N.cs[k]?
 | .hn _=>λ_ _=>True
theorem sB.loc (n room:Nat)(tb:List cD)(y:Option Lay):dH (sB n room tb y):=by
 intro U σ' F G h hz hs;cases y with
 | some Y=>exact dA.loc _ _ _ _ h hz hs
 | none=>trivial
theorem sE.loc (tb:List cD)(bud:Nat)(y:Option gQ):dH (sE tb bud y):=by
 intro U σ' F G h hz hs;cases y with
 | some Y=>exact dY.loc _ _ _ _ h hz hs
 | none=>trivial
theorem yv.loc (n:Nat)(q:Option Nat):dH (yv n q):=by
 intro U σ' F G h hz hs;cases q with
 | some q=>exact cZ.loc _ _ _ _ h hz hs
 | none=>trivial
theorem jv.loc {N:pH}:∀i,dH (jv tb cf N i)
 | .hd=>gR.loc _ _
 | .cH=>cS.loc _ _ _
 | .sp=>yv.loc _ _
 | .eT=>bR.loc _ _ _
 | .cK=>bR.loc _ _ _
 | .live=>iT.loc _ _ _ _
 | .ar k=>sB.loc _ _ _ _
 | .ca k=>sE.loc _ _ _
 | .hn _=>λ_ _ _ _ _ _ _=>trivial
structure NK (U:Hp) (B:Rg) (w:Hp) (P:Rg) (tb:List cD) (cf:Cf) (N:pH):Prop where
 sep:Sep (jv tb cf N) w P
 e:aG U w
 p:∀b,P b->U.size<=b/\¬B b/\b<w.size
 b:∀b,B b->U.size<=b/\b<w.size
variable {N N':pH}
theorem NK.fr (K:NK U B w P tb cf N)(e:aG w w'):NK U B w' P tb cf N:=
 ⟨(Sep.loc jv.loc).aF K.sep e,K.e.trans e,λb a=>⟨(K.p b a).1,(K.p b a).2.1,by have:=(K.p b a).2.2;have:=e.1;omega⟩,λb a=>by have:=K.b b a;have:=e.1;omega⟩
theorem NK.box (K:NK U B w P tb cf N)(e:aG w w')(hz:w'.size=w.size+1):NK U (λb=>B b\/b=w.size) w' P tb cf N:=by
 have h:=K.fr e;have i:=K.e.1;exact⟨h.sep,h.e,λb a=>⟨(K.p b a).1,λg=>g.elim (K.p b a).2.1 λd=>by have:=(K.p b a).2.2;omega,(h.p b a).2.2⟩,λb a=>a.elim (h.b b) λd=>O⟩
theorem NK.drop (K:NK U B w P tb cf N){B':Rg}(hb:∀b,B' b->B b):NK U B' w P tb cf N:=⟨K.sep,K.e,λb h=>⟨(K.p b h).1,λa=>(K.p b h).2.1 (hb b a),(K.p b h).2.2⟩,λb h=>K.b b (hb b h)⟩
theorem NK.put (K:NK U B w P tb cf N)(e:aG w w')(i:iq)(hj:∀j,j≠i->jv tb cf N' j=jv tb cf N j)(hi:jv tb cf N' i w' (λb=>w.size<=b)):NK U B w' (λb=>P b\/w.size<=b/\b<w'.size) tb cf N':=by
 have h:=K.fr e;have g:=K.e.1;refine⟨h.sep.put jv.loc i (G:=λb=>w.size<=b/\b<w'.size) (λb a hp=>by have:=(K.p b hp).2.2;omega) hj ((jv.loc i).mono hi λb a d=>⟨d,a⟩) (jv.loc i),h.e,λb a=>?_,h.b⟩;rcases a with a|a
 ·exact h.p b a
 ·exact⟨O,λd=>by have:=(K.b b d).2;omega,a.2⟩
theorem NK.step (K:NK U B w P tb cf N)(i:iq):∃G:Rg,(∀b,G b->P b)/\jv tb cf N i w G/\∀(w':Hp) (N':pH) (G':Rg),(∀j,j≠i->jv tb cf N' j=jv tb cf N j)->Ext G w w'->(∀b,G' b->G b\/w.size<=b/\¬B b)->jv tb cf N' i w' G'->(∀b,B b->b<w'.size) →
 NK U B w' (λb=>(P b/\¬G b\/G' b)/\b<w'.size) tb cf N':=by
 obtain⟨G,m,s,_,g⟩:=K.sep.jx jv.loc i;refine⟨G,m,s,λw' N' G' y e r u x=>⟨?_,?_,λb a=>?_,λb a=>⟨(K.b b a).1,x b a⟩⟩⟩
 ·have:=g w' (jv tb cf N') G' y e (λb a=>(r b a).imp id λd=>d.1) u (jv.loc _);refine(Sep.loc jv.loc).mono this λb a d=>⟨?_,a⟩;exact d.imp (λd=>⟨d.1,d.2.2⟩) id
 ·exact Ext.eY K.e e λb a=>.inr (K.p b (m b a)).1
 ·have z:=K.e.1;rcases a.1 with h1|h1
  ·exact⟨(K.p b h1.1).1,(K.p b h1.1).2.1,a.2⟩
  ·rcases r b h1 with h2|h2
   ·exact⟨(K.p b (m b h2)).1,(K.p b (m b h2)).2.1,a.2⟩
   ·exact⟨O,h2.2,a.2⟩
theorem Cj {K:eR [.p]}{body:eR [.p]->Prop}(P:Option Addr->Hp->Prop)(h1:∀r w,P r w->K r w)(h2:∀J:eR [.p],(∀r w,P r w->J r w)->body J):Jn [.p] K body:=Jn.intro (h2 K h1)
def eA:Sl:=⟨none,0,0⟩
def ql (cs:List gQ):List Value:=cs.flatMap λc=>[.pointer (some ⟨c.p,0,none⟩),.slice none 0 0,.nilIface]
def N0 (p:Nat)(cH:Sl)(lm:Nat):pH:=⟨p,cH,lm,none,none,eA,[],eA,eA,[],eA,[],[]⟩
def NB (p:Nat)(cH:Sl)(lm q:Nat)(aw:Sl)(ys:List Lay)(tw:Sl)(cs:List gQ):pH:=⟨p,cH,lm,some q,some q,aw,ys.map (·.p),aw,tw,ql cs,tw,ys,cs⟩
theorem FW {p lm:Nat}{cH:Sl}{D:Rg}(e:aG U w)(hz:U.size<w.size)(hp:bY w p (rh cf (N0 p cH lm)))(hm:dD w lm .i64 (.ag 4) [])(ht:cS cH 3 (fB tb) w D)(hD:∀b,D b->U.size<b/\b<w.size/\b≠p/\b≠lm)(hpl:p≠lm)(h1:U.size<p)(h2:U.size<lm) :
 NK U (· = U.size) w (λb=>D b\/b=p\/b=lm) tb cf (N0 p cH lm):=by
 have g:=hp.lt;have d:=hm.lt;refine⟨⟨λb=>if b=p then .hd else if b=lm then .live else .cH,λi=>?_⟩,e,λb a=>?_,λb a=>O⟩
 ·cases i with
  | hd=>exact⟨⟨.inr (.inl rfl),zB rfl⟩,hp⟩
  | live=>exact⟨⟨.inr (.inr rfl),by show(if lm=p then iq.hd else if lm=lm then iq.live else iq.cH)=.live;rw[zA (Ne.symm hpl),zB rfl]⟩,hm⟩
  | cH=>exact aH.mono ht λb _ a=>⟨.inl a,by show(if b=p then iq.hd else if b=lm then iq.live else iq.cH)=.cH;rw[zA (hD b a).2.2.1,zA (hD b a).2.2.2]⟩
  | sp=>trivial
  | eT=>exact bR.nil _ _ _ _
  | cK=>exact bR.nil _ _ _ _
  | ar k=>trivial
  | ca k=>trivial
  | hn k=>trivial
 ·rcases a with a|a|a
  ·have:=hD b a;omega
  ·omega
  ·omega
theorem NK.tO (K:NK U B w P tb cf N):P N.p/\bY w N.p (rh cf N):=by
 obtain⟨G,b,a⟩:=K.sep.get .hd;exact⟨b _ a.1,a.2⟩
theorem NK.m6 (K:NK U B w P tb cf N)(N':pH)(hN':∀j,j≠.hd->jv tb cf N' j=jv tb cf N j)(hp:N'.p=N.p){i:Nat}{v:Value}(hs:(rh cf N).set i v=rh cf N')(hi:i<10){Kk:aP}(hK:∀w' P',NK U B w' P' tb cf N'->QT w w' N.p->Kk w'):eP (Addr.add ⟨N.p,0,none⟩ i) v w Kk:=by
 obtain⟨G,m,d,a⟩:=K.step .hd;have d:gR N.p (rh cf N) w G:=d;refine d.2.s1 (by simpa[rh]using hi) λw' o g=>hK w' _ (a w' N' G hN' (o.ext.sub λx e=>by rw[e];exact d.1) (λx e=>.inl e) ?_ λx e=>by have:=(K.b x e).2;have:=o.1;omega) o;show gR N'.p (rh cf N') w' G;rw[zG,hs]at g;rw[hp];exact⟨d.1,g⟩
theorem S7 {Y:Lay}(h:N'.ys=N.ys++[Y])(hr:∀j,(∀k,j≠.ar k)->jv tb cf N' j=jv tb cf N j):∀j,j≠iq.ar N.ys.length->jv tb cf N' j=jv tb cf N j:=by
 intro j hj;cases j with
 | ar k=>
  have a:k≠N.ys.length:=λe=>hj (by rw[e]);show sB _ _ _ N'.ys[k]?=sB _ _ _ N.ys[k]?;rw[h]
  congr 1
  rcases wO a with h1|h1
  ·rw[zQ h1]
  ·rw[zO aE,zO O]
 | _=>exact hr _ (λk e=>by cases e)
theorem Wos {Y:gQ}(h:N'.cs=N.cs++[Y])(hr:∀j,(∀k,j≠.ca k)->jv tb cf N' j=jv tb cf N j):∀j,j≠iq.ca N.cs.length->jv tb cf N' j=jv tb cf N j:=by
 intro j hj;cases j with
 | ca k=>
  have a:k≠N.cs.length:=λe=>hj (by rw[e]);show sE _ _ N'.cs[k]?=sE _ _ N.cs[k]?;rw[h]
  congr 1
  rcases wO a with h1|h1
  ·rw[zQ h1]
  ·rw[zO aE,zO O]
 | _=>exact hr _ (λk e=>by cases e)
end Go.Ar
namespace Go.Ar
open Go Go.Vc Go.Proofs
variable {U u w w':Hp}{F B P Q:Rg}{n:Nat}{cs:List Value}{tb:List cD}{cf:Cf}{N:pH}
theorem Iq (p a t b r:Int):rU p a t b r=true↔(32<=p/\p<=1024/\p%16=0)/\(1<=a/\a<=4)/\(1<=t/\t<=4)/\(0<=b/\b<=65536)/\0<=r/\r<=8:=by
 simp only[rU,zF,zU,za];omega
theorem J0 (g:Gl U)(gd:Gd U):jk (λb=>U.size<=b)/\¬(U.size<=1):=by
 refine⟨?_,λh=>by have:=Cq gd;omega⟩;have d:jk (λ_=>False):=λb a=>a.elim;exact(d.grow g).sub λb a=>.inr a
theorem MM (cs:List gQ)(ls:List Li):gI (cs.map λc=>⟨c,eA⟩) (List.replicate cs.length ⟨ls,[],none⟩)=ql cs:=by
 induction cs with
 | nil=>rfl
 | cons c cs ih=>
  have e1:gI ((c::cs).map λc=>(⟨c,eA⟩:dQ)) (List.replicate (c::cs).length ⟨ls,[],none⟩)=iF (⟨c,eA⟩,⟨ls,[],none⟩)++gI (cs.map λc=>(⟨c,eA⟩:dQ)) (List.replicate cs.length ⟨ls,[],none⟩):=rfl;rw[e1,ih];rfl
theorem Ng (cs:List gQ):(ql cs).length=cs.length*3:=by
 induction cs with
 | nil=>rfl
 | cons c cs ih=>simp only[ql,mU,zR,zV,lS]at *;omega
set_option maxRecDepth 8000 in
theorem A5 {s:Sl}{xs:List (Int×Int×Int)}(ha:iB U s xs)(g:Gl U)(gd:Gd U)(p a t b r:Int){R:Option Addr->Int->Hp->Prop}
 (h2:QM xs=false->∀σ',aG U σ'->R none 2 σ')
 (h1:QM xs=true->rU p a t b r=false->∀σ',aG U σ'->R none 1 σ')
 (h0:QM xs=true->rU p a t b r=true->∀σ' L,aG U σ'->HH σ' (λq=>U.size<=q) L (Uy (xs.map Qx) ⟨p.toNat,a.toNat,t.toNat,b.toNat,r.toNat⟩)->R (some ⟨L.p,0,none⟩) 0 σ') :
 Vg.c s p a t b r U R:=by
 refine Vg.o ?_;unfold Vg.v;refine nw (cs:=[.int .i64 p,.int .i64 a,.int .i64 t,.int .i64 b,.int .i64 r]) λv hz e y=>?_;refine Aq (Qg ha e) λv1 e1=>?_;cases hv:QM xs with
 | false=>exact cJ rfl (h2 hv v1 (e.trans e1))
 | true=>
 have aa:=e1.bX y id;refine bZ rfl (aa.rI rfl (aa.rI rfl (aa.rI rfl (aa.rI rfl (aa.rI rfl (T4 p a t b r λv2 e2=>?_))))));have W:=(e.trans e1).trans e2;cases hc:rU p a t b r with
 | false=>exact cJ rfl (h1 hv hc v2 W)
 | true=>
 have hcf:=(Iq p a t b r).1 hc;obtain⟨p,rfl⟩:∃n:Nat,p=(n:Int):=⟨p.toNat,O⟩;obtain⟨a,rfl⟩:∃n:Nat,a=(n:Int):=⟨a.toNat,O⟩;obtain⟨t,rfl⟩:∃n:Nat,t=(n:Int):=⟨t.toNat,O⟩;obtain⟨b,rfl⟩:∃n:Nat,b=(n:Int):=⟨b.toNat,O⟩;obtain⟨r,rfl⟩:∃n:Nat,r=(n:Int):=⟨r.toNat,O⟩;simp only[dE]at h0;have h0:=h0 hv hc;have A:=e2.bX aa id;have hxl:=(Qr xs).1 hv;have hz2:=W.1;have hz02:U.size<v2.size:=A.lt;generalize hcfd:(⟨p,a,t,b,r⟩:Cf)=cf at h0;generalize htbd:xs.map Qx=tb at h0;have hdE:∀(q:Nat) (cH:Sl) (C:Nat),rh cf (N0 q cH C)=[.slice cH.a cH.len cH.cap,.int .i64 (p:Int),.int .i64 (a:Int),.int .i64 (t:Int),.int .i64 (b:Int),.int .i64 (r:Int),.pointer none,.slice none 0 0,.slice none 0 0,.map (some C)]:=λq cH C=>by rw[←hcfd];rfl
 refine bZ rfl (Cj (λvh w=>∃P q cH C,vh=some ⟨q,0,none⟩/\NK U (· = U.size) w P tb cf (N0 q cH C)/\bY w U.size [.int .i64 (p:Int),.int .i64 (a:Int),.int .i64 (t:Int),.int .i64 (b:Int),.int .i64 (r:Int)]) (λvh w ⟨P,q,cH,C,hvh,K,hbw⟩=>?_) λJ hJ=>?_)
 ·subst hvh;refine hbw.rI rfl (Nd (n:=p) O O λv4 sp e4 _ hS=>?_);have hp:cf.bK=p:=by rw[←hcfd]
  have hroom:cf.room=r:=by rw[←hcfd]
  have hbud:cf.cT=b:=by rw[←hcfd]
  have K1:NK U (· = U.size) v4 _ tb cf {N0 q cH C with hs:=some sp}:=K.put e4 .sp (λj H=>by cases j<;>first|rfl|exact absurd rfl H) (by
   show cZ v4 _ sp (VT cf.bK);rw[hp];exact hS)
  have hbw4:=e4.bX hbw id;refine bO (K1.m6 (NB q cH C sp eA [] eA []) (λj H=>by cases j<;>first|rfl|exact absurd rfl H) rfl (i:=6) rfl O λv5 P5 K5 o5=>?_)
  have ah:∀{w:Hp} {P:Rg} {N:pH},NK U (· = U.size) w P tb cf N->U.size≠N.p:=λK e=>(K.p _ K.tO.1).2.1 e.symm;have hbw5:=Wm o5 hbw4 (ah K1);refine hbw5.rI rfl ?_;refine Zw (a:=bN) (λ(z:Int) w=>∃(P:Rg) (aw:Sl) (ys:List Lay),z=(ys.length:Int)/\ys.length<=a/\(∀Y∈ys,Y.hs=sp)/\NK U (· = U.size) w P tb cf (NB q cH C sp aw ys eA [])/\bY w U.size [.int .i64 (p:Int),.int .i64 (a:Int),.int .i64 (t:Int),.int .i64 (b:Int),.int .i64 (r:Int)]) (λz _=>a-z.toNat) ⟨P5,eA,[],rfl,by simp,by simp,K5,hbw5⟩ ?_;rintro(z:Int) w6 ⟨P6,aw,ys,rfl,hyl,hys,K6,hbw6⟩;refine cL (λhlt=>?_) λhge=>?_
  ·refine⟨λu=>u=w6,rfl,bO ⟨some ⟨sp,0,none⟩,λu hu=>by cases hu;rw[add_lit];exact(bY.cell (b:=q) K6.tO.2).trans rfl,⟨(r:Int),λu hu=>by cases hu;rw[add_lit,hbw6.cell];rfl,?_⟩⟩⟩;obtain⟨GS,hGS,hSp⟩:=K6.sep.get .sp;have hSp:cZ w6 GS sp (VT cf.bK):=hSp;have hnl:(VT cf.bK).st.length=p:=by rw[hp];simp[VT]
   have hnE:lK xs (VT cf.bK).st.length (r:Int)=0:=by
    unfold lK;rw[zB hv,hnl,zB O]
   refine Oh (Qg ha K6.e) hSp (r:Int) (λhne=>absurd hnE hne) λ_ v7 Y e7 hYh hA=>?_;rw[hnl,dE,htbd]at hA;have K7:NK U (· = U.size) v7 _ tb cf {NB q cH C sp aw ys eA []with ys:=ys++[Y]}:=K6.put e7 (.ar ys.length) (S7 (N:=NB q cH C sp aw ys eA []) rfl (λj H=>by
    cases j with
    | ar k=>exact absurd rfl (H k)
    | _=>rfl)) (by
    show sB cf.bK cf.room tb (ys++[Y])[ys.length]? v7 _;rw[zg (zC _),mI,hp,hroom];exact hA)
   have V:=e7.bX hbw6 id;refine bO (K7.tO.2.rS (a:=aw.a) (n:=aw.len) (c:=aw.cap) rfl (nw (cs:=[.pointer (some ⟨Y.p,0,none⟩)]) λv8 hz8 e8 hb8=>?_));have K8:=K7.box e8 hz8;obtain⟨G,hG,d,ak⟩:=K8.step .eT;have d:bR aw 1 (eB (ys.map (·.p))) v8 G:=d;have hal:aw.len=ys.length:=by have:=d.1;simp[eB]at this;omega
   refine d.app (ys:=[.pointer (some ⟨Y.p,0,none⟩)]) rfl rfl ?_ (by simp[dJ]) ?_ ?_ mu λs' v9 _ e9 hr9=>?_
   ·intro j u hu;rw[add_lit,zG,hb8.cell];exact hu
   ·simp only;omega
   ·simp only;omega
   have hz9:=e9.1;have hbw9:bY v9 U.size _:=e9.bX (e8.bX V id) λE=>(K8.p _ (hG _ E)).2.1 (.inl rfl);have K9:=(ak v9 {NB q cH C sp aw ys eA []with ys:=ys++[Y],aw:=s',al:=(ys++[Y]).map (·.p)} (λb=>Grow G v8 b/\b<v9.size) (λj H=>by cases j<;>first|rfl|exact absurd rfl H) e9 (λb y=>y.1.imp id λE=>⟨E,λhB=>by have:=(K8.b b hB).2;omega⟩) (by
    show bR s' 1 (eB ((ys++[Y]).map (·.p))) v9 _;have:eB ((ys++[Y]).map (·.p))=eB (ys.map (·.p))++[.pointer (some ⟨Y.p,0,none⟩)]:=by simp[eB]
    rw[this];exact aI.mono hr9 λb y E=>⟨E,y⟩) λb hB=>by have:=(K8.b b hB).2;omega).drop (B':=(· = U.size)) λb y=>.inl y
   refine bO (K9.m6 (NB q cH C sp s' (ys++[Y]) eA []) (λj H=>by cases j<;>first|rfl|exact absurd rfl H) rfl (i:=7) rfl O λae P10 K10 gE=>?_)
   have M:=Wm gE hbw9 (ah K9);exact cC (m:=ys.length+1) O O ⟨⟨P10,s',ys++[Y],by simp,by simp;omega,λZ hZ=>(zS.1 hZ).elim (hys Z) λh=>by
    rw[zZ]at h;rw[h];exact hYh,K10,M⟩,O⟩
  ·have hya:ys.length=a:=by omega
   refine hbw6.rI rfl ?_;refine Zw (a:=bN) (λ(z:Int) w=>∃(P:Rg) (tw:Sl) (cs:List gQ),z=(cs.length:Int)/\cs.length<=t/\NK U (· = U.size) w P tb cf (NB q cH C sp aw ys tw cs)/\bY w U.size [.int .i64 (p:Int),.int .i64 (a:Int),.int .i64 (t:Int),.int .i64 (b:Int),.int .i64 (r:Int)]) (λz _=>t-z.toNat) ⟨P6,eA,[],rfl,by simp,K6,hbw6⟩ ?_;rintro(z:Int) w7 ⟨P7,tw,cs,rfl,hcsl,K7,V⟩;refine cL (λhlt=>?_) λhge2=>?_
   ·refine V.rI rfl (Oc (Qg ha K7.e) (b:Int) (λhvf=>by rw[hv]at hvf;cases hvf) (λ_ hn=>absurd ⟨O,O⟩ hn) λ_ _ _ v8 Y e8 hC=>?_);rw[dE,htbd]at hC;have K8:NK U (· = U.size) v8 _ tb cf {NB q cH C sp aw ys tw cs with cs:=cs++[Y]}:=K7.put e8 (.ca cs.length) (Wos (N:=NB q cH C sp aw ys tw cs) rfl (λj H=>by
     cases j with
     | ca k=>exact absurd rfl (H k)
     | _=>rfl)) (by
     show sE tb cf.cT (cs++[Y])[cs.length]? v8 _;rw[zg (zC _),mI,hbud];exact hC)
    have hbw8:=e8.bX V id;refine bO (K8.tO.2.rS (a:=tw.a) (n:=tw.len) (c:=tw.cap) rfl (nw (cs:=[.pointer (some ⟨Y.p,0,none⟩),.slice none 0 0,.nilIface]) λv9 hz9 e9 hb9=>?_));have K9:=K8.box e9 hz9;obtain⟨G,hG,d,ak⟩:=K9.step .cK;have d:bR tw 3 (ql cs) v9 G:=d;have hal:tw.len=cs.length:=by have:=d.1;rw[Ng]at this;omega
    refine d.app (ys:=[.pointer (some ⟨Y.p,0,none⟩),.slice none 0 0,.nilIface]) rfl rfl ?_ (by simp[dJ]) ?_ ?_ mu λs' ae _ e10 hr10=>?_
    ·intro j u hu;rw[add_lit,zG,hb9.cell];exact hu
    ·simp only;omega
    ·simp only;omega
    have hz10:=e10.1;have M:bY ae U.size _:=e10.bX (e9.bX hbw8 id) λE=>(K9.p _ (hG _ E)).2.1 (.inl rfl);have K10:=(ak ae {NB q cH C sp aw ys tw cs with cs:=cs++[Y],tw:=s',tl:=ql (cs++[Y])} (λb=>Grow G v9 b/\b<ae.size) (λj H=>by cases j<;>first|rfl|exact absurd rfl H) e10 (λb y=>y.1.imp id λE=>⟨E,λhB=>by have:=(K9.b b hB).2;omega⟩) (by
     show bR s' 3 (ql (cs++[Y])) ae _;have:ql (cs++[Y])=ql cs++[.pointer (some ⟨Y.p,0,none⟩),.slice none 0 0,.nilIface]:=by simp[ql]
     rw[this];exact aI.mono hr10 λb y E=>⟨E,y⟩) λb hB=>by have:=(K9.b b hB).2;omega).drop (B':=(· = U.size)) λb y=>.inl y
    refine bO (K10.m6 (NB q cH C sp aw ys s' (cs++[Y])) (λj H=>by cases j<;>first|rfl|exact absurd rfl H) rfl (i:=8) rfl O λv11 P11 K11 o11=>?_)
    have hbw11:=Wm o11 M (ah K10);exact cC (m:=cs.length+1) O O ⟨⟨P11,s',cs++[Y],by simp,by simp;omega,K11,hbw11⟩,O⟩
   ·have hct:cs.length=t:=by omega
    have S:cf.threads=cs.length:=by rw[←hcfd,hct]
    have aj:cf.gS=ys.length:=by rw[←hcfd,hya]
    have hN:=J0 g gd;refine h0 w7 ⟨q,sp,C,cH,aw,tw,ys,cs.map λc=>⟨c,eA⟩⟩ K7.e ⟨⟨?_,hys,?_,?_,?_,?_,?_,?_⟩,?_,g.aF K7.e,gd.aF K7.e,hN.1,hN.2⟩
    ·simp[Uy,aj]
    ·simp[Uy,S]
    ·simp[Uy,aj];omega
    ·simp[Uy,aj];omega
    ·simp[Uy,S];omega
    ·simp[Uy,S];omega
    ·intro B hB;have:=Bx hB;rw[this];rfl
    ·refine(Sep.loc CH.loc).mono (G:=λq=>U.size<=q) ?_ λb _ y=>y;obtain⟨ρ,hs⟩:=(Sep.loc jv.loc).mono K7.sep (G:=λq=>U.size<=q) λb _ y=>(K7.p b y).1;refine⟨ρ,λi=>?_⟩;have Q:=hs i;cases i with
     | hd=>exact Q
     | cH=>exact Q
     | sp=>exact Q
     | eT=>exact bR.fM Q
     | cK=>
      show bR tw 3 (gI (cs.map λc=>⟨c,eA⟩) (List.replicate cf.threads ⟨List.replicate tb.length il,[],none⟩)) w7 _;rw[S,MM];exact Q
     | live=>exact Q
     | ar k=>
      show lX ys[k]? (List.replicate cf.gS (fI cf.bK cf.room tb))[k]? w7 _;have Q:sB cf.bK cf.room tb ys[k]? w7 _:=Q;unfold lX;by_cases hk:k<ys.length
      ·rw[mD,zB O,cQ hk];rw[cQ hk]at Q;exact Q
      ·rw[zO O];trivial
     | ca k=>
      show lW (cs.map λc=>(⟨c,eA⟩:dQ))[k]? (List.replicate cf.threads (⟨List.replicate tb.length il,[],none⟩:Th))[k]? tb cf.cT w7 _;have Q:sE tb cf.cT cs[k]? w7 _:=Q;unfold lW;by_cases hk:k<cs.length
      ·rw[mD,zB O,zk,cQ hk];rw[cQ hk]at Q;exact Q
      ·rw[zk,zO O];trivial
     | hn k=>
      show lq (cs.map λc=>(⟨c,eA⟩:dQ))[k]? (List.replicate cf.threads (⟨List.replicate tb.length il,[],none⟩:Th))[k]? w7 _;unfold lq;by_cases hk:k<cs.length
      ·rw[mD,zB O,zk,cQ hk];exact gC.nil _ _ _
      ·rw[zk,zO O];trivial
 ·have rd:∀(i:Nat) (x:Int),[Value.int .i64 (p:Int),.int .i64 (a:Int),.int .i64 (t:Int),.int .i64 (b:Int),.int .i64 (r:Int)][i]?=some (.int .i64 x)->∀m,bY m U.size [.int .i64 (p:Int),.int .i64 (a:Int),.int .i64 (t:Int),.int .i64 (b:Int),.int .i64 (r:Int)]->cell m (Addr.add ⟨U.size,0,none⟩ i)=some (.int .i64 x):=λi x E m hm=>by
   rw[add_lit,hm.cell,zG];exact E
  refine⟨λm=>bY m U.size [.int .i64 (p:Int),.int .i64 (a:Int),.int .i64 (t:Int),.int .i64 (b:Int),.int .i64 (r:Int)],A,⟨(p:Int),rd 0 _ rfl,⟨(a:Int),rd 1 _ rfl,⟨(t:Int),rd 2 _ rfl,⟨(b:Int),rd 3 _ rfl,⟨(r:Int),rd 4 _ rfl,⟨?_,?_⟩⟩⟩⟩⟩⟩⟩
  ·refine UC (Qg ha W) hv λcH v16 X F=>⟨X.bX A id,Gj λv17 z17 af hm=>⟨af.bX (X.bX A id) id,?_⟩⟩;rw[htbd]at F;have hz16:=X.1;refine nw (cs:=[.slice cH.a cH.len cH.cap,.int .i64 (p:Int),.int .i64 (a:Int),.int .i64 (t:Int),.int .i64 (b:Int),.int .i64 (r:Int),.pointer none,.slice none 0 0,.slice none 0 0,.map (some v16.size)]) λv18 z18 ad hb18=>⟨ad.bX (af.bX (X.bX A id) id) id,hJ _ _ ⟨_,v17.size,cH,v16.size,rfl,FW (D:=λq=>v2.size<=q/\q<v16.size) (((W.trans X).trans af).trans ad) O (by rw[hdE];exact hb18) (ad.fC (hm .i64 (.ag 4)) id) ?_ (λb y=>O) O O O,ad.bX (af.bX (X.bX A id) id) id⟩⟩;exact aH.aF (aH.aF (aH.mono F (G:=λq=>v2.size<=q/\q<v16.size) λb y E=>⟨E,y⟩) af) ad
  ·refine Gj λv19 z19 ac hm=>⟨ac.bX A id,UC (Qg ha (W.trans ac)) hv λcH v20 ab F=>⟨ab.bX (ac.bX A id) id,?_⟩⟩;rw[htbd]at F;have hz20:=ab.1;refine nw (cs:=[.slice cH.a cH.len cH.cap,.int .i64 (p:Int),.int .i64 (a:Int),.int .i64 (t:Int),.int .i64 (b:Int),.int .i64 (r:Int),.pointer none,.slice none 0 0,.slice none 0 0,.map (some v2.size)]) λv21 z21 ai hb21=>⟨ai.bX (ab.bX (ac.bX A id) id) id,hJ _ _ ⟨_,v20.size,cH,v2.size,rfl,FW (D:=λq=>v19.size<=q/\q<v20.size) (((W.trans ac).trans ab).trans ai) O (by rw[hdE];exact hb21) (ai.fC (ab.fC (hm .i64 (.ag 4)) id) id) ?_ (λb y=>O) O O O,ai.bX (ab.bX (ac.bX A id) id) id⟩⟩;exact aH.aF (aH.mono F (G:=λq=>v19.size<=q/\q<v20.size) λb y E=>⟨E,y⟩) ai
end Go.Ar
namespace Go.Proofs
open Go.Vc
set_option maxRecDepth 100000
def Ze.h:Hn:=.q .o2 (.q (.q .o5 (.q .o2 (.c (.q .o3 .l) .l))) (.q (.q (.cW (.seq [.op,.op,.op,.cY false 2 [.op,.op]])) .aJ) (.q (.q .o2 (.c (.q (.q .o2 .aJ) (.q .o8 .l)) .l)) (.q .o8 (.q (.q .o2 .aJ) (.q (.q .o2 (.c (.q .o6 .l) .l)) (.q (.q .o8 (.q (.cW (.seq [.op,.op,.op,.op,.cY true 4 (RI.ops 4)])) (.c (.q .o3 .l) .l))) (.q .o9 (.q (.q .o2 (.c (.q .o3 .l) .l)) (.q .o8 (.q .o8 (.q .o4 (.q .o3 .l)))))))))))))
def Ze.v (a:R2)(b c d:Int)(e:Hp)(f:Int->Int->Hp->Prop):Prop:=aV #[.I b] 3 e λg h=>Yb.c a ⟨some g,1,1⟩ h λi j=>If (i != 0) (f 0 i j) (bW (λk l=>If k (f 0 1 l) (If (c==0) (If (d==0) (f 0 0 l) (Xw.c a b d 8 l λm n o=>f m n o)) (Xx.c a c l λp q r=>If (q != 0) (f 0 8 r) (If (d==0) (Zf.c a b c r λs t=>f 0 s t) (Qj.c a d 8 r λu v w=>bW (λx y=>If x (f c 0 y) (Xw.c a b d 8 y λz aa ab=>If (aa != 0) (f 0 aa ab) (Xx.c a z ab λac ad ae=>ZA.c (if ac<p then ac else p) ae λaf ag=>Z3.c a z c af ag λah=>Zf.c a b c ah λai aj=>f z 0 aj))) λak=>If (d<=p) (bL (2*u) λal=>ak (decide (p<=al)) w) (ak false w)))))) λam=>If (d<0) (am true j) (am (decide (d>16384)) j))
theorem Ze.o {a b c d e f}(g:Ze.v a b c d e f):Ze.c a b c d e f:=Wa Tryz.func14 (x:=Ze.h) (R0 g)
def QW.h:Hn:=.q .o2 (.q (.q .o5 (.q .o2 (.c (.q .o3 .l) .l))) (.q (.q .o3 .aJ) (.q .o6 (.q (.o 11) (.q (.q .o2 (.c (.q .o3 .l) .l)) (.q .o5 (.q (.q .o2 (.k (.loop [(49,.I)] (.q .o1 (.q (.c .l .l) (.q (.k (.q .o2 (.q .o1 (.q (.q .o1 (.k (.loop [(13,.one (.i .u64)),(52,.I)] (.q .o1 (.q (.c .l .l) (.q (.k (.q .o2 (.q .o5 (.q .o4 (.c .gE .l))))) .o2)))))) .o9)))) .o2)))))) (.q .o3 .l))))))))
def QW.v (a:R2)(b:Int)(c:ByteArray)(d:Hp)(e:Int->Int->Hp->Prop):Prop:=aV #[.I b] 3 d λf g=>Yb.c a ⟨some f,1,1⟩ g λh i=>If (h != 0) (e 0 h i) (If (((c.size:Nat):Int)>400) (e 0 3 i) (bL (((c.size:Nat):Int)+8) λj=>bL (j-1) λk=>Nz 8<|bL (k.tdiv 8) λl=>bL (l+1) λm=>bL (m*8) λn=>Xw.c a b n 8 i λo p q=>If (p != 0) (e 0 p q) (XT.c a o ((c.size:Nat):Int) q λr s=>WU [bN] (λt=>t 0 s) λu (v:Int) w=>If (v<l) (WU [(.i .u64),bN] (λx=>x 0 0 w) λy (z:Int) (aa:Int) ab=>If (aa<8) (bL (v*8) λac=>bL (ac+aa) λad=>If (ad<((c.size:Nat):Int)) (Ci c ad λae=>Ar .u64 ae λaf=>bL (8*aa) λag=>Nn ag<|Ar .u64 (af*2^(min ag.toNat IntKind.u64.bits)) λah=>bL (aa+1) λai=>y (bits .or .u64 z ah) ai ab) (bL (aa+1) λaj=>y z aj ab)) (bL (v+1) λak=>bL (ak*8) λal=>bL (o+al) λam=>bL z λan=>XT.c a am an ab λao ap=>bL (v+1) λaq=>u aq ap)) (e o 0 w))))
theorem QW.o {a b c d e}(f:QW.v a b c d e):QW.c a b c d e:=Wa Tryz.func18 (x:=QW.h) (R0 f)
def QA.h:Hn:=.q .o1 (.q (.q .o3 (.q .o2 .aJ)) (.q (.q .o2 .aK) (.q (.q (.cW (.seq [.op,.op,.op,.op,.op,.op,.cY false 5 (RI.ops 5)])) .aK) (.q .o5 .aM))))
def QA.v (a:R2)(b c d:Int)(e:Hp)(f:aN):Prop:=Yb.c a ⟨none,0,0⟩ e λg h=>If (g != 0) (f g h) (If (d<0) (f 1 h) (ZK.c a b d h λi j=>bW (λk l=>If k (f 7 l) (Z3.c a b c d l λm=>f 0 m)) λn=>If (!i) (n true j) (ZK.c a c d j λo p=>n (!o) p)))
theorem QA.o {a b c d e f}(g:QA.v a b c d e f):QA.c a b c d e f:=Wa Tryz.func19 (x:=QA.h) (R0 g)
def Qj.h:Hn:=.q .o2 (.q (.q .o3 (.q .o2 (.c (.q .o3 .l) .l))) (.q (.q (.cW (.seq [.op,.op,.op,.cY false 2 [.op,.op],.op,.cY false 2 [.op,.op],.op,.cY false 2 [.op,.op],.op,.cY false 5 (RI.ops 5)])) .aJ) (.q .o3 (.q (.q .o9 (.q .o2 (.c (.q .o7 .l) .l))) (.q .o7 .l)))))
def Qj.v (a:R2)(b c:Int)(d:Hp)(e:Int->Int->Hp->Prop):Prop:=Yb.c a ⟨none,0,0⟩ d λf g=>If (f != 0) (e 0 f g) (bW (λh i=>bW (λj k=>bW (λl m=>bW (λn o=>If n (e 0 1 o) (Y4.c a o λp q=>Z7.c p b c q λr s t=>If (s==0) (Ix p.a p.len r 3 λu=>aQ u 0 t λv=>e v 0 t) (bL (b+256) λw=>bL (w-1) λx=>Nz 256<|bL (x.tdiv 256) λy=>bL (y*256) λz=>e z 0 t))) λaa=>If l (aa true m) (bL (c-1) λab=>aa ((bits .and .i64 c ab) != 0) m)) λac=>If j (ac true k) (ac (decide (c>256)) k)) λad=>If h (ad true i) (ad (decide (c<1)) i)) λae=>If (b<1) (ae true g) (ae (decide (b>16384)) g))
theorem Qj.o {a b c d e}(f:Qj.v a b c d e):Qj.c a b c d e:=Wa Tryz.func28 (x:=Qj.h) (R0 f)
def QU.h:Hn:=.q .o2 (.q (.q .o3 (.q .o2 (.c (.q .o3 .l) .l))) (.q .o8 (.q (.q .o2 .aJ) (.q .o8 (.q (.q (.cW (.seq [.op,.op,.op,.cY false 2 [.op,.op],.op,.cY false 2 [.op,.op],.op,.cY false 8 (RI.ops 8)])) .aJ) (.q .o3 (.q (.q .o3 (.k (.loop [(57,.I)] (.q .o1 (.q (.c .l .l) (.q (.k (.q .o2 (.q (.o 13) (.o 11)))) .o2)))))) (.q .o4 .l))))))))
def QU.v (a:R2)(b:Int)(c:Hp)(d:ByteArray->Int->Hp->Prop):Prop:=Yb.c a ⟨none,0,0⟩ c λe f=>If (e != 0) (d (ByteArray.mk #[]) e f) (Xx.c a b f λg h i=>If (h != 0) (d (ByteArray.mk #[]) 8 i) (WT.c a b i λj k l=>bW (λm n=>bW (λo p=>bW (λq r=>If q (d (ByteArray.mk #[]) 2 r) (Mk j j 1 5 [.int .u8 0] r λs t=>WU [bN] (λu=>u 0 t) λv (w:Int) x=>If (w<((s.len:Nat):Int)) (Nz 8<|bL (w.tdiv 8) λy=>bL (y+1) λz=>bL (z*8) λaa=>bL (b+aa) λab=>WT.c a ab x λac ad ae=>Ar .u64 ac λaf=>Nz 8 <| bL (8*(w.tmod 8)) λag=>Nn ag <| Ar .u8 (af.fdiv (2^(min ag.toNat IntKind.u64.bits))) λah=>Ix s.a s.len w 1 λai=>eP ai (.int .u8 ah) ae λaj=>bL (w+1) λak=>v ak aj) (B8 s x λal=>d al 0 x))) λam=>If o (am true p) (bL (j+8) λan=>bL (an-1) λao=>Nz 8<|bL (ao.tdiv 8) λap=>bL (ap+1) λaq=>ZA.c g p λar au=>am (decide (aq>ar)) au)) λav=>If m (av true n) (av (decide (j>400)) n)) λaw=>If (k != 0) (aw true l) (aw (decide (j<0)) l)))
theorem QU.o {a b c d}(e:QU.v a b c d):QU.c a b c d:=Wa Tryz.func29 (x:=QU.h) (R0 e)
def Yb.h:Hn:=.q .o1 (.q (.q (.cW (.seq [.op,.op,.op,.cY false 4 (RI.ops 4)])) .aK) (.q (.q .o3 (.k (.loop [(17,.I)] (.q .o1 (.q (.c .l .l) (.q (.k (.q .o3 (.q (.q (.cW (.seq [.op,.op,.op,.cY false 5 (RI.ops 5)])) .aK) (.q .o4 .aK)))) .o2)))))) .aM))
def Yb.v (a:R2)(b:Sl)(c:Hp)(d:aN):Prop:=bW (λe f=>If e (d 1 f) (WU [bN] (λg=>g 0 f) λh (i:Int) j=>If (i<((b.len:Nat):Int)) (Ix b.a b.len i 1 λk=>bM k j λl=>bW (λm n=>If m (d 1 n) (Zo.c a l n λo p=>If (!(o.toList==(ByteArray.mk #[]).toList)) (d 5 p) (bL (i+1) λq=>h q p))) λr=>If (l<0) (r true j) (Yv.c a j λs t u v w x=>r (decide (l≥u)) x)) (d 0 j))) λy=>If a.isNone (y true c) (Yv.c a c λz aa ab ac ad ae=>y (z==0) ae)
theorem Yb.o {a b c d}(e:Yb.v a b c d):Yb.c a b c d:=Wa Tryz.func33 (x:=Yb.h) (R0 e)
def Z3.h:Hn:=.q .o3 (.q (.q .o2 (.k (.loop [(15,.I)] (.q .o1 (.q (.c .l .l) (.q (.k (.q .o2 (.o 13))) .o2)))))) (.q .o3 (.k (.loop [(33,.I)] (.q .o1 (.q (.c .l .l) (.q (.k (.q .o5 .o7)) .o2)))))))
def Z3.v (a:R2)(b c d:Int)(e:Hp)(f:aP):Prop:=Mk d d 8 3 [.I 0] e λg h=>WU [bN] (λi=>i 0 h) λj (k:Int) l=>If (k<d) (bL (k*8) λm=>bL (c+m) λn=>WT.c a n l λo p q=>Ix g.a g.len k 1 λr=>eP r (.I o) q λs=>bL (k+1) λt=>j t s) (WU [bN] (λu=>u 0 l) λv (w:Int) x=>If (w<((g.len:Nat):Int)) (Ix g.a g.len w 1 λy=>bM y x λz=>bL (w*8) λaa=>bL (b+aa) λab=>XT.c a ab z x λac ad=>bL (w+1) λae=>v ae ad) (f x))
theorem Z3.o {a b c d e f}(g:Z3.v a b c d e f):Z3.c a b c d e f:=Wa Tryz.func38 (x:=Z3.h) (R0 g)
def ZA.h:Hn:=.q .o1 (.q .o3 .l)
def ZA.v (a:Int)(b:Hp)(c:aN):Prop:=Nz 8<|bL (a.tdiv 8) λd=>c d b
theorem ZA.o {a b c}(d:ZA.v a b c):ZA.c a b c:=Wa Tryz.func39 (x:=ZA.h) (R0 d)
def ZK.h:Hn:=.q .o1 (.q .o9 (.q (.cW (.seq [.op,.op,.op,.cY true 3 (RI.ops 3),.op,.cY true 5 (RI.ops 5),.op,.cY true 10 (RI.ops 10),.op])) .l))
def ZK.v (a:R2)(b c:Int)(d:Hp)(e:aO):Prop:=Zv.c a b d λf g h i j k=>aV #[.I 0,.I 0,.I 0,.I 0] 54 k λl m=>aR l 0 (.I f) m λn=>aR l 1 (.I g) n λo=>aR l 2 (.I h) o λp=>aR l 3 (.I i) p λq=>bW (λr s=>bW (λt u=>bW (λv w=>e v w) λx=>If t (bL (c*8) λy=>bL (b+y) λz=>aQ l 0 u λaa=>aQ l 1 u λab=>bL (aa+ab) λac=>x (decide (z<=ac)) u) (x false u)) λad=>If r (aQ l 1 s λae=>ZA.c ae s λaf ag=>ad (decide (c<=af)) ag) (ad false s)) λah=>If (j==0) (Nz 8 <| ah ((b.tmod 8)==0) q) (ah false q)
theorem ZK.o {a b c d e}(f:ZK.v a b c d e):ZK.c a b c d e:=Wa Tryz.func41 (x:=ZK.h) (R0 f)
end Go.Proofs
namespace Go.Ar
open Go Go.Vc Go.Proofs
variable {U u w w':Hp}{F B P Q:Rg}{L:dS}{H:Hw}{t:Nat}{g:Th}
theorem η (u:Value){R:ByteArray->Hp->Prop}(h:We Tryz.prog 314 #[u] [.one .str] U R):jB Tryz.prog (.iface 210 u) "freehold/heap.name" [] [.one .str] U R :=
 ⟨210,u,314,rfl,λw=>by kernel_rfl,λxs w=>by kernel_rfl,h⟩
theorem δ (u:Value){R:ByteArray->Hp->Prop}(h:We Tryz.prog 318 #[u] [.one .str] U R):jB Tryz.prog (.iface 220 u) "freehold/heap.name" [] [.one .str] U R :=
 ⟨220,u,318,rfl,λw=>by kernel_rfl,λxs w=>by kernel_rfl,h⟩
theorem Pp (u:Value){R:ByteArray->Hp->Prop}(h:We Tryz.prog 320 #[u] [.one .str] U R):jB Tryz.prog (.iface 224 u) "freehold/heap.name" [] [.one .str] U R :=
 ⟨224,u,320,rfl,λw=>by kernel_rfl,λxs w=>by kernel_rfl,h⟩
theorem Κ (u:Value){R:ByteArray->Hp->Prop}(h:We Tryz.prog 321 #[u] [.one .str] U R):jB Tryz.prog (.iface 226 u) "freehold/heap.name" [] [.one .str] U R :=
 ⟨226,u,321,rfl,λw=>by kernel_rfl,λxs w=>by kernel_rfl,h⟩
theorem MS (u:Value){R:ByteArray->Hp->Prop}(h:We Tryz.prog 319 #[u] [.one .str] U R):jB Tryz.prog (.iface 223 u) "freehold/heap.name" [] [.one .str] U R :=
 ⟨223,u,319,rfl,λw=>by kernel_rfl,λxs w=>by kernel_rfl,h⟩
theorem LH (u:Value){R:ByteArray->Hp->Prop}(h:We Tryz.prog 315 #[u] [.one .str] U R):jB Tryz.prog (.iface 212 u) "freehold/heap.name" [] [.one .str] U R :=
 ⟨212,u,315,rfl,λw=>by kernel_rfl,λxs w=>by kernel_rfl,h⟩
theorem TV (u:Value){R:ByteArray->Hp->Prop}(h:We Tryz.prog 316 #[u] [.one .str] U R):jB Tryz.prog (.iface 214 u) "freehold/heap.name" [] [.one .str] U R :=
 ⟨214,u,316,rfl,λw=>by kernel_rfl,λxs w=>by kernel_rfl,h⟩
theorem O9 (u:Value){R:ByteArray->Hp->Prop}(h:We Tryz.prog 322 #[u] [.one .str] U R):jB Tryz.prog (.iface 231 u) "freehold/heap.name" [] [.one .str] U R :=
 ⟨231,u,322,rfl,λw=>by kernel_rfl,λxs w=>by kernel_rfl,h⟩
theorem Te (u:Value){R:ByteArray->Hp->Prop}(h:We Tryz.prog 323 #[u] [.one .str] U R):jB Tryz.prog (.iface 234 u) "freehold/heap.name" [] [.one .str] U R :=
 ⟨234,u,323,rfl,λw=>by kernel_rfl,λxs w=>by kernel_rfl,h⟩
theorem Rr (u:Value){R:ByteArray->Hp->Prop}(h:We Tryz.prog 324 #[u] [.one .str] U R):jB Tryz.prog (.iface 238 u) "freehold/heap.name" [] [.one .str] U R :=
 ⟨238,u,324,rfl,λw=>by kernel_rfl,λxs w=>by kernel_rfl,h⟩
theorem Ny (u:Value){R:ByteArray->Hp->Prop}(h:We Tryz.prog 317 #[u] [.one .str] U R):jB Tryz.prog (.iface 216 u) "freehold/heap.name" [] [.one .str] U R :=
 ⟨216,u,317,rfl,λw=>by kernel_rfl,λxs w=>by kernel_rfl,h⟩
def oM (s:ByteArray):Prop:=(s.toList==(ByteArray.mk #[]).toList)=false
theorem OC (p:Ph){R:ByteArray->Hp->Prop}(hR:∀s σ',aG U σ'->oM s->R s σ'):jB Tryz.prog (j9 (some p)) "freehold/heap.name" [] [.one .str] U R := by
 cases p with
 | take k=>
  refine η _ (Z8.o ?_);unfold Z8.v;exact nw (cs:=[.int .i64 (k:Int)]) λv hz e hb=>hR _ v e (by unfold oM;decide +kernel)
 | cN k w=>
  refine δ _ (Zi.o ?_);unfold Zi.v;exact nw (cs:=[.int .i64 (k:Int),.int .i64 (w:Int)]) λv hz e hb=>hR _ v e (by unfold oM;decide +kernel)
 | cP k w=>
  refine Pp _ (Zz.o ?_);unfold Zz.v;exact nw (cs:=[.int .i64 (k:Int),.int .i64 (w:Int)]) λv hz e hb=>hR _ v e (by unfold oM;decide +kernel)
 | grow k w=>
  refine Κ _ (Qb.o ?_);unfold Qb.v;exact nw (cs:=[.int .i64 (k:Int),.int .i64 (w:Int)]) λv hz e hb=>hR _ v e (by unfold oM;decide +kernel)
 | fill=>
  refine MS _ (Qf.o ?_);unfold Qf.v;exact nw (cs:=[]) λv hz e hb=>hR _ v e (by unfold oM;decide +kernel)
 | eN m=>
  refine LH _ (Z1.o ?_);unfold Z1.v;exact nw (cs:=[.int .i64 (m:Int)]) λv hz e hb=>hR _ v e (by unfold oM;decide +kernel)
 | find x=>
  refine TV _ (Qc.o ?_);unfold Qc.v;exact nw (cs:=[.int .i64 x]) λv hz e hb=>hR _ v e (by unfold oM;decide +kernel)
 | put k x=>
  refine O9 _ (Qt.o ?_);unfold Qt.v;exact nw (cs:=[.int .i64 (k:Int),.int .i64 x]) λv hz e hb=>hR _ v e (by unfold oM;decide +kernel)
 | back=>
  refine Te _ (Qd.o ?_);unfold Qd.v;exact nw (cs:=[]) λv hz e hb=>hR _ v e (by unfold oM;decide +kernel)
 | dG s a=>
  refine Rr _ (Qe.o ?_);unfold Qe.v;exact nw (cs:=[.int .i64 s,.int .i64 a]) λv hz e hb=>hR _ v e (by unfold oM;decide +kernel)
 | drain=>
  refine Ny _ (Z2.o ?_);unfold Z2.v;exact nw (cs:=[]) λv hz e hb=>hR _ v e (by unfold oM;decide +kernel)
def HA (H:Hw)(thread:Int):Option Ph:=if 0<=thread/\thread<(H.bQ.length:Int)then(match H.bQ[thread.toNat]? with
 | some g=>g.ph
 | none=>none)else none
theorem T9 (h:HH U F L H)(thread:Int){R:ByteArray->Hp->Prop}(hR:∀s σ',aG U σ'->(s.toList==(ByteArray.mk #[]).toList)=(HA H thread).isNone->R s σ'):Zo.c (aW L.p) thread U R:=by
 refine Zo.o ?_;unfold Zo.v;have d:HA H thread=none->R (ByteArray.mk #[]) U:=λhp=>hR _ U (Ext.refl _ _) (by rw[hp];decide +kernel);refine QP h (Ko (λr w=>w=U/\r = !decide (0<=thread/\thread<(H.bQ.length:Int))) (λr w ⟨u,z⟩=>?_) λJ A=>bZ rfl (H5 h thread (A _ _ ⟨rfl,rfl⟩)));subst u;refine Ko (λr w2=>w2=w/\r=(HA H thread).isNone) (λr w2 ⟨u,b⟩=>?_) λJ1 m=>?_
 ·rw[u];cases hp:HA H thread with
  | none=>rw[hp]at b;exact cJ (by rw[b];rfl) (d hp)
  | some p=>
   rw[hp]at b;have a:=hp;unfold HA at a;split at a
   ·rename_i hth;obtain⟨t,rfl⟩:∃t:Nat,thread=(t:Int):=⟨thread.toNat,O⟩;have j:t<H.bQ.length:=by omega
    obtain⟨x,g,y,i⟩:=h.th j;rw[dE,i]at a;simp only at a;refine bZ (by rw[b];rfl) (bO (h.hd.rS rfl (h.tR y i ?_)));rw[a];exact OC p λs σ' e j=>hR s σ' e (by rw[hp];exact j)
   ·cases a
 ·by_cases hth:0<=thread/\thread<(H.bQ.length:Int)
  ·obtain⟨t,rfl⟩:∃t:Nat,thread=(t:Int):=⟨thread.toNat,O⟩;have j:t<H.bQ.length:=by omega
   obtain⟨x,g,y,i⟩:=h.th j;refine bZ (by rw[z,zI hth];rfl) (bO (h.hd.rS rfl (h.tR y i ⟨tQ _,m _ _ ⟨rfl,?_⟩⟩)));rw[vY];unfold HA;rw[zB hth,dE,i]
  ·refine cJ (by rw[z,zJ hth];rfl) (m _ _ ⟨rfl,?_⟩);unfold HA;rw[zA hth];rfl
def im (H:Hw):Prop:=1<=H.cf.bK/\H.cf.threads=H.bQ.length/\kZ H.tb
def QO (H:Hw)(thread:Int):Int:=if 0<=thread/\thread<(H.bQ.length:Int)then(if HA H thread=none then 0 else 5)else 1
theorem Dp (h:HH U F L H)(hc:im H){R:aN}(hR:∀σ',aG U σ'->R 0 σ'):Yb.c (aW L.p) ⟨none,0,0⟩ U R:=by
 refine Yb.o ?_;unfold Yb.v;have j:=hc.1;refine Ko (λr w=>aG U w/\r=false) (λr w ⟨g,d⟩=>?_) λJ b=>bZ rfl (G6 h λσ' e=>b _ _ ⟨e,?_⟩)
 ·subst d;refine bZ rfl (Zw (a:=bN) (λ(z:Int) w=>z=0/\aG U w) (λ_ _=>0) ⟨rfl,g⟩ ?_);rintro(z:Int) w ⟨rfl,e⟩;exact dR aA (hR w e)
 ·rw[kR];omega
theorem Ij (h:HH U F L H)(hc:im H){b:Nat}{thread:Int}(hb:bY U b [.int .i64 thread])(hbF:¬F b){R:aN}(hR:∀σ',aG U σ'->R (QO H thread) σ'):Yb.c (aW L.p) ⟨some ⟨b,0,none⟩,1,1⟩ U R:=by
 refine Yb.o ?_;unfold Yb.v;obtain⟨E,K,_⟩:=hc;refine Ko (λr w=>aG U w/\r=false) (λr w ⟨D,g⟩=>?_) λJ A=>bZ rfl (G6 h λσ' e=>A _ _ ⟨e,by rw[kR];omega⟩);subst g;refine bZ rfl (Zw (a:=bN) (λ(z:Int) w=>aG U w/\(z=0\/z=1/\QO H thread=0)) (λz _=>1-z.toNat) ⟨D,.inl rfl⟩ ?_);rintro(z:Int) w ⟨e,hz⟩;rcases hz with rfl|⟨rfl,h0⟩
 ·have u:=e.bX hb id;have x:=h.aF e;refine jt aA (ix (wK _) (by show(0:Int)<((1:Nat):Int);decide) ?_);rw[add_lit];refine u.sM rfl ?_;refine Ko (λr w2=>aG w w2/\r = !decide (0<=thread/\thread<(H.bQ.length:Int))) (λr w2 ⟨e2,g⟩=>?_) λJ2 j=>?_
  ·by_cases hth:0<=thread/\thread<(H.bQ.length:Int)
   ·rw[zI hth]at g;refine bZ (by rw[g];rfl) (T9 (x.aF e2) thread λs v3 y C=>?_);rw[C];have d:QO H thread=if HA H thread=none then 0 else 5:=by unfold QO;rw[zB hth]
    cases hp:HA H thread with
    | none=>
     rw[hp]at d;exact bZ rfl (cC (m:=1) O O ⟨⟨(e.trans e2).trans y,.inr ⟨rfl,by rw[d];rfl⟩⟩,by decide⟩)
    | some p=>
     rw[hp]at d;have:=hR v3 ((e.trans e2).trans y);rw[d]at this;exact cJ rfl this
   ·rw[zJ hth]at g;have:=hR w2 (e.trans e2);unfold QO at this;rw[zA hth]at this;exact cJ (by rw[g];rfl) this
  ·refine cL (λB=>j _ _ ⟨Ext.refl _ _,?_⟩) λB=>G6 x λG e2=>j _ _ ⟨e2,?_⟩
   ·rw[zJ O];rfl
   ·by_cases hge:thread≥(H.cf.threads:Int)
    ·rw[zI hge,zJ O];rfl
    ·rw[zJ hge,zI O];rfl
 ·have:=hR w e;rw[h0]at this;exact dR aA this
end Go.Ar
namespace Go.Ar
open Go Go.Vc Go.Proofs
open Go.Bu (fZ)
variable {U u w w':Hp}{F B P Q:Rg}{L:dS}{H H':Hw}{t:Nat}{g:Th}
def VP (H:Hw)(thread kind size align addr:Int)(H':Hw)(a e:Int):Prop:=
 (Va H thread kind size align addr=.inl e/\e≠0/\H'=H/\a=0)\/∃t p n,Va H thread kind size align addr=.inr (t,p)/\jP n (eO H t (some p)) t p H' a e
theorem Bl (hso:HQ)(h:HH U F L H)(hv:kZ H.tb){thread kind size align addr:Int}{a e:Int}(hw:VP H thread kind size align addr H' a e){R:Int->Int->Hp->Prop}
 (hR:∀σ' ts',Ext F U σ'->HH σ' (Grow F U) {L with ts:=ts'} H'->R a e σ'):XX.c (aW L.p) thread kind size align addr U R:=by
 rcases hw with⟨hs,hne,rfl,rfl⟩|⟨t,p,n,hs,hr⟩
 ·exact DN hso h hv thread kind size align addr (λg b _ σ' i d=>by
   rw[hs]at b;cases b;exact hR σ' L.ts i d) λt p b=>by rw[hs]at b;cases b
 ·exact DN hso h hv thread kind size align addr (λg b=>by rw[hs]at b;cases b) λm j b=>by
   rw[hs]at b;cases b;exact⟨n,H',a,e,hr,hR⟩
theorem VC (hso:HQ)(h:HH U F L H)(hv:kZ H.tb){thread size align:Int}{a e:Int}(hw:VP H thread 0 size align 0 H' a e){R:Int->Int->Hp->Prop}
 (hR:∀σ' ts',Ext F U σ'->HH σ' (Grow F U) {L with ts:=ts'} H'->R a e σ'):Xw.c (aW L.p) thread size align U R:=by
 refine Xw.o ?_;unfold Xw.v;exact Bl hso h hv hw hR
theorem BC (hso:HQ)(h:HH U F L H)(hv:kZ H.tb){thread addr:Int}{a e:Int}(hw:VP H thread 1 0 0 addr H' a e){R:aN}
 (hR:∀σ' ts',Ext F U σ'->HH σ' (Grow F U) {L with ts:=ts'} H'->R e σ'):Zf.c (aW L.p) thread addr U R:=by
 refine Zf.o ?_;unfold Zf.v;exact Bl hso h hv hw hR
theorem RZ (hso:HQ)(h:HH U F L H)(hv:kZ H.tb){thread:Int}{a e:Int}(hw:VP H thread 2 0 0 0 H' a e){R:aN}
 (hR:∀σ' ts',Ext F U σ'->HH σ' (Grow F U) {L with ts:=ts'} H'->R e σ'):Zt.c (aW L.p) thread U R:=by
 refine Zt.o ?_;unfold Zt.v;exact Bl hso h hv hw hR
def QF (H' H:Hw):Prop:=H'.tb=H.tb/\H'.cf=H.cf/\H'.bQ.length=H.bQ.length/\H'.bT.length=H.bT.length
theorem QF.refl (H:Hw):QF H H:=⟨rfl,rfl,rfl,rfl⟩
theorem QF.trans {H1 H2 H3:Hw}(a:QF H2 H1)(b:QF H3 H2):QF H3 H1:=⟨b.1.trans a.1,b.2.1.trans a.2.1,b.2.2.1.trans a.2.2.1,b.2.2.2.trans a.2.2.2⟩
theorem Ky (H:Hw)(t:Nat)(f:Th->Th):QF (H.eC t f) H:=⟨rfl,rfl,by simp[Hw.eC],rfl⟩
theorem Qw (H:Hw)(k:Nat)(A:AR)(sp:Sp):QF {H.cG k A with sp:=sp} H:=⟨rfl,rfl,rfl,by simp[Hw.cG]⟩
theorem OF (H:Hw)(k:Nat)(part:Nat->List Int)(j:Nat):QF (VG H k part (List.range j)) H:=by
 induction j with
 | zero=>exact QF.refl H
 | succ j ih=>
  rw[VO];split
  ·split
   ·exact ih
   ·exact ih.trans (Qw _ _ _ _)
  ·exact ih
theorem MX (H:Hw)(own k:Nat)(xs:List Int):QF (G7 H own k xs) H:=by
 unfold G7;split
 ·split
  ·exact Qw _ _ _ H.sp
  ·refine QF.trans ?_ (OF _ _ _ _);split
   ·exact Qw _ _ _ H.sp
   ·exact QF.refl H
 ·exact QF.refl H
theorem Oj (H:Hw)(t k:Nat)(x:Int):QF (iJ H t k x) H:=by
 unfold iJ;simp only;split<;>split<;>exact⟨rfl,rfl,by simp[Hw.eC,Kl],rfl⟩
theorem N6 (H:Hw)(t:Nat)(p:Ph):QF (Wv H t p).1 H:=by
 cases p with
 | take k=>simp only[Wv];split<;>exact⟨rfl,rfl,by simp[Ub,Kl,Hw.eC,Hw.cG],by simp[Ub,Kl,Hw.eC,Hw.cG]⟩
 | cN k w=>
  simp only[Wv];split
  ·split
   ·exact(Qw _ _ _ H.sp).trans (Ky _ _ _)
   ·exact QF.refl H
  ·exact QF.refl H
 | cP k w=>
  simp only[Wv];split
  ·exact Qw _ _ _ H.sp
  ·exact(Qw _ _ _ H.sp).trans (Ky _ _ _)
 | grow k w=>simp only[Wv];split<;>exact Qw _ _ _ _
 | fill=>
  simp only[Wv];split
  ·exact⟨rfl,rfl,by simp[Ub,Kl,Hw.eC,Hw.cG],by simp[Ub,Kl,Hw.eC,Hw.cG]⟩
  ·exact QF.refl H
 | eN m=>simp only[Wv];split<;>exact⟨rfl,rfl,by simp[Ub,Kl,Hw.eC,Hw.cG],by simp[Ub,Kl,Hw.eC,Hw.cG]⟩
 | find x=>
  simp only[Wv,HL];split
  ·exact QF.refl H
  ·split
   ·exact⟨rfl,rfl,rfl,rfl⟩
   ·exact QF.trans (H2:={H with live:=Go.Vc.dK H.live x}) ⟨rfl,rfl,rfl,rfl⟩ (Ky _ _ _)
 | put k x=>exact Oj H t k x
 | back=>
  simp only[Wv];split
  ·exact(Ky _ _ _).trans (MX _ _ _ _)
  ·exact QF.refl H
 | dG s a=>
  simp only[Wv];split
  ·exact Qw _ _ _ H.sp
  ·exact QF.refl H
 | drain=>exact Ky _ _ _
theorem Ho (H:Hw)(t:Nat)(p:Ph):QF (Q6 H t p) H:=(N6 H t p).trans (Ky _ _ _)
theorem CA {n:Nat}{H H':Hw}{t:Nat}{p:Ph}{a e:Int}(h:jP n H t p H' a e):QF H' H:=by
 induction h with
 | done=>exact Ho _ _ _
 | next _ _ _ ih=>exact(Ho _ _ _).trans ih
theorem Up {thread kind size align addr a e:Int}(h:VP H thread kind size align addr H' a e):QF H' H:=by
 rcases h with⟨_,_,rfl,_⟩|⟨t,p,n,_,hr⟩
 ·exact QF.refl _
 ·exact(Ky _ _ _).trans (CA hr)
theorem im.bV (h:im H)(k:QF H' H):im H':=⟨by rw[k.2.1];exact h.1,by rw[k.2.1,k.2.2.1];exact h.2.1,by rw[k.1];exact h.2.2⟩
end Go.Ar
namespace Go.Ar
variable {c:cD}{ss:List cM}
structure dI (c:cD) (ss:List cM):Prop where
 ok:c.ok
 tk:∀s∈ss,s.tk.length=c.n
 sU:ss.Pairwise λa b=>a.st+c.bK<=b.st
def Tk (c:cD)(ss:List cM)(x:Int):Prop:=eD c ss x=some true
def uH (c:cD)(ss:List cM)(p:Nat):Prop:=∃s∈ss,s.st<=p/\p<s.st+c.bK
theorem dI.pos (h:dI c ss):0<c.size:=by have:=h.ok;unfold cD.ok at this;omega
theorem dI.pg (h:dI c ss):1<=c.bK:=by have:=h.ok;unfold cD.ok at this;omega
theorem dI.nq (h:dI c ss):ss.Pairwise λa b=>a.st<b.st:=h.sU.imp λ{a b} d=>by have:=h.pg;omega
theorem dI.sR (h:dI c ss){i j:Nat}{s t:cM}(hi:ss[i]?=some s)(hj:ss[j]?=some t)(hij:i<j):s.st+c.bK<=t.st:=by
 obtain⟨b,rfl⟩:=cV.1 hi;obtain⟨a,rfl⟩:=cV.1 hj;exact zr.1 h.sU i j b a hij
theorem dI.vn (h:dI c ss){i j:Nat}{s t:cM}{p:Nat}(hi:ss[i]?=some s)(hj:ss[j]?=some t)(h1:s.st<=p)(h2:p<s.st+c.bK)(h3:t.st<=p)(h4:p<t.st+c.bK):i=j:=by
 rcases pa i j with hl|hl|hl
 ·have:=h.sR hi hj hl;omega
 ·exact hl
 ·have:=h.sR hj hi hl;omega
theorem E5 (hp:0<c.size){s:cM}{i:Nat}(hi:i<c.n):s.st*256<=at_ c s i/\at_ c s i+c.size<=(s.st+c.bK)*256:=by
 have b:=cD.xC c;have a:(i+1)*c.size<=c.n*c.size:=k7 _ hi;unfold at_;rw[zl]at a;omega
theorem HM (hp:0<c.size){s:cM}{i x:Nat}(hi:i<c.n)(h1:at_ c s i<=x)(h2:x<at_ c s i+c.size):s.st<=x/256/\x/256<s.st+c.bK:=by
 have:=E5 hp (s:=s) hi;omega
theorem Ha (h:dI c ss){k l:Nat}{s t:cM}{i j x:Nat}(hk:ss[k]?=some s)(hl:ss[l]?=some t)(hi:i<c.n)(hj:j<c.n)(h1:at_ c s i<=x)(h2:x<at_ c s i+c.size)(h3:at_ c t j<=x)(h4:x<at_ c t j+c.size):k=l/\s=t/\i=j:=by
 have b:=HM h.pos hi h1 h2;have a:=HM h.pos hj h3 h4;have e:=h.vn hk hl b.1 b.2 a.1 a.2;subst e;rw[hk]at hl;cases hl;refine⟨rfl,rfl,?_⟩;unfold at_ at *;have d:=h.pos;rcases pa i j with hl|hl|hl
 ·have:(i+1)*c.size<=j*c.size:=k7 _ hl;rw[zl]at this;omega
 ·exact hl
 ·have:(j+1)*c.size<=i*c.size:=k7 _ hl;rw[zl]at this;omega
theorem AL (h:dI c ss){s:cM}(hs:s∈ss){x:Int}{i:Nat}(hi:idx c s x=some i):i<c.n/\((s.st*256:Nat):Int)<=x/\x<(((s.st+c.bK)*256:Nat):Int)/\((at_ c s i:Nat):Int)<=x/\x<((at_ c s i+c.size:Nat):Int):=by
 obtain⟨d,b,a⟩:=(UG h.pos).1 hi;rw[h.tk s hs]at a;have:=E5 h.pos (s:=s) a;have e:at_ c s (i+1)=at_ c s i+c.size:=by unfold at_;rw[zl];omega
 rw[e]at b;omega
theorem Lo (h:dI c ss){k:Nat}{s:cM}{x:Int}{i:Nat}(hs:ss[k]?=some s)(hi:idx c s x=some i):lh c ss x=some k:=by
 obtain⟨m,g⟩:=cV.1 hs;refine pd.2 ⟨m,by rw[g,hi];rfl,λj p hp=>?_⟩;have d:j<ss.length:=by omega
 obtain⟨r,e⟩:=qh.1 hp;have a:=AL h (zE hs) hi;have b:=AL h (zb d) e;have:=h.sR (cQ d) hs p;omega
theorem Jh (h:dI c ss){x:Int}{b:Bool}:eD c ss x=some b↔∃(k:Nat) (s:cM) (i:Nat),ss[k]?=some s/\i<c.n/\x=((at_ c s i:Nat):Int)/\s.is i=b:=by
 constructor
 ·intro hx;obtain⟨k,s,i,_,a,e,g⟩:=Ao hx;obtain⟨m,j⟩:=(Hm h.pos).1 e;rw[h.tk s (zE a)]at j;exact⟨k,s,i,a,j,m,g⟩
 ·rintro⟨k,s,i,a,hi,rfl,g⟩;have p:=h.tk s (zE a);have e:obj c s ((at_ c s i:Nat):Int)=some i:=(Hm h.pos).2 ⟨rfl,O⟩;have d:idx c s ((at_ c s i:Nat):Int)=some i:=(UG h.pos).2 ⟨wK _,by have:=h.pos;unfold at_;rw[zl];omega,O⟩;rw[Uq (Lo h a d) a,e,←g];rfl
theorem Un (h:dI c ss){x:Int}:Tk c ss x↔∃(k:Nat) (s:cM) (i:Nat),ss[k]?=some s/\i<c.n/\x=((at_ c s i:Nat):Int)/\s.is i=true:=Jh h
theorem JU (h:dI c ss){x:Int}{a:Nat}:rk c ss x=some a↔∃(k:Nat) (s:cM) (i:Nat),ss[k]?=some s/\i<c.n/\a=at_ c s i/\((at_ c s i:Nat):Int)<=x/\x<((at_ c s i+c.size:Nat):Int):=by
 constructor
 ·intro hf;cases ho:lh c ss x with
  | none=>rw[Ia ho]at hf;cases hf
  | some k=>
   have j:=(pd.1 ho).1;have b:ss[k]?=some ss[k]:=cQ j;rw[GF ho b]at hf;obtain⟨i,g,rfl⟩:=qA.1 hf;have:=AL h (zE b) g;exact⟨k,_,i,b,this.1,rfl,this.2.2.2.1,this.2.2.2.2⟩
 ·rintro⟨k,s,i,b,g,rfl,h1,h2⟩;have m:=h.tk s (zE b);have e:at_ c s (i+1)=at_ c s i+c.size:=by unfold at_;rw[zl];omega
  have d:idx c s x=some i:=(UG h.pos).2 ⟨h1,by rw[e];exact h2,O⟩;rw[GF (Lo h b d) b,d];rfl
theorem dI.put (h:dI c ss){k i:Nat}{s:cM}(hs:ss[k]?=some s)(v:Bool):dI c (ss.set k (s.put i v)):=by
 have r:=(cV.1 hs).1;refine⟨h.ok,λt p=>?_,?_⟩
 ·rcases wH p with p|rfl
  ·exact h.tk t p
  ·rw[show(s.put i v).tk.length=s.tk.length by simp[cM.put]];exact h.tk s (zE hs)
 ·rw[zr];intro a b ha hb hab;have g:a<ss.length:=by simpa using ha
  have d:b<ss.length:=by simpa using hb
  have m:∀j (hj:j<(ss.set k (s.put i v)).length) (hj':j<ss.length),(ss.set k (s.put i v))[j].st=ss[j].st:=by
   intro j hj hj';rw[List.getElem_set];split
   ·rename_i e;subst e;have:ss[k]=s:=(cV.1 hs).2;rw[this];rfl
   ·rfl
  rw[m a ha g,m b hb d];exact zr.1 h.sU a b g d hab
theorem Fz {k i:Nat}{s:cM}(hs:ss[k]?=some s)(v:Bool):(ss.set k (s.put i v)).map (·.st)=ss.map (·.st):=by
 apply zp;intro j;simp only[zk];by_cases hjk:j=k
 ·subst hjk;rw[zK (cV.1 hs).1,hs];rfl
 ·rw[zd (Ne.symm hjk)]
theorem AV {s:cM}{i j:Nat}{v:Bool}(hi:i<s.tk.length):(s.put i v).is j=if j=i then v else s.is j:=by
 unfold cM.is cM.put;simp only[zM];by_cases hj:j=i
 ·subst hj;rw[zK hi,zB rfl];rfl
 ·rw[zd (Ne.symm hj),zA hj]
theorem JA (h:dI c ss){k i:Nat}{s:cM}(hs:ss[k]?=some s)(hi:i<c.n)(v:Bool){y:Int}:Tk c (ss.set k (s.put i v)) y↔(y=((at_ c s i:Nat):Int)/\v=true)\/(y≠((at_ c s i:Nat):Int)/\Tk c ss y):=by
 have b:=(cV.1 hs).1;have g:=h.tk s (zE hs);have m:=h.pos;rw[Un (h.put hs v),Un h];constructor
 ·rintro⟨l,t,j,ht,hj,rfl,hb⟩;by_cases hlk:l=k
  ·subst hlk;rw[zK b]at ht;cases ht;rw[AV O]at hb;by_cases a:j=i
   ·subst a;rw[zB rfl]at hb;exact .inl ⟨rfl,hb⟩
   ·rw[zA a]at hb;refine .inr ⟨λe=>a ?_,l,s,j,hs,hj,rfl,hb⟩;have d:at_ c s j=at_ c s i:=by have:=Int.ofNat.inj e;exact this
    exact(Ha h hs hs hj hi (zC _) O O O).2.2
  ·rw[zd (Ne.symm hlk)]at ht;refine .inr ⟨λe=>hlk ?_,l,t,j,ht,hj,rfl,hb⟩;have d:at_ c t j=at_ c s i:=Int.ofNat.inj e;exact(Ha h ht hs hj hi (zC _) O O O).1
 ·rintro(⟨rfl,rfl⟩|⟨hne,l,t,j,ht,hj,rfl,hb⟩)
  ·exact⟨k,s.put i true,i,zK b,hi,rfl,by rw[AV O,zB rfl]⟩
  ·by_cases hlk:l=k
   ·subst hlk;rw[hs]at ht;cases ht;have a:j≠i:=λe=>hne (by rw[e]);exact⟨l,s.put i v,j,zK b,hj,rfl,by rw[AV O,zA a];exact hb⟩
   ·exact⟨l,t,j,(zd (Ne.symm hlk)).trans ht,hj,rfl,hb⟩
theorem IW {p:Nat}:uH c ss p↔∃x∈ss.map (·.st),x<=p/\p<x+c.bK:=by
 constructor
 ·rintro⟨s,a,h⟩;exact⟨_,zD.2 ⟨s,a,rfl⟩,h⟩
 ·rintro⟨x,hx,h⟩;obtain⟨s,a,rfl⟩:=zD.1 hx;exact⟨s,a,h⟩
theorem Nf {ss':List cM}(e:ss'.map (·.st)=ss.map (·.st)){p:Nat}:uH c ss' p↔uH c ss p:=by rw[IW,IW,e]
theorem NZ (h:dI c ss){x:Nat}{ss':List cM}(ho:jr c ss=some (x,ss')):dI c ss'/\ss'.map (·.st)=ss.map (·.st)/\¬Tk c ss (x:Int)/\∀y,Tk c ss' y↔y=(x:Int)\/Tk c ss y:=by
 unfold jr at ho;split at ho
 ·rename_i k hk;obtain⟨_,s,g,p⟩:=Ke hk;rw[g]at ho;simp only at ho;split at ho
  ·rename_i i hi;cases ho;obtain⟨r,w,u,m⟩:=Ac p;rw[hi]at w;cases w;have j:i<c.n:=by rw[←h.tk s (zE g)];exact u
   have d:¬Tk c ss ((at_ c s i:Nat):Int):=λa=>by
    have z:=(Jh h (x:=((at_ c s i:Nat):Int)) (b:=false)).2 ⟨k,s,i,g,j,rfl,m⟩;unfold Tk at a;rw[z]at a;cases a
   refine⟨h.put g true,Fz g true,d,λy=>?_⟩;rw[JA h g j];constructor
   ·rintro(⟨e,_⟩|⟨_,a⟩)
    ·exact .inl e
    ·exact .inr a
   ·rintro(e|a)
    ·exact .inl ⟨e,rfl⟩
    ·exact .inr ⟨λe=>d (e▸a),a⟩
  ·cases ho
 ·cases ho
theorem GY:∀(m:Nat) {ss:List cM},dI c ss->dI c (KF c m ss).2/\(KF c m ss).2.map (·.st)=ss.map (·.st)/\(KF c m ss).1.length<=m/\(KF c m ss).1.Nodup/\(∀x∈(KF c m ss).1,¬Tk c ss (x:Int))/\∀y,Tk c (KF c m ss).2 y↔(∃x∈(KF c m ss).1,y=((x:Nat):Int))\/Tk c ss y
 | 0,ss,h=>⟨h,rfl,zC _,tV,by simp[KF],by simp[KF]⟩
 | m+1,ss,h=>by
  cases ho:jr c ss with
  | none=>
   have e:KF c (m+1) ss=([],ss):=by simp[KF,ho]
   rw[e];exact⟨h,rfl,by simp,tV,by simp,by simp⟩
  | some r=>
   obtain⟨x,z⟩:=r;rw[GD ho];obtain⟨j,u,p,a⟩:=NZ h ho;obtain⟨d,A,B,s,b,g⟩:=GY m j;refine⟨d,A.trans u,by simp;omega,zo.2 ⟨λw=>b x w ((a _).2 (.inl rfl)),s⟩,?_,λy=>?_⟩
   ·intro y hy;rcases zW.1 hy with rfl|hy
    ·exact p
    ·exact λi=>b y hy ((a _).2 (.inr i))
   ·rw[g,a];simp only[zW,exists_eq_or_imp];constructor
    ·rintro(h|h|h)
     ·exact .inl (.inr h)
     ·exact .inl (.inl h)
     ·exact .inr h
    ·rintro((h|h)|h)
     ·exact .inr (.inl h)
     ·exact .inl h
     ·exact .inr (.inr h)
theorem Fj:∀(xs:List Int) {ss:List cM},dI c ss->kQ c ss xs->dI c (xs.foldl (fL c) ss)/\(xs.foldl (fL c) ss).map (·.st)=ss.map (·.st)/\∀y,Tk c (xs.foldl (fL c) ss) y↔Tk c ss y/\y∉xs
 | [],ss,h,_=>⟨h,rfl,by simp⟩
 | x::xs,ss,h,hA=>by
  have hx:=hA.1 x aA;obtain⟨k,s,i,r,b,j,_⟩:=Ao hx;obtain⟨d,a⟩:=(Hm h.pos).1 j;rw[h.tk s (zE b)]at a;have e:=xZ r b j;have hp:=h.put b false (i:=i);have g:=hA.next h.pos;obtain⟨m,u,p⟩:=Fj xs (ss:=fL c ss x) (by rw[e];exact hp) g;rw[lp];refine⟨m,u.trans (by rw[e];exact Fz b false),λy=>?_⟩;rw[p,e,JA h b a,←d];simp only[zc,and_false,false_or,zW,not_or];constructor
  ·rintro⟨⟨d,a⟩,h3⟩;exact⟨a,d,h3⟩
  ·rintro⟨a,d,h3⟩;exact⟨⟨d,a⟩,h3⟩
theorem Ec {s:cM}(h0:s.many=0)(i:Nat):s.is i=false:=by
 unfold cM.many at h0;rw[xB]at h0;unfold cM.is;rw[zM];cases hi:s.tk[i]? with
 | none=>rfl
 | some b=>
  cases b
  ·rfl
  ·exact absurd (zE hi) h0
theorem dI.cO (h:dI c ss):dI c (Go.Ar.cO ss):=⟨h.ok,λs a=>h.tk s (zH.1 a).1,h.sU.filter _⟩
theorem EI (h:dI c ss){y:Int}:Tk c (cO ss) y↔Tk c ss y:=by
 rw[Un h.cO,Un h];constructor
 ·rintro⟨k,s,i,hs,hi,rfl,hb⟩;obtain⟨l,a⟩:=zN (zH.1 (zE hs)).1;exact⟨l,s,i,a,hi,rfl,hb⟩
 ·rintro⟨k,s,i,hs,hi,rfl,hb⟩;have:s∈cO ss:=zH.2 ⟨zE hs,by
   have:s.many≠0:=λb=>by rw[Ec b i]at hb;cases hb
   simpa using this⟩
  obtain⟨l,a⟩:=zN this;exact⟨l,s,i,a,hi,rfl,hb⟩
theorem A7 {x:Nat}:x∈Qp ss↔∃s∈ss,s.many=0/\s.st=x:=by
 unfold Qp;simp only[zD,zH,za,and_assoc]
theorem II (h:dI c ss){p:Nat}:uH c (cO ss) p↔uH c ss p/\¬∃x∈Qp ss,x<=p/\p<x+c.bK:=by
 constructor
 ·rintro⟨s,hs,h1,h2⟩;have a:=zH.1 hs;refine⟨⟨s,a.1,h1,h2⟩,?_⟩;rintro⟨x,hx,h3,h4⟩;obtain⟨t,m,b,rfl⟩:=A7.1 hx;obtain⟨i,g⟩:=zN a.1;obtain⟨j,d⟩:=zN m;have e:=h.vn g d h1 h2 h3 h4;subst e;rw[g]at d;cases d;simp[b]at a
 ·rintro⟨⟨s,hs,h1,h2⟩,hn⟩;refine⟨s,zH.2 ⟨hs,?_⟩,h1,h2⟩;have:s.many≠0:=λb=>hn ⟨s.st,A7.2 ⟨s,hs,b,rfl⟩,h1,h2⟩;simpa using this
theorem L8 (h:dI c ss):(Qp ss).Pairwise λa b=>a+c.bK<=b:=by
 unfold Qp;rw[qJ];exact h.sU.filter _
theorem V5 {st:Nat}{t:cM}:t∈iD c ss st↔t=⟨st,List.replicate c.n false⟩\/t∈ss:=by
 unfold iD;rw[zS,zW];have:t∈ss↔t∈ss.takeWhile (λs=>decide (s.st<st))\/t∈ss.dropWhile (λs=>decide (s.st<st)):=by
  rw[←zS,Au]
 rw[this];constructor
 ·rintro(h|h|h)
  ·exact .inr (.inl h)
  ·exact .inl h
  ·exact .inr (.inr h)
 ·rintro(h|h|h)
  ·exact .inr (.inl h)
  ·exact .inl h
  ·exact .inr (.inr h)
theorem IG (h:dI c ss){st:Nat}(hd:∀s∈ss,s.st+c.bK<=st\/st+c.bK<=s.st):dI c (iD c ss st):=by
 refine⟨h.ok,λs m=>?_,?_⟩
 ·rcases V5.1 m with rfl|m
  ·simp
  ·exact h.tk s m
 ·have g:=GB h.nq st;have r:=h.pg;rw[vN];refine pC.2 ⟨h.sU.sublist (yn _ _),nB.2 ⟨λb e=>?_,h.sU.sublist (AU _ _)⟩,λa u b e=>?_⟩
  ·obtain⟨i,d⟩:=zN e;rw[zn]at d;have:=g.2 _ _ d;rcases hd b (qW e)with h1|h1
   ·omega
   ·exact h1
  ·obtain⟨i,d⟩:=zN u;rw[zY]at d;split at d
   ·rename_i hlt;rcases zW.1 e with rfl|e
    ·have:=(g.2 _ _ d).2 hlt;rcases hd a (zE d)with h1|h1
     ·exact h1
     ·omega
    ·obtain⟨j,p⟩:=zN e;rw[zn]at p;exact h.sR d p O
   ·cases d
theorem EA (h:dI c ss){st:Nat}(hd:∀s∈ss,s.st+c.bK<=st\/st+c.bK<=s.st){y:Int}:Tk c (iD c ss st) y↔Tk c ss y:=by
 rw[Un (IG h hd),Un h];constructor
 ·rintro⟨k,s,i,hs,hi,rfl,hb⟩;rcases V5.1 (zE hs)with rfl|hm
  ·have:(⟨st,List.replicate c.n false⟩:cM).is i=false:=Ec (by simp[cM.many,xM]) i;rw[this]at hb;cases hb
  ·obtain⟨l,a⟩:=zN hm;exact⟨l,s,i,a,hi,rfl,hb⟩
 ·rintro⟨k,s,i,hs,hi,rfl,hb⟩;obtain⟨l,a⟩:=zN (V5.2 (.inr (zE hs)):s∈iD c ss st);exact⟨l,s,i,a,hi,rfl,hb⟩
theorem RM {st:Nat}(hd:∀s∈ss,s.st+c.bK<=st\/st+c.bK<=s.st):oY c ss st=0:=by
 unfold oY;rw[zA];simp only[kM,zU,not_exists,not_and];intro s hs hlt;rcases hd s hs with h|h<;>omega
end Go.Ar
namespace Go.Ar
open Go.Bu (YS Q8 j6 Zx qt iA VR UK dG take KU KM Bounded)
def gf (st:List Nat)(p:Nat):Nat:=st.getD p 0
def AR.f (A:AR)(p:Nat):Nat:=gf A.st p
def iY (rs:List (Nat×Nat))(p:Nat):Prop:=∃r∈rs,r.1<=p/\p<r.1+r.2
theorem EG {st:List Nat}{p:Nat}(h:gf st p≠0):p<st.length:=by
 apply Classical.byContradiction;intro hn;exact h (by unfold gf;rw[zM,zO O];rfl)
theorem HZ {st:List Nat}{a b v p:Nat}(hb:b<=st.length):gf (fY st a b v) p=if a<=p/\p<b then v else gf st p:=by
 unfold gf;rw[zM,zM,H6];by_cases hp:p<st.length
 ·rw[cQ hp];simp only[zh,oZ]
 ·rw[zO O,zA O];rfl
theorem VQ {n a m:Nat}:YS n (a:Int) (m:Int)=true↔1<=m/\a+m<=n:=by
 simp only[YS,zF,zU];omega
theorem IC {st:List Nat}{a m:Nat}{fr:List Nat}(hl:a+m<=st.length):uJ st a m fr=true↔∀p,a<=p->p<a+m->gf st p∈fr:=by
 unfold uJ;rw[kK];constructor
 ·intro h p h1 h2;have hp:p<st.length:=by omega
  have:st[p]∈(st.drop a).take m:=by
   refine zE (i:=p-a) ?_;rw[zY,zB O,zn,show a+(p-a)=p by omega,cQ hp]
  have:=h _ this;unfold gf;rw[zM,cQ hp];simpa using this
 ·intro h x hx;obtain⟨i,b⟩:=zN hx;rw[zY]at b;split at b
  ·rename_i hlt;rw[zn]at b;have:=h (a+i) O O;unfold gf at this;rw[zM,b]at this;simpa using this
  ·cases b
theorem Bo {st:List Nat}{a m v:Nat}{fr:List Nat}(h1:1<=m)(hl:a+m<=st.length)(h:∀p,a<=p->p<a+m->gf st p∈fr):Uu st (a:Int) (m:Int) v fr=fY st a (a+m) v:=by
 unfold Uu oQ;rw[zB (VQ.2 ⟨h1,hl⟩),dE,dE,(IC hl).2 h];rfl
theorem Pq {st:List Nat}{a m v:Nat}(hl:a+m<=st.length):yz st a m v=false↔∀p,a<=p->p<a+m->gf st p≠v:=by
 have:=IC (fr:=[v]) hl;unfold yz;constructor
 ·intro h p h1 h2 e;have hp:p<st.length:=by omega
  have d:st[p]∈(st.drop a).take m:=by
   refine zE (i:=p-a) ?_;rw[zY,zB O,zn,show a+(p-a)=p by omega,cQ hp]
  have g:st[p]=v:=by
   unfold gf at e;rw[zM,cQ hp]at e;exact e
  rw[g]at d;rw[tf.2 d]at h;cases h
 ·intro h;apply nQ.2;intro hc;obtain⟨i,b⟩:=zN (tf.1 hc);rw[zY]at b;split at b
  ·rename_i hlt;rw[zn]at b;refine h (a+i) O O ?_;unfold gf;rw[zM,b];rfl
  ·cases b
structure PG (A:AR):Prop where
 len:A.st.length=A.n
 n1:32<=A.n
 n2:A.n<=1024
 n16:A.n%16=0
 le:∀p,A.f p<=3
 us:∀p,A.f p=1↔A.ow p≠0
 fr:∀p,A.S p=true↔2<=A.f p
 hp:∀p,A.f p=0↔A.f (p/16*16)=0
theorem PG.lt {A:AR}(h:PG A){p:Nat}(hp:A.f p≠0):p<A.n:=h.len▸EG hp
theorem PG.jU {A:AR}(h:PG A):Bounded A.S A.n:=λp hp=>h.lt (by have:=(h.fr p).1 hp;omega)
theorem PG.kJ {A:AR}(h:PG A){p q:Nat}(e:p/16=q/16):A.f p=0↔A.f q=0:=by rw[h.hp p,h.hp q,e]
theorem PG.same {A B:AR}(h:PG A)(e1:B.n=A.n)(e2:B.st=A.st)(e3:B.S=A.S)(e4:B.ow=A.ow):PG B:=by
 have a:∀p,B.f p=A.f p:=λp=>by unfold AR.f;rw[e2]
 exact⟨by rw[e2,e1];exact h.len,by rw[e1];exact h.n1,by rw[e1];exact h.n2,by rw[e1];exact h.n16,λp=>by rw[a];exact h.le p,λp=>by rw[a,e4];exact h.us p,λp=>by rw[a,e3];exact h.fr p,λp=>by rw[a,a];exact h.hp p⟩
theorem FE {ow:Nat->Nat}{a m no:Nat}(h1:1<=m)(h2:a+m<=1024)(p:Nat):ju ow a m no p=if a<=p/\p<a+m then no else ow p:=by
 unfold ju;rw[zB (VQ.2 ⟨h1,h2⟩)]
theorem FB {n:Nat}{S:Nat->Bool}{a m:Nat}(h1:1<=m)(h2:a+m<=n)(h:∀p,a<=p->p<a+m->S p=false):Q8 n S (a:Int) (m:Int)=dG S a (a+m):=by
 unfold Q8;rw[VQ.2 ⟨h1,h2⟩,dE,dE,VR.2 h];rfl
theorem Od {n:Nat}{S:Nat->Bool}{a m:Nat}(h1:1<=m)(h2:a+m<=n)(h:∀p,a<=p->p<a+m->S p=true):j6 n S (a:Int) (m:Int)=take S a (a+m):=by
 unfold j6;rw[VQ.2 ⟨h1,h2⟩,dE,dE,UK.2 h];rfl
structure Out (A B:AR) (a b:Nat):Prop where
 n:B.n=A.n
 len:B.st.length=A.st.length
 f:∀p,¬(a<=p/\p<b)->B.f p=A.f p
 ow:∀p,¬(a<=p/\p<b)->B.ow p=A.ow p
 S:∀p,¬(a<=p/\p<b)->B.S p=A.S p
theorem Out.pg {A B:AR}{a b v:Nat}(o:Out A B a b)(h:PG A)(hv:v<=3)(hf:∀p,a<=p->p<b->B.f p=v)(hw:∀p,a<=p->p<b->(v=1↔B.ow p≠0))(hS:∀p,a<=p->p<b->(B.S p=true↔2<=v))
 (hz:∀p,B.f p=0↔B.f (p/16*16)=0):PG B:=by
 refine⟨by rw[o.len,o.n];exact h.len,by rw[o.n];exact h.n1,by rw[o.n];exact h.n2,by rw[o.n];exact h.n16,λp=>?_,λp=>?_,λp=>?_,hz⟩
 ·by_cases hp:a<=p/\p<b
  ·rw[hf p hp.1 hp.2];exact hv
  ·rw[o.f p hp];exact h.le p
 ·by_cases hp:a<=p/\p<b
  ·rw[hf p hp.1 hp.2];exact hw p hp.1 hp.2
  ·rw[o.f p hp,o.ow p hp];exact h.us p
 ·by_cases hp:a<=p/\p<b
  ·rw[hf p hp.1 hp.2];exact hS p hp.1 hp.2
  ·rw[o.f p hp,o.S p hp];exact h.fr p
theorem Out.zero {A B:AR}{a b v:Nat}(o:Out A B a b)(h:PG A)(hf:∀p,a<=p->p<b->B.f p=v)(hv:v≠0)(hA:∀p,a<=p->p<b->A.f p≠0):∀p,B.f p=0↔A.f p=0:=by
 intro p;by_cases hp:a<=p/\p<b
 ·rw[hf p hp.1 hp.2];exact⟨λe=>(hv e).elim,λe=>(hA p hp.1 hp.2 e).elim⟩
 ·rw[o.f p hp]
theorem A9 {A B:AR}(h:PG A)(e:∀p,B.f p=0↔A.f p=0):∀p,B.f p=0↔B.f (p/16*16)=0:=λp=>by rw[e,e];exact h.hp p
theorem D6 {A:AR}(h:PG A){a m:Nat}(h1:1<=m)(hu:∀p,a<=p->p<a+m->A.f p=1):Out A (UH A (a,m)) a (a+m)/\(∀p,a<=p->p<a+m->(UH A (a,m)).f p=2/\(UH A (a,m)).ow p=0)/\PG (UH A (a,m))/\∀p,(UH A (a,m)).f p=0↔A.f p=0:=by
 have g:a+m<=A.n:=by have:=h.lt (p:=a+m-1) (by rw[hu _ O O];omega);omega
 have u:=h.n2;have e1:(UH A (a,m)).st=fY A.st a (a+m) 2:=Bo h1 (by rw[h.len];exact g) λp b d=>by
  have:=hu p b d;unfold AR.f at this;rw[this];simp
 have e2:(UH A (a,m)).S=dG A.S a (a+m):=FB h1 g λp b d=>by
  apply nQ.2;intro hS;have:=(h.fr p).1 hS;have:=hu p b d;omega
 have r:∀p,(UH A (a,m)).ow p=if a<=p/\p<a+m then 0 else A.ow p:=λp=>FE h1 O p
 have i:∀p,(UH A (a,m)).f p=if a<=p/\p<a+m then 2 else A.f p:=λp=>by unfold AR.f;rw[e1,HZ (by rw[h.len];exact g)]
 have o:Out A (UH A (a,m)) a (a+m):=⟨rfl,by rw[e1,QH],λp hp=>by rw[i,zA hp],λp hp=>by rw[r,zA hp],λp hp=>by
  rw[e2];unfold dG;have:(decide (a<=p)&&decide (p<a+m))=false:=by simp;omega
  rw[this,wW]⟩
 have e:∀p,a<=p->p<a+m->(UH A (a,m)).f p=2:=λp b d=>by rw[i,zB ⟨b,d⟩]
 have s:∀p,a<=p->p<a+m->(UH A (a,m)).ow p=0:=λp b d=>by rw[r,zB ⟨b,d⟩]
 have j:=o.zero h e O λp b d=>by rw[hu p b d];omega
 refine⟨o,λp b d=>⟨e p b d,s p b d⟩,o.pg h O e (λp b d=>by rw[s p b d];simp) (λp b d=>?_) (A9 h j),j⟩;rw[e2,KU];exact⟨λ_=>zC _,λ_=>.inr ⟨b,d⟩⟩
structure sO (A B:AR) (rs:List (Nat×Nat)):Prop where
 pg:PG B
 n:B.n=A.n
 tb:B.tb=A.tb
 room:B.room=A.room
 cF:B.cF=A.cF
 cI:B.cI=A.cI
 runs:B.runs=A.runs
 i:∀p,iY rs p->B.f p=2/\B.ow p=0
 o:∀p,¬iY rs p->B.f p=A.f p/\B.ow p=A.ow p
 z:∀p,B.f p=0↔A.f p=0
theorem D7:∀(rs:List (Nat×Nat)) {A:AR},PG A->(∀r∈rs,1<=r.2)->(∀r∈rs,∀p,r.1<=p->p<r.1+r.2->A.f p=1)->rs.Pairwise (λa b=>a.1+a.2<=b.1\/b.1+b.2<=a.1)->sO A (Us A rs) rs
 | [],A,h,_,_,_=>⟨h,rfl,rfl,rfl,rfl,rfl,rfl,λp ⟨r,hr,_⟩=>by simp at hr,λp _=>⟨rfl,rfl⟩,λp=>Iff.rfl⟩
 | (a,m)::rs,A,h,hp,hu,hd=>by
  have hd':=nB.1 hd;obtain⟨o,B,w,C⟩:=D6 h (hp _ (mY ..)) (hu _ (mY ..));have d:=D7 rs w (λr hr=>hp r (mM _ hr)) (λr hr p s u=>by
   have:=hd'.1 r hr;simp only at this;rw[o.f p O];exact hu r (mM _ hr) p s u) hd'.2
  have e:Us A ((a,m)::rs)=Us (UH A (a,m)) rs:=rfl;rw[e];refine⟨d.pg,d.n,d.tb,d.room,d.cF,d.cI,d.runs,λp g=>?_,λp g=>?_,λp=>(d.z p).trans (C p)⟩
  ·by_cases j:iY rs p
   ·exact d.i p j
   ·have:=d.o p j;obtain⟨r,hr,s,u⟩:=g;rcases zW.1 hr with rfl|hr
    ·rw[this.1,this.2];exact B p s u
    ·exact(j ⟨r,hr,s,u⟩).elim
  ·have j:¬iY rs p:=λ⟨r,hr,x⟩=>g ⟨r,mM _ hr,x⟩;have y:¬(a<=p/\p<a+m):=λx=>g ⟨(a,m),mY ..,x⟩;have:=d.o p j;exact⟨this.1.trans (o.f p y),this.2.trans (o.ow p y)⟩
theorem Bi {A:AR}(h:PG A){a m no:Nat}(h1:1<=m)(hn:no≠0)(hS:∀p,a<=p->p<a+m->A.S p=true):Out A (dU A a m no) a (a+m)/\(∀p,a<=p->p<a+m->(dU A a m no).f p=1/\(dU A a m no).ow p=no)/\PG (dU A a m no)/\∀p,(dU A a m no).f p=0↔A.f p=0:=by
 have g:∀p,a<=p->p<a+m->2<=A.f p:=λp b d=>(h.fr p).1 (hS p b d);have r:a+m<=A.n:=by have:=h.lt (p:=a+m-1) (by have:=g (a+m-1) O O;omega);omega
 have w:=h.n2;have e1:(dU A a m no).st=fY A.st a (a+m) 1:=Bo h1 (by rw[h.len];exact r) λp b d=>by
  have x:=g p b d;have y:=h.le p;unfold AR.f at x y;have:gf A.st p=2\/gf A.st p=3:=by omega
  simpa using this
 have s:∀p,(dU A a m no).ow p=if a<=p/\p<a+m then no else A.ow p:=λp=>FE h1 O p
 have i:∀p,(dU A a m no).f p=if a<=p/\p<a+m then 1 else A.f p:=λp=>by unfold AR.f;rw[e1,HZ (by rw[h.len];exact r)]
 have o:Out A (dU A a m no) a (a+m):=⟨rfl,by rw[e1,QH],λp hp=>by rw[i,zA hp],λp hp=>by rw[s,zA hp],λp hp=>by
  show take A.S a (a+m) p=A.S p;unfold take;have:(decide (a<=p)&&decide (p<a+m))=false:=by simp;omega
  rw[this];simp⟩
 have e:∀p,a<=p->p<a+m->(dU A a m no).f p=1:=λp b d=>by rw[i,zB ⟨b,d⟩]
 have u:∀p,a<=p->p<a+m->(dU A a m no).ow p=no:=λp b d=>by rw[s,zB ⟨b,d⟩]
 have j:=o.zero h e O λp b d=>by have:=g p b d;omega
 refine⟨o,λp b d=>⟨e p b d,u p b d⟩,o.pg h O e (λp b d=>by rw[u p b d];simp[hn]) (λp b d=>?_) (A9 h j),j⟩;show take A.S a (a+m) p=true↔_;rw[KM];constructor
 ·rintro⟨_,hx⟩;exact(hx ⟨b,d⟩).elim
 ·intro hx;omega
theorem Jo:∀(m:Nat) {st:List Nat} {a:Nat},(a+m)*16<=st.length->(∀p,a*16<=p->p<(a+m)*16->gf st p=0)->(Hu st a m).length=st.length/\∀p,gf (Hu st a m) p=if a*16<=p/\p<(a+m)*16 then 3 else gf st p
 | 0,st,a,hl,hz=>⟨rfl,λp=>by rw[zA O];rfl⟩
 | m+1,st,a,hl,hz=>by
  obtain⟨i1,i2⟩:=Jo m (st:=st) (a:=a) O λp d g=>hz p d O;rw[EN];have b:gf (Hu st a m) (16*(a+m))=0:=by rw[i2,zA O];exact hz _ O O
  have ok:kU (Hu st a m) ((a+m:Nat):Int)=0:=by
   unfold kU;rw[Hc (by rw[i1];omega),zB rfl,dE];unfold gf at b;rw[zB b]
  have e:jo (Hu st a m) ((a+m:Nat):Int)=fY (Hu st a m) (16*(a+m)) (16*(a+m)+16) 3:=by
   unfold jo;rw[zB ok,dE]
  rw[e];refine⟨by rw[QH,i1],λp=>?_⟩;rw[HZ (by rw[i1];omega),i2];by_cases h1:16*(a+m)<=p/\p<16*(a+m)+16
  ·rw[zB h1,zB O]
  ·rw[zA h1];by_cases h2:a*16<=p/\p<(a+m)*16
   ·rw[zB h2,zB O]
   ·rw[zA h2,zA O]
theorem B5 {sp:Sp}{s m:Nat}(h:fH sp (s:Int) (m:Int)=0):1<=m/\s+m<=sp.st.length/\∀p,s<=p->p<s+m->gf sp.st p=0:=by
 unfold fH at h;split at h
 ·rename_i hr;obtain⟨b,d⟩:=VQ.1 hr;rw[dE,dE]at h;split at h
  ·cases h
  ·rename_i hn;refine⟨b,d,λp e g=>?_⟩;have hp:p<sp.st.length:=by omega
   have a:sp.st[p]∈(sp.st.drop s).take m:=by
    refine zE (i:=p-s) ?_;rw[zY,zB O,zn,show s+(p-s)=p by omega,cQ hp]
   simp only[kM,not_exists,not_and]at hn;have:=hn _ a;unfold gf;rw[zM,cQ hp];simpa using this
 ·cases h
structure Grown (A B:AR) (sp sp':Sp) (s size:Nat):Prop where
 pg:PG B
 n:B.n=A.n
 tb:B.tb=A.tb
 room:B.room=A.room
 cF:B.cF=A.cF
 cI:B.cI=A.cI
 runs:B.runs=A.runs
 ow:B.ow=A.ow
 s16:s%16=0
 s1:16<=s
 sl:s+size<=A.n
 un:∀p,s<=p->p<s+size->gf sp.st p=0
 i:∀p,s<=p->p<s+size->B.f p=3/\gf sp'.st p=1
 o:∀p,¬(s<=p/\p<s+size)->B.f p=A.f p/\gf sp'.st p=gf sp.st p
 w:∀x,¬(s*32<=x/\x<(s+size)*32)->sp'.wd x=sp.wd x
 l:sp'.st.length=sp.st.length
 pk:sp'.pk=sp.pk
theorem Hy {sp:Sp}{size s:Nat}(h1:1<=size)(h:dB sp size=some s):fH sp (s:Int) (size:Int)=0/\s≠0/\(∃j,s=j*size)/\∀j,j*size<s->1<=j->fH sp ((j*size:Nat):Int) (size:Int)≠0:=by
 unfold dB at h;obtain⟨p,us,vs,u,y⟩:=List.find?_eq_some_iff_append.1 h;simp only[zF,bne_iff_ne,ne_eq,za]at p;have e:s∈(List.range (sp.st.length/size)).map (· * size):=by rw[u];simp
 obtain⟨j,x,rfl⟩:=zD.1 e;rw[ze]at x;refine⟨p.2,p.1,⟨j,rfl⟩,λi w A=>?_⟩;have z:i<j:=Nat.lt_of_mul_lt_mul_right w;have:i*size∈us:=by
  have g:i*size∈(List.range (sp.st.length/size)).map (· * size):=zD.2 ⟨i,ze.2 O,rfl⟩;have d:((List.range (sp.st.length/size)).map (· * size)).Pairwise (· < ·):=by
   rw[qJ];exact List.pairwise_lt_range.imp λ{a b} r=>Nat.mul_lt_mul_of_pos_right r O
  rw[u]at g d;rcases zS.1 g with h|h
  ·exact h
  ·rcases zW.1 h with h|h
   ·have:=wJ O h;omega
   ·have:=(nB.1 (pC.1 d).2.1).1 _ h;omega
 have:=y _ this;have m:i*size≠0:=by
  have:=Nat.mul_pos (show 0<i by omega) (show 0<size by omega);omega
 simpa[m]using this
theorem Ik {sp:Sp}{s m:Nat}(h:fH sp (s:Int) (m:Int)=0):(gL sp (s:Int) (m:Int)).st.length=sp.st.length/\(∀p,gf (gL sp (s:Int) (m:Int)).st p=if s<=p/\p<s+m then 1 else gf sp.st p)/\(∀x,¬(s*32<=x/\x<(s+m)*32)->(gL sp (s:Int) (m:Int)).wd x=sp.wd x)/\(gL sp (s:Int) (m:Int)).pk=sp.pk:=by
 obtain⟨d,a,_⟩:=B5 h;unfold gL;rw[zB h,dE,dE];refine⟨by simp[Sp.set,QH],λp=>HZ a,λx b=>?_,rfl⟩;show(if s*32<=x/\x<(s+m)*32 then 0 else sp.wd x)=_
 rw[zA b]
theorem Re {A:AR}{sp:Sp}(h:PG A)(hl:sp.st.length=A.n)(hz:∀p,gf sp.st p=0->A.f p=0){size:Nat}(hs:size=16\/size=32\/size=64){B:AR}{sp':Sp}(hg:Ht A sp size=some (B,sp')) :
 ∃s,dB sp size=some s/\Grown A B sp sp' s size:=by
 unfold Ht at hg;split at hg
 ·cases hg
 ·rename_i s hgs;cases hg;obtain⟨w,D,⟨j,K⟩,_⟩:=Hy O hgs;obtain⟨G,u,C⟩:=B5 w;have r:s%16=0:=by rcases hs with rfl|rfl|rfl<;>omega
  have x:size%16=0:=by rcases hs with rfl|rfl|rfl<;>omega
  have e1:s/16*16=s:=by omega
  have e2:(s/16+size/16)*16=s+size:=by omega
  have e:∀p,s<=p->p<s+size->A.f p=0:=λp b d=>hz p (C p b d);obtain⟨H,i⟩:=Jo (size/16) (st:=A.st) (a:=s/16) (by rw[e2,h.len,←hl];exact u) (by rw[e1,e2];exact e);rw[e1,e2]at i;obtain⟨F,y,J,E⟩:=Ik w;have g:s+size<=A.n:=by rw[←hl];exact u
  have z:Q8 A.n A.S (s:Int) (size:Int)=dG A.S s (s+size):=FB G g λp b d=>by
   apply nQ.2;intro hS;have:=(h.fr p).1 hS;have:=e p b d;omega
  refine⟨s,hgs,⟨?_,rfl,rfl,rfl,rfl,rfl,rfl,rfl,r,O,g,C,λp b d=>⟨?_,?_⟩,λp hp=>⟨?_,?_⟩,J,F,E⟩⟩
  ·have o:Out A {A with st:=Hu A.st (s/16) (size/16),S:=Q8 A.n A.S (s:Int) (size:Int)} s (s+size):=⟨rfl,H,λp hp=>by show gf _ p=_;rw[i,zA hp];rfl,λp hp=>rfl,λp hp=>by
    show Q8 A.n A.S (s:Int) (size:Int) p=A.S p;rw[z];unfold dG;have:(decide (s<=p)&&decide (p<s+size))=false:=by simp;omega
    rw[this,wW]⟩
   have m:∀p,s<=p->p<s+size->AR.f {A with st:=Hu A.st (s/16) (size/16),S:=Q8 A.n A.S (s:Int) (size:Int)} p=3:=λp b d=>by show gf _ p=3;rw[i,zB ⟨b,d⟩]
   refine o.pg h (zC _) m (λp b d=>?_) (λp b d=>?_) λp=>?_
   ·have D:=e p b d;have:=h.us p;constructor
    ·intro hx;omega
    ·intro hx;have:=this.2 hx;omega
   ·show Q8 A.n A.S (s:Int) (size:Int) p=true↔_;rw[z,KU];exact⟨λ_=>O,λ_=>.inr ⟨b,d⟩⟩
   ·by_cases hp:s<=p/\p<s+size
    ·rw[m p hp.1 hp.2,m (p/16*16) O O]
    ·rw[o.f p hp,o.f (p/16*16) O];exact h.hp p
  ·show gf (Hu A.st (s/16) (size/16)) p=3;rw[i,zB ⟨b,d⟩]
  ·rw[y,zB ⟨b,d⟩]
  ·show gf (Hu A.st (s/16) (size/16)) p=A.f p;rw[i,zA hp];rfl
  ·rw[y,zA hp]
end Go.Ar
namespace Go.Ar
open Go.Bu (YS Q8 j6 Zx qt iA VR UK dG take KU KM Bounded full can YT Hb ZW Kh Z5 KX Kf Qv)
def Cl (A:AR)(k:Nat)(c:cD)(ss:List cM):Prop:=A.tb[k]?=some c/\A.cI[k]?=some ss
def fo (A:AR)(k:Nat)(x:Int):Prop:=∃c ss,Cl A k c ss/\Tk c ss x
def iu (A:AR)(k:Nat)(x:Int):Prop:=∃t,A.cF[k]?=some t/\x∈t.bs.flatten
structure GA (A:AR):Prop where
 pg:PG A
 tb:A.tb.length<=40
 lc:A.cI.length=A.tb.length
 lt:A.cF.length=A.tb.length
 cI:∀k c ss,Cl A k c ss->dI c ss
 one:∀k c ss,Cl A k c ss->∀s∈ss,s.st/16=(s.st+c.bK-1)/16
 ow:∀k c ss,Cl A k c ss->∀p,A.ow p=k+1↔uH c ss p
 jJ:∀p,A.ow p=41↔iY A.runs p
 qq:∀p,A.ow p=41\/A.ow p<=A.tb.length
 gH:∀r∈A.runs,1<=r.2
 j3:A.runs.Pairwise λa b=>a.1+a.2<=b.1\/b.1+b.2<=a.1
 oL:∀(k:Nat) (t:gg),A.cF[k]?=some t->t.bs.flatten.Nodup
 lP:∀(k:Nat) c ss (t:gg),Cl A k c ss->A.cF[k]?=some t->∀x∈t.bs.flatten,Tk c ss x
 oE:∀(k:Nat) (c:cD) (t:gg),A.tb[k]?=some c->A.cF[k]?=some t->∀xs∈t.bs,xs.length=c.batch
structure Kp (A B:AR):Prop where
 n:B.n=A.n
 tb:B.tb=A.tb
 room:B.room=A.room
 z:∀p,B.f p=0↔A.f p=0
 t:∀p,B.f p=3->A.f p=3
theorem Kp.refl (A:AR):Kp A A:=⟨rfl,rfl,rfl,λ_=>Iff.rfl,λ_=>id⟩
theorem Kp.trans {A B C:AR}(h:Kp A B)(k:Kp B C):Kp A C:=⟨k.n.trans h.n,k.tb.trans h.tb,k.room.trans h.room,λp=>(k.z p).trans (h.z p),λp hp=>h.t p (k.t p hp)⟩
theorem Kp.bK {A B:AR}(e1:B.n=A.n)(e2:B.tb=A.tb)(e3:B.room=A.room)(e4:B.st=A.st):Kp A B:=⟨e1,e2,e3,λp=>by unfold AR.f;rw[e4],λp=>by unfold AR.f;rw[e4];exact id⟩
variable {A:AR}{k:Nat}{c:cD}{ss:List cM}
theorem Cl.lt (h:Cl A k c ss):k<A.tb.length:=(cV.1 h.1).1
theorem Cl.eq {c':cD}{ss':List cM}(h:Cl A k c ss)(h':Cl A k c' ss'):c=c'/\ss=ss':=⟨Option.some.inj (h.1.symm.trans h'.1),Option.some.inj (h.2.symm.trans h'.2)⟩
theorem GA.cl (h:GA A){k:Nat}(hk:k<A.tb.length):∃c ss t,Cl A k c ss/\A.cF[k]?=some t:=by
 have b:=h.lc;have a:=h.lt;exact⟨A.tb[k],A.cI[k],A.cF[k],⟨by simp,by simp⟩,by simp⟩
theorem GA.used (h:GA A)(hk:Cl A k c ss){s:cM}(hs:s∈ss){p:Nat}(h1:s.st<=p)(h2:p<s.st+c.bK):A.f p=1/\A.ow p=k+1:=by
 have:=(h.ow k c ss hk p).2 ⟨s,hs,h1,h2⟩;exact⟨(h.pg.us p).2 O,this⟩
theorem GA.jy (h:GA A){r:Nat×Nat}(hr:r∈A.runs){p:Nat}(h1:r.1<=p)(h2:p<r.1+r.2):A.f p=1/\A.ow p=41:=by
 have:=(h.jJ p).2 ⟨r,hr,h1,h2⟩;exact⟨(h.pg.us p).2 O,this⟩
theorem GA.ig (h:GA A){r s:Nat×Nat}(hr:r∈A.runs)(hs:s∈A.runs){x:Nat}(h1:r.1<=x)(h2:x<r.1+r.2)(h3:s.1<=x)(h4:x<s.1+s.2):r=s:=by
 obtain⟨i,d⟩:=zN hr;obtain⟨j,e⟩:=zN hs;obtain⟨a,rfl⟩:=cV.1 d;obtain⟨b,rfl⟩:=cV.1 e;rcases pa i j with hl|hl|hl
 ·have:=zr.1 h.j3 i j a b hl;omega
 ·subst hl;rfl
 ·have:=zr.1 h.j3 j i b a hl;omega
theorem GA.fit (h:GA A){r:Nat×Nat}(hr:r∈A.runs):r.1+r.2<=A.n:=by
 have:=h.gH r hr;have:=h.pg.lt (p:=r.1+r.2-1) (by rw[(h.jy hr (p:=r.1+r.2-1) O O).1];omega);omega
theorem GA.iN (h:GA A):gY A:=by
 have u:=h.pg.n2;refine⟨λr b s i x d g m j=>h.ig b i d g m j,λx p a=>?_,λx p w a=>?_,λr b=>?_⟩
 ·obtain⟨r,b,d,g⟩:=(h.jJ x).1 a;unfold sC;rw[Az];exact⟨r,b,by simp[d,g]⟩
 ·rcases h.qq x with e|e
  ·exact(a e).elim
  ·exact e
 ·have:=h.fit b;omega
theorem UX (hk:Cl A k c ss){ss':List cM}{j:Nat}{d:cD}{tt:List cM}(h:Cl {A with cI:=A.cI.set k ss'} j d tt):(j=k/\d=c/\tt=ss')\/(j≠k/\Cl A j d tt):=by
 obtain⟨b,a⟩:=h;by_cases hjk:j=k
 ·subst hjk;have e:=(cV.1 hk.2).1;simp only[zK e]at a;exact .inl ⟨rfl,Option.some.inj (b.symm.trans hk.1),(Option.some.inj a).symm⟩
 ·simp only[zd (Ne.symm hjk)]at a;exact .inr ⟨hjk,b,a⟩
theorem HE (hk:Cl A k c ss)(ss':List cM):Cl {A with cI:=A.cI.set k ss'} k c ss':=⟨hk.1,zK (cV.1 hk.2).1⟩
theorem ND {ss':List cM}{j:Nat}{d:cD}{tt:List cM}(hjk:j≠k)(h:Cl A j d tt):Cl {A with cI:=A.cI.set k ss'} j d tt:=⟨h.1,(zd (Ne.symm hjk)).trans h.2⟩
theorem GA.lu (h:GA A)(hk:Cl A k c ss){ss':List cM}(hC:dI c ss')(hst:ss'.map (·.st)=ss.map (·.st))(ht:∀t,A.cF[k]?=some t->∀x∈t.bs.flatten,Tk c ss' x):GA {A with cI:=A.cI.set k ss'}:=by
 refine⟨h.pg.same rfl rfl rfl rfl,h.tb,by simp[h.lc],h.lt,λj d b a=>?_,λj d b a s i=>?_,λj d b a p=>?_,h.jJ,h.qq,h.gH,h.j3,h.oL,λj d b t a g=>?_,h.oE⟩
 ·rcases UX hk a with⟨rfl,rfl,rfl⟩|⟨hne,a⟩
  ·exact hC
  ·exact h.cI j d b a
 ·rcases UX hk a with⟨rfl,rfl,rfl⟩|⟨hne,a⟩
  ·have:s.st∈ss.map (·.st):=by rw[←hst];exact zD.2 ⟨s,i,rfl⟩
   obtain⟨t,ht,e⟩:=zD.1 this;rw[←e];exact h.one _ _ _ hk t ht
  ·exact h.one j d b a s i
 ·rcases UX hk a with⟨rfl,rfl,rfl⟩|⟨hne,a⟩
  ·rw[Nf hst];exact h.ow _ _ _ hk p
  ·exact h.ow j d b a p
 ·rcases UX hk a with⟨rfl,rfl,rfl⟩|⟨hne,a⟩
  ·exact ht t g
  ·exact h.lP j d b t a g
theorem yC (hk:Cl A k c ss){ss':List cM}{j:Nat}{x:Int}:fo {A with cI:=A.cI.set k ss'} j x↔(j=k/\Tk c ss' x)\/(j≠k/\fo A j x):=by
 constructor
 ·rintro⟨d,tt,hj,hx⟩;rcases UX hk hj with⟨rfl,rfl,rfl⟩|⟨hne,hj⟩
  ·exact .inl ⟨rfl,hx⟩
  ·exact .inr ⟨hne,d,tt,hj,hx⟩
 ·rintro(⟨rfl,hx⟩|⟨hne,d,tt,hj,hx⟩)
  ·exact⟨c,ss',HE hk ss',hx⟩
  ·exact⟨d,tt,ND hne hj,hx⟩
theorem Vx (hk:Cl A k c ss){x:Int}:fo A k x↔Tk c ss x:=by
 constructor
 ·rintro⟨d,tt,hj,hx⟩;obtain⟨rfl,rfl⟩:=hk.eq hj;exact hx
 ·intro hx;exact⟨c,ss,hk,hx⟩
def swp (A:AR)(k:Nat)(c:cD)(ss:List cM):AR:=Us {A with cI:=A.cI.set k (cO ss)} ((Qp ss).map λs=>(s,c.bK))
theorem Cz {p:Nat}:iY ((Qp ss).map λs=>(s,c.bK)) p↔∃x∈Qp ss,x<=p/\p<x+c.bK:=by
 unfold iY;simp only[zD];constructor
 ·rintro⟨_,⟨x,hx,rfl⟩,h⟩;exact⟨x,hx,h⟩
 ·rintro⟨x,hx,h⟩;exact⟨_,⟨x,hx,rfl⟩,h⟩
theorem GA.km (h:GA A)(hk:Cl A k c ss){x:Nat}(hx:x∈Qp ss){p:Nat}(h1:x<=p)(h2:p<x+c.bK):A.f p=1/\A.ow p=k+1:=by
 obtain⟨s,a,_,rfl⟩:=A7.1 hx;exact h.used hk a h1 h2
theorem GA.pt (h:GA A)(hk:Cl A k c ss):sO {A with cI:=A.cI.set k (cO ss)} (swp A k c ss) ((Qp ss).map λs=>(s,c.bK)):=by
 have g:=h.cI k c ss hk;refine D7 _ (h.pg.same rfl rfl rfl rfl) (λr d=>?_) (λr d p i j=>?_) ?_
 ·obtain⟨x,_,rfl⟩:=zD.1 d;exact g.pg
 ·obtain⟨x,m,rfl⟩:=zD.1 d;exact(h.km hk m i j).1
 ·rw[qJ];exact(L8 g).imp λ{a b} e=>.inl e
theorem GA.swp (h:GA A)(hk:Cl A k c ss):GA (Go.Ar.swp A k c ss):=by
 have b:=h.pt hk;have u:=h.cI k c ss hk;have y:=hk.lt;have E:=h.tb;have cl:∀{j d g},Cl (Go.Ar.swp A k c ss) j d g->(j=k/\d=c/\g=cO ss)\/(j≠k/\Cl A j d g):=λ{j d g} a=>UX hk ⟨by rw[←b.tb];exact a.1,by rw[←b.cI];exact a.2⟩;have own:∀p,iY ((Qp ss).map λs=>(s,c.bK)) p->A.ow p=k+1:=λp hp=>by
  obtain⟨x,m,z,B⟩:=Cz.1 hp;exact(h.km hk m z B).2
 have cF:(Go.Ar.swp A k c ss).cF=A.cF:=b.cF;have tb:(Go.Ar.swp A k c ss).tb=A.tb:=b.tb;have runs:(Go.Ar.swp A k c ss).runs=A.runs:=b.runs;refine⟨b.pg,by rw[tb];exact h.tb,by rw[b.cI,tb];simp[h.lc],by rw[cF,tb];exact h.lt,λj d g a=>?_,λj d g a s w=>?_,λj d g a p=>?_,λp=>?_,λp=>?_,by rw[runs];exact h.gH,by rw[runs];exact h.j3,by rw[cF];exact h.oL,λj d g t a r=>?_,by rw[cF,tb];exact h.oE⟩
 ·rcases cl a with⟨rfl,rfl,rfl⟩|⟨hne,a⟩
  ·exact u.cO
  ·exact h.cI j d g a
 ·rcases cl a with⟨rfl,rfl,rfl⟩|⟨hne,a⟩
  ·exact h.one _ _ _ hk s (zH.1 w).1
  ·exact h.one j d g a s w
 ·by_cases hp:iY ((Qp ss).map λs=>(s,c.bK)) p
  ·rw[(b.i p hp).2];have D:=own p hp;rcases cl a with⟨rfl,rfl,rfl⟩|⟨hne,a⟩
   ·rw[II u];constructor
    ·intro e;omega
    ·rintro⟨_,hn⟩;exact(hn (Cz.1 hp)).elim
   ·rw[←h.ow j d g a p,D];omega
  ·rw[(b.o p hp).2];rcases cl a with⟨rfl,rfl,rfl⟩|⟨hne,a⟩
   ·rw[II u];show A.ow p=_↔_;rw[h.ow _ _ _ hk p];exact⟨λm=>⟨m,λC=>hp (Cz.2 C)⟩,λm=>m.1⟩
   ·exact h.ow j d g a p
 ·rw[runs];by_cases hp:iY ((Qp ss).map λs=>(s,c.bK)) p
  ·rw[(b.i p hp).2,←h.jJ,own p hp];omega
  ·rw[(b.o p hp).2];exact h.jJ p
 ·rw[tb];by_cases hp:iY ((Qp ss).map λs=>(s,c.bK)) p
  ·rw[(b.i p hp).2];omega
  ·rw[(b.o p hp).2];exact h.qq p
 ·rw[cF]at r;rcases cl a with⟨rfl,rfl,rfl⟩|⟨hne,a⟩
  ·intro x m;exact(EI u).2 (h.lP _ _ _ t hk r x m)
  ·exact h.lP j d g t a r
theorem GA.xz (h:GA A)(hk:Cl A k c ss):Kp A (Go.Ar.swp A k c ss):=by
 have b:=h.pt hk;refine⟨b.n,b.tb,b.room,b.z,λp hp=>?_⟩;by_cases hi:iY ((Qp ss).map λs=>(s,c.bK)) p
 ·rw[(b.i p hi).1]at hp;omega
 ·rw[(b.o p hi).1]at hp;exact hp
theorem GA.wQ (h:GA A)(hk:Cl A k c ss){j:Nat}{x:Int}:fo (Go.Ar.swp A k c ss) j x↔fo A j x:=by
 have b:=h.pt hk;have a:=h.cI k c ss hk;have e:fo (Go.Ar.swp A k c ss) j x↔fo {A with cI:=A.cI.set k (cO ss)} j x:=by unfold fo Cl;rw[b.tb,b.cI]
 rw[e,yC hk,EI a];constructor
 ·rintro(⟨rfl,hx⟩|⟨_,hx⟩)
  ·exact(Vx hk).2 hx
  ·exact hx
 ·intro hx;by_cases hjk:j=k
  ·subst hjk;exact .inl ⟨rfl,(Vx hk).1 hx⟩
  ·exact .inr ⟨hjk,hx⟩
theorem Gb {k:Int}:A.ck k=true↔∃j:Nat,k=j/\j<A.tb.length:=by
 unfold AR.ck;simp only[zF,zU];constructor
 ·intro h;exact⟨k.toNat,O,O⟩
 ·rintro⟨j,rfl,h⟩;omega
structure Ob (A B:AR):Prop where
 ga:GA B
 kp:Kp A B
 runs:B.runs=A.runs
theorem Fm (h:GA A)(k m:Int):Ob A (YU A k m)/\(YU A k m).cF=A.cF/\(Yy A k m).Nodup/\(Yy A k m≠[]->∃j:Nat,k=j/\j<A.tb.length)/\(∀x∈Yy A k m,¬fo A k.toNat (x:Int)) ∧
 ∀j y,fo (YU A k m) j y↔fo A j y\/(j=k.toNat/\∃x∈Yy A k m,y=((x:Nat):Int)):=by
 by_cases h0:Q3 A k m=0
 ·have g:A.ck k=true:=by
   unfold Q3 at h0;split at h0
   ·assumption
   ·cases h0
  obtain⟨j,rfl,r⟩:=Gb.1 g;obtain⟨c,ss,t,b,E⟩:=h.cl r;have s:V8 A (j:Int) m=KF c m.toNat ss:=by unfold V8;rw[dE,b.1,b.2]
  have p:YU A (j:Int) m = {A with cI:=A.cI.set j (KF c m.toNat ss).2}:=by unfold YU;rw[zB h0,s,dE]
  have e:Yy A (j:Int) m=(KF c m.toNat ss).1:=by unfold Yy;rw[zB h0,s]
  rw[p,e];obtain⟨s1,w,D,C,B,u⟩:=GY m.toNat (h.cI j c ss b);refine⟨⟨h.lu b s1 w λz d x a=>(u x).2 (.inr (h.lP j c ss z b d x a)),Kp.bK rfl rfl rfl rfl,rfl⟩,rfl,C,λ_=>⟨j,rfl,r⟩,λx a=>?_,λi y=>?_⟩
  ·rw[dE,Vx b];exact B x a
  ·rw[yC b,u,dE];by_cases hij:i=j
   ·subst hij;rw[Vx b];constructor
    ·rintro(⟨_,a|a⟩|⟨a,_⟩)
     ·exact .inr ⟨rfl,a⟩
     ·exact .inl a
     ·exact(a rfl).elim
    ·rintro(a|⟨_,a⟩)
     ·exact .inl ⟨rfl,.inr a⟩
     ·exact .inl ⟨rfl,.inl a⟩
   ·constructor
    ·rintro(⟨a,_⟩|⟨_,a⟩)
     ·exact(hij a).elim
     ·exact .inl a
    ·rintro(a|⟨a,_⟩)
     ·exact .inr ⟨hij,a⟩
     ·exact(hij a).elim
 ·have p:YU A k m=A:=by unfold YU;rw[zA h0]
  have e:Yy A k m=[]:=by unfold Yy;rw[zA h0]
  rw[p,e];exact⟨⟨h,Kp.refl A,rfl⟩,rfl,tV,by simp,by simp,by simp⟩
theorem FH {xs:List Int}(h:kQ c ss xs):iU c ss xs=0:=by
 unfold iU;have b:xs.any (λx=>(eD c ss x).isNone)=false:=by
  rw[mE];intro x hx;rw[h.1 x hx];simp
 have a:xs.any (λx=>eD c ss x==some false)=false:=by
  rw[mE];intro x hx;rw[h.1 x hx];simp
 rw[b,a,zI h.2];rfl
theorem GV (h:GA A)(hk:Cl A k c ss)(xs:List Int):Km A (k:Int) xs=iU c ss xs:=by
 unfold Km;rw[Gb.2 ⟨k,rfl,hk.lt⟩,zB rfl,dE,hk.1,hk.2]
theorem Dr (h:GA A){k:Int}{xs:List Int}(h0:Km A k xs=0):∃(j:Nat) (c:cD) (ss:List cM),k=j/\Cl A j c ss/\kQ c ss xs:=by
 have a:A.ck k=true:=by
  unfold Km at h0;split at h0
  ·assumption
  ·cases h0
 obtain⟨j,rfl,d⟩:=Gb.1 a;obtain⟨c,ss,t,b,e⟩:=h.cl d;rw[GV h b]at h0;exact⟨j,c,ss,rfl,b,DO h0⟩
theorem BJ (h:GA A){k:Int}{xs:List Int}(hd:Km A k xs=0->∀x∈xs,¬iu A k.toNat x):Ob A (Zh A k xs)/\(Zh A k xs).cF=A.cF ∧
 (Km A k xs=0->∀j y,fo (Zh A k xs) j y↔fo A j y/\¬(j=k.toNat/\y∈xs))/\(Km A k xs≠0->Zh A k xs=A):=by
 by_cases h0:Km A k xs=0
 ·obtain⟨j,c,g,rfl,e,C⟩:=Dr h h0;obtain⟨B,D,s⟩:=Fj xs (h.cI j c g e) C;have p:=h.lu e B D λt u x a=>(s x).2 ⟨h.lP j c g t e u x a,λw=>hd h0 x w ⟨t,by rw[dE];exact u,a⟩⟩;have d:=HE e (xs.foldl (fL c) g);have r:Zh A (j:Int) xs=swp {A with cI:=A.cI.set j (xs.foldl (fL c) g)} j c (xs.foldl (fL c) g):=by
   unfold Zh swp;rw[zB h0,dE,e.1,e.2];simp only[oJ]
  have b:=p.pt d;rw[r];refine⟨⟨p.swp d,(Kp.bK rfl rfl rfl rfl:Kp A {A with cI:=A.cI.set j (xs.foldl (fL c) g)}).trans (p.xz d),b.runs⟩,b.cF,λ_ i y=>?_,λz=>(z h0).elim⟩;rw[p.wQ d,yC e,s,dE];by_cases hij:i=j
  ·subst hij;rw[Vx e];constructor
   ·rintro(⟨_,a,hy⟩|⟨a,_⟩)
    ·exact⟨a,λm=>hy m.2⟩
    ·exact(a rfl).elim
   ·rintro⟨a,hy⟩;exact .inl ⟨rfl,a,λm=>hy ⟨rfl,m⟩⟩
  ·constructor
   ·rintro(⟨a,_⟩|⟨_,a⟩)
    ·exact(hij a).elim
    ·exact⟨a,λm=>hij m.1⟩
   ·rintro⟨a,_⟩;exact .inr ⟨hij,a⟩
 ·have r:Zh A k xs=A:=by unfold Zh;rw[zA h0]
  rw[r];exact⟨⟨h,Kp.refl A,rfl⟩,rfl,λa=>(h0 a).elim,λ_=>rfl⟩
theorem GA.kn (h:GA A){k:Nat}{t':gg}(h1:t'.bs.flatten.Nodup)(h2:∀x∈t'.bs.flatten,fo A k x)(h3:∀c,A.tb[k]?=some c->∀xs∈t'.bs,xs.length=c.batch):GA {A with cF:=A.cF.set k t'}:=by
 have get:∀{j t},(A.cF.set k t')[j]?=some t->(j=k/\t=t')\/(j≠k/\A.cF[j]?=some t):=by
  intro j t a;by_cases hjk:j=k
  ·subst hjk;have g:j<A.cF.length:=by have:=(cV.1 a).1;simpa using this
   rw[zK g]at a;exact .inl ⟨rfl,(Option.some.inj a).symm⟩
  ·rw[zd (Ne.symm hjk)]at a;exact .inr ⟨hjk,a⟩
 refine⟨h.pg.same rfl rfl rfl rfl,h.tb,h.lc,by simp[h.lt],h.cI,h.one,h.ow,h.jJ,h.qq,h.gH,h.j3,λj t a=>?_,λj c e t b a x d=>?_,λj c t b a=>?_⟩
 ·rcases get a with⟨rfl,rfl⟩|⟨_,a⟩
  ·exact h1
  ·exact h.oL j t a
 ·rcases get a with⟨rfl,rfl⟩|⟨_,a⟩
  ·exact(Vx b).1 (h2 x d)
  ·exact h.lP j c e t b a x d
 ·rcases get a with⟨rfl,rfl⟩|⟨_,a⟩
  ·exact h3 c b
  ·exact h.oE j c t b a
theorem yI {t':gg}{j:Nat}{x:Int}(hk:k<A.cF.length):iu {A with cF:=A.cF.set k t'} j x↔(j=k/\x∈t'.bs.flatten)\/(j≠k/\iu A j x):=by
 by_cases hjk:j=k
 ·subst hjk;have a:(A.cF.set j t')[j]?=some t':=zK hk;constructor
  ·rintro⟨t,e,hx⟩;have e:(A.cF.set j t')[j]?=some t:=e;rw[a]at e;cases e;exact .inl ⟨rfl,hx⟩
  ·rintro(⟨_,hx⟩|⟨hx,_⟩)
   ·exact⟨_,a,hx⟩
   ·exact(hx rfl).elim
 ·have a:(A.cF.set k t')[j]?=A.cF[j]? := zd (Ne.symm hjk);constructor
  ·rintro⟨t,e,hx⟩;have e:(A.cF.set k t')[j]?=some t:=e;rw[a]at e;exact .inr ⟨hjk,t,e,hx⟩
  ·rintro(⟨hx,_⟩|⟨_,t,e,hx⟩)
   ·exact(hjk hx).elim
   ·exact⟨t,a.trans e,hx⟩
theorem GE {t:gg}(ht:A.cF[k]?=some t){x:Int}:iu A k x↔x∈t.bs.flatten:=by
 constructor
 ·rintro⟨t',e,hx⟩;rw[ht]at e;cases e;exact hx
 ·intro hx;exact⟨t,ht,hx⟩
theorem Eg (h:GA A)(k:Int):Ob A (ZV A k)/\(∀j y,fo (ZV A k) j y↔fo A j y)/\(∀x∈YQ A k,iu A k.toNat x)/\(YQ A k).Nodup/\(YQ A k≠[]->∃j:Nat,k=j/\j<A.tb.length) ∧
 ∀j y,iu (ZV A k) j y↔iu A j y/\¬(j=k.toNat/\y∈YQ A k):=by
 by_cases h0:Qq A k=0
 ·have s:A.ck k=true:=by
   unfold Qq at h0;split at h0
   ·assumption
   ·cases h0
  obtain⟨j,rfl,u⟩:=Gb.1 s;obtain⟨c,H,t,E,m⟩:=h.cl u;have hne:t.bs≠[]:=by
   intro e;unfold Qq at h0;rw[s,zB rfl,dE,m]at h0;simp[e]at h0
  have w:ZV A (j:Int) = {A with cF:=A.cF.set j t.rem}:=by unfold ZV;rw[zB h0,dE,VF m]
  have D:YQ A (j:Int)=t.bs.getLast?.getD []:=by unfold YQ;rw[zB h0,dE,m]
  have C:t.bs=t.bs.dropLast++[t.bs.getLast hne]:=(List.dropLast_concat_getLast hne).symm;have J:YQ A (j:Int)=t.bs.getLast hne:=by rw[D,List.getLast?_eq_some_getLast hne];rfl
  have d:t.bs.flatten=t.bs.dropLast.flatten++t.bs.getLast hne:=by
   conv=>lhs;rw[C]
   simp
  have p:=h.oL j t m;rw[d]at p;have b:=n0.1 p;have g:t.rem.bs=t.bs.dropLast:=rfl;rw[w,J];refine⟨⟨h.kn (by rw[g];exact b.1) (λx a=>(Vx E).2 (h.lP j c H t E m x (by rw[d];exact l7 _ a))) λF z G B=>h.oE j F t z m G ((List.dropLast_sublist _).subset B),Kp.bK rfl rfl rfl rfl,rfl⟩,λ_ _=>Iff.rfl,λx a=>?_,b.2.1,λ_=>⟨j,rfl,u⟩,λi y=>?_⟩
  ·rw[dE,GE m,d];exact px _ a
  ·rw[yI (by rw[h.lt];exact u),g,dE];by_cases hij:i=j
   ·subst hij;rw[GE m,d,zS];constructor
    ·rintro(⟨_,a⟩|⟨a,_⟩)
     ·exact⟨.inl a,λr=>b.2.2 y a y r.2 rfl⟩
     ·exact(a rfl).elim
    ·rintro⟨a|a,r⟩
     ·exact .inl ⟨rfl,a⟩
     ·exact(r ⟨rfl,a⟩).elim
   ·constructor
    ·rintro(⟨a,_⟩|⟨_,a⟩)
     ·exact(hij a).elim
     ·exact⟨a,λr=>hij r.1⟩
    ·rintro⟨a,_⟩;exact .inr ⟨hij,a⟩
 ·have w:ZV A k=A:=by unfold ZV;rw[zA h0]
  have D:YQ A k=[]:=by unfold YQ;rw[zA h0]
  rw[w,D];exact⟨⟨h,Kp.refl A,rfl⟩,λ_ _=>Iff.rfl,by simp,tV,by simp,by simp⟩
theorem ο (h:GA A)(k:Int){xs:List Int}(hn:xs.Nodup)(hd:∀x∈xs,¬iu A k.toNat x):Ob A (KC A k xs)/\(∀j y,fo (KC A k xs) j y↔fo A j y) ∧
 (VM A k xs=true->(∃j:Nat,k=j/\j<A.tb.length)/\(∀x∈xs,fo A k.toNat x)/\∀j y,iu (KC A k xs) j y↔iu A j y\/(j=k.toNat/\y∈xs))/\(VM A k xs=false->KC A k xs=A):=by
 by_cases h0:VM A k xs=true
 ·have B:Gs A k xs=0:=by
   unfold VM at h0;simp only[zF,zU]at h0;exact h0.1
  have z:A.ck k=true:=by
   unfold Gs at B;split at B
   ·assumption
   ·cases B
  obtain⟨j,rfl,D⟩:=Gb.1 z;obtain⟨c,H,t,s,u⟩:=h.cl D;have g:=B;unfold Gs at g;rw[z,zB rfl,dE,s.1,s.2]at g;simp only at g;have p:xs.length=c.batch:=by
   apply Classical.byContradiction;intro d;rw[zA d]at g;cases g
  rw[zB p]at g;have w:∀x∈xs,fo A j x:=by
   intro x d;split at g
   ·rename_i C;rw[kK]at C;rw[Vx s];simpa[Tk]using C x d
   ·cases g
  have E:KC A (j:Int) xs = {A with cF:=A.cF.set j {t with bs:=t.bs++[xs]}}:=by unfold KC;rw[zB h0,dE,VF u]
  have r:(t.bs++[xs]).flatten=t.bs.flatten++xs:=by simp
  rw[E];refine⟨⟨h.kn ?_ ?_ ?_,Kp.bK rfl rfl rfl rfl,rfl⟩,λ_ _=>Iff.rfl,λ_=>⟨⟨j,rfl,D⟩,by rw[dE];exact w,λi y=>?_⟩,λF=>by rw[F]at h0;cases h0⟩
  ·show(t.bs++[xs]).flatten.Nodup;rw[r,n0];exact⟨h.oL j t u,hn,λa C b G e=>hd b G (by subst e;rw[dE,GE u];exact C)⟩
  ·intro x d;have d:x∈(t.bs++[xs]).flatten:=d;rw[r,zS]at d;rcases d with d|d
   ·exact(Vx s).2 (h.lP j c H t s u x d)
   ·exact w x d
  ·intro c' hc' ys m;have m:ys∈t.bs++[xs]:=m;rcases zS.1 m with m|m
   ·exact h.oE j c' t hc' u ys m
   ·simp only[zZ]at m;rw[s.1]at hc';cases hc';rw[m];exact p
  ·rw[yI (by rw[h.lt];exact D),dE];show(i=j/\y∈(t.bs++[xs]).flatten)\/_↔_;rw[r,zS];by_cases hij:i=j
   ·subst hij;rw[GE u];constructor
    ·rintro(⟨_,d|d⟩|⟨d,_⟩)
     ·exact .inl d
     ·exact .inr ⟨rfl,d⟩
     ·exact(d rfl).elim
    ·rintro(d|⟨_,d⟩)
     ·exact .inl ⟨rfl,.inl d⟩
     ·exact .inl ⟨rfl,.inr d⟩
   ·constructor
    ·rintro(⟨d,_⟩|⟨_,d⟩)
     ·exact(hij d).elim
     ·exact .inl d
    ·rintro(d|⟨d,_⟩)
     ·exact .inr ⟨hij,d⟩
     ·exact(hij d).elim
 ·have E:KC A k xs=A:=by unfold KC;rw[zA h0]
  rw[E];exact⟨⟨h,Kp.refl A,rfl⟩,λ_ _=>Iff.rfl,λd=>(h0 d).elim,λ_=>rfl⟩
end Go.Ar
namespace Go.Ar
open Go.Bu (YS Q8 j6 Zx qt iA VR UK dG take KU KM Bounded full can YT Hb ZW Kh Z5 KX Kf Qv Uz HD lN)
variable {A:AR}{sp:Sp}{k:Nat}{c:cD}{ss:List cM}
structure Ow (A:AR) (sp:Sp):Prop where
 l:sp.st.length=A.n
 own:∀p,A.f p≠0->gf sp.st p≠0
 cl:∀p,A.f p=3->gf sp.st p=1
 le:∀p,gf sp.st p<=2
structure St (A B:AR) (sp sp':Sp):Prop where
 ga:GA B
 ow:Ow B sp'
 n:B.n=A.n
 tb:B.tb=A.tb
 room:B.room=A.room
 same:∀p,A.f p=0->B.f p=0->gf sp'.st p=gf sp.st p
 gone:∀p,A.f p≠0->B.f p=0->gf sp'.st p=0
 new:∀p,A.f p=0->B.f p≠0->gf sp.st p=0/\16<=p
theorem St.refl (h:GA A)(hw:Ow A sp):St A A sp sp:=⟨h,hw,rfl,rfl,rfl,λ_ _ _=>rfl,λp a b=>(a b).elim,λp a b=>(b a).elim⟩
theorem Ow.len {B C:AR}{sp sp':Sp}(h:Ow B sp)(k:Ow C sp')(e:C.n=B.n):sp'.st.length=sp.st.length:=by rw[h.l,k.l,e]
theorem St.trans {B C:AR}{sp' sp'':Sp}(h:St A B sp sp')(k:St B C sp' sp''):St A C sp sp'':=by
 refine⟨k.ga,k.ow,k.n.trans h.n,k.tb.trans h.tb,k.room.trans h.room,λp a b=>?_,λp a b=>?_,λp a b=>?_⟩
 ·by_cases hB:B.f p=0
  ·rw[k.same p hB b,h.same p a hB]
  ·rw[k.gone p hB b,(h.new p a hB).1]
 ·by_cases hB:B.f p=0
  ·rw[k.same p hB b,h.gone p a hB]
  ·exact k.gone p hB b
 ·by_cases hB:B.f p=0
  ·have:=k.new p hB b;rw[h.same p a hB]at this;exact this
  ·exact h.new p a hB
theorem Ow.kp {B:AR}(hw:Ow A sp)(h:Kp A B):Ow B sp:=⟨hw.l.trans h.n.symm,λp hp=>hw.own p λe=>hp ((h.z p).2 e),λp hp=>hw.cl p (h.t p hp),hw.le⟩
theorem St.kp {B:AR}(hg:GA B)(hw:Ow A sp)(h:Kp A B):St A B sp sp:=
 ⟨hg,hw.kp h,h.n,h.tb,h.room,λ_ _ _=>rfl,λp a b=>(a ((h.z p).1 b)).elim,λp a b=>(b ((h.z p).2 a)).elim⟩
theorem Ob.st {B:AR}(o:Ob A B)(hw:Ow A sp):St A B sp sp:=St.kp o.ga hw o.kp
theorem GA.grown (h:GA A){B:AR}{sp':Sp}{s size:Nat}(g:Grown A B sp sp' s size):GA B:=by
 have e:∀{j d tt},Cl B j d tt↔Cl A j d tt:=λ{j d tt}=>by unfold Cl;rw[g.tb,g.cI]
 exact⟨g.pg,by rw[g.tb];exact h.tb,by rw[g.cI,g.tb];exact h.lc,by rw[g.cF,g.tb];exact h.lt,λj d tt a=>h.cI j d tt (e.1 a),λj d tt a=>h.one j d tt (e.1 a),λj d tt a p=>by rw[g.ow];exact h.ow j d tt (e.1 a) p,
  λp=>by rw[g.ow,g.runs];exact h.jJ p,λp=>by rw[g.ow,g.tb];exact h.qq p,by rw[g.runs];exact h.gH,by rw[g.runs];exact h.j3,by rw[g.cF];exact h.oL,λj d tt t a b=>h.lP j d tt t (e.1 a) (by rw[←g.cF];exact b),by rw[g.tb,g.cF];exact h.oE⟩
theorem Grown.st (h:GA A)(hw:Ow A sp){B:AR}{sp':Sp}{s size:Nat}(g:Grown A B sp sp' s size):St A B sp sp':=by
 have b:∀p,B.f p≠A.f p->s<=p/\p<s+size:=λp hp=>by
  apply Classical.byContradiction;intro hn;exact hp (g.o p hn).1
 refine⟨h.grown g,⟨g.l.trans (hw.l.trans g.n.symm),λp hp=>?_,λp hp=>?_,λp=>?_⟩,g.n,g.tb,g.room,λp e d=>?_,λp e d=>?_,λp e d=>?_⟩
 ·by_cases a:s<=p/\p<s+size
  ·rw[(g.i p a.1 a.2).2];omega
  ·rw[(g.o p a).2];rw[(g.o p a).1]at hp;exact hw.own p hp
 ·by_cases a:s<=p/\p<s+size
  ·rw[(g.i p a.1 a.2).2]
  ·rw[(g.o p a).2];rw[(g.o p a).1]at hp;exact hw.cl p hp
 ·by_cases a:s<=p/\p<s+size
  ·rw[(g.i p a.1 a.2).2];omega
  ·rw[(g.o p a).2];exact hw.le p
 ·refine(g.o p λa=>?_).2;rw[(g.i p a.1 a.2).1]at d;omega
 ·have:=b p O;rw[(g.i p this.1 this.2).1]at d;omega
 ·have:=b p O;exact⟨g.un p this.1 this.2,by have:=g.s1;omega⟩
theorem TY {n:Nat}{S:Nat->Bool}(hb:Bounded S n)(hn:n<=1024){j q m a:Nat}(hf:full S j q=true)(hm:m<=2^j)(ha:a<=2^j):Zx n S m a≠none:=by
 intro h0;have hp:S (q*2^j)=true:=YT.1 hf _ (AP _ (lj j));obtain⟨i,e⟩:=Hb hb hp;have g:j<=i:=by
  apply Classical.byContradiction;intro hlt;exact Kh e hf rfl (AP _ (lj j)) O
 have r:=Z5 hb (ZW.1 e).1;have d:i<11:=by
  apply Classical.byContradiction;intro hge;have:2^11<=2^i:=po O O;omega
 have p:2^j<=2^i:=po O g;have:=HD h0 i d O O;have b:=(Kf hb (k:=i)).2 ⟨_,rfl,e⟩;rw[this]at b;simp at b
theorem Bp (m:Nat):Kw m=16\/Kw m=32\/Kw m=64:=by
 unfold Kw;split
 ·exact .inl rfl
 ·split
  ·exact .inr (.inl rfl)
  ·exact .inr (.inr rfl)
theorem Nm {m:Nat}(h:m<=64):m<=Kw m:=by
 unfold Kw;split
 ·omega
 ·split<;>omega
theorem Ja (h:GA A)(hw:Ow A sp){m a no:Nat}(h1:1<=m)(h2:m<=64)(ha:1<=a/\a<=16) :
 (dC A sp m a no=(none,A,sp)/\Zx A.n A.S m a=none/\dB sp (Kw (max m a))=none) ∨
 ∃x A1 sp1,dC A sp m a no=(some x,dU A1 x m no,sp1)/\Zx A1.n A1.S m a=some x/\(A1=A/\sp1=sp\/Zx A.n A.S m a=none/\∃s,dB sp (Kw (max m a))=some s/\Grown A A1 sp sp1 s (Kw (max m a))):=by
 cases ht:Zx A.n A.S m a with
 | some x=>exact .inr ⟨x,A,sp,by unfold dC;rw[ht],ht,.inl ⟨rfl,rfl⟩⟩
 | none=>
  cases hg:Ht A sp (Kw (max m a))with
  | none=>
   refine .inl ⟨by unfold dC;rw[ht,hg],rfl,?_⟩;unfold Ht at hg;split at hg
   ·assumption
   ·cases hg
  | some r=>
   obtain⟨A1,sp1⟩:=r;obtain⟨s,d,g⟩:=Re h.pg hw.l (λp hp=>Classical.byContradiction λw=>hw.own p w hp) (Bp _) hg;have b:Zx A1.n A1.S m a≠none:=by
    have z:=Nm (m:=max m a) O;obtain⟨_,_,⟨i,y⟩,_⟩:=Hy (by have:=Bp (max m a);omega) d;have key:∃j,Kw (max m a)=2^j:=by
     rcases Bp (max m a)with e|e|e
     ·exact⟨4,e⟩
     ·exact⟨5,e⟩
     ·exact⟨6,e⟩
    obtain⟨j,B⟩:=key;refine TY g.pg.jU g.pg.n2 (j:=j) (q:=i) (YT.2 λp hp=>?_) O O;rw[g.pg.fr];rw[Qv,←B,←y]at hp;rw[(g.i p hp.1 hp.2).1];omega
   obtain⟨x,u⟩:=Option.ne_none_iff_exists'.1 b;exact .inr ⟨x,A1,sp1,by unfold dC;rw[ht,hg];simp only;rw[u],u,.inr ⟨rfl,s,d,g⟩⟩
theorem JB (h:PG A){m a x:Nat}(hx:Zx A.n A.S m a=some x):∀p,x<=p->p<x+m->A.S p=true:=λp d b=>(lN h.jU hx).2 p d b
theorem PE (h:PG A){m a x:Nat}(h1:1<=m)(h4:m<=4)(hx:Zx A.n A.S m a=some x):x/16=(x+m-1)/16:=by
 obtain⟨j,_,b,_,d,_⟩:=Uz hx;obtain⟨q,rfl,g⟩:=(Kf h.jU).1 (List.mem_of_head? d)
 match j,b with
 | 0,b=>
  have:m=1:=by omega
  subst this;rfl
 | 1,b=>
  have:m<=2:=by omega
  simp only[Nat.pow_one]at *;omega
 | j+2,b=>
  have e:2^(j+2)=4*2^j:=by rw[Nat.pow_add];omega
  rw[e,←xD,Nat.mul_comm q 4,xD];generalize q*2^j=z;omega
theorem El (h:PG A){a m no:Nat}(h1:1<=m)(hn:no≠0)(hS:∀p,a<=p->p<a+m->A.S p=true):Kp A (dU A a m no):=by
 obtain⟨o,d,e,b⟩:=Bi h h1 hn hS;refine⟨rfl,rfl,rfl,b,λp hp=>?_⟩;by_cases hin:a<=p/\p<a+m
 ·rw[(d p hin.1 hin.2).1]at hp;omega
 ·rw[o.f p hin]at hp;exact hp
theorem GA.qZ (h:GA A)(hk:Cl A k c ss){x:Nat}(hS:∀p,x<=p->p<x+c.bK->A.S p=true)(h1:x/16=(x+c.bK-1)/16) :
 GA {dU A x c.bK (k+1)with cI:=(dU A x c.bK (k+1)).cI.set k (iD c ss x)}/\(∀s∈ss,s.st+c.bK<=x\/x+c.bK<=s.st):=by
 have u:=h.cI k c ss hk;have m:=u.pg;have z:=hk.lt;have E:=h.tb;obtain⟨o,i,pg,F⟩:=Bi h.pg m (no:=k+1) O hS;have r:∀p,x<=p->p<x+c.bK->A.ow p=0:=λp C D=>by
  have B:=(h.pg.fr p).1 (hS p C D);apply Classical.byContradiction;intro hne;have:=(h.pg.us p).2 hne;omega
 have hd:∀s∈ss,s.st+c.bK<=x\/x+c.bK<=s.st:=λs b=>by
  apply Classical.byContradiction;intro hn;have B:=r (max x s.st) O O;have:=(h.used hk b (p:=max x s.st) O O).2;omega
 refine⟨?_,hd⟩;have e:Cl (dU A x c.bK (k+1)) k c ss:=hk;refine⟨pg.same rfl rfl rfl rfl,h.tb,by show(A.cI.set k _).length=_;simp[h.lc];rfl,h.lt,λj d g a=>?_,λj d g a s b=>?_,λj d g a p=>?_,λp=>?_,λp=>?_,h.gH,h.j3,h.oL,λj d g t a w=>?_,h.oE⟩
 ·rcases UX e a with⟨rfl,rfl,rfl⟩|⟨hne,a⟩
  ·exact IG u hd
  ·exact h.cI j d g a
 ·rcases UX e a with⟨rfl,rfl,rfl⟩|⟨hne,a⟩
  ·rcases V5.1 b with rfl|b
   ·exact h1
   ·exact h.one _ _ _ hk s b
  ·exact h.one j d g a s b
 ·show(dU A x c.bK (k+1)).ow p=j+1↔_;by_cases hp:x<=p/\p<x+c.bK
  ·rw[(i p hp.1 hp.2).2];rcases UX e a with⟨rfl,rfl,rfl⟩|⟨hne,a⟩
   ·exact⟨λ_=>⟨_,V5.2 (.inl rfl),hp.1,hp.2⟩,λ_=>rfl⟩
   ·rw[←h.ow j d g a p,r p hp.1 hp.2];omega
  ·rw[o.ow p hp];rcases UX e a with⟨rfl,rfl,rfl⟩|⟨hne,a⟩
   ·rw[h.ow _ _ _ hk p];constructor
    ·rintro⟨s,b,h3⟩;exact⟨s,V5.2 (.inr b),h3⟩
    ·rintro⟨s,b,h3⟩;rcases V5.1 b with rfl|b
     ·exact(hp h3).elim
     ·exact⟨s,b,h3⟩
   ·exact h.ow j d g a p
 ·show(dU A x c.bK (k+1)).ow p=41↔iY A.runs p;by_cases hp:x<=p/\p<x+c.bK
  ·rw[(i p hp.1 hp.2).2,←h.jJ,r p hp.1 hp.2];omega
  ·rw[o.ow p hp];exact h.jJ p
 ·show(dU A x c.bK (k+1)).ow p=41\/(dU A x c.bK (k+1)).ow p<=A.tb.length;by_cases hp:x<=p/\p<x+c.bK
  ·rw[(i p hp.1 hp.2).2];omega
  ·rw[o.ow p hp];exact h.qq p
 ·rcases UX e a with⟨rfl,rfl,rfl⟩|⟨hne,a⟩
  ·intro y hy;exact(EA u hd).2 (h.lP _ _ _ t hk w y hy)
  ·exact h.lP j d g t a w
theorem GA.tM (h:GA A){x m:Nat}(hm:1<=m)(hS:∀p,x<=p->p<x+m->A.S p=true):GA {dU A x m 41 with runs:=A.runs++[(x,m)]}:=by
 have z:=h.tb;obtain⟨o,e,pg,B⟩:=Bi h.pg hm (no:=41) O hS;have i:∀p,x<=p->p<x+m->A.ow p=0:=λp w y=>by
  have u:=(h.pg.fr p).1 (hS p w y);apply Classical.byContradiction;intro hne;have:=(h.pg.us p).2 hne;omega
 refine⟨pg.same rfl rfl rfl rfl,h.tb,h.lc,h.lt,h.cI,h.one,λj d tt b p=>?_,λp=>?_,λp=>?_,λr a=>?_,?_,h.oL,h.lP,h.oE⟩
 ·have b:Cl A j d tt:=b;have:=b.lt;show(dU A x m 41).ow p=j+1↔_;by_cases hp:x<=p/\p<x+m
  ·rw[(e p hp.1 hp.2).2,←h.ow j d tt b p,i p hp.1 hp.2];omega
  ·rw[o.ow p hp];exact h.ow j d tt b p
 ·show(dU A x m 41).ow p=41↔iY (A.runs++[(x,m)]) p;by_cases hp:x<=p/\p<x+m
  ·rw[(e p hp.1 hp.2).2];exact⟨λ_=>⟨(x,m),by simp,hp⟩,λ_=>rfl⟩
  ·rw[o.ow p hp,h.jJ];constructor
   ·rintro⟨r,a,h3⟩;exact⟨r,by simp[a],h3⟩
   ·rintro⟨r,a,h3⟩;rcases zS.1 a with a|a
    ·exact⟨r,a,h3⟩
    ·simp only[zZ]at a;subst a;exact(hp h3).elim
 ·show(dU A x m 41).ow p=41\/(dU A x m 41).ow p<=A.tb.length;by_cases hp:x<=p/\p<x+m
  ·rw[(e p hp.1 hp.2).2];omega
  ·rw[o.ow p hp];exact h.qq p
 ·rcases zS.1 a with a|a
  ·exact h.gH r a
  ·simp only[zZ]at a;subst a;exact hm
 ·refine pC.2 ⟨h.j3,by simp,λr a s g=>?_⟩;simp only[zZ]at g;subst g;apply Classical.byContradiction;intro hn;simp only at hn;have:=h.gH r a;have u:=i (max x r.1) O O;have:=(h.jy a (p:=max x r.1) O O).2;omega
theorem Wij {l:List (Nat×Nat)}{x m:Nat}(h:∀r∈l,r.1≠x):cE.mset2 l x m=l++[(x,m)]:=by
 unfold cE.mset2;rw[zA];simp only[kM,za,not_exists,not_and];exact h
theorem JQ (h:GA A)(hw:Ow A sp)(k:Int) :
 ((cR A sp k=(A,sp))/\Vr A sp k≠0/\(A.ck k=true->Vr A sp k=6)) ∨
 ∃(j:Nat) (c:cD) (ss:List cM) (x:Nat) (A1:AR) (sp1:Sp),k=j/\Cl A j c ss/\Cl A1 j c ss/\Vr A sp k=0/\cR A sp k=({dU A1 x c.bK (j+1)with cI:=(dU A1 x c.bK (j+1)).cI.set j (iD c ss x)},sp1) ∧
  St A A1 sp sp1/\A1.runs=A.runs/\A1.cF=A.cF/\A1.cI=A.cI/\Zx A1.n A1.S c.bK 1=some x/\(∀s∈ss,s.st+c.bK<=x\/x+c.bK<=s.st)/\St A (cR A sp k).1 sp (cR A sp k).2:=by
 by_cases hck:A.ck k=true
 ·obtain⟨j,rfl,E⟩:=Gb.1 hck;obtain⟨c,ss,t,b,H⟩:=h.cl E;have G:=h.cI j c ss b;have w:=G.ok;unfold cD.ok at w;have C:=b.lt;rcases Ja h hw (m:=c.bK) (a:=1) (no:=j+1) O O O with⟨hg,_⟩|⟨x,A1,sp1,hg,htk,hor⟩
  ·left;have y:Vr A sp (j:Int)=6:=by unfold Vr;rw[hck,zB rfl,dE,b.1,b.2];simp only;rw[hg]
   have F:cR A sp (j:Int)=(A,sp):=by unfold cR;rw[hck,zB rfl,dE,b.1,b.2];simp only;rw[hg]
   rw[F,y];exact⟨rfl,by simp,λ_=>rfl⟩
  ·right;have y:Vr A sp (j:Int)=oY c ss x:=by unfold Vr;rw[hck,zB rfl,dE,b.1,b.2];simp only;rw[hg]
   have u:GA A1:=by
    rcases hor with⟨rfl,rfl⟩|⟨_,s,_,g⟩
    ·exact h
    ·exact h.grown g
   have e:St A A1 sp sp1:=by
    rcases hor with⟨rfl,rfl⟩|⟨_,s,_,g⟩
    ·exact St.refl h hw
    ·exact g.st h hw
   have d:A1.runs=A.runs/\A1.cF=A.cF/\A1.cI=A.cI:=by
    rcases hor with⟨rfl,rfl⟩|⟨_,s,_,g⟩
    ·exact⟨rfl,rfl,rfl⟩
    ·exact⟨g.runs,g.cF,g.cI⟩
   have r:Cl A1 j c ss:=⟨by rw[e.tb];exact b.1,by rw[d.2.2];exact b.2⟩;have B:=JB u.pg htk;obtain⟨D,hd⟩:=u.qZ r B (PE u.pg O O htk);have z:=RM hd;have p:cR A sp (j:Int)=({dU A1 x c.bK (j+1)with cI:=(dU A1 x c.bK (j+1)).cI.set j (iD c ss x)},sp1):=by
    unfold cR;rw[hck,zB rfl,dE,b.1,b.2];simp only;rw[hg];simp only;rw[zB z]
   refine⟨j,c,ss,x,A1,sp1,rfl,b,r,by rw[y];exact z,p,e,d.1,d.2.1,d.2.2,htk,hd,?_⟩;rw[p];have kp:=El u.pg (no:=j+1) O O B;exact e.trans (St.kp D e.ow (kp.trans (Kp.bK rfl rfl rfl rfl)))
 ·left;have i:A.ck k=false:=by simpa using hck
  unfold cR Vr;rw[i];exact⟨rfl,by simp,λh=>by cases h⟩
theorem MB (h:GA A)(hw:Ow A sp)(k:Int):St A (cR A sp k).1 sp (cR A sp k).2/\(cR A sp k).1.runs=A.runs/\(cR A sp k).1.cF=A.cF/\(∀j y,fo (cR A sp k).1 j y↔fo A j y)/\(Vr A sp k≠0->cR A sp k=(A,sp)):=by
 rcases JQ h hw k with⟨e,_⟩|⟨j,c,ss,x,A1,sp1,rfl,hk,hk1,hE,e,hst,r1,r2,r3,_,hd,hS⟩
 ·rw[e];exact⟨St.refl h hw,rfl,rfl,λ_ _=>Iff.rfl,λ_=>rfl⟩
 ·refine⟨hS,by rw[e];exact r1,by rw[e];exact r2,λi y=>?_,λd=>(d hE).elim⟩;rw[e];have b:Cl (dU A1 x c.bK (j+1)) j c ss:=hk1;rw[yC b,EA (h.cI j c ss hk) hd];have e2:fo (dU A1 x c.bK (j+1)) i y↔fo A i y:=by
   have:(dU A1 x c.bK (j+1)).tb=A.tb/\(dU A1 x c.bK (j+1)).cI=A.cI:=⟨hst.tb,r3⟩;unfold fo Cl;rw[this.1,this.2]
  rw[e2];by_cases hij:i=j
  ·subst hij;rw[Vx hk];exact⟨λa=>by rcases a with⟨_,a⟩|⟨a,_⟩;exact a;exact(a rfl).elim,λa=>.inl ⟨rfl,a⟩⟩
  ·exact⟨λa=>by rcases a with⟨a,_⟩|⟨_,a⟩;exact(hij a).elim;exact a,λa=>.inr ⟨hij,a⟩⟩
theorem OL {m a:Int}(h:KO m a=true):∃x y:Nat,m=x/\a=y/\1<=x/\x<=64/\(y=1\/y=2\/y=4\/y=8\/y=16):=by
 unfold KO at h;simp only[zF,zU,mQ,za]at h;exact⟨m.toNat,a.toNat,O,O,O,O,O⟩
theorem SR (h:GA A)(hw:Ow A sp)(m a:Int) :
 (cE A sp m a=(A,sp)/\QS A sp m a≠0/\(KO m a=true->QS A sp m a=6/\Zx A.n A.S m.toNat a.toNat=none/\dB sp (Kw (max m.toNat a.toNat))=none)) ∨
 ∃(x:Nat) (A1:AR) (sp1:Sp),KO m a=true/\QS A sp m a=0/\Qo A sp m a=x/\cE A sp m a=({dU A1 x m.toNat 41 with runs:=A.runs++[(x,m.toNat)]},sp1) ∧
  Zx A1.n A1.S m.toNat a.toNat=some x/\(A1=A/\sp1=sp\/Zx A.n A.S m.toNat a.toNat=none/\∃s,dB sp (Kw (max m.toNat a.toNat))=some s/\Grown A A1 sp sp1 s (Kw (max m.toNat a.toNat))) ∧
  St A (cE A sp m a).1 sp (cE A sp m a).2/\(cE A sp m a).1.cF=A.cF/\(∀j y,fo (cE A sp m a).1 j y↔fo A j y):=by
 by_cases hp:KO m a=true
 ·obtain⟨b,u,rfl,rfl,H,J,R⟩:=OL hp;have G:QS A sp (b:Int) (u:Int)=if(dC A sp b u 41).1.isSome then 0 else 6:=by unfold QS;rw[zB hp,dE,dE]
  have L:Qo A sp (b:Int) (u:Int)=(dC A sp b u 41).1.getD 0:=by unfold Qo;rw[zB hp,dE,dE]
  rcases Ja h hw (m:=b) (a:=u) (no:=41) H J O with⟨hg,hn1,hn2⟩|⟨x,A1,sp1,hg,htk,hor⟩
  ·left;have M:cE A sp (b:Int) (u:Int)=(A,sp):=by unfold cE;rw[zB hp,dE,dE,hg]
   rw[M,G,hg,dE,dE];exact⟨rfl,by simp,λ_=>⟨rfl,hn1,hn2⟩⟩
  ·right;have z:GA A1:=by
    rcases hor with⟨rfl,rfl⟩|⟨_,s,_,g⟩
    ·exact h
    ·exact h.grown g
   have w:St A A1 sp sp1:=by
    rcases hor with⟨rfl,rfl⟩|⟨_,s,_,g⟩
    ·exact St.refl h hw
    ·exact g.st h hw
   have d:A1.runs=A.runs/\A1.cF=A.cF/\A1.cI=A.cI:=by
    rcases hor with⟨rfl,rfl⟩|⟨_,s,_,g⟩
    ·exact⟨rfl,rfl,rfl⟩
    ·exact⟨g.runs,g.cF,g.cI⟩
   have E:=JB z.pg htk;have C:∀r∈A.runs,r.1≠x:=λr K e=>by
    have B:r∈A1.runs:=by rw[d.1];exact K
    have:=z.gH r B;have P:=(z.jy B (p:=x) O O).1;have Q:=(z.pg.fr x).1 (E x O O);omega
   have i:cE A sp (b:Int) (u:Int)=({dU A1 x b 41 with runs:=A.runs++[(x,b)]},sp1):=by
    unfold cE;rw[zB hp,dE,dE,hg];show({dU A1 x b 41 with runs:=cE.mset2 A1.runs x b},sp1)=_;rw[d.1,Wij C]
   have F:=z.tM O E;rw[d.1]at F;have kp:=El z.pg (no:=41) O O E;refine⟨x,A1,sp1,hp,by rw[G,hg];rfl,by rw[L,hg];rfl,by rw[dE];exact i,by rw[dE,dE];exact htk,by rw[dE,dE];exact hor,?_,by rw[i];exact d.2.1,λj y=>?_⟩
   ·rw[i];exact w.trans (St.kp F w.ow (kp.trans (Kp.bK rfl rfl rfl rfl)))
   ·rw[i];have e1:({dU A1 x b 41 with runs:=A.runs++[(x,b)]}:AR).tb=A.tb:=w.tb;have e2:({dU A1 x b 41 with runs:=A.runs++[(x,b)]}:AR).cI=A.cI:=d.2.2;unfold fo Cl;rw[e1,e2]
 ·left;have D:KO m a=false:=by simpa using hp
  unfold cE QS;rw[D];exact⟨rfl,by simp,λN=>by cases N⟩
theorem Np {x:Int}{r:Nat×Nat}(h:qE A x=some r):r∈A.runs/\x=(r.1:Int):=by
 unfold qE at h;exact⟨sg h,by have:=sy h;simpa using Eq.symm (by simpa using this)⟩
theorem NQ (h:GA A)(x:Int):(Kp A (Q5 A x)/\GA (Q5 A x))/\(Q5 A x).cF=A.cF/\(∀j y,fo (Q5 A x) j y↔fo A j y)/\(Vy A x≠0->Q5 A x=A) ∧
 (Vy A x=0->∃r∈A.runs,x=(r.1:Int)/\(Q5 A x).runs=A.runs.filter λq=>!(q==r)):=by
 cases hr:qE A x with
 | none=>
  have e:Q5 A x=A:=by unfold Q5;rw[hr]
  have C:Vy A x=8:=by unfold Vy;rw[hr];rfl
  rw[e,C];exact⟨⟨Kp.refl A,h⟩,rfl,λ_ _=>Iff.rfl,λ_=>rfl,λi=>by cases i⟩
 | some r=>
  obtain⟨b,i⟩:=Np hr;have z:=h.gH r b;have s:A.runs.filter (λq=>!((q.1:Int)==x))=A.runs.filter λq=>!(q==r):=by
   apply wL;intro q g;have:((q.1:Int)==x)=(q==r):=by
    rw[nP];simp only[za];constructor
    ·intro e;have G:=h.gH q g;exact h.ig g b (x:=q.1) O O O O
    ·rintro rfl;exact i.symm
   rw[this]
  have e:Q5 A x=UH {A with runs:=A.runs.filter λq=>!(q==r)} r:=by unfold Q5;rw[hr];simp only;rw[s]
  have C:Vy A x=0:=by unfold Vy;rw[hr];rfl
  obtain⟨a,m⟩:=r;obtain⟨o,B,pg,F⟩:=D6 (A:={A with runs:=A.runs.filter λq=>!(q==(a,m))}) (h.pg.same rfl rfl rfl rfl) z (λp D E=>(h.jy b D E).1);have own:∀p,a<=p->p<a+m->A.ow p=41:=λp D E=>(h.jy b D E).2;have H:=h.tb;rw[e,C];refine⟨⟨⟨rfl,rfl,rfl,F,λp hp=>?_⟩,?_⟩,rfl,λ_ _=>Iff.rfl,λi=>(i rfl).elim,λ_=>⟨_,b,i,rfl⟩⟩
  ·by_cases hin:a<=p/\p<a+m
   ·rw[(B p hin.1 hin.2).1]at hp;omega
   ·rw[o.f p hin]at hp;exact hp
  ·refine⟨pg,h.tb,h.lc,h.lt,h.cI,h.one,λj d tt u p=>?_,λp=>?_,λp=>?_,λq g=>h.gH q (zH.1 g).1,h.j3.filter _,h.oL,h.lP,h.oE⟩
   ·have u:Cl A j d tt:=u;have:=u.lt;by_cases hin:a<=p/\p<a+m
    ·rw[(B p hin.1 hin.2).2,←h.ow j d tt u p,own p hin.1 hin.2];omega
    ·rw[o.ow p hin];exact h.ow j d tt u p
   ·show _↔iY (A.runs.filter λq=>!(q==(a,m))) p;by_cases hin:a<=p/\p<a+m
    ·rw[(B p hin.1 hin.2).2];constructor
     ·intro i;omega
     ·rintro⟨q,g,q1,q2⟩;have w:=zH.1 g;have:=h.ig w.1 b q1 q2 hin.1 hin.2;subst this;simp at w
    ·rw[o.ow p hin];show A.ow p=41↔_;rw[h.jJ];constructor
     ·rintro⟨q,g,q1⟩;refine⟨q,zH.2 ⟨g,?_⟩,q1⟩;have:q≠(a,m):=by rintro rfl;exact hin q1
      simpa using this
     ·rintro⟨q,g,q1⟩;exact⟨q,(zH.1 g).1,q1⟩
   ·by_cases hin:a<=p/\p<a+m
    ·rw[(B p hin.1 hin.2).2];omega
    ·rw[o.ow p hin];exact h.qq p
theorem Py (hk:Cl A k c ss):Q9 A k=swp A k c ss:=by unfold Q9 swp;rw[hk.1,hk.2]
theorem Ig (h:GA A):∀m,m<=A.tb.length->Ob A ((List.range m).foldl Q9 A)/\((List.range m).foldl Q9 A).cF=A.cF/\∀j y,fo ((List.range m).foldl Q9 A) j y↔fo A j y
 | 0,_=>⟨⟨h,Kp.refl A,rfl⟩,rfl,λ_ _=>Iff.rfl⟩
 | m+1,hm=>by
  obtain⟨o,e,t⟩:=Ig h m O;rw[kI,lb,lp,List.foldl_nil];generalize (List.range m).foldl Q9 A=B at o e t;obtain⟨c,d,_,a,_⟩:=o.ga.cl (k:=m) (by rw[o.kp.tb];omega);rw[Py a];have b:=o.ga.pt a;exact⟨⟨o.ga.swp a,o.kp.trans (o.ga.xz a),b.runs.trans o.runs⟩,b.cF.trans e,λj y=>(o.ga.wQ a).trans (t j y)⟩
theorem UY (h:GA A):Ob A (YP A)/\(YP A).cF=A.cF/\∀j y,fo (YP A) j y↔fo A j y:=Ig h _ (zC _)
theorem Cc (k:Nat):∀(outs:List (List Int)) {A:AR},GA A->outs.flatten.Nodup->(∀x∈outs.flatten,fo A k x/\¬iu A k x) →
 Ob A (outs.foldl (λA' xs=>Zh A' (k:Int) xs) A)/\(outs.foldl (λA' xs=>Zh A' (k:Int) xs) A).cF=A.cF/\∀j y,fo (outs.foldl (λA' xs=>Zh A' (k:Int) xs) A) j y↔fo A j y/\¬(j=k/\y∈outs.flatten)
 | [],A,h,_,_=>⟨⟨h,Kp.refl A,rfl⟩,rfl,by simp⟩
 | xs::outs,A,h,hn,ht=>by
  rw[wV]at hn ht;have hn':=n0.1 hn;have m:∀x∈xs,fo A k x/\¬iu A k x:=λx i=>ht x (l7 _ i);rw[lp];cases xs with
  | nil=>
   have u:Zh A (k:Int) []=A\/Km A (k:Int) []=0:=by
    by_cases w:Km A (k:Int) []=0
    ·exact .inr w
    ·exact .inl (by unfold Zh;rw[zA w])
   obtain⟨o,e,t,_⟩:=BJ h (k:=(k:Int)) (xs:=[]) (λ_=>by simp);have s:∀j y,fo (Zh A (k:Int) []) j y↔fo A j y:=λj y=>by
    rcases u with u|u
    ·rw[u]
    ·rw[t u];simp
   have p:∀j y,iu (Zh A (k:Int) []) j y↔iu A j y:=λj y=>by unfold iu;rw[e]
   obtain⟨o2,e2,z⟩:=Cc k outs o.ga hn'.2.1 λx i=>by rw[s,p];exact ht x (px _ i)
   exact⟨⟨o2.ga,o.kp.trans o2.kp,o2.runs.trans o.runs⟩,e2.trans e,λj y=>by rw[z,s];simp⟩
  | cons x0 xs=>
   obtain⟨c,C,B,_⟩:=(m x0 aA).1;have w:Km A (k:Int) (x0::xs)=0:=by
    rw[GV h B];exact FH ⟨λx i=>(Vx B).1 (m x i).1,hn'.1⟩
   obtain⟨o,e,t,_⟩:=BJ h (k:=(k:Int)) (xs:=x0::xs) (λ_ x i=>by rw[dE];exact(m x i).2);have s:=t w;have p:∀j y,iu (Zh A (k:Int) (x0::xs)) j y↔iu A j y:=λj y=>by unfold iu;rw[e]
   obtain⟨o2,e2,z⟩:=Cc k outs o.ga hn'.2.1 λx i=>by
    rw[s,p];have:=ht x (px _ i);exact⟨⟨this.1,λg=>hn'.2.2 x g.2 x i rfl⟩,this.2⟩
   refine⟨⟨o2.ga,o.kp.trans o2.kp,o2.runs.trans o.runs⟩,e2.trans e,λj y=>?_⟩;rw[z,s,dE,wV,zS];constructor
   ·rintro⟨⟨a,b⟩,d⟩;refine⟨a,λ⟨r,g⟩=>?_⟩;rcases g with g|g
    ·exact b ⟨r,g⟩
    ·exact d ⟨r,g⟩
   ·rintro⟨a,b⟩;exact⟨⟨a,λ⟨r,g⟩=>b ⟨r,.inl g⟩⟩,λ⟨r,g⟩=>b ⟨r,.inr g⟩⟩
structure tg (A B:AR):Prop where
 ob:Ob A B
 sub:∀j y,iu B j y->iu A j y
 tk:∀j y,fo B j y↔fo A j y/\(iu A j y->iu B j y)
theorem tg.trans {B C:AR}(h:tg A B)(k:tg B C):tg A C:=
 ⟨⟨k.ob.ga,h.ob.kp.trans k.ob.kp,k.ob.runs.trans h.ob.runs⟩,λj y g=>h.sub j y (k.sub j y g),λj y=>by
  rw[k.tk,h.tk];exact⟨λ⟨⟨a,b⟩,d⟩=>⟨a,λe=>d (b e)⟩,λ⟨a,b⟩=>⟨⟨a,λe=>k.sub j y (b e)⟩,λe=>b (h.sub j y e)⟩⟩⟩
theorem Nv (h:GA A)(hk:k<A.tb.length):tg A (Vf A k):=by
 obtain⟨c,H,t,D,m⟩:=h.cl hk;have p:k<A.cF.length:=by rw[h.lt];exact hk
 have e:Vf A k=t.out.foldl (λA' w=>Zh A' (k:Int) w) {A with cF:=A.cF.set k t.tick}:=by unfold Vf;rw[m]
 have C:t.bs=t.out++t.tick.bs:=(mZ ((t.low+1)/2) t.bs).symm;have i:t.bs.flatten=t.out.flatten++t.tick.bs.flatten:=by conv=>lhs;rw[C];rw[List.flatten_append]
 have r:=h.oL k t m;rw[i]at r;have g:=n0.1 r;have s:∀x∈t.bs.flatten,fo A k x:=λx d=>(Vx D).2 (h.lP k c H t D m x d);have G:GA {A with cF:=A.cF.set k t.tick}:=h.kn g.2.1 (λx d=>s x (by rw[i];exact px _ d)) λF z w B=>h.oE k F t z m w (t.mc w B);obtain⟨o,e2,E⟩:=Cc k t.out G g.1 λx d=>by
  refine⟨s x (by rw[i];exact l7 _ d),?_⟩;rw[yI p];rintro(⟨_,hy⟩|⟨hy,_⟩)
  ·exact g.2.2 x d x hy rfl
  ·exact hy rfl
 rw[←e]at o e2 E;have u:∀j y,iu (Vf A k) j y↔(j=k/\y∈t.tick.bs.flatten)\/(j≠k/\iu A j y):=λj y=>by
  rw[←yI p];unfold iu;rw[e2]
 refine⟨⟨o.ga,(Kp.bK rfl rfl rfl rfl:Kp A {A with cF:=A.cF.set k t.tick}).trans o.kp,o.runs⟩,λj y d=>?_,λj y=>?_⟩
 ·rcases(u j y).1 d with⟨rfl,hy⟩|⟨_,hy⟩
  ·rw[GE m,i];exact px _ hy
  ·exact hy
 ·rw[E,u];show fo A j y/\_↔_;by_cases hjk:j=k
  ·subst hjk;rw[GE m,i,zS];constructor
   ·rintro⟨a,b⟩;refine⟨a,λd=>?_⟩;rcases d with d|d
    ·exact(b ⟨rfl,d⟩).elim
    ·exact .inl ⟨rfl,d⟩
   ·rintro⟨a,b⟩;refine⟨a,λ⟨_,d⟩=>?_⟩;rcases b (.inl d)with⟨_,hy⟩|⟨hy,_⟩
    ·exact g.2.2 y d y hy rfl
    ·exact hy rfl
  ·exact⟨λ⟨a,_⟩=>⟨a,λd=>.inr ⟨hjk,d⟩⟩,λ⟨a,_⟩=>⟨a,λ⟨d,_⟩=>hjk d⟩⟩
theorem Fq (h:GA A):∀m,m<=A.tb.length->tg A ((List.range m).foldl Vf A)
 | 0,_=>⟨⟨h,Kp.refl A,rfl⟩,λ_ _=>id,λ_ _=>⟨λa=>⟨a,id⟩,λa=>a.1⟩⟩
 | m+1,hm=>by
  have t:=Fq h m O;rw[kI,lb,lp,List.foldl_nil];exact t.trans (Nv t.ob.ga (by rw[t.ob.kp.tb];omega))
theorem O0 (h:GA A):tg A (HF A):=Fq h _ (by rw[h.lt];exact zC _)
end Go.Ar