/- Texts joined. -/
import Derived.Test.YtaikomcgmhaekaaGreatDoorM3
set_option linter.unusedVariables false
set_option linter.unusedSimpArgs false
namespace Go.Ar
open Go Go.Vc Go.Proofs
open Go.Bu (YS)
variable {U:Hp}{F:Rg}{p q r:Nat}{sp:Sp}{l:List (Int×Sl)}{B:Nat->Nat}
theorem RN (l:List Nat)(n:Nat):gD (l.take n)=(gD l).take (2*n):=by
 induction l generalizing n with
 | nil=>simp[gD]
 | cons y l ih=>
  have e:∀z m,gD (z::m)=.bool (fV z).1 :: .bool (fV z).2::gD m:=λz m=>by simp[gD]
  cases n with
  | zero=>simp[gD]
  | succ n=>
   rw[rZ,e,e,ih,show 2*(n+1)=2*n+1+1 by omega];simp
theorem TR (l:List Nat)(n:Nat):gD (l.drop n)=(gD l).drop (2*n):=by
 induction l generalizing n with
 | nil=>simp[gD]
 | cons y l ih=>
  have e:∀z m,gD (z::m)=.bool (fV z).1 :: .bool (fV z).2::gD m:=λz m=>by simp[gD]
  cases n with
  | zero=>simp[gD]
  | succ n=>
   rw[yg,e,ih,show 2*(n+1)=2*n+1+1 by omega];simp
theorem BO (n v:Nat):gD (List.replicate n v)=(List.replicate n [Value.bool (fV v).1,.bool (fV v).2]).flatten:=by
 induction n with
 | zero=>rfl
 | succ n ih=>rw[vw,vw,wV,←ih];simp[gD]
theorem _root_.Go.Vc.cS.yS {s:Sl}{l:List Nat}(h:cS s 2 (gD l) U F){i x:Nat}(hx:l[i]?=some x){K:Bool->Bool->Prop}(hK:K (fV x).1 (fV x).2) :
 Ix s.a s.len (i:Int) 2 λa=>kB (a.add 0) U λu=>kB (a.add 1) U λw=>K u w:=by
 have r:=(cV.1 hx).1;have g:=DR hx;obtain⟨b,o,j,p⟩:=h.cell g.1;obtain⟨y,o1,d,e⟩:=h.cell g.2;rw[j]at d;cases d;have m:=h.1;rw[KV]at m;rw[j];refine ix O O ?_;rw[add_lit];refine lB ?_ (lB ?_ hK)<;>rw[add_lit]
 ·rw[show o+(i:Int).toNat*2+0=o+2*i by omega];exact p
 ·rw[show o+(i:Int).toNat*2+1=o+(2*i+1) by omega];exact e
theorem _root_.Go.Vc.cS.vV {s:Sl}{l:List Nat}(h:cS s 2 (gD l) U F):s.len=l.length:=by
 have:=h.1;rw[KV]at this;omega
theorem RW {s:Sl}{xs:List Nat}(h:cS s 2 (gD xs) U F)(hl:xs.length<=1000000)(h2:∀x∈xs,x<=2){v:Nat}(hv:v<=2){R:aN}
 (hR:∀(t:Int) σ',aG U σ'->decide (t≥0)=xs.contains v->R t σ'):Wp.c s (fV v).1 (fV v).2 U R:=by
 refine Wp.o ?_;unfold Wp.v;have z:=h.vV;refine nw (cs:=[.bool (fV v).1,.bool (fV v).2]) λw G e y=>?_;have h:=aH.aF h e;refine Zw (a:=bN) (λ(t:Int) u=>∃i:Nat,t=(i:Int)/\i<=xs.length/\u=w/\∀j,j<i->xs[j]?≠some v) (λt _=>xs.length-t.toNat) ⟨0,rfl,O,rfl,λj g=>O⟩ ?_;rintro t u ⟨i,rfl,E,rfl,d⟩;refine cL (λC=>?_) λB=>?_
 ·have b:i<xs.length:=by omega
  have A:xs[i]?=some xs[i]:=cQ b;refine y.rB rfl (y.rB rfl (h.yS A ?_));rw[AG hv (h2 _ (zb b))];refine cU (λr=>?_) λr=>?_
  ·have:v=xs[i]:=by simpa using r
   refine hR _ _ e ?_;have D:xs.contains v=true:=by rw[this];simp
   rw[D,zI O]
  ·have p:¬v=xs[i]:=by simpa using r
   refine cC (m:=i+1) O O ⟨⟨i+1,rfl,O,rfl,λj g=>?_⟩,O⟩;by_cases e:j=i
   ·subst e;rw[A];intro e2;cases e2;exact p rfl
   ·exact d j O
 ·refine hR _ _ e ?_;have:xs.contains v=false:=by
   simp only[sN,decide_eq_false_iff_not];intro hm;obtain⟨j,g⟩:=zN hm;have:=(cV.1 g).1;exact d j O g
  rw[this];rfl
theorem JF {s:Sl}{xs:List Nat}(h:cS s 2 (gD xs) U F)(hl:xs.length<=1000000)(h2:∀x∈xs,x<=2){v:Nat}(hv:v<=2){R:aO}
 (hR:∀σ',aG U σ'->R (xs.contains v) σ'):Wj.c s (fV v).1 (fV v).2 U R:=by
 refine Wj.o ?_;unfold Wj.v;refine nw (cs:=[.bool (fV v).1,.bool (fV v).2]) λw g e a=>a.rB rfl (a.rB rfl ?_);refine RW (aH.aF h e) hl h2 hv λt σ' b d=>?_;rw[d];exact hR σ' (Ext.trans e b)
theorem MP (g:Gl U){x:Nat}(hx:x<=2){R:aO}(hR:∀σ',aG U σ'->R (x != 0) σ'):YR.c (fV x).1 (fV x).2 U R:=by
 refine YR.o ?_;unfold YR.v;refine nw (cs:=[.bool (fV x).1,.bool (fV x).2]) λv d e a=>a.rB rfl (a.rB rfl ?_);have g:=g.aF e;refine lB (by rw[←g.u0];rfl) (lB (by rw[←g.u1];rfl) ?_);have b:(((fV x).1==false)&&(((fV x).2==false)&&true))=(x==0):=AG hx (y:=0) O;rw[b];exact hR v e
theorem LU {s:Sl}{xs:List Nat}(h:cS s 2 (gD xs) U F)(g:Gl U)(hl:xs.length<=1000000)(h2:∀x∈xs,x<=2){R:aO}
 (hR:∀σ',aG U σ'->R (xs.any (· != 0)) σ'):Wg.c s ⟨274,#[],#[]⟩ U R:=by
 refine Wg.o ?_;unfold Wg.v;refine Wo.o ?_;unfold Wo.v;have A:=h.vV;refine Zw (a:=bN) (λ(t:Int) D=>∃i:Nat,t=(i:Int)/\i<=xs.length/\aG U D/\∀(j x:Nat),j<i->xs[j]?=some x->x=0) (λt _=>xs.length-t.toNat) ⟨0,rfl,O,Ext.refl _ _,λj x r=>O⟩ ?_;rintro t w ⟨i,rfl,H,e,p⟩;refine cL (λG=>?_) λE=>?_
 ·have b:i<xs.length:=by omega
  have B:xs[i]?=some xs[i]:=cQ b;refine(aH.aF h e).yS B ?_;refine oP (all := #[.agg #[.bool (fV xs[i]).1,.bool (fV xs[i]).2]]) (by kernel_rfl) aA ?_;refine MP (g.aF e) (h2 _ (zb b)) λC z=>?_;refine cU (λy=>?_) λy=>?_
  ·have:xs.any (· != 0)=true:=kM.2 ⟨_,zb b,y⟩;have:=hR C (Ext.trans e z);rw[‹xs.any (· != 0)=true›]at this;show R (decide ((i:Int)≥0)) _;rw[zI O];exact this
  ·have u:xs[i]=0:=by simpa using y
   refine cC (m:=i+1) O O ⟨⟨i+1,rfl,O,Ext.trans e z,λj x r d=>?_⟩,O⟩;by_cases e:j=i
   ·subst e;rw[B]at d;cases d;exact u
   ·exact p j x O d
 ·have:xs.any (· != 0)=false:=by
   rw[mE];intro x hm;obtain⟨j,r⟩:=zN hm;have:=(cV.1 r).1;simpa using p j x O r
  have:=hR w e;rw[‹xs.any (· != 0)=false›]at this;exact this
theorem fN.part (h:fN U F p q r l B sp){x y c:Nat}(hl:x+y<=sp.st.length):cS ⟨some ⟨q,2*x,none⟩,y,c⟩ 2 (gD ((sp.st.drop x).take y)) U F:=by
 obtain⟨d,b⟩:=h.row;have a:(gD ((sp.st.drop x).take y)).length=y*2:=by rw[KV,zL,zt];omega
 refine⟨a,.inr ⟨q,2*x,_,h.fs.2.1,rfl,b.q,λj e=>?_⟩⟩;rw[a]at e;rw[zQ (by rw[KV];omega),RN,TR,zY,zB O,zn]
theorem EZ (h:cZ U F p sp)(a m:Int){R:Sl->Int->Hp->Prop}(h0:YS sp.st.length a m=false->R ⟨none,0,0⟩ 1 U)
 (h1:∀(x y:Nat) s,a=x->m=y->1<=y->x+y<=sp.st.length->cS s 2 (gD ((sp.st.drop x).take y)) U F->R s 0 U):Y5.c (aW p) a m U R:=by
 refine Y5.o ?_;unfold Y5.v;have i:=h;obtain⟨q,r,l,B,h⟩:=h;have n2:=h.n2;have b:¬(0<=a/\1<=m/\m<=sp.st.length-a)->R ⟨none,0,0⟩ 1 U:=λA=>h0 (by simp only[YS,←uF];exact zJ A);refine Gh i (bZ rfl (bW.intro (cL (λz=>bW.intro (cJ rfl (bW.intro (cJ rfl (cJ rfl (b O)))))) λz=>?_)));refine bW.intro (cL (λw=>bW.intro (cJ rfl (cJ rfl (b O)))) λw=>bO (h.rS λcap d=>?_));simp only;refine bW.intro (cL (λj=>cJ rfl (b O)) λj=>?_);refine bO (h.rS λcap d=>ar aC aC ?_);simp only;refine cL (λg=>b O) λg=>?_;obtain⟨x,rfl⟩:=zf (show 0<=a by omega);obtain⟨y,rfl⟩:=zf (show 0<=m by omega);refine bO (h.rS λcap d=>cC (m:=x+y) O O ?_);refine jI O aC (zC _) ?_;simp only;rw[zA O];refine h1 x y _ rfl rfl O O ?_;have:=h.part (x:=x) (y:=y) (c:=cap-x) O;have e:(Option.map (λ(u:Addr)=>u.add (x*2)) (some (⟨q,0,none⟩:Addr)))=some ⟨q,2*x,none⟩:=by
  simp only[zh,add_lit];congr 2;omega
 rw[e,Bq];exact this
def Sp.kb (s:Sp)(k v:Nat):Sp:={s with st:=s.st.set k v,wd:=λw=>if k*32<=w/\w<(k+1)*32 then 0 else s.wd w}
theorem FR {st:List Nat}(h:∀x∈st,x<=2){k v:Nat}(hv:v<=2):∀x∈st.set k v,x<=2:=by
 intro x hx;rcases wH hx with h1|h1
 ·exact h x h1
 ·omega
theorem fN.kb (h:fN U F p q r l B sp){k v:Nat}(hk:k<sp.st.length)(hv:v<=1){σ':Hp}(e:Ext (λb=>b=q\/b=r) U σ'){rest:List Value}
 (hb:bY σ' q (gD (sp.st.set k v)++rest)) (hm:dD σ' r .i64 .s (dK l (k:Int))):fN σ' F p q r (dK l (k:Int)) B (sp.kb k v):=by
 have a:∀j:Nat,(sp.st.set k v)[j]?=some 2↔j≠k/\sp.st[j]?=some 2:=λj=>by
  rw[oh];by_cases hjk:k=j
  ·subst hjk;rw[zB rfl,zB hk];constructor
   ·intro h;have:v=2:=by simpa using h
    omega
   ·intro h;exact absurd rfl h.1
  ·rw[zA hjk];exact⟨λh=>⟨λe=>hjk e.symm,h⟩,λh=>h.2⟩
 obtain⟨c,G,hd⟩:=h.hd;have C:¬(p=q\/p=r):=by have:=h.fs;omega
 refine⟨⟨c,by simpa[Sp.kb]using G,by simpa[Sp.kb]using e.bX hd C⟩,⟨rest,hb⟩,hm,λx=>?_,λj s g=>?_,λj u A m=>?_,λj d=>?_,h.fs,λw y=>?_,by simpa[Sp.kb]using h.n1,by simpa[Sp.kb]using h.n2,FR h.qz O,h.pk⟩
 ·rw[FA];by_cases hx:x=(k:Int)
  ·rw[zB hx];constructor
   ·intro h;cases h
   ·rintro⟨j,rfl,d⟩;have:=(a j).1 d;omega
  ·rw[zA hx,h.keys];constructor
   ·rintro⟨j,rfl,d⟩;exact⟨j,rfl,(a j).2 ⟨O,d⟩⟩
   ·rintro⟨j,rfl,d⟩;exact⟨j,rfl,((a j).1 d).2⟩
 ·rw[FA]at g;by_cases hx:(j:Int)=(k:Int)
  ·rw[zB hx]at g;cases g
  ·rw[zA hx]at g;obtain⟨w1,w2,w3,D,w4,w5,E⟩:=h.wd j s g;have H:=h.out j (h.mb g);refine⟨w1,w2,w3,D,e.bX w4 O,w5,λi z=>?_⟩;rw[E i z];simp only[Sp.kb];rw[zA O]
 ·exact h.inj j u ((a j).1 A).2 ((a u).1 m).2
 ·exact h.out j ((a j).1 d).2
 ·simp only[Sp.kb]at y ⊢;by_cases hin:k*32<=w/\w<(k+1)*32
  ·rw[zB hin]
  ·rw[zA hin];refine h.zero w λm=>y ((a _).2 ⟨O,m⟩)
theorem Sp.pv (s:Sp)(a v:Nat):s.set a 0 v=s:=by
 have b:fY s.st a (a+0) v=s.st:=by
  apply zp;intro i;rw[H6];cases s.st[i]? with
  | none=>rfl
  | some x=>simp only[zh];rw[zA O]
 have d:(λw=>if a*32<=w/\w<(a+0)*32 then 0 else s.wd w)=s.wd:=by
  funext w;rw[zA O]
 simp only[Sp.set,b,d]
theorem Sp.pS (s:Sp)(a m v:Nat)(h:a+m<s.st.length):(s.set a m v).kb (a+m) v=s.set a (m+1) v:=by
 have b:(fY s.st a (a+m) v).set (a+m) v=fY s.st a (a+(m+1)) v:=by
  apply zp;intro i;rw[oh,H6,H6,QH];by_cases hi:a+m=i
  ·subst hi;rw[zB rfl,zB h,cQ h,zh,zB O]
  ·rw[zA hi];cases s.st[i]? with
   | none=>rfl
   | some x=>
    simp only[zh];by_cases hin:a<=i/\i<a+m
    ·rw[zB hin,zB O]
    ·rw[zA hin,zA O]
 have d:(λw=>if(a+m)*32<=w/\w<(a+m+1)*32 then 0 else(if a*32<=w/\w<(a+m)*32 then 0 else s.wd w))=λw=>if a*32<=w/\w<(a+(m+1))*32 then 0 else s.wd w:=by
  funext w
  by_cases b:(a+m)*32<=w/\w<(a+m+1)*32
  ·rw[zB b,zB O]
  ·rw[zA b];by_cases d:a*32<=w/\w<(a+m)*32
   ·rw[zB d,zB O]
   ·rw[zA d,zA O]
 simp only[Sp.set,Sp.kb,b,d]
theorem Fy (h:cZ U F p sp){x y v:Nat}(hl:x+y<=sp.st.length)(hv:v<=1){R:aP}(hR:∀σ',Ext F U σ'->cZ σ' F p (sp.set x y v)->R σ') :
 YY.c (aW p) x y (fV v).1 (fV v).2 U R:=by
 refine YY.o ?_;unfold YY.v;have Q:sp.st.length<=1024:=by obtain⟨q,r,l,B,h⟩:=h;exact h.n2
 have s:cZ U (Cut F U) p sp:=dH.cut cZ.loc h;refine nw (cs:=[.bool (fV v).1,.bool (fV v).2]) λu hz e g=>?_;have W:=s.aF e;refine Zw (a:=bN) (λ(t:Int) w=>∃i:Nat,t=((x+i:Nat):Int)/\i<=y/\Ext (Cut F U) u w/\bY w U.size [.bool (fV v).1,.bool (fV v).2]/\cZ w (Cut F U) p (sp.set x i v)) (λt _=>x+y-t.toNat)
  ⟨0,rfl,O,Ext.refl _ _,g,by rw[Sp.pv];exact W⟩ ?_
 rintro t w ⟨i,rfl,hi,M,j,q,r,l,B,d⟩;refine cC (m:=x+y) O O (cL (λV=>?_) λY=>?_)
 ·have G:(sp.set x i v).st.length=sp.st.length:=QH _ _ _ _;refine bO (d.rS λcap N=>j.rB rfl (j.rB rfl (ix O aC ?_)));rw[add_lit,show 0+((x+i:Nat):Int).toNat*2=2*(x+i) by omega];obtain⟨J,z⟩:=d.row;have E:x+i<(sp.set x i v).st.length:=by omega
  refine z.s1 (by rw[zR,KV];omega) λw1 o1 Z=>Z.s1 (by rw[nZ,zR,KV];omega) λw2 o2 P=>?_;rw[zw,JY E]at P;have e2:Ext (· = q) w w2:=o1.ext.trans o2.ext;obtain⟨c,X,hd⟩:=d.hd;have A:=e2.bX hd d.fs.2.2.2.1;refine bO (A.rM rfl ⟨l,e2.fC d.map (λe=>d.fs.2.2.2.2.2 e.symm),λw3 D _ C=>?_⟩);have o3:=D r rfl;have K:Ext (λb=>b=q\/b=r) w w3:=(e2.sub λb g=>.inl g).trans (o3.ext.sub λb g=>.inr g);have L:=d.kb E hv K (Wm o3 P d.fs.2.2.2.2.2) C;rw[Sp.pS _ _ _ _ O]at L;have H:Ext (Cut F U) w w3:=K.sub λb g=>by
   rcases g with rfl|rfl
   ·exact d.fs.2.1
   ·exact d.fs.2.2.1
  refine cC (m:=x+(i+1)) O O ⟨⟨i+1,rfl,O,M.trans H,H.bX j λS=>by have:=S.2;omega,_,_,_,_,L⟩,O⟩
 ·have:i=y:=by omega
  subst this;refine hR w (Ext.cut (e.to.trans M)) (dH.mono cZ.loc ⟨q,r,l,B,d⟩ λb _ g=>g.1)
theorem WoG (h:cZ U F p sp)(g:Gl U)(hF:jk F)(a m:Int){R:aN}(hR:∀σ',Ext F U σ'->cZ σ' F p (gL sp a m)->R (fH sp a m) σ') :
 Zm.c (aW p) a m U R:=by
 refine Zm.o ?_;unfold Zm.v;have i:(∀x∈sp.st,x<=2)/\sp.st.length<=1024:=by obtain⟨q,r,l,B,h⟩:=h;exact⟨h.qz,h.n2⟩
 refine EZ h a m (λe=>?_) λx y s E G K w A=>?_
 ·have e1:fH sp a m=1:=by unfold fH;rw[e];rfl
  have e2:gL sp a m=sp:=by unfold gL;rw[e1];rfl
  have:=hR U (Ext.refl _ _);rw[e1,e2]at this;exact cJ rfl (this h)
 ·subst E;subst G;have e:YS sp.st.length (x:Int) (y:Int)=true:=by simp only[YS,zF,zU];omega
  refine bZ rfl (LU A g (by rw[zL,zt];omega) (λz u=>i.1 z (qW (qp u))) λJ e1=>?_);have d:fH sp x y=if((sp.st.drop x).take y).any (· != 0)then 5 else 0:=by unfold fH;rw[e];rfl
  refine cU (λb=>?_) λb=>?_
  ·rw[b]at d;have e2:gL sp x y=sp:=by unfold gL;rw[d];rfl
   have:=hR J (aG.to e1);rw[d,e2]at this;exact this (h.aF e1)
  ·rw[b]at d;have e2:gL sp x y=sp.set x y 1:=by unfold gL;rw[d];rfl
   have j:=g.aF e1;refine lB (by rw[←j.c0];rfl) (lB (by rw[←j.c1];rfl) ?_);refine Fy (v:=1) (h.aF e1) w O λH C D=>?_;have:=hR H (Ext.trans (aG.to e1) C);rw[d,e2]at this;exact this D
theorem Jf (h:cZ U F p sp)(g:Gl U)(hF:jk F)(a m:Int){v:Nat}(hv:v<=1){R:aN}(hR:∀σ',Ext F U σ'->cZ σ' F p (dX sp a m v)->R (fF sp a m) σ') :
 XR.c (aW p) a m (fV v).1 (fV v).2 U R:=by
 refine XR.o ?_;unfold XR.v;have H:(∀x∈sp.st,x<=2)/\sp.st.length<=1024:=by obtain⟨q,r,l,B,h⟩:=h;exact⟨h.qz,h.n2⟩
 have A:cZ U (Cut F U) p sp:=dH.cut cZ.loc h;refine nw (cs:=[.bool (fV v).1,.bool (fV v).2]) λu J e G=>?_;have D:=A.aF e;have d:∀w s',cZ w (Cut F U) p s'->cZ w F p s':=λw s' h=>dH.mono cZ.loc h λb _ G=>G.1;refine EZ D a m (λE=>?_) λx y s Q S X L M=>?_
 ·have e1:fF sp a m=1:=by unfold fF;rw[E];rfl
  have e2:dX sp a m v=sp:=by unfold dX;rw[e1];rfl
  have:=hR u (aG.to e);rw[e1,e2]at this;exact cJ rfl (this (d _ _ D))
 ·subst Q;subst S;have E:YS sp.st.length (x:Int) (y:Int)=true:=by simp only[YS,zF,zU];omega
  have K:=g.aF e;refine bZ rfl (lB (by rw[←K.u0];rfl) (lB (by rw[←K.u1];rfl) ?_));refine JF (v:=0) M (by rw[zL,zt];omega) (λz J=>H.1 z (qW (qp J))) O λW e1=>?_;have j:fF sp x y=if((sp.st.drop x).take y).contains 0 then 7 else 0:=by unfold fF;rw[E];rfl
  refine cU (λi=>?_) λi=>?_
  ·rw[i]at j;have e2:dX sp x y v=sp:=by unfold dX;rw[j];rfl
   have:=hR W (aG.to (Ext.trans e e1));rw[j,e2]at this;exact this (d _ _ (D.aF e1))
  ·rw[i]at j;have e2:dX sp x y v=sp.set x y v:=by unfold dX;rw[j];rfl
   have C:=Ext.bX e1 G id;refine C.rB rfl (C.rB rfl ?_);refine Fy (D.aF e1) L hv λV N P=>?_;have:=hR V (Ext.cut (Ext.trans (aG.to (Ext.trans e e1)) N));rw[j,e2]at this;exact this (d _ _ P)
theorem Lu (h:cZ U F p sp)(g:Gl U)(hF:jk F)(a m:Int){R:aN}(hR:∀σ',Ext F U σ'->cZ σ' F p (dX sp a m 0)->R (fF sp a m) σ') :
 YF.c (aW p) a m U R:=by
 refine YF.o ?_;unfold YF.v;exact lB (n:=(fV 0).1) g.u0 (lB (n:=(fV 0).2) g.u1 (Jf (v:=0) h g hF a m O hR))
theorem LN (h:cZ U F p sp)(g:Gl U)(hF:jk F)(a m:Int){R:aN}(hR:∀σ',Ext F U σ'->cZ σ' F p (dX sp a m 1)->R (fF sp a m) σ') :
 XF.c (aW p) a m U R:=by
 refine XF.o ?_;unfold XF.v;exact lB (n:=(fV 1).1) g.c0 (lB (n:=(fV 1).2) g.c1 (Jf (v:=1) h g hF a m O hR))
theorem D9 (h:cZ U F p sp)(g:Gl U)(x:Int)(hx:x<=9223372036854775807){R:aN}(hR:∀σ',aG U σ'->R (fG sp x) σ') :
 Xy.c (aW p) x 1 U R:=by
 refine Xy.o ?_;unfold Xy.v;have G:=h;obtain⟨q,r,l,B,h⟩:=h;have n2:=h.n2;have d:(x<0\/x%8≠0)->R 7 U:=λj=>by
  have:=hR U (Ext.refl _ _);unfold fG at this;rw[zB j]at this;exact this
 refine Gh G (bZ rfl (bZ rfl (bW.intro (cL (λC=>cJ rfl (d (.inl C))) λC=>nz aB ?_))));obtain⟨y,rfl⟩:=zf (show 0<=x by omega);refine cU (λi=>?_) λi=>?_
 ·refine d (.inr ?_);rw[QY O]at i;simpa using i
 have J:y%8=0:=by
  rw[QY O]at i;have:((y:Int)%8)=0:=by simpa using i
  omega
 have ok:¬((y:Int)<0\/(y:Int)%8≠0):=by omega
 refine nz aB (cC (m:=y/256) (by rw[Xq O];simp) O (nz aB (cC (m:=y/8) (by rw[Xq O];simp) O ?_)));refine cC (m:=y/8+1) O O (cC (m:=y/8) O O (nz aB (cC (m:=y/256) (by rw[Xq O];simp;omega) O ?_)));have fin:∀(b:Bool) σ',aG U σ'->(b=true↔sp.st.getD (y/256) 0=0)->If b (R 7 σ') (R 0 σ'):=λb σ' e j=>by
  have:=hR σ' e;unfold fG at this;rw[zA ok]at this;refine cU (λh=>?_) λh=>?_
  ·rw[zB (by simpa using j.1 h)]at this;exact this
  ·rw[zA (λE=>by rw[j.2 (by simpa using E)]at h;cases h)]at this;exact this
 obtain⟨c,H,hd⟩:=h.hd;refine Jn.intro ⟨λm=>bY m p [.slice (some ⟨q,0,none⟩) sp.st.length c,.map (some r),.int .i64 (sp.pk:Int)]/\Gl m,⟨hd,g⟩,?_⟩;refine bO ⟨⟨some ⟨q,0,none⟩,sp.st.length,c⟩,λm a=>by rw[add_lit,a.1.cell];rfl,?_⟩;refine cL (λs=>?_) λs=>?_
 ·simp only at s;refine fin _ U (Ext.refl _ _) ⟨λ_=>?_,λ_=>rfl⟩;rw[zM,zO O];rfl
 simp only at s;refine bO ⟨⟨some ⟨q,0,none⟩,sp.st.length,c⟩,λm a=>by rw[add_lit,a.1.cell];rfl,?_⟩;refine cC (m:=y/256+1) O O (jI O aC (zC _) ?_);simp only;rw[zA O];refine⟨false,λm a=>a.2.u0,⟨false,λm a=>a.2.u1,?_⟩⟩;have e:(Option.map (λ(u:Addr)=>u.add (y/256*2)) (some (⟨q,0,none⟩:Addr)))=some ⟨q,2*(y/256),none⟩:=by
  simp only[zh,add_lit];congr 2;omega
 rw[e,Bq];have hp:=h.part (x:=y/256) (y:=1) (c:=c-y/256) O;refine JF (v:=0) hp (by rw[zL,zt];omega) (λz D=>h.qz z (qW (qp D))) O λσ' w=>?_;refine⟨⟨w.bX hd id,g.aF w⟩,fin _ σ' w ?_⟩;have A:y/256<sp.st.length:=by omega
 rw[zM,cQ A,qG A,rZ,wC];simp[eq_comm]
theorem LA (h:cZ U F p sp){w:Nat}(hw:w<=2305843009213693952){R:aN}(hR:R (sp.wd w) U):Zu.c (aW p) (w:Int) U R:=by
 refine Zu.o ?_;unfold Zu.v;obtain⟨q,r,l,B,h⟩:=h;refine bO (h.rM (nz aB (cC (m:=w/32) (by rw[Xq O];simp) O ⟨l,h.map,?_⟩)));cases hg:cB l ((w/32:Nat):Int)with
 | none=>
  refine bZ rfl ?_;have:sp.st[w/32]?≠some 2:=λd=>by
   have:=(h.keys _).2 ⟨_,rfl,d⟩;rw[hg]at this;cases this
  rw[h.zero w this]at hR;exact hR
 | some s=>
  obtain⟨w1,w2,w3,e,w4,w5,a⟩:=h.wd _ s hg;refine cJ rfl (nz aB ?_);simp only[oZ];have b:((w:Int).tmod 32)=((w%32:Nat):Int):=by rw[QY O];simp
  rw[w1,b];refine ix O O ?_;rw[add_lit];refine w4.sM ?_ hR;rw[show 0+((w%32:Nat):Int).toNat*1=w%32 by omega,a _ O];simp only;rw[show 32*(w/32)+w%32=w by omega]
theorem LO (h:cZ U F p sp)(g:Gl U)(x:Int)(hx:x<=9223372036854775807){R:Int->Int->Hp->Prop}(hR:∀σ',aG U σ'->R (if fG sp x=0 then sp.wd (x.toNat/8)else 0) (fG sp x) σ') :
 Y8.c (aW p) x U R:=by
 refine Y8.o ?_;unfold Y8.v;refine D9 h g x hx λσ' e=>?_;have:=hR σ' e;refine cU (λd=>?_) λd=>?_
 ·have i:¬fG sp x=0:=by simpa using d
  rw[zA i]at this;exact this
 ·have a:fG sp x=0:=by simpa using d
  rw[zB a,a]at this;have b:0<=x:=by
   rcases(by omega:x<0\/0<=x)with hlt|hge
   ·unfold fG at a;rw[zB (.inl hlt)]at a;cases a
   ·exact hge
  obtain⟨y,rfl⟩:=zf b;exact nz aB (cC (m:=y/8) (by rw[Xq O];simp) O (LA (h.aF e) O this))
theorem fN.Dq (h:fN U F p q r l B sp){k:Nat}(hk:k<sp.st.length)(hn:sp.st[k]?≠some 2){σ':Hp}{b:Nat}{s:Sl}{T:Rg}(e:Ext T U σ')(hT:∀i,i<U.size->T i->i=q\/i=r)(hz:U.size<=b){rest:List Value}
 (hb:bY σ' q (gD (sp.st.set k 2)++rest)) (hm:dD σ' r .i64 .s (dO l (k:Int) s)) (ha:s.a=some ⟨b,0,none⟩) (hl:s.len=32) (hc:s.cap=32) (hw:bY σ' b (List.replicate 32 (.int .i64 0))) :
 fN σ' (Grow F U) p q r (dO l (k:Int) s) (λj=>if j=k then b else B j) {sp with st:=sp.st.set k 2}:=by
 have u:∀j:Nat,(sp.st.set k 2)[j]?=some 2↔j=k\/sp.st[j]?=some 2:=λj=>by
  rw[oh];by_cases hjk:k=j
  ·subst hjk;rw[zB rfl,zB hk];simp
  ·rw[zA hjk];exact⟨λh=>.inr h,λh=>h.resolve_left λe=>hjk e.symm⟩
 obtain⟨c,G,hd⟩:=h.hd;obtain⟨_,A⟩:=h.row;have hp:=hd.lt;have N:=A.lt;have P:=h.map.lt;have M:=e.1;have g:=h.fs;have C:∀{j:Nat},sp.st[j]?=some 2->B j<U.size:=λ{j} d=>by
  obtain⟨t,_,_,_,_,cs,w4,_⟩:=h.entry d;exact w4.lt
 have cX:∀{i:Nat} {cs:List Value},bY U i cs->i≠q->i≠r->bY σ' i cs:=λ{i cs} D E y=>e.bX D λK=>by
  rcases hT i D.lt K with h|h
  ·exact E h
  ·exact y h
 refine⟨⟨c,by simpa using G,by simpa using cX hd g.2.2.2.1 g.2.2.2.2.1⟩,⟨rest,hb⟩,hm,λx=>?_,λj t d=>?_,λj z E y m=>?_,λj d=>?_,⟨.inl g.1,.inl g.2.1,.inl g.2.2.1,g.2.2.2⟩,λw H=>?_,by simpa using h.n1,by simpa using h.n2,FR h.qz O,h.pk⟩
 ·rw[Ul];by_cases hx:x=(k:Int)
  ·rw[zB hx];subst hx;simp only[Dk,true_iff];exact⟨k,rfl,(u k).2 (.inl rfl)⟩
  ·rw[zA hx,h.keys];constructor
   ·rintro⟨j,rfl,d⟩;exact⟨j,rfl,(u j).2 (.inr d)⟩
   ·rintro⟨j,rfl,d⟩;exact⟨j,rfl,((u j).1 d).resolve_left O⟩
 ·rw[Ul]at d;by_cases hx:(j:Int)=(k:Int)
  ·have:j=k:=by omega
   subst this;rw[zB rfl]at d;cases d;rw[zB rfl];refine⟨ha,hl,O,_,hw,by simp,λi D=>?_⟩;rw[mD,zB D];simp only;rw[h.zero _ (by rw[show(32*j+i)/32=j by omega];exact hn)]
  ·rw[zA hx]at d;obtain⟨w1,w2,w3,cs,w4,w5,L⟩:=h.wd j t d;have J:=h.out j (h.mb d);rw[zA O];exact⟨w1,w2,w3,cs,cX w4 J.2.2.1 J.2.2.2,w5,L⟩
 ·by_cases e1:j=k
  ·by_cases e2:z=k
   ·omega
   ·rw[zB e1,zA e2]at m;have:=C (((u z).1 y).resolve_left e2);omega
  ·rw[zA e1]at m;by_cases e2:z=k
   ·rw[zB e2]at m;have:=C (((u j).1 E).resolve_left e1);omega
   ·rw[zA e2]at m;exact h.inj j z (((u j).1 E).resolve_left e1) (((u z).1 y).resolve_left e2) m
 ·by_cases e1:j=k
  ·rw[zB e1];exact⟨.inr hz,O,O,O⟩
  ·rw[zA e1];have:=h.out j (((u j).1 d).resolve_left e1);exact⟨.inl this.1,this.2⟩
 ·refine h.zero w λy=>H ((u _).2 (.inr y))
theorem fN.DH (h:fN U F p q r l B sp){σ':Hp}{n c:Nat}(hn:n<=1024)(ho:QT U σ' p)(hc:sp.st.length<=c)(hb:bY σ' p [.slice (some ⟨q,0,none⟩) sp.st.length c,.map (some r),.int .i64 (n:Int)]):fN σ' F p q r l B {sp with pk:=n}:=by
 have d:=h.fs;obtain⟨b,a⟩:=h.row;refine⟨⟨c,hc,hb⟩,⟨b,Wm ho a O⟩,VI ho h.map O,h.keys,λj t e=>?_,h.inj,h.out,d,h.zero,h.n1,h.n2,h.qz,hn⟩;obtain⟨w1,w2,w3,g,w4,w5,i⟩:=h.wd j t e;exact⟨w1,w2,w3,g,Wm ho w4 (h.out j (h.mb e)).2.1,w5,i⟩
theorem fN.word (h:fN U F p q r l B sp){w:Nat}{v:Int}(hk:sp.st[w/32]?=some 2){σ':Hp}{cs:List Value}(h32:32<=cs.length)(ho:QT U σ' (B (w/32)))(hcs:∀j,j<32->cs[j]?=some (.int .i64 (sp.wd (32*(w/32)+j))))
 (hb:bY σ' (B (w/32)) (cs.set (w%32) (.int .i64 v))):fN σ' F p q r l B {sp with wd:=λu=>if u=w then v else sp.wd u}:=by
 have y:=h.out _ hk;obtain⟨c,A,hd⟩:=h.hd;obtain⟨b,a⟩:=h.row;refine⟨⟨c,A,Wm ho hd O⟩,⟨b,Wm ho a O⟩,VI ho h.map O,h.keys,λj t x=>?_,h.inj,h.out,h.fs,λu s=>?_,h.n1,h.n2,h.qz,h.pk⟩
 ·obtain⟨w1,w2,w3,m,w4,w5,z⟩:=h.wd j t x;by_cases hjk:j=w/32
  ·subst hjk;refine⟨w1,w2,w3,_,hb,by simpa using h32,λi d=>?_⟩;rw[oh];by_cases hiw:w%32=i
   ·rw[zB hiw,zB O];simp only;rw[zB O]
   ·rw[zA hiw];simp only;rw[zA O];exact hcs i d
  ·have g:B j≠B (w/32):=λe=>hjk (h.inj _ _ (h.mb x) hk e);refine⟨w1,w2,w3,m,Wm ho w4 g,w5,λi d=>?_⟩;rw[z i d];simp only;rw[zA O]
 ·have:u≠w:=λe=>by subst e;exact s hk
  simp only;rw[zA this];exact h.zero u s
theorem NN (h:cZ U F p sp)(g:Gc U){w:Nat}(hw:w/32<sp.st.length)(v:Int){R:aP}(hR:∀σ',Ext F U σ'->cZ σ' (Grow F U) p (om sp w v)->R σ') :
 Zr.c (aW p) (w:Int) v U R:=by
 refine Zr.o ?_;unfold Zr.v;obtain⟨q,r,l,B,h⟩:=h;have Q:=h.n2;have x:sp.st[w/32]?=some sp.st[w/32]:=cQ hw;have tm:((w:Int).tmod 32)=((w%32:Nat):Int):=by rw[QY O];simp
 have word:∀(u:Hp) (s':Sp) (l':List (Int×Sl)) (B':Nat->Nat),Ext F U u->fN u (Grow F U) p q r l' B' s'->s'.st[w/32]?=some 2->({s' with wd:=λz=>if z=w then v else s'.wd z}:Sp)=om sp w v →
  bU (some ⟨p,0,none⟩) λaa=>lU (aa.add 1) u λX=>Lk .i64 .s X ((w/32:Nat):Int) u λK=>Nz 32<|Ix (K.getD ⟨none,0,0⟩).a (K.getD ⟨none,0,0⟩).len ((w:Int).tmod 32) 1 λac=>eP ac (.int .i64 v) u λv1=>R v1:=by
  intro u s' l' B' eu hu A he;refine bO (hu.rM ⟨l',hu.map,nz aB ?_⟩);obtain⟨s,hs,w1,w2,w3,cs,w4,w5,w6⟩:=hu.entry A;rw[hs,tm];simp only[oZ];rw[w1];refine ix O O ?_;rw[add_lit,show 0+((w%32:Nat):Int).toNat*1=w%32 by omega];refine w4.s0 O λu2 o2 P=>?_;have h2:=hu.word (v:=v) A w5 o2 w6 P;rw[he]at h2;exact hR u2 (eu.eY o2.ext λb d=>by subst d;exact(hu.out _ A).1) ⟨_,_,_,_,h2⟩
 refine nz aB (cC (m:=w/32) (by rw[Xq O];simp) O (Jn.intro (bO (h.rS λcap D=>ix O aC ?_))));rw[add_lit,show 0+((w/32:Nat):Int).toNat*2=2*(w/32) by omega];refine h.yS x (lB (n:=true) g.d0 (lB (n:=true) g.d1 ?_));have e0:(((fV sp.st[w/32]).1==true)&&(((fV sp.st[w/32]).2==true)&&true))=(sp.st[w/32]==2):=AG (h.qz _ (zb hw)) (y:=2) O;rw[e0];refine cU (λhd=>?_) λhd=>?_
 ·have G:sp.st[w/32]≠2:=by simpa using hd
  refine bO (h.rS λcap D=>lB (n:=true) g.d0 (lB (n:=true) g.d1 (ix O aC ?_)));rw[add_lit,show 0+((w/32:Nat):Int).toNat*2=2*(w/32) by omega];obtain⟨H,J⟩:=h.row;refine J.s1 (by rw[zR,KV];omega) λu1 o1 b1=>b1.s1 (by rw[nZ,zR,KV];omega) λu2 o2 P=>?_;rw[zw]at P;have W:bY u2 q (gD (sp.st.set (w/32) 2)++H):=by rw[←JY hw];exact P
  have e2:Ext (· = q) U u2:=o1.ext.trans o2.ext;obtain⟨c,hc,C⟩:=h.hd;have E:=e2.bX C h.fs.2.2.2.1;refine⟨λm=>bY m p [.slice (some ⟨q,0,none⟩) sp.st.length c,.map (some r),.int .i64 (sp.pk:Int)],E,bO ⟨some r,λm hm=>by rw[add_lit,hm.cell];rfl,?_⟩⟩;refine mk (n:=32) O O λu3 hz3 N b3=>⟨Ext.bX N E id,?_⟩;have Z:bY u3 u2.size (List.replicate 32 (.int .i64 0)):=b3;have q3:=Ext.bX N W id;have Y:=e2.fC h.map (λe=>h.fs.2.2.2.2.2 e.symm);refine⟨r,l,rfl,Ext.fC N Y id,λu4 o4 ab=>?_⟩;have sz2:u2.size=U.size:=by rw[o2.1,o1.1]
  have hrlt:=h.map.lt;have hplt:=C.lt;have e4:Ext (λb=>b=q\/b=r) U u4:=((e2.sub λb d=>.inl d).trans (aG.to N)).trans (o4.ext.sub λb d=>.inr d);have M:=h.Dq hw (by rw[x];simpa using G) (s:=⟨some ⟨u2.size,0,none⟩,32,32⟩) (b:=u2.size) e4 (λi _ L=>L) O (Wm o4 q3 h.fs.2.2.2.2.2) ab rfl rfl rfl (Wm o4 Z O);obtain⟨c4,S,j⟩:=M.hd;refine bO (j.rI rfl (bO (j.rM rfl ⟨_,M.map,bO ?_⟩)));rw[M.vQ];have hcl:(sp.st.set (w/32) 2).count 2<=1024:=zP yh (by simpa using Q);have hpk:=h.pk;have hv:(if((List.count 2 (sp.st.set (w/32) 2):Nat):Int)>(sp.pk:Int)then((List.count 2 (sp.st.set (w/32) 2):Nat):Int)else(sp.pk:Int))=((max sp.pk ((sp.st.set (w/32) 2).count 2):Nat):Int):=by
   by_cases hgt:((List.count 2 (sp.st.set (w/32) 2):Nat):Int)>(sp.pk:Int)
   ·rw[zB hgt];omega
   ·rw[zA hgt];omega
  simp only;rw[hv];refine j.s1 aA λu5 o5 b5=>?_;have h5:=M.DH O o5 S b5;have e5:Ext F U u5:=(e4.sub λb d=>by
   rcases d with rfl|rfl
   ·exact h.fs.2.1
   ·exact h.fs.2.2.1).trans (o5.ext.sub λb d=>by subst d;exact h.fs.1)
  refine word u5 _ _ _ e5 h5 (by simp only;rw[oh,zB rfl,zB hw]) ?_;unfold om;rw[zA (by rw[zM,x];exact G)]
 ·have ad:sp.st[w/32]=2:=by simpa using hd
  rw[ad]at x;have V:fN U (Grow F U) p q r l B sp:={h with out:=λk A=>⟨.inl (h.out k A).1,(h.out k A).2⟩,fs:=⟨.inl h.fs.1,.inl h.fs.2.1,.inl h.fs.2.2.1,h.fs.2.2.2⟩};refine word U sp l B (Ext.refl _ _) V x ?_;unfold om;rw[zB (by rw[zM,x];rfl)];have:sp.st.set (w/32) 2=sp.st:=by
   apply zp;intro i;rw[oh];by_cases L:w/32=i
   ·subst L;rw[zB rfl,zB hw,x]
   ·rw[zA L]
  rw[this]
theorem P0 (h:cZ U F p sp)(g:Gl U)(gd:Gc U)(x:Int)(hx:x<=9223372036854775807)(v:Int){R:aN}(hR:∀σ',Ext F U σ'->cZ σ' (Grow F U) p (KZ sp x v)->R (fG sp x) σ') :
 YH.c (aW p) x v U R:=by
 refine YH.o ?_;unfold YH.v;have j:cZ U (Cut F U) p sp:=dH.cut cZ.loc h;refine D9 h g x hx λB e=>?_;have w:=j.aF e;have C:=g.aF e;refine cU (λs=>?_) λs=>?_
 ·have u:¬fG sp x=0:=by simpa using s
  refine hR B (aG.to e) ?_;unfold KZ;rw[zA u];exact dH.mono cZ.loc w λb _ a=>.inl a.1
 ·have d:fG sp x=0:=by simpa using s
  have i:0<=x/\sp.st.getD (x.toNat/256) 0≠0:=by
   unfold fG at d;by_cases a:x<0\/x%8≠0
   ·rw[zB a]at d;cases d
   ·rw[zA a]at d;by_cases hz:sp.st.getD (x.toNat/256) 0=0
    ·rw[zB hz]at d;cases d
    ·exact⟨O,hz⟩
  obtain⟨y,rfl⟩:=zf i.1;have r:y/8/32<sp.st.length:=by
   rcases zq (y/256) sp.st.length with h|h
   ·omega
   ·exact absurd (by rw[zM,zO (by simpa using h)];rfl) i.2
  refine nz aB (cC (m:=y/8) (by rw[Xq O];simp) O (NN w (gd.aF e) r v λA e2 z=>?_));have:=hR A (Ext.cut ((aG.to e).trans e2)) ?_
  ·rw[d]at this;exact this
  ·unfold KZ;rw[zB d];exact dH.mono cZ.loc z λb _ a=>by
    rcases a with a|a
    ·exact .inl a.1
    ·exact .inr (zP e.1 a)
def VT (n:Nat):Sp:=⟨List.replicate n 0,λ_=>0,0⟩
theorem R3 {U:Hp}{F:Rg}{p q r n c:Nat}(h1:1<=n)(h2:n<=1024)(hc:n<=c)(hd:bY U p [.slice (some ⟨q,0,none⟩) n c,.map (some r),.int .i64 0])(hq:bY U q (gD (List.replicate n 0)))(hr:dD U r .i64 .s [])
 (hF:F p/\F q/\F r) (hne:p≠q/\p≠r/\q≠r):fN U F p q r [] (λ_=>0) (VT n):=by
 have b:∀k:Nat,(List.replicate n 0)[k]?≠some 2:=λk a=>by
  rw[mD]at a;split at a<;>cases a
 refine⟨⟨c,by simpa[VT]using hc,by simpa[VT]using hd⟩,⟨[],by simpa[VT]using hq⟩,hr,λx=>?_,λk s d=>(by cases d),λk g h1=>absurd h1 (b k),λk a=>absurd a (b k),⟨hF.1,hF.2.1,hF.2.2,hne⟩,λw _=>rfl,by simpa[VT]using h1,by simpa[VT]using h2,λx e=>?_,by simp[VT]⟩
 ·constructor
  ·intro h;cases h
  ·rintro⟨k,_,a⟩;exact absurd a (b k)
 ·have:=Bx e;omega
theorem Nd {n:Nat}(h1:1<=n)(h2:n<=1024){R:Option Addr->Int->Hp->Prop}(hR:∀σ' p',aG U σ'->U.size<=p'->cZ σ' (λb=>U.size<=b) p' (VT n)->R (some ⟨p',0,none⟩) 0 σ'):Kt.c (n:Int) U R:=by
 refine Kt.o ?_;unfold Kt.v;refine bW.intro (dR O ?_);rw[zJ O];refine bZ rfl (mk O O λd r e1 p=>Gj λx w e2 g=>nw (cs:=[.slice (some ⟨U.size,0,none⟩) n n,.map (some d.size),.int .i64 0]) λi u a e=>?_);have j:=Ext.bX a (Ext.bX e2 p id) id;have m:=Ext.fC a (g .i64 .s) id;refine hR i _ (Ext.trans (Ext.trans e1 e2) a) O ⟨U.size,d.size,[],_,R3 h1 h2 (zC _) e ?_ m ⟨O,O,O⟩ O⟩;rw[BO];exact j
end Go.Ar
namespace Go.Vc
open Go
def yG (h:Hp)(it r:Nat):Nat:=
 match h[it]?,h[r]? with
 | some (.mapIter _ _ seen _),some (.map es _)=>(es.toList.filter λe=>!seen.contains e.born).length
 | _,_=>0
variable {U:Hp}{k:IntKind}{c:CK}{l todo:List (Int×c.T)}{cur:Option (Int×c.T)}{r it:Nat}
theorem It.num {h:Hp}(hi:It h it k c (some r) l todo cur):yG h it r=todo.length:=by
 obtain⟨s,b,a,d,e,u,i,j,p,g,m⟩:=hi;unfold yG;rw[d,e];have:=congrArg List.length g;simpa using this
theorem It.bV {h h':Hp}(hi:It h it k c (some r) l todo cur)(h1:h'[it]?=h[it]?)(h2:h'[r]?=h[r]?):It h' it k c (some r) l todo cur:=by
 obtain⟨g,d,b,e,i,a⟩:=hi;exact⟨g,d,b,h1.trans e,h2.trans i,a⟩
theorem q9 {A:aP}{body:Int->c.T->Hp->(Hp->Prop)->Prop}(hm:dD U r k c l)(I:List (Int×c.T)->Hp->Prop)
 (h0:∀v,v.size=U.size+1->aG U v->I l v)
 (hend:∀v,I [] v->A v)
 (hstep:∀todo n x v v' (J:aP),I todo v->(n,x)∈todo->QT v v' U.size->U.size<v.size->(∀w,w[U.size]?=v'[U.size]?->w[r]?=v'[r]?->I (todo.filter λy=>!(y.1==n)) w->J w)->body n x v' J) :
 pG k c (some r) U λit v3=>WU [] (λI=>I v3) λJ1 v4=>pN k c it v4 (A v4) λ_ _ v5=>qf k c it v5 λkey1 val1=>body key1 val1 v5 J1:=by
 refine⟨l,hm,λv G H E=>?_⟩;have L:aG U v:=⟨O,λb m _=>H b m⟩;refine Fl (λw=>∃todo a,It w U.size k c (some r) l todo a/\I todo w/\U.size<w.size) (λw=>yG w U.size r) ⟨l,none,E,h0 v G L,O⟩ ?_;rintro w ⟨todo,a,e,C,s⟩;refine⟨rfl,some r,l,todo,a,e,λK=>?_,λn x B D M g=>?_⟩
 ·subst K;exact hend w C
 ·refine⟨rfl,some r,l,_,n,x,g,hstep todo n x w D _ C B M s λu j i p=>?_⟩;have d:=g.bV j i;refine⟨⟨_,_,d,p,?_⟩,?_⟩
  ·obtain⟨P,F,z,N,_⟩:=d;exact(lY.1 N).1
  ·rw[d.num,e.num];exact List.length_filter_lt_length_iff_exists.2 ⟨(n,x),B,by simp⟩
theorem xu {a:CK}{x0:a.T}{A:a.T->Hp->Prop}{body:Int->c.T->a.T->Hp->(a.T->Hp->Prop)->Prop}(hm:dD U r k c l)(I:List (Int×c.T)->a.T->Hp->Prop)
 (h0:∀v,v.size=U.size+1->aG U v->I l x0 v)
 (hend:∀z v,I [] z v->A z v)
 (hstep:∀todo n x z v v' (J:a.T->Hp->Prop),I todo z v->(n,x)∈todo->QT v v' U.size->U.size<v.size->(∀z' w,w[U.size]?=v'[U.size]?->w[r]?=v'[r]?->I (todo.filter λy=>!(y.1==n)) z' w->J z' w)->body n x z v' J) :
 pG k c (some r) U λit v3=>WU [a] (λI=>I x0 v3) λJ1 z v4=>pN k c it v4 (A z v4) λ_ _ v5=>qf k c it v5 λkey1 val1=>body key1 val1 z v5 J1:=by
 refine⟨l,hm,λv K L G=>?_⟩;have N:aG U v:=⟨O,λb p _=>L b p⟩;refine Zw (a:=a) (λz w=>∃todo d,It w U.size k c (some r) l todo d/\I todo z w/\U.size<w.size) (λ_ w=>yG w U.size r) ⟨l,none,G,h0 v K N,O⟩ ?_;rintro z w ⟨todo,d,g,C,B⟩;refine⟨rfl,some r,l,todo,d,g,λM=>?_,λn x E F P i=>?_⟩
 ·subst M;exact hend z w C
 ·refine⟨rfl,some r,l,_,n,x,i,hstep todo n x z w F _ C E P B λz' u m j s=>?_⟩;have e:=i.bV m j;refine⟨⟨_,_,e,s,?_⟩,?_⟩
  ·obtain⟨R,H,D,Q,_⟩:=e;exact(lY.1 Q).1
  ·rw[e.num,g.num];exact List.length_filter_lt_length_iff_exists.2 ⟨(n,x),E,by simp⟩
end Go.Vc
namespace Go.Ar
open Go Go.Vc Go.Proofs
open Go.Bu (YS)
variable {U:Hp}{F:Rg}{p q r:Nat}{sp:Sp}{l:List (Int×Sl)}{B:Nat->Nat}
theorem Ka {α:Type}{l:List (Int×α)}(hn:(l.map (·.1)).Nodup){n:Int}{x:α}(h:(n,x)∈l):cB l n=some x:=by
 induction l with
 | nil=>simp at h
 | cons y l ih=>
  rw[KR];simp only[zX,zo]at hn;rcases zW.1 h with h1|h1
  ·subst h1;rw[zB rfl]
  ·have:¬y.1=n:=λe=>hn.1 (zD.2 ⟨_,h1,e.symm⟩);rw[zA this];exact ih hn.2 h1
theorem LS {l:List Nat}:∀v∈gD l,dJ v=true:=by
 intro v hv;simp only[gD,r6]at hv;obtain⟨x,_,a⟩:=hv;simp at a;rcases a with rfl|rfl<;>rfl
structure T5 (U v:Hp) (a b h:Nat) (hd:List Value) (sp:Sp) (l todo:List (Int×Sl)) (l':List (Int×Sl)) (B':Nat->Nat) (it:Nat):Prop where
 ext:aG U v
 hd:bY v h hd
 row:bY v a (gD sp.st)
 map:dD v b .i64 .s l'
 sub:∀x∈todo,x∈l
 keys:∀x:Int,(cB l' x).isSome=true↔(cB l x).isSome=true/\¬x∈todo.map (·.1)
 wd:∀(k:Nat) s,cB l' (k:Int)=some s->CQ v s (B' k) λj=>sp.wd (32*k+j)
 inj:∀k k':Nat,(cB l' (k:Int)).isSome=true->(cB l' (k':Int)).isSome=true->B' k=B' k'->k=k'
 out:∀k:Nat,(cB l' (k:Int)).isSome=true->U.size<=B' k/\B' k<v.size/\B' k≠a/\B' k≠b/\B' k≠h/\B' k≠it
theorem NA (h:cZ U F p sp){R:Option Addr->Hp->Prop}(hR:∀σ' p',aG U σ'->U.size<=p'->cZ σ' (λb=>U.size<=b) p' sp->R (some ⟨p',0,none⟩) σ'):YE.c (aW p) U R:=by
 refine YE.o ?_;unfold YE.v;have h':=h;obtain⟨q,r,l,B,h⟩:=h;have n2:=h.n2;obtain⟨c,hc,hd⟩:=h.hd;obtain⟨rest,hrow⟩:=h.row;refine Gh h' (bZ rfl (Jn.intro ⟨λm=>bY m p [.slice (some ⟨q,0,none⟩) sp.st.length c,.map (some r),.int .i64 (sp.pk:Int)],hd,?_⟩));refine bO ⟨⟨some ⟨q,0,none⟩,sp.st.length,c⟩,λm L=>by rw[add_lit,L.cell];rfl,bO ⟨(sp.pk:Int),λm L=>by rw[add_lit,L.cell];rfl,?_⟩⟩;have key:∀(u:Hp) (a b n:Nat),aG U u->U.size<=a->U.size<=b->U.size<=n->a≠b->a≠n->b≠n->a<u.size->b<u.size->n<u.size->bY u a (gD (List.replicate sp.st.length 0))->dD u b .i64 .s []->bY u n [.slice (some ⟨a,0,none⟩) sp.st.length sp.st.length,.map (some b),.int .i64 (sp.pk:Int)] →
  bU (some ⟨n,0,none⟩) λa23=>ji (a23.add 0) u λt25=>bU (some ⟨p,0,none⟩) λa27=>ji (a27.add 0) u λt29=>rG t25 2 t29 u λt30 v2=>bU (some ⟨p,0,none⟩) λa32=>lU (a32.add 1) v2 λt34=>
   pG .i64 .s t34 v2 λit v3=>WU [] (λI=>I v3) λJ1 v4=>pN .i64 .s it v4 (R (some ⟨n,0,none⟩) v4) λkey val v5=>qf .i64 .s it v5 λZ X=>dP v5 λS1=>bU (some ⟨n,0,none⟩) λa42=>fR S1 .m (a42.add 1) λ(t44:Option Nat)=>
    Wk.c X v5 λt47 v6=>And (S1 v6)<|jS .i64 .s t44 Z t47 v6 λv7=>J1 v7:=by
  intro u a b n eu ha hb hn hab han hbn ha' hb' hn' ba bb bn;have hdu:=eu.bX hd id;have P:=eu.bX hrow id;refine bO (bn.rS rfl (bO (hdu.rS rfl ⟨gD sp.st,by rw[KV];simp only;omega,?_,LS,?_⟩)))
  ·intro j v hv;rw[add_lit,P.cell,zQ (by rw[zG];exact(cV.1 hv).1),zG];exact hv
  simp only;refine Uc ba (by simp[KV]) λu2 o2 b2=>?_;have e2:aG U u2:=Ext.fresh eu o2.ext λi hi=>by omega
  have b2':bY u2 a (gD sp.st):=by
   have:List.take (0+0) (gD (List.replicate sp.st.length 0))++gD sp.st++List.drop (0+0+(gD sp.st).length) (gD (List.replicate sp.st.length 0))=gD sp.st:=by
    rw[xO (by rw[KV,KV];simp)];simp
   rw[this]at b2;exact b2
  have hd2:=e2.bX hd id;refine bO (hd2.rM rfl ?_);refine q9 (c:=.s) (l:=l) (e2.fC h.map id) (λG v=>u2.size<=v.size/\∃N B',T5 U v a b n [.slice (some ⟨a,0,none⟩) sp.st.length sp.st.length,.map (some b),.int .i64 (sp.pk:Int)] sp l G N B' u2.size) (λv C e=>?_) (λv hv=>?_) λG m x v v' J hI hx V hlt hJ=>?_
  ·refine⟨e.1,[],λ_=>0,e2.trans e,e.bX (Wm o2 bn O) id,e.bX b2' id,e.fC (VI o2 bb O) id,λx hx=>hx,λx=>?_,λk s H=>(by cases H),λk k' K=>(by cases K),λk hk=>(by cases hk)⟩;rw[Jr (l:=l)];constructor
   ·intro h;cases h
   ·intro h;exact absurd h.1 h.2
  ·obtain⟨C,N,B',g⟩:=hv;have ke:∀x:Int,(cB N x).isSome=true↔∃k:Nat,x=k/\sp.st[k]?=some 2:=λx=>by
    rw[g.keys,h.keys];simp
   refine hR v n g.ext hn ⟨a,b,N,B',⟨_,zC _,g.hd⟩,⟨[],by simpa using g.row⟩,g.map,ke,g.wd,λk k' K Q=>g.inj k k' ((ke _).2 ⟨k,rfl,K⟩) ((ke _).2 ⟨k',rfl,Q⟩),λk hk=>?_,⟨hn,ha,hb,han.symm,hbn.symm,hab⟩,h.zero,h.n1,h.n2,h.qz,h.pk⟩;have:=g.out k ((ke _).2 ⟨k,rfl,hk⟩);exact⟨this.1,this.2.2.2.2.1,this.2.2.1,this.2.2.2.1⟩
  ·obtain⟨C,N,B',g⟩:=hI;have szu:U.size<=u2.size:=e2.1;have ev':aG U v':=Ext.fresh g.ext V.ext λi hi=>by omega
   have hul:u2.size=u.size:=o2.1;have S:=Wm V g.hd O;have W:=g.sub _ hx;obtain⟨k,rfl,hk⟩:=(h.keys m).1 (by rw[Ka h.map.nodup W];rfl);have hgx:=Ka h.map.nodup W;obtain⟨w1,w2,w3,cs,w4,w5,w6⟩:=h.wd k x hgx;have w4':=ev'.bX w4 id;have hsl:cS x 1 (cs.take 32) v' λ_=>True:=⟨by rw[zL,w2];omega,.inr ⟨B k,0,cs,trivial,w1,w4'.q,λj w=>by
    rw[zL]at w;rw[zY,zB O,zG]⟩⟩
   refine⟨λm=>bY m n [.slice (some ⟨a,0,none⟩) sp.st.length sp.st.length,.map (some b),.int .i64 (sp.pk:Int)],S,bO ⟨some b,λm L=>by rw[add_lit,L.cell];rfl,?_⟩⟩;refine Kz hsl (λz C=>?_) O λs' v6 hl' D hr6=>⟨D.bX S id,?_⟩
   ·obtain⟨j,w⟩:=zN C;have M:j<32:=by have:=(cV.1 w).1;rw[zL]at this;omega
    rw[zY,zB M,w6 j M]at w;cases w;rfl
   have hmv:=D.fC (VI V g.map O) id;refine⟨b,N,rfl,hmv,λv7 o7 m7=>?_⟩;have aa:(cs.take 32).length=32:=by rw[zL];omega
   have hzv:v'.size=v.size:=V.1;have h6s:=D.1;rcases hr6.2 with⟨h0,_⟩|⟨nb,ds,hq,hsa,hbb,hle,hcl,htt⟩
   ·omega
   have hds:∀j,j<32->ds[j]?=some (.int .i64 (sp.wd (32*k+j))):=λj w=>by
    have:(ds.take (cs.take 32).length)[j]?=(cs.take 32)[j]? := by rw[htt]
    rw[aa,zY,zY,zB w,zB w]at this;rw[this];exact w6 j w
   have hnb:=hbb.lt;have e67:aG U v7:=Ext.fresh (ev'.trans D) o7.ext λi hi=>by omega
   have hmb:=g.map.lt;refine hJ v7 ?_ ?_ ⟨by have:=o7.1;omega,dO N (k:Int) s',λj=>if j=k then nb else B' j,e67,?_,?_,m7,λy Y=>g.sub y (zH.1 Y).1,λy=>?_,λj s H=>?_,λj j' K Q A=>?_,λj w=>?_⟩
   ·rw[o7.2 _ O];exact D.2 _ O id
   ·have hrl:=h.map.lt;rw[o7.2 _ O];exact D.2 _ O id
   ·exact Wm o7 (D.bX S id) O
   ·exact Wm o7 (D.bX (Wm V g.row O) id) O
   ·rw[Ul];by_cases Y:y=(k:Int)
    ·subst Y;rw[zB rfl];simp only[Dk,true_iff];refine⟨by rw[hgx];rfl,λL=>?_⟩;rw[zD]at L;obtain⟨z,C,hz2⟩:=L;rw[zH]at C;simp[hz2]at C
    ·rw[zA Y,g.keys];refine and_congr_right λ_=>not_congr ?_;simp only[zD,zH];constructor
     ·rintro⟨z,C,rfl⟩;exact⟨z,⟨C,by simpa using Y⟩,rfl⟩
     ·rintro⟨z,⟨C,_⟩,rfl⟩;exact⟨z,C,rfl⟩
   ·rw[Ul]at H;by_cases hjk:(j:Int)=(k:Int)
    ·have:j=k:=by omega
     subst this;rw[zB rfl]at H;cases H;rw[zB rfl];exact⟨hsa,O,O,ds,Wm o7 hbb O,O,hds⟩
    ·rw[zA hjk]at H;obtain⟨x1,x2,x3,es,x4,x5,x6⟩:=g.wd j s H;have hout:=g.out j (by rw[H];rfl);rw[zA O];exact⟨x1,x2,x3,es,Wm o7 (D.bX (Wm V x4 O) id) O,x5,x6⟩
   ·rw[Ul]at K Q;by_cases e1:j=k
    ·by_cases e2:j'=k
     ·omega
     ·rw[zB e1,zA e2]at A;rw[zA O]at Q;have:=g.out j' Q;omega
    ·rw[zA e1]at A;rw[zA O]at K;by_cases e2:j'=k
     ·rw[zB e2]at A;have:=g.out j K;omega
     ·rw[zA e2]at A;rw[zA O]at Q;exact g.inj j j' K Q A
   ·rw[Ul]at w;have h7s:=o7.1;by_cases e1:j=k
    ·rw[zB e1];omega
    ·rw[zA e1];rw[zA O]at w;have:=g.out j w;omega
 have d:∀{u v:Hp} {cs:List Value},aG u v->bY u p cs->bY v p cs:=λe hb=>Ext.bX e hb id;refine⟨mk aC aC λu1 z1 e1 b1=>⟨d e1 hd,Gj λu2 z2 e2 m2=>⟨d e2 (d e1 hd),nw (cs:=[.slice (some ⟨U.size,0,none⟩) sp.st.length sp.st.length,.map (some u1.size),.int .i64 (sp.pk:Int)]) λu3 z3 E b3=>⟨d E (d e2 (d e1 hd)),?_⟩⟩⟩,Gj λu1 z1 e1 m1=>⟨d e1 hd,mk aC aC λu2 z2 e2 b2=>⟨d e2 (d e1 hd),nw (cs:=[.slice (some ⟨u1.size,0,none⟩) sp.st.length sp.st.length,.map (some U.size),.int .i64 (sp.pk:Int)]) λu3 z3 E b3=>⟨d E (d e2 (d e1 hd)),?_⟩⟩⟩⟩
 ·refine key u3 U.size u1.size u2.size (Ext.trans (Ext.trans e1 e2) E) O O O O O O O O O ?_ (Ext.fC E (m2 .i64 .s) id) b3;rw[BO];exact Ext.bX E (Ext.bX e2 b1 id) id
 ·refine key u3 u1.size U.size u2.size (Ext.trans (Ext.trans e1 e2) E) O O O O O O O O O ?_ (Ext.fC E (Ext.fC e2 (m1 .i64 .s) id) id) b3;rw[BO];exact Ext.bX E b2 id
end Go.Ar
namespace Go.Bu
open Go Go.Vc Go.Proofs
variable {U:Hp}{p n sb:Nat}{S:Nat->Bool}{ms:List Nat}
def kW (ms:List Nat):List Value:=ms.map λm=>Value.map (some m)
structure Part (B:Nat) (h:Hp) (p n:Nat) (j:Nat) (s:Sl) (ms:List Nat):Prop where
 len:ms.length=j
 sl:s.len=j
 hd:bY h p [.int .i64 n,.slice s.a s.len s.cap]
 own:Go.Vc.Own (λb=>B<=b/\b≠p/\b∉ms) h s 1 (kW ms)
 new:∀m∈ms,B<=m/\m≠p/\m<h.size
 nd:ms.Nodup
theorem Part.done {B:Nat}{h:Hp}{j:Nat}{s:Sl}(hp:Part B h p n j s ms)(hB:B<=p)(hj:0<j)(n1:1<=n)(n2:n<=1024)(lo:2^j<=2*n)(hi:n<2^j)(jU:Bounded S n)
 (maps:∀k m,ms[k]?=some m->∃B:List (Int×Bool),dD h m .i64 .b B/\Keys S k B):∃sb,BH h p n S sb ms/\∀b,fp p sb ms b->B<=b:=by
 rcases hp.own.2 with⟨_,hl,_⟩|⟨sb,cs,⟨hq,hqp,hqm⟩,ha,hb,hle,hcl,ht⟩
 ·have:=hp.sl;omega
 ·refine⟨sb,⟨?_,?_,maps,?_,n1,n2,?_,?_,jU⟩,?_⟩
  ·refine⟨s.cap,?_⟩;have:=hp.hd;rw[ha,hp.sl,←hp.len]at this;exact this
  ·refine⟨cs.drop (kW ms).length,?_⟩;have:kW ms++cs.drop (kW ms).length=cs:=by
    conv=>lhs;lhs;rw[←ht]
    exact mZ _ _
   show bY h sb (kW ms++_);rw[this];exact hb
  ·simp only[zo,zW,not_or];exact⟨⟨λe=>hqp e.symm,λa=>(hp.new p a).2.1 rfl⟩,hqm,hp.nd⟩
  ·rw[hp.len];exact lo
  ·rw[hp.len];exact hi
  ·intro b hb;simp only[fp,zW]at hb;rcases hb with rfl|rfl|h
   ·exact hB
   ·exact hq
   ·exact(hp.new b h).1
theorem Part.xU {B:Nat}{h:Hp}{j:Nat}{s:Sl}(hp:Part B h p n j s ms):cell h ⟨p,1,none⟩=some (.slice s.a s.len s.cap):=by rw[hp.hd.cell];rfl
theorem Part.aF {B:Nat}{h h':Hp}{j:Nat}{s:Sl}(hp:Part B h p n j s ms)(e:aG h h'):Part B h' p n j s ms:=
 ⟨hp.len,hp.sl,e.bX hp.hd id,hp.own.aF e,λm a=>⟨(hp.new m a).1,(hp.new m a).2.1,uG (hp.new m a).2.2 e.1⟩,hp.nd⟩
theorem Part.step {B:Nat}{h:Hp}{j m e t bytes:Nat}{s:Sl}{zs:List Value}{K:Sl->Hp->Prop}(hp:Part B h p n j s ms)(hj:j<=1000)(hbt:bytes<=1000)(hz:zs.length=1)(hm:B<=m)(hmp:m≠p)(hml:m<h.size)(hmn:m∉ms)(hms:¬HB s m)
 (hpB:p<h.size) (hBh:B<=h.size)
 (hgo:∀s' h',Ext (HB s) h h'->s'.len=j+1->bY h' p [.int .i64 n,.slice s.a s.len s.cap] →
  (∀h2,QT h' h2 p->bY h2 p [.int .i64 n,.slice s'.a s'.len s'.cap]->Part B h2 p n (j+1) s' (ms++[m]))->K s' h') :
 App s 1 bytes e zs ⟨some ⟨h.size,0,none⟩,1,1⟩ (h.push (.cells #[.map (some m)] t (0,0))) K:=by
 have G:=hp.sl;have y:Go.Vc.Own (λb=>B<=b/\b≠p/\b∉ms++[m]) (h.push (.cells #[.map (some m)] t (0,0))) s 1 (kW ms):=by
  have d:=hp.own;have h2:Go.Vc.Own (λb=>B<=b/\b≠p/\b∉ms++[m]) h s 1 (kW ms):=by
   refine⟨d.1,d.2.imp id ?_⟩;rintro⟨b,cs,⟨q1,q2,q3⟩,ha,r⟩;refine⟨b,cs,⟨q1,q2,?_⟩,ha,r⟩;simp only[zS,zZ,not_or];exact⟨q3,λe=>hms ⟨0,by rw[ha,e]⟩⟩
  exact h2.aF (UF _ _)
 have ir:(h.push (.cells #[.map (some m)] t (0,0))).size=h.size+1:=by simp
 refine y.app (ys:=[.map (some m)]) ?_ hz rfl Mn (by simp[dJ]) ?_ ?_ mu λs' h' z M L E=>?_
 ·intro b i;rw[ir]at i;refine⟨O,O,?_⟩;simp only[zS,zZ,not_or];exact⟨λw=>by have:=(hp.new b w).2.2;omega,O⟩
 ·simp only;have:(s.len+1)*bytes<=1001*1000:=lV O hbt;omega
 ·simp only;omega
 ·simp only at z;have g:Ext (HB s) h h':=(UF h _).to.trans M;have C:¬HB s p:=λi=>(hp.own.ia i).1.2.1 rfl;refine hgo s' h' g O (g.bX hp.hd C) λh2 u A=>⟨by simp[hp.len],O,A,?_,?_,?_⟩
  ·have:kW (ms++[m])=kW ms++[.map (some m)]:=by simp[kW]
   rw[this];exact L.bV (Ext.eL (F:=(· = p)) u rfl) (λb H _ D=>H.2.1 D)
  ·intro x hx;have J:h2.size=h'.size:=u.1;have:=g.1;rcases zS.1 hx with d|d
   ·have:=hp.new x d;exact⟨this.1,this.2.1,O⟩
   ·simp at d;subst d;exact⟨hm,hmp,O⟩
  ·rw[n0];refine⟨hp.nd,by simp,?_⟩;intro a ha b i;simp at i;subst i;rintro rfl;exact hmn ha
def iI:Nat->Bool:=λ_=>false
theorem SA (k:Nat):Keys iI k []:=by
 refine⟨by simp,λq a=>?_⟩;have:=Uw a (Vn k q);simp[iI]at this
theorem sQ (bK:Int){R:Option Addr->Int->Hp->Prop}(hbad:¬(1<=bK/\bK<=1024)->R none 1 U)
 (hR:∀(n:Nat),bK=(n:Int)->1<=n->n<=1024->∀σ' sb ms,aG U σ'->BH σ' U.size n iI sb ms->(∀b,fp U.size sb ms b->U.size<=b)->R (some ⟨U.size,0,none⟩) 0 σ'):Kr.c bK U R:=by
 refine Kr.o ?_;unfold Kr.v;refine bW.intro (cL (λg=>cJ rfl (hbad O)) λg=>?_);refine cL (λh2=>hbad O) λh2=>?_;obtain⟨n,rfl⟩:=zf (show 0<=bK by omega);have L:1<=n:=by omega
 have M:n<=1024:=by omega
 unfold Nw;have e0:=UF U (.cells #[.int .i64 (n:Int),.slice none 0 0] 52 (0,0));refine Zw (a:=bN) (λt h=>∃(j:Nat) (s:Sl) (ms:List Nat),t=((2^j:Nat):Int)/\2^j<=2*n/\aG U h/\U.size<h.size/\Part U.size h U.size n j s ms/\∀m∈ms,dD h m .i64 .b []) (λt _=>2*n+1-t.toNat)
  ⟨0,⟨none,0,0⟩,[],rfl,by simp;omega,Ext.push _ _ _,by simp,⟨rfl,rfl,bY.push _ _ _,Own.nil _ _ _,by simp,by simp⟩,by simp⟩ ?_
 rintro t h ⟨j,s,ms,rfl,J,N,ir,d,w⟩;have hj:j<=11:=by
  apply Classical.byContradiction;intro hc;have:2^12<=2^j:=po aB O;omega
 have X:=lj j;refine cL (λhle=>?_) (λA=>?_)
 ·refine bO ?_;rw[add_lit,zG];refine nR d.xU ?_;have e1:=UF h (.map #[] 0);have V:(h.push (.map #[] 0)).size=h.size+1:=by simp
  have H:=d.aF e1;refine H.step (m:=h.size) O O rfl O O O (λy=>by have:=(d.new _ y).2.2;omega) (λp=>by have:=(d.own.ia p).2;omega) O O λP h' K hl p u=>?_;refine bO (p.IZ aA λh2 z G=>?_);have C:=u h2 z G;have E:aG U h2:=by
   refine Ext.fresh (Ext.fresh (N.trans e1) K λi B=>(d.own.ia B).1.1) (Ext.eL (F:=(· = U.size)) z rfl) λi B=>?_;rw[B];exact zC _
  refine cC (m:=2^(j+1)) (by rw[mV];omega) (by rw[mV];omega) ⟨⟨j+1,P,ms++[h.size],rfl,by rw[mV];omega,E,?_,C,?_⟩,by rw[mV];omega⟩
  ·have:=z.1;have:=K.1;omega
  ·intro m y;have Ge:∀{m:Nat},dD (h.push (.map #[] 0)) m .i64 .b []->¬HB s m->m≠U.size->dD h2 m .i64 .b []:=λhM Q D=>VI z (K.fC hM Q) D;rcases zS.1 y with g|g
   ·exact Ge (e1.fC (w m g) id) (λp=>(d.own.ia p).1.2.2 g) (d.new m g).2.1
   ·simp at g;subst g;exact Ge (dD.push _ _ _) (λp=>by have:=(d.own.ia p).2;omega) O
 ·have r:0<j:=by
   rcases uW j with e|e
   ·subst e;simp at A;omega
   ·exact e
  obtain⟨sb,Y,Z⟩:=d.done (S:=iI) (zC _) r L M J O (λx W=>by simp[iI]at W) λk m y=>⟨[],w m (zE y),SA k⟩;exact hR n rfl L M h sb ms N Y Z
theorem kh (hB:BH U p n S sb ms){R:Option Addr->Hp->Prop}
 (hR:∀σ' sb' ms',aG U σ'->BH σ' U.size n S sb' ms'->(∀b,fp U.size sb' ms' b->U.size<=b)->R (some ⟨U.size,0,none⟩) σ'):XM.c (aW p) U R:=by
 refine XM.o ?_;unfold XM.v;have hl:=hB.len;refine yk hB (bZ rfl (bO (hB.rN ?_)));unfold Nw;refine bO ((hB.aF (UF U _)).rB λcap=>?_);refine Zw (a:=bN) (λt h=>∃(j:Nat) (s:Sl) (ms':List Nat),t=(j:Int)/\j<=ms.length/\aG U h/\U.size<h.size/\Part U.size h U.size n j s ms'/\∀k m',ms'[k]?=some m'->∃B:List (Int×Bool),dD h m' .i64 .b B/\Keys S k B)
  (λt _=>ms.length-t.toNat) ⟨0,⟨none,0,0⟩,[],rfl,O,Ext.push _ _ _,by simp,⟨rfl,rfl,bY.push _ _ _,Own.nil _ _ _,by simp,by simp⟩,by simp⟩ ?_
 rintro t h ⟨j,s,ms',rfl,hj,Q,ir,d,x⟩;have y:=hB.aF Q;refine cL (λK=>?_) (λN=>?_)
 ·simp only at K;obtain⟨m,z⟩:=hB.get (k:=j) O;obtain⟨B,C,W⟩:=y.maps j m z;refine y.rM z ⟨λM=>cell M ⟨U.size,1,none⟩=some (.slice s.a s.len s.cap),d.xU,bO ⟨s,λM hS=>by rw[add_lit,zG];exact hS,?_⟩⟩;refine ι C λV aa e1 L=>?_;have r:=d.aF e1;refine⟨r.xU,?_⟩;refine⟨(r.aF (UF _ _)).xU,?_⟩;refine r.step (m:=h.size) O O rfl O O O (λz=>by have:=(d.new _ z).2.2;omega) (λg=>by have:=(d.own.ia g).2;omega) O O λX M P hl g w=>?_;refine bO (g.IZ aA λh2 A J=>?_);have D:=w h2 A J;have G:aG U h2:=by
   refine Ext.fresh (Ext.fresh (Q.trans e1) P λi hi=>(d.own.ia hi).1.1) (Ext.eL (F:=(· = U.size)) A rfl) λi hi=>?_;rw[hi];exact zC _
  refine cC (m:=j+1) O O ⟨⟨j+1,X,ms'++[h.size],rfl,O,G,?_,D,?_⟩,O⟩
  ·have:=A.1;have:=P.1;omega
  ·intro k m' hm';have Ge:∀{m:Nat} {B:List (Int×Bool)},dD V m .i64 .b B->¬HB s m->m≠U.size->dD h2 m .i64 .b B:=λhM Z E=>VI A (P.fC hM Z) E;rcases zq k ms'.length with h3|h3
   ·rw[zQ h3]at hm';obtain⟨B',u,H⟩:=x k m' hm';have e:=zE hm';exact⟨B',Ge (e1.fC u id) (λg=>(d.own.ia g).1.2.2 e) (d.new m' e).2.1,H⟩
   ·rw[zg h3]at hm';have Y:k=j:=by
     have:=(cV.1 hm').1;simp at this;have:=d.len;omega
    subst Y;rw[d.len,mI]at hm';simp at hm';subst hm';exact⟨B,Ge L (λg=>by have:=(d.own.ia g).2;omega) O,W⟩
 ·simp only at N;have:j=ms.length:=by omega
  subst this;obtain⟨sb',u,hF⟩:=d.done (S:=S) (zC _) hB.vu hB.n1 hB.n2 hB.lo hB.hi hB.jU x;exact hR h sb' ms' Q u hF
end Go.Bu
namespace Go.Proofs
open Go.Vc
set_option maxRecDepth 100000
def YA.h:Hn:=.q .o1 (.q (.q (.cW (.gM false [] [(22,.one .b)] (.take 0 (.all [(1,.take 2 (.take 3 (.split 13 (.take 4 (.take 5 (.take 6 (.take 7 (.take 8 (.take 9 (.take 10 (.take 11 (.take 12 (.done)))))))))) (.take 4 (.take 6 (.take 7 (.take 8 (.all [(5,.all [(9,.all [(10,.take 11 (.take 12 (.done)))])]),(9,.all [(5,.all [(10,.take 11 (.take 12 (.done)))])])]))))))))])))) .aK) (.q (.cW (.gM true [] [(5,.one .p)] (.take 0 (.take 1 (.take 2 (.take 3 (.take 5 (.take 6 (.take 7 (.take 8 (.take 9 (.take 11 (.take 12 (.take 13 (.take 14 (.take 16 (.take 17 (.take 18 (.take 19 (.all [(4,.all [(10,.all [(15,.all [(20,.all [(21,.take 22 (.all [(23,.take 24 (.done))]))]),(21,.all [(20,.take 22 (.all [(23,.take 24 (.done))]))])]),(21,.all [(15,.all [(20,.take 22 (.all [(23,.take 24 (.done))]))])])]),(21,.all [(10,.all [(15,.all [(20,.take 22 (.all [(23,.take 24 (.done))]))])])])]),(21,.all [(4,.all [(10,.all [(15,.all [(20,.take 22 (.all [(23,.take 24 (.done))]))])])])])])))))))))))))))))))) (.q (.q .o6 (.k (.loop [(52,.I)] (.q .o1 (.q (.c .l .l) (.q (.k (.q .o5 (.cW (.held true [26,29] (.take 0 (.take 1 (.take 2 (.take 3 (.take 4 (.take 5 (.take 6 (.take 10 (.take 11 (.take 12 (.take 13 (.take 14 (.take 15 (.take 16 (.take 17 (.take 18 (.take 19 (.take 20 (.all [(7,.all [(8,.all [(9,.all [(21,.all [(22,.all [(23,.take 24 (.take 25 (.all [(26,.take 27 (.take 28 (.all [(29,.done)])))])))])])])])])]))))))))))))))))))))))) .o2)))))) (.q (.q .o5 (.k (.loop [] (.q (.cW (.seq [.it .i64 bN,.op])) (.q (.c .l .l) (.k (.q (.cW (.seq [.it .i64 bN,.op,.op,.op,.op])) .o7))))))) .aL))))
def YA.v (a b:R2)(c:Hp)(d:Option Addr->Hp->Prop):Prop:=Jn [.b] (λ(e:Bool) f=>If e (d none f) (Jn [.p] (λ(g:R2) h=>bU a λi=>aX i 5 h λj=>WU [bN] (λk=>k 0 h) λl (m:Int) n=>If (m<((j.len:Nat):Int)) (Ix j.a j.len m 1 λo=>fW o n λp=>dP n λq=>bU g λr=>aT q r 5 λs=>bU g λt=>aT q t 6 λu=>bU a λv=>aT q v 6 λw=>Ix w.a w.len m 1 λx=>fR q .p x λ(y:R2)=>X1.c p n λz aa=>And (q aa) <| aV #[.pointer z] 139 aa λab ac=>And (q ac) <| App s 1 8 139 [.pointer none] ⟨some ab,1,1⟩ ac λad ae=>And (q ae) <| Xr.c y ae λaf ag=>And (q ag) <| aV #[.pointer af] 141 ag λah ai=>And (q ai) <| App u 1 8 141 [.pointer none] ⟨some ah,1,1⟩ ai λaj ak=>And (q ak) <| bU g λal=>aR al 5 (.slice ad.a ad.len ad.cap) ak λam=>bU g λan=>aR an 6 (.slice aj.a aj.len aj.cap) am λao=>bL (m+1) λap=>l ap ao) (bI a 7 n λar=>pG .i64 bN ar n λau av=>WU [] (λaw=>aw av) λax ay=>pN .i64 bN au ay (d g ay) (λaz a0 a1=>qf .i64 bN au a1 λa2 a3=>bI g 7 a1 λa5=>jS .i64 bN a5 a2 a3 a1 λa6=>ax a6))) λa7=>dP f λa8=>bU a λa9=>aT a8 a9 0 λba=>bU a λbb=>aU a8 bb 2 λbc=>bU a λbd=>aU a8 bd 3 λbe=>bU a λbf=>aU a8 bf 4 λbg=>(Wb.c ba f λbh bi=>And (a8 bi) <| (XM.c bc bi λbj bk=>And (a8 bk) <|
 (W4.c be bk λbl bm=>And (a8 bm) <| (WZ.c bg bm λbn bo=>And (a8 bo) <| Nw (.map #[] 0) bo λbp bq=>And (a8 bq) <| aV #[.slice bh.a bh.len bh.cap,.pointer b,.pointer bj,.pointer bl,.pointer bn,.slice none 0 0,.slice none 0 0,.map (some bp.block)] 135 bq λbr bs=>And (a8 bs) <| a7 (some br) bs) ∧ (Nw (.map #[] 0) bm λbt bu=>And (a8 bu) <| WZ.c bg bu λbv bw=>And (a8 bw) <| aV #[.slice bh.a bh.len bh.cap,.pointer b,.pointer bj,.pointer bl,.pointer bv,.slice none 0 0,.slice none 0 0,.map (some bt.block)] 135 bw λbx bz=>And (a8 bz) <| a7 (some bx) bz)) ∧ (Nw (.map #[] 0) bk λb0 b1=>And (a8 b1) <| W4.c be b1 λb2 b3=>And (a8 b3) <| WZ.c bg b3 λb4 b5=>And (a8 b5) <| aV #[.slice bh.a bh.len bh.cap,.pointer b,.pointer bj,.pointer b2,.pointer b4,.slice none 0 0,.slice none 0 0,.map (some b0.block)] 135 b5 λb6 b7=>And (a8 b7) <| a7 (some b6) b7)) ∧ (Nw (.map #[] 0) bi λb8 b9=>And (a8 b9) <| XM.c bc b9 λca cb=>And (a8 cb) <| W4.c be cb λcc cd=>And (a8 cd) <| WZ.c bg cd λce cf=>And (a8 cf) <| aV #[.slice bh.a bh.len bh.cap,.pointer b,.pointer ca,.pointer cc,.pointer ce,.slice none 0 0,.slice none 0 0,.map (some b8.block)] 135 cf λcg ch=>And (a8 ch) <| a7 (some cg) ch)) ∧ (Nw (.map #[] 0) f λci cj=>And (a8 cj) <| Wb.c ba cj λck cl=>And (a8 cl) <| XM.c bc cl λcm cn=>And (a8 cn) <| W4.c be cn λco cp=>And (a8 cp) <| WZ.c bg cp λcq cr=>And (a8 cr) <|
 aV #[.slice ck.a ck.len ck.cap,.pointer b,.pointer cm,.pointer co,.pointer cq,.slice none 0 0,.slice none 0 0,.map (some ci.block)] 135 cr λcs ct=>And (a8 ct) <| a7 (some cs) ct))) λcu=>WE.c a c λcv cw=>If (!cv) (cu true cw) (bU a λcx=>(WM.c b cw λcy cz=>aY cx 1 cz λc0=>WM.c c0 cz λc1 c2=>cu (cy != c1) c2) ∧ (aY cx 1 cw λc3=>WM.c b cw λc4 c5=>WM.c c3 c5 λc6 c7=>cu (c4 != c6) c7))
theorem YA.o {a b c d}(e:YA.v a b c d):YA.c a b c d:=Wa Tryz.func45 (x:=YA.h) (R0 e)
def WE.h:Hn:=.q .o1 (.q (.cW (.seq [.op,.op,.op,.cY true 5 (RI.ops 5),.op])) .l)
def WE.v (a:R2)(b:Hp)(c:aO):Prop:=bW (λd e=>c d e) λf=>If (!a.isNone) (bF a 1 b λh=>f (!h.isNone) b) (f false b)
theorem WE.o {a b c}(d:WE.v a b c):WE.c a b c:=Wa Tryz.func71 (x:=WE.h) (R0 d)
def Kv.h:Hn:=.q .o2 (.q (.q .o3 .aJ) (.q .o3 (.q (.q (.cW (.seq [.op,.op,.op,.cY false 3 (RI.ops 3),.op,.cY false 2 [.op,.op],.op,.cY false 2 [.op,.op]])) .aJ) (.q .o8 (.q .o9 (.q .o9 (.q (.q .o3 (.k (.loop [(61,.I)] (.q .o1 (.q (.c .l .l) (.q (.k (.q .o4 (.q .o7 (.q .o9 (.cW (.gM true [18,21] [] (.tk [0,1,2,3,4,5,6,9,10,11,12,13] (.all [(7,.all [(8,.all [(14,.all [(15,.take 16 (.take 17 (.all [(18,.take 19 (.take 20 (.all [(21,.done)])))])))])]),(14,.all [(8,.all [(15,.take 16 (.take 17 (.all [(18,.take 19 (.take 20 (.all [(21,.done)])))])))])])]),(14,.all [(7,.all [(8,.all [(15,.take 16 (.take 17 (.all [(18,.take 19 (.take 20 (.all [(21,.done)])))])))])])])])))))))) .o2)))))) (.q .o3 .l))))))))
def Kv.v (a:Sl)(b:R2)(c:Int)(d:Hp)(e:Option Addr->Int->Hp->Prop):Prop:=ZU.c a d λf g=>If (!f) (e none 2 g) (WM.c b g λh i=>bW (λj k=>bW (λl m=>bW (λn o=>If n (e none 1 o) (Wb.c a o λp q=>Qi.c q λr s=>Nw (.map #[] 0) s λt u=>aV #[.slice p.a p.len p.cap,.pointer b,.pointer none,.pointer none,.pointer r,.slice none 0 0,.slice none 0 0,.map (some t.block)] 135 u λv w=>Kr.c h w λx y z=>bU (some v) λaa=>aR aa 2 (.pointer x) z λab=>Vh.c h ab λac ad ae=>bU (some v) λaf=>aR af 3 (.pointer ac) ae λag=>WU [bN] (λah=>ah 0 ag) λai (aj:Int) ak=>If (aj<((a.len:Nat):Int)) (Ix a.a a.len aj 3 λal=>aQ al 0 ak λam=>aQ al 1 ak λan=>aQ al 2 ak λao=>aV #[.I 0,.I 0,.I 0] 85 ak λap aq=>aR ap 0 (.I am) aq λar=>aR ap 1 (.I an) ar λau=>aR ap 2 (.I ao) au λav=>aQ ap 0 av λaw=>aQ ap 1 av λax=>aQ ap 2 av λay=>Qy.c aw ax ay av λaz a0 a1=>aQ ap 2 a1 λa2=>Qa.c a2 c a1 λa3 a4 a5=>Jn [] (λa6=>bL (aj+1) λa7=>ai a7 a6) λa8=>dP a5 λa9=>bU (some v) λba=>aT a9 ba 5 λbb=>bU (some v) λbc=>aT a9 bc 6 λbd=>(aV #[.pointer az] 139 a5 λbe bf=>And (a9 bf) <| (App bb 1 8 139 [.pointer none] ⟨some be,1,1⟩ bf λbg bh=>And (a9 bh) <| aV #[.pointer a3] 141 bh λbi bj=>And (a9 bj) <| App bd 1 8 141 [.pointer none] ⟨some bi,1,1⟩ bj λbk bl=>And (a9 bl) <|
 bU (some v) λbm=>aR bm 5 (.slice bg.a bg.len bg.cap) bl λbn=>bU (some v) λbo=>aR bo 6 (.slice bk.a bk.len bk.cap) bn λbp=>a8 bp) ∧ (aV #[.pointer a3] 141 bf λbq br=>And (a9 br) <| App bb 1 8 139 [.pointer none] ⟨some be,1,1⟩ br λbs bt=>And (a9 bt) <| App bd 1 8 141 [.pointer none] ⟨some bq,1,1⟩ bt λbu bv=>And (a9 bv) <| bU (some v) λbw=>aR bw 5 (.slice bs.a bs.len bs.cap) bv λbx=>bU (some v) λbz=>aR bz 6 (.slice bu.a bu.len bu.cap) bx λb0=>a8 b0)) ∧ (aV #[.pointer a3] 141 a5 λb1 b2=>And (a9 b2) <| aV #[.pointer az] 139 b2 λb3 b4=>And (a9 b4) <| App bb 1 8 139 [.pointer none] ⟨some b3,1,1⟩ b4 λb5 b6=>And (a9 b6) <| App bd 1 8 141 [.pointer none] ⟨some b1,1,1⟩ b6 λb7 b8=>And (a9 b8) <| bU (some v) λb9=>aR b9 5 (.slice b5.a b5.len b5.cap) b8 λca=>bU (some v) λcb=>aR cb 6 (.slice b7.a b7.len b7.cap) ca λcc=>a8 cc)) (e (some v) 0 ak))) λcd=>If l (cd true m) (cd (decide (c>8)) m)) λce=>If j (ce true k) (ce (decide (c<0)) k)) λcf=>If (h<32) (cf true i) (Nz 16 <| cf ((h.tmod 16) != 0) i))
theorem Kv.o {a b c d e}(f:Kv.v a b c d e):Kv.c a b c d e:=Wa Tryz.func87 (x:=Kv.h) (R0 f)
def Xi.h:Hn:=.q .o2 (.q (.k (.q .o4 (.c .aL (.q .o3 .aJ)))) (.q (.q .o6 (.k (.loop [(28,.I)] (.q .o1 (.q (.c .l .l) (.q (.k (.q .o3 .o4)) .o2)))))) (.q (.o 11) (.q (.q .o2 (.c (.q .o3 .l) .l)) (.q .o1 (.q (.cW (.tail 10 (RI.ops 10) [.op,.op])) (.q (.q .o3 (.k (.loop [(10,.I),(62,.I)] (.q .o1 (.q (.c .l .l) (.q (.k (.q .o4 (.q (.q .o3 (.k (.loop [(68,.I)] (.q .o1 (.q (.c .l .l) (.q (.k (.q .o3 .o6)) .o2)))))) .o5))) .o2)))))) (.q .o3 .l))))))))
def Xi.v (a:R2)(b:Int)(c:Hp)(d:Int->Int->Hp->Prop):Prop:=WE.c a c λe f=>If (!e) (d 0 5 f) (If (b<0) (d 0 1 f) (bE a 5 f λh=>WU [bN] (λi=>i 0 f) λj (k:Int) l=>If (k<((h.len:Nat):Int)) (Ix h.a h.len k 1 λm=>fW m l λn=>W0.c n l λo p=>Xh.c a o p λq=>bL (k+1) λr=>j r q) (bF a 3 l λt=>YK.c t b l λu v w=>If (v != 0) (d 0 v w) (bF a 3 w λy=>bF a 1 w λaa=>Nw (.cells #[.func (.func 142) #[.pointer y] #[],.func (.func 143) #[.pointer aa] #[]] 77 (0,0)) w λab ac=>WU [bN,bN] (λad=>ad 0 0 ac) λae (af:Int) (ag:Int) ah=>If (ag<((u.len:Nat):Int)) (Ix u.a u.len ag 2 λai=>aQ ai 0 ah λaj=>aQ ai 1 ah λak=>aV #[.I 0,.I 0] 246 ah λal am=>aR al 0 (.I aj) am λan=>aR al 1 (.I ak) an λao=>WU [bN] (λap=>ap 0 ao) λaq (ar:Int) au=>If (ar<((2:Nat):Int)) (Ix (some ab) 2 ar 1 λav=>BF av au λaw=>aQ al 0 au λax=>aQ al 1 au λay=>UE Tryz.prog aw [.I ax,.I ay] [.I] au λaz a0=>bL (ar+1) λa1=>aq a1 a0) (aQ al 1 au λa2=>bL (af+a2) λa3=>bL (ag+1) λa4=>ae a3 a4 au)) (d af 0 ah)))))
theorem Xi.o {a b c d}(e:Xi.v a b c d):Xi.c a b c d:=Wa Tryz.func92 (x:=Xi.h) (R0 e)
def Yj.h:Hn:=.q .o1 (.q (.q .o3 .aK) (.q .o6 (.q (.q .o3 (.k (.loop [(16,.I)] (.q .o1 (.q (.c .l .l) (.q (.k (.q .o3 (.q .o6 (.q .o7 .o7)))) .o2)))))) (.q .o3 .l))))
def Yj.v (a:R2)(b:Hp)(c:aN):Prop:=WE.c a b λd e=>If (!d) (c 0 e) (bF a 3 e λg=>YL.c g e λh i=>WU [bN] (λj=>j 0 i) λk (l:Int) m=>If (l<((h.len:Nat):Int)) (Ix h.a h.len l 1 λn=>bM n m λo=>bF a 3 m λq=>Xj.c q o m λr s=>bF a 2 s λu=>bL (o*16) λv=>XC.c u v 16 s λw x=>bF a 1 x λz=>bL (o*16) λaa=>YF.c z aa 16 x λab ac=>bL (l+1) λad=>k ad ac) (c ((h.len:Nat):Int) m))
theorem Yj.o {a b c}(d:Yj.v a b c):Yj.c a b c:=Wa Tryz.func93 (x:=Yj.h) (R0 d)
def Zb.h:Hn:=.q (.q .o3 (.c .l .l)) (.q .o6 (.k (.loop [(14,.I)] (.q .o1 (.q (.c .l .l) (.q (.k (.q .o5 (.q .o4 (.k (.loop [(22,.I)] (.q .o1 (.q (.c .l .l) (.q (.k (.q .o3 .o4)) .o2)))))))) .o2))))))
def Zb.v (a:R2)(b:Hp)(c:aP):Prop:=WE.c a b λd e=>If (!d) (c e) (bE a 6 e λg=>WU [bN] (λh=>h 0 e) λi (j:Int) k=>If (j<((g.len:Nat):Int)) (Ix g.a g.len j 1 λl=>fW l k λm=>Xo.c m k λn o=>WU [bN] (λp=>p 0 o) λq (r:Int) s=>If (r<((n.len:Nat):Int)) (Ix n.a n.len r 1 λt=>ji t s λu=>WC.c a j u s λv w=>bL (r+1) λx=>q x w) (bL (j+1) λy=>i y s)) (c k))
theorem Zb.o {a b c}(d:Zb.v a b c):Zb.c a b c:=Wa Tryz.func94 (x:=Zb.h) (R0 d)
def Yr.h:Hn:=.q .o3 (.q (.q .o3 (.c (.q .o3 .l) .l)) (.q (.q .o2 (.c (.q .o3 .l) .l)) (.q .o8 (.q (.q .o2 (.c (.q .o3 .l) .l)) (.j8 [] (.q .o2 (.c (.q .o5 (.k (.loop [] (.q (.cW (.seq [.it .i64 bN,.op])) (.q (.c .l .l) (.k (.q (.cW (.seq [.it .i64 bN,.op,.op,.op,.op])) (.q .o3 (.q (.cW (.seq [.op,.op,.op,.op,.cY true 5 (RI.ops 5)])) (.c (.q .o5 .l) .l)))))))))) .l)) (.q (.o 15) (.q (.q .o2 (.c (.q .o4 .l) .l)) (.q .o6 .l))))))))
def Yr.v (a:R2)(b:Int)(c:Hp)(d:Int->Int->Int->Hp->Prop):Prop:=WE.c a c λe f=>If (!e) (d 0 0 5 f) (If (b<0) (d 0 0 8 f) (bF a 4 f λh=>Nz 256<|bL (b.tdiv 256) λi=>YZ.c h i f λj k=>If (j==0) (d 0 0 8 k) (Jn [] (λl=>bE a 5 l λn=>bL (j-1) λo=>Ix n.a n.len o 1 λp=>fW p l λq=>YM.c q b l λr s t=>If (s != 0) (d 0 0 s t) (bL (j-1) λu=>d u r 0 t)) λv=>If (j==41) (bI a 7 k λx=>pG .i64 bN x k λy z=>WU [] (λaa=>aa z) λab ac=>pN .i64 bN y ac (v ac) (λad ae af=>qf .i64 bN y af λag ah=>Nz 256<|bL (b.tdiv 256) λai=>bW (λaj ak=>If aj (bL (ag*256) λal=>d (-1) al 0 ak) (ab ak)) λam=>If (ag<=ai) (bL (ag+ah) λan=>am (decide (ai<an)) af) (am false af))) (v k))))
theorem Yr.o {a b c d}(e:Yr.v a b c d):Yr.c a b c d:=Wa Tryz.func103 (x:=Yr.h) (R0 e)
def WD.h:Hn:=.q .o2 (.q (.q .o4 (.q .o2 (.c (.q .o3 .l) .l))) (.q (.o 12) .l))
def WD.v (a:R2)(b:Int)(c:Hp)(d:Sl->Int->Hp->Prop):Prop:=WY.c a b c λe f=>If (e != 0) (d ⟨none,0,0⟩ e f) (bE a 6 f λh=>Ix h.a h.len b 1 λi=>fW i f λj=>WB.c j f λk l m=>d k l m)
theorem WD.o {a b c d}(e:WD.v a b c d):WD.c a b c d:=Wa Tryz.func124 (x:=WD.h) (R0 e)
def WF.h:Hn:=.q .o2 (.q (.q .o4 (.q .o2 (.c (.q .o3 .l) .l))) (.q (.o 13) .l))
def WF.v (a:R2)(b c:Int)(d:Hp)(e:Sl->Int->Hp->Prop):Prop:=WY.c a b d λf g=>If (f != 0) (e ⟨none,0,0⟩ f g) (bE a 5 g λi=>Ix i.a i.len b 1 λj=>fW j g λk=>Xf.c k c g λl m n=>e l m n)
theorem WF.o {a b c d e}(f:WF.v a b c d e):WF.c a b c d e:=Wa Tryz.func126 (x:=WF.h) (R0 f)
def Yl.h:Hn:=.q .o1 (.q (.q .o4 (.q .o2 .aJ)) (.q (.o 17) (.q (.q .o2 .aJ) (.q .gE .l))))
def Yl.v (a:R2)(b:Int)(c:Hp)(d:aN):Prop:=WY.c a b c λe f=>If (e != 0) (d e f) (bE a 0 f λh=>Ix h.a h.len b 3 λi=>aQ i 1 f λj=>bL (b+1) λk=>Y3.c a j 1 k f λl m n=>If (m != 0) (d m n) (bE a 5 n λp=>Ix p.a p.len b 1 λq=>fW q n λr=>Y6.c r l n λs t=>d s t))
theorem Yl.o {a b c d}(e:Yl.v a b c d):Yl.c a b c d:=Wa Tryz.func127 (x:=Yl.h) (R0 e)
def WW.h:Hn:=.q .o2 (.q (.k (.q .o4 (.c .aL (.q (.cW (.seq [.op,.op,.op,.cY false 2 [.op,.op],.op,.cY false 2 [.op,.op],.op,.cY false 2 [.op,.op],.op,.cY false 5 (RI.ops 5),.op])) .aJ)))) (.q .o9 (.q (.q .o2 (.c (.q .o3 .l) .l)) (.q .o7 (.q .o3 .l)))))
def WW.v (a:R2)(b c:Int)(d:Hp)(e:Int->Int->Hp->Prop):Prop:=WE.c a d λf g=>If (!f) (e 0 5 g) (bW (λh i=>bW (λj k=>bW (λl m=>bW (λn o=>If n (e 0 1 o) (Y3.c a b c 41 o λp q r=>If (q != 0) (e 0 q r) (bI a 7 r λt=>jS .i64 bN t p b r λu=>e p 0 u))) λv=>If l (v true m) (bL (c-1) λw=>v ((bits .and .i64 c w) != 0) m)) λx=>If j (x true k) (x (decide (c>16)) k)) λy=>If h (y true i) (y (decide (c<1)) i)) λz=>If (b<1) (z true g) (z (decide (b>64)) g))
theorem WW.o {a b c d e}(f:WW.v a b c d e):WW.c a b c d e:=Wa Tryz.func129 (x:=WW.h) (R0 f)
def WV.h:Hn:=.q .o1 (.q (.q .o3 .aK) (.q (.o 11) (.q (.q .o2 .aK) (.q .o6 (.q .o6 .aM)))))
def WV.v (a:R2)(b:Int)(c:Hp)(d:aN):Prop:=WE.c a c λe f=>If (!e) (d 5 f) (bI a 7 f λh=>Lk .i64 bN h b f λi=>If (!i.isSome) (d 8 f) (bI a 7 f λk=>nf .i64 bN k b f λl=>aV #[.I b,.I (i.getD 0)] 246 l λm n=>Xh.c a ⟨some m,1,1⟩ n λo=>d 0 o))
theorem WV.o {a b c d}(e:WV.v a b c d):WV.c a b c d:=Wa Tryz.func137 (x:=WV.h) (R0 e)
def Xh.h:Hn:=.q .o3 (.k (.loop [(8,.I)] (.q .o1 (.q (.c .l .l) (.q (.k (.q .o4 (.q (.cW (.tail 8 (RI.ops 8) [.op])) (.q (.cW (.tail 8 (RI.ops 8) [.op])) (.cW (.tail 8 (RI.ops 8) [.op])))))) .o2)))))
def Xh.v (a:R2)(b:Sl)(c:Hp)(d:aP):Prop:=WU [bN] (λe=>e 0 c) λf (g:Int) h=>If (g<((b.len:Nat):Int)) (Ix b.a b.len g 2 λi=>aQ i 0 h λj=>aQ i 1 h λk=>aV #[.I 0,.I 0] 246 h λl m=>aR l 0 (.I j) m λn=>aR l 1 (.I k) n λo=>bF a 4 o λq=>aQ l 0 o λr=>aQ l 1 o λs=>XP.c q r s o λt u=>bF a 3 u λw=>aQ l 0 u λx=>aQ l 1 u λy=>Xz.c w x y u λz aa=>bF a 2 aa λac=>aQ l 0 aa λad=>aQ l 1 aa λae=>Ym.c ac ad ae aa λaf ag=>bL (g+1) λah=>f ah ag) (d h)
theorem Xh.o {a b c d}(e:Xh.v a b c d):Xh.c a b c d:=Wa Tryz.func139 (x:=Xh.h) (R0 e)
def WC.h:Hn:=.q .o1 (.q (.q .o4 (.q .o2 .aJ)) (.q (.o 14) (.q (.q .o2 .aJ) (.q .o3 .aM))))
def WC.v (a:R2)(b:Int)(c:Sl)(d:Hp)(e:aN):Prop:=WY.c a b d λf g=>If (f != 0) (e f g) (bE a 5 g λi=>Ix i.a i.len b 1 λj=>fW j g λk=>Zc.c k c g λl m n=>If (m != 0) (e m n) (Xh.c a l n λo=>e 0 o))
theorem WC.o {a b c d e}(f:WC.v a b c d e):WC.c a b c d e:=Wa Tryz.func149 (x:=WC.h) (R0 f)
def Zd.h:Hn:=.q .o1 (.q (.cW (.seq [.op,.op,.op,.cY true 7 (RI.ops 7),.op])) .l)
def Zd.v (a:R2)(b:Int)(c:Hp)(d:aO):Prop:=WE.c a c λe f=>bW (λg h=>d g h) λi=>If e (bF a 3 f λk=>Ya.c k b f λl m=>i (decide (l>0)) m) (i false f)
theorem Zd.o {a b c d}(e:Zd.v a b c d):Zd.c a b c d:=Wa Tryz.func163 (x:=Zd.h) (R0 e)
def WY.h:Hn:=.q .o1 (.q (.k (.q .o4 (.c .aM (.q (.cW (.seq [.op,.op,.op,.cY false 7 (RI.ops 7),.op])) .aK)))) .aM)
def WY.v (a:R2)(b:Int)(c:Hp)(d:aN):Prop:=WE.c a c λe f=>If (!e) (d 5 f) (bW (λg h=>If g (d 1 h) (d 0 h)) λi=>If (b<0) (i true f) (bE a 0 f λk=>i (decide (b≥((k.len:Nat):Int))) f))
theorem WY.o {a b c d}(e:WY.v a b c d):WY.c a b c d:=Wa Tryz.func171 (x:=WY.h) (R0 e)
def Y3.h:Hn:=.q .o2 (.q (.o 12) (.j8 [(10,.I),(11,.I)] (.q .o2 (.c (.q .o1 (.q (.k (.loop [(12,.I)] (.q (.q .o5 (.c .l .l)) (.k .o3)))) (.q (.q .o4 .aJ) (.o 12)))) .l)) (.q (.q .o2 (.c (.q .o3 .l) .l)) (.q .o7 (.q .o8 (.q .o3 .l))))))
def Y3.v (a:R2)(b c d:Int)(e:Hp)(f:Int->Int->Hp->Prop):Prop:=bF a 2 e λh=>XS.c h b c e λi j k=>Jn [bN,bN] (λ(l:Int) (m:Int) n=>If (m != 0) (f 0 m n) (bF a 3 n λp=>XL.c p l b n λq r=>bF a 4 r λt=>Yq.c t l b d r λu v=>f l 0 v)) λw=>If (j==6) (WU [bN] (λx=>x 16 k) λy (z:Int) aa=>If (z<(if c>b then c else b)) (bL (z*2) λab=>y ab aa) (Y9.c a z aa λac ad=>If (!ac) (f 0 6 ad) (bF a 2 ad λaf=>XS.c af b c ad λag ah ai=>w ag ah ai))) (w i j k)
theorem Y3.o {a b c d e f}(g:Y3.v a b c d e f):Y3.c a b c d e f:=Wa Tryz.func174 (x:=Y3.h) (R0 g)
def WK.h:Hn:=.q .o2 (.q (.q .o4 (.q .o2 (.c (.q .o3 .l) .l))) (.q (.q (.o 11) .aJ) (.q (.q .o3 (.k (.loop [(32,.I)] (.q .o1 (.q (.c .l .l) (.q (.k (.q .o3 (.q (.o 14) (.q (.cW (.seq [.op,.op,.op,.cY false 2 [.op,.op]])) .aJ)))) .o2)))))) (.q (.o 13) .l))))
def WK.v (a:R2)(b:Int)(c:Sl)(d:Hp)(e:Bool->Int->Hp->Prop):Prop:=WY.c a b d λf g=>If (f != 0) (e false f g) (bE a 0 g λi=>Ix i.a i.len b 3 λj=>aQ j 2 g λk=>If (((c.len:Nat):Int) != k) (e false 1 g) (WU [bN] (λl=>l 0 g) λm (n:Int) o=>If (n<((c.len:Nat):Int)) (Ix c.a c.len n 1 λp=>bM p o λq=>bE a 5 o λs=>Ix s.a s.len b 1 λt=>fW t o λu=>Xc.c u q o λv w x=>bW (λy z=>If y (e false 8 z) (bL (n+1) λaa=>m aa z)) λab=>If (w != 0) (ab true x) (ab (!v) x)) (bE a 6 o λad=>Ix ad.a ad.len b 1 λae=>fW ae o λaf=>Xe.c af c o λag ah ai=>e ag ah ai)))
theorem WK.o {a b c d e}(f:WK.v a b c d e):WK.c a b c d e:=Wa Tryz.func182 (x:=WK.h) (R0 f)
def Y9.h:Hn:=.q .o1 (.q (.q .o2 (.k (.loop [(5,.I)] (.q (.q .o9 (.c .l .l)) (.q (.k (.q (.q .o8 (.c .l .l)) (.q (.q .o3 (.k (.loop [(6,.I)] (.q (.q .o6 (.c .l .l)) (.q (.k .o6) .o3))))) (.q .o7 .aM)))) .o4))))) .aM)
def Y9.v (a:R2)(b:Int)(c:Hp)(d:aO):Prop:=WU [bN] (λe=>e b c) λf (g:Int) h=>bL (g+b) λi=>bF a 1 h λk=>WM.c k h λl m=>If (i<=l) (bF a 1 m λo=>Zm.c o g b m λp q=>If (p != 0) (bL (g+b) λr=>f r q) (Nz 16<|bL (g.tdiv 16) λs=>WU [bN] (λt=>t s q) λu (v:Int) w=>bL (g+b) λx=>Nz 16<|bL (x.tdiv 16) λy=>If (v<y) (bF a 3 w λaa=>Yw.c aa v w λab ac=>bL (v+1) λad=>u ad ac) (bF a 2 w λaf=>Ym.c af g b w λag ah=>d true ah))) (d false m)
theorem Y9.o {a b c d}(e:Y9.v a b c d):Y9.c a b c d:=Wa Tryz.func223 (x:=Y9.h) (R0 e)
end Go.Proofs
namespace Go.Ar
open Go Go.Vc Go.Proofs
open Go.Bu (YS Q8 Zx)
inductive Lb where
 | hd|cH|free|l4|own|dF|cK|runs
 | cI (k:Nat)
 | cF (k:Nat)
 deriving DecidableEq
structure Lay where
 p:Nat
 hs:Nat
 fr:Nat
 tr:Nat
 op:Nat
 rn:Nat
 cH:Sl
 dF:Sl
 cK:Sl
 eU:List Nat
 fT:List Nat
def iZ (Y:Lay):List Value:=[.slice Y.cH.a Y.cH.len Y.cH.cap,.pointer (some ⟨Y.hs,0,none⟩),.pointer (some ⟨Y.fr,0,none⟩),.pointer (some ⟨Y.tr,0,none⟩),.pointer (some ⟨Y.op,0,none⟩),.slice Y.dF.a Y.dF.len Y.dF.cap,.slice Y.cK.a Y.cK.len Y.cK.cap,.map (some Y.rn)]
def fB (tb:List cD):List Value:=tb.flatMap λc=>[.int .i64 (c.size:Int),.int .i64 (c.bK:Int),.int .i64 (c.batch:Int)]
def eB (l:List Nat):List Value:=l.map λb=>.pointer (some ⟨b,0,none⟩)
def gK (l:List (Nat×Nat)):List (Int×Int):=l.map λr=>((r.1:Int),(r.2:Int))
def pj (p n:Nat)(S:Nat->Bool):Hp->Rg->Prop:=λU F=>∃sb ms,Go.Bu.BH U p n S sb ms/\∀b,Go.Bu.fp p sb ms b->F b
def ko (p:Nat)(st:List Nat):Hp->Rg->Prop:=λU F=>∃q,gG U p q st/\F p/\F q
def j2 (p:Option Nat)(c:Option cD)(ss:Option (List cM)):Hp->Rg->Prop:=λU F=>match p,c,ss with
 | some p,some c,some ss=>∃ps,eX U F p c ps ss
 | _,_,_=>True
def lC (p:Option Nat)(c:Option cD)(room:Nat)(t:Option gg):Hp->Rg->Prop:=λU F=>match p,c,t with
 | some p,some c,some t=>ij U F p c.batch room t
 | _,_,_=>True
def AC (A:AR)(Y:Lay)(T:Nat->Hp->Rg->Prop):Lb->Hp->Rg->Prop
 | .hd=>gR Y.p (iZ Y)
 | .cH=>cS Y.cH 3 (fB A.tb)
 | .free=>pj Y.fr A.n A.S
 | .l4=>ko Y.tr A.st
 | .own=>λU F=>gJ U F Y.op A.ow
 | .dF=>bR Y.dF 1 (eB Y.eU)
 | .cK=>bR Y.cK 1 (eB Y.fT)
 | .runs=>iT Y.rn .i64 bN (gK A.runs)
 | .cI k=>j2 Y.eU[k]? A.tb[k]? A.cI[k]?
 | .cF k=>T k
def cA (A:AR)(Y:Lay)(k:Nat):Hp->Rg->Prop:=lC Y.fT[k]? A.tb[k]? A.room A.cF[k]?
theorem pj.loc (p n:Nat)(S:Nat->Bool):dH (pj p n S):=by
 rintro U σ' F G ⟨j,g,h,r⟩ w s;have i:∀b,Go.Bu.fp p j g b->b<U.size:=λb a=>by
  unfold Go.Bu.fp at a;rcases zW.1 a with h1|h1
  ·obtain⟨c,m⟩:=h.hd;rw[h1];exact m.lt
  rcases zW.1 h1 with h2|h2
  ·obtain⟨c,m⟩:=h.row;rw[h2];exact m.lt
  ·obtain⟨k,x⟩:=zN h2;obtain⟨B,u,_⟩:=h.maps k b x;exact u.lt
 have e:Ext (λb=>¬Go.Bu.fp p j g b) U σ':=⟨w,λb a d=>(s b a (r b (Classical.not_not.1 d))).2⟩;exact⟨j,g,h.bV e λb a y=>y a,λb a=>(s b (i b a) (r b a)).1⟩
theorem ko.loc (p:Nat)(st:List Nat):dH (ko p st):=by
 rintro U σ' F G ⟨q,h,hp,i⟩ r a;have e:Ext (λb=>b≠p/\b≠q) U σ':=⟨r,λb j m=>by
  by_cases h1:b=p
  ·subst h1;exact(a b j hp).2
  ·have d:b=q:=Classical.byContradiction λd=>m ⟨h1,d⟩;subst d;exact(a b j i).2⟩
 exact⟨q,h.bV e (λg=>g.1 rfl) (λg=>g.2 rfl),(a p h.lt.1 hp).1,(a q h.lt.2 i).1⟩
theorem j2.loc (p:Option Nat)(c:Option cD)(ss:Option (List cM)):dH (j2 p c ss):=by
 rintro U e F G h d b;unfold j2 at *;split
 ·simp only at h;obtain⟨a,h⟩:=h;exact⟨a,eX.loc _ _ _ _ h d b⟩
 ·trivial
theorem lC.loc (p:Option Nat)(c:Option cD)(room:Nat)(t:Option gg):dH (lC p c room t):=by
 rintro U d F G h a b;unfold lC at *;split
 ·exact ij.loc _ _ _ _ h a b
 ·trivial
theorem AC.loc {A:AR}{Y:Lay}{T:Nat->Hp->Rg->Prop}(hT:∀k,dH (T k)):∀i,dH (AC A Y T i)
 | .hd=>gR.loc _ _
 | .cH=>cS.loc _ _ _
 | .free=>pj.loc _ _ _
 | .l4=>ko.loc _ _
 | .own=>gJ.loc
 | .dF=>bR.loc _ _ _
 | .cK=>bR.loc _ _ _
 | .runs=>iT.loc _ _ _ _
 | .cI k=>j2.loc _ _ _
 | .cF k=>hT k
theorem cA.loc {A:AR}{Y:Lay}(k:Nat):dH (cA A Y k):=lC.loc _ _ _ _
structure eZ (A:AR) (Y:Lay):Prop where
 c:Y.eU.length=A.tb.length
 t:Y.fT.length=A.tb.length
 cI:A.cI.length=A.tb.length
 cF:A.cF.length=A.tb.length
 lA:1<=A.tb.length
 nC:A.tb.length<=40
 n1:32<=A.n
 n2:A.n<=1024
 n3:A.n%16=0
 st:A.st.length=A.n
 room:A.room<=8
 ok:∀c∈A.tb,c.ok
structure dA (U:Hp) (F:Rg) (Y:Lay) (A:AR) (T:Nat->Hp->Rg->Prop):Prop where
 lay:eZ A Y
 tl:∀k,dH (T k)
 sep:Sep (AC A Y T) U F
def AH (U:Hp)(F:Rg)(p hs:Nat)(A:AR):Prop:=∃Y:Lay,Y.p=p/\Y.hs=hs/\dA U F Y A (cA A Y)
variable {U:Hp}{F:Rg}{p hs:Nat}{A:AR}{Y:Lay}{T:Nat->Hp->Rg->Prop}
theorem dA.loc:dH λU F=>dA U F Y A T:=λU d F G h a b=>⟨h.lay,h.tl,Sep.loc (AC.loc h.tl) _ _ _ _ h.sep a b⟩
theorem AH.loc:dH λU F=>AH U F p hs A:=λU e F G ⟨Y,a,d,h⟩ b hs=>⟨Y,a,d,dA.loc _ _ _ _ h b hs⟩
theorem dA.aF {σ':Hp}(h:dA U F Y A T)(e:aG U σ'):dA σ' F Y A T:=dH.aF dA.loc h e
theorem dA.hd (h:dA U F Y A T):bY U Y.p (iZ Y):=by
 obtain⟨G,b,hp,a⟩:=h.sep.get .hd;exact a
theorem V7 (tb:List cD):(fB tb).length=tb.length*3:=by
 induction tb with
 | nil=>rfl
 | cons x l ih=>simp only[fB,mU,zR,zV,lS]at *;omega
theorem yb {tb:List cD}{i:Nat}{c:cD}(h:tb[i]?=some c):(fB tb)[3*i]?=some (.int .i64 (c.size:Int))/\(fB tb)[3*i+1]?=some (.int .i64 (c.bK:Int))/\(fB tb)[3*i+2]?=some (.int .i64 (c.batch:Int)):=by
 induction tb generalizing i with
 | nil=>simp at h
 | cons x l ih=>
  have e:fB (x::l)=[.int .i64 (x.size:Int),.int .i64 (x.bK:Int),.int .i64 (x.batch:Int)]++fB l:=by simp[fB]
  rw[e];cases i with
  | zero=>simp at h;subst h;simp
  | succ i=>
   have:=ih (i:=i) (by simpa using h);rw[show 3*(i+1)=3*i+3 by omega];simpa using this
theorem dA.oy (h:dA U F Y A T):Y.cH.len=A.tb.length:=by
 obtain⟨G,b,a⟩:=h.sep.get .cH;have:=a.1;rw[V7]at this;omega
theorem r8 {s:Sl}{tb:List cD}(h:cS s 3 (fB tb) U F){k d:Nat}{c:cD}(hc:tb[k]?=some c)(hd:d<3){K:Int->Prop}(hK:K (if d=0 then c.size else if d=1 then c.bK else c.batch:Nat)) :
 Ix s.a s.len (k:Int) 3 λa=>gO .i64 (a.add d) U K:=by
 have g:=yb hc;have i:(fB tb)[3*k+d]?=some (.int .i64 ((if d=0 then c.size else if d=1 then c.bK else c.batch:Nat):Int)):=by
  match d,hd with
  | 0,_=>exact g.1
  | 1,_=>exact g.2.1
  | 2,_=>exact g.2.2
 have p:=(cV.1 hc).1;obtain⟨b,o,m,e⟩:=h.cell i;have j:=h.1;rw[V7]at j;rw[m];refine ix O O ?_;rw[add_lit,add_lit];refine nL ?_ hK;rw[show o+(k:Int).toNat*3+d=o+(3*k+d) by omega];exact e
theorem dA.vF (h:dA U F Y A T){k d:Nat}{c:cD}(hc:A.tb[k]?=some c)(hd:d<3){K:Int->Prop}(hK:K (if d=0 then c.size else if d=1 then c.bK else c.batch:Nat)) :
 Ix Y.cH.a Y.cH.len (k:Int) 3 λa=>gO .i64 (a.add d) U K:=by
 obtain⟨G,e,b⟩:=h.sep.get .cH;exact r8 b hc hd hK
theorem C1 {s:Sl}{l:List Nat}(h:cS s 1 (eB l) U F){k q:Nat}(hq:l[k]?=some q){K:Option Addr->Prop}(hK:K (some ⟨q,0,none⟩)):Ix s.a s.len (k:Int) 1 λa=>fW a U K:=by
 have i:=(cV.1 hq).1;obtain⟨b,o,e,d⟩:=h.cell (j:=k) (v:=.pointer (some ⟨q,0,none⟩)) (by simp[eB,hq]);have g:=h.1;simp[eB]at g;rw[e];refine ix O O ?_;rw[add_lit];exact tN (by rw[show o+(k:Int).toNat*1=o+k by omega];exact d) hK
theorem dA.sv (h:dA U F Y A T):Y.dF.len=A.tb.length:=by
 obtain⟨G,b,a⟩:=h.sep.get .dF;have:=a.1;have:=h.lay.c;simp[eB]at *;omega
theorem dA.jb (h:dA U F Y A T):Y.cK.len=A.tb.length:=by
 obtain⟨G,b,a⟩:=h.sep.get .cK;have:=a.1;have:=h.lay.t;simp[eB]at *;omega
theorem dA.kc (h:dA U F Y A T){k q:Nat}(hq:Y.eU[k]?=some q){K:Option Addr->Prop}(hK:K (some ⟨q,0,none⟩)):Ix Y.dF.a Y.dF.len (k:Int) 1 λa=>fW a U K:=by
 obtain⟨G,d,b⟩:=h.sep.get .dF;exact C1 (bR.fM b) hq hK
theorem dA.pZ (h:dA U F Y A T){k q:Nat}(hq:Y.fT[k]?=some q){K:Option Addr->Prop}(hK:K (some ⟨q,0,none⟩)):Ix Y.cK.a Y.cK.len (k:Int) 1 λa=>fW a U K:=by
 obtain⟨G,d,b⟩:=h.sep.get .cK;exact C1 (bR.fM b) hq hK
theorem dA.at_ (h:dA U F Y A T){k:Nat}(hk:k<A.tb.length):∃c ss q t r,A.tb[k]?=some c/\A.cI[k]?=some ss/\Y.eU[k]?=some q/\A.cF[k]?=some t/\Y.fT[k]?=some r/\c.ok:=by
 have d:=h.lay.c;have b:=h.lay.t;have e:=h.lay.cI;have a:=h.lay.cF;exact⟨A.tb[k],A.cI[k],Y.eU[k],A.cF[k],Y.fT[k],by simp,by simp,by simp,by simp,by simp,h.lay.ok _ (zb hk)⟩
theorem EW {k q:Nat}{c:cD}{ss:List cM}{G:Rg}(h1:Y.eU[k]?=some q)(h2:A.tb[k]?=some c)(h3:A.cI[k]?=some ss)(h:AC A Y T (.cI k) U G):∃ps,eX U G q c ps ss:=by
 simp only[AC]at h;rw[h1,h2,h3]at h;exact h
theorem dA.cI (h:dA U F Y A T){k q:Nat}{c:cD}{ss:List cM}(h1:Y.eU[k]?=some q)(h2:A.tb[k]?=some c)(h3:A.cI[k]?=some ss):∃G ps,(∀b,G b->F b)/\eX U G q c ps ss:=by
 obtain⟨G,a,e⟩:=h.sep.get (.cI k);obtain⟨ps,d⟩:=EW h1 h2 h3 e;exact⟨G,ps,a,d⟩
theorem VB (h:dA U F Y A T){R:aO}(hR:R true U):WE.c (aW Y.p) U R:=by
 refine WE.o ?_;unfold WE.v;exact bW.intro (cJ rfl (bO (h.hd.rP rfl hR)))
theorem U7 (h:dA U F Y A T)(k:Int){R:aN}(h1:A.ck k=false->R 1 U)(h0:∀x:Nat,k=x->x<A.tb.length->R 0 U):WY.c (aW Y.p) k U R:=by
 refine WY.o ?_;unfold WY.v;have g:=h.oy;have a:¬(0<=k/\k<A.tb.length)->R 1 U:=λe=>h1 (by unfold AR.ck;rw[←uF];exact zJ e);refine VB h (bZ rfl (bW.intro (cL (λd=>cJ rfl (a O)) λd=>bO (h.hd.rS rfl (cL (λb=>?_) λb=>?_)))))
 ·simp only at b;exact a O
 ·simp only at b;exact h0 k.toNat O O
theorem LZ (h:dA U F Y A T)(x:Int){R:aO}(hR:R (pA A x) U):Zd.c (aW Y.p) x U R:=by
 refine Zd.o ?_;unfold Zd.v;obtain⟨G,b,q,a,_⟩:=h.sep.get .l4;refine VB h (bW.intro (cJ rfl (bO (h.hd.rP rfl (ξ a x ?_)))));have:decide (yE A.st x>0)=pA A x:=by
  unfold yE pA;by_cases hx:0<=x
  ·by_cases hl:x<A.st.length
   ·rw[zB ⟨hx,hl⟩,zI hx,sF,decide_eq_decide];omega
   ·rw[zA O,zI hx,sF,zM,zO O];rfl
  ·rw[zA O,zJ hx];rfl
 rw[this];exact hR
structure gY (A:AR):Prop where
 sR:∀r∈A.runs,∀s∈A.runs,∀x,r.1<=x->x<r.1+r.2->s.1<=x->x<s.1+s.2->r=s
 vq:∀x,x<1024->A.ow x=41->(sC A x).isSome=true
 cls:∀x,x<1024->A.ow x≠0->A.ow x≠41->A.ow x<=A.tb.length
 fit:∀r∈A.runs,r.1+r.2<=1024
theorem Gg (h:gY A){x:Nat}{r:Nat×Nat}(hr:r∈A.runs)(h1:r.1<=x)(h2:x<r.1+r.2):sC A x=some r:=by
 cases hf:sC A x with
 | none=>
  unfold sC at hf;rw[qw]at hf;have:=hf r hr;simp[h1,h2]at this
 | some s=>
  unfold sC at hf;have a:=sg hf;have hp:=sy hf;simp at hp;rw[h.sR r hr s a x h1 h2 hp.1 hp.2]
theorem FD (h:dA U F Y A T)(hr:gY A)(x:Int)(hx:iz x){R:Int->Int->Int->Hp->Prop}(h1:∀σ' k a,aG U σ'->Ux A x=some (k,a)->R k (a:Int) 0 σ')(h0:∀σ',aG U σ'->Ux A x=none->R 0 0 8 σ') :
 Yr.c (aW Y.p) x U R:=by
 refine Yr.o ?_;unfold Yr.v;refine VB h (bZ rfl (cL (λc1=>h0 U (Ext.refl _ _) (by unfold Ux;rw[zB c1])) λc1=>bO (h.hd.rP rfl (nz aB ?_))));obtain⟨y,rfl⟩:=zf (show 0<=x by omega);have hy:y<=9223372036854775807:=by unfold iz at hx;omega
 have X:((y:Int).tdiv 256)=((y/256:Nat):Int):=by rw[Xq O];simp
 refine ar (by rw[X];omega) (by rw[X];omega) ?_;rw[X];obtain⟨G,hG,hP⟩:=h.sep.get .own;refine Jb hP _ ?_;have eo:pE A.ow ((y/256:Nat):Int)=if y/256<1024 then A.ow (y/256)else 0:=by
  unfold pE;by_cases hl:y/256<1024
  ·rw[zB O,zB hl];rfl
  ·rw[zA O,zA hl]
 have g:Ux A (y:Int)=(let no:=if y/256<1024 then A.ow (y/256)else 0
  if no=0 then none else if no=41 then(sC A (y/256)).map λr=>(-1,r.1*256)else
  match A.tb[no-1]?,A.cI[no-1]? with
  | some c,some ss=>(rk c ss (y:Int)).map λa=>(((no-1:Nat):Int),a)
  | _,_=>none):=by
  unfold Ux;rw[zA c1];rfl
 rw[eo];generalize hno:(if y/256<1024 then A.ow (y/256)else 0)=no at *
 simp only at g;rw[sT];refine cU (λW=>h0 U (Ext.refl _ _) (by rw[g,zB (by simpa using W)])) λW=>?_;have C:no≠0:=by simpa using W
 rw[zA C]at g;have D:y/256<1024:=by
  rcases zq (y/256) 1024 with h|h
  ·exact h
  ·rw[zA O]at hno;exact absurd hno.symm C
 rw[zB D]at hno;refine Jn.intro ?_;have aa:(((no:Nat):Int)==41)=(no==41):=jg no 41;rw[aa];refine cU (λc2=>?_) λc2=>?_
 ·have w:no=41:=by simpa using c2
  subst w;rw[zB rfl]at g;obtain⟨r,H⟩:=qh.1 (hr.vq _ D hno);have j:=sg H;have E:=sy H;simp at E;obtain⟨G,hG,L⟩:=h.sep.get .runs;refine bO (h.hd.rM rfl ?_);refine q9 L.2 (λb v=>aG U v/\(∀z∈b,z∈gK A.runs)/\((r.1:Int),(r.2:Int))∈b) (λv hz e=>⟨e,λz hz=>hz,zD.2 ⟨r,j,rfl⟩⟩) (λv hv=>absurd hv.2.2 aA) ?_;rintro b n z v v' J ⟨e,d,B⟩ hm ho hlt2 hJ;have e':aG U v':=Ext.fresh e ho.ext λi hi=>by omega
  obtain⟨s,P,S⟩:=zD.1 (d _ hm);cases S;have hfit:=hr.fit s P;refine nz aB (ar O O ?_);refine bW.intro (cL (λc3=>ar O O (cL (λc4=>?_) λc4=>?_)) λc3=>bZ rfl ?_)
  ·have V:=Gg hr P (x:=y/256) O O;refine ar O O ?_;have:=h1 v' (-1) (s.1*256) e' (by rw[g,V];rfl);simpa using this
  ·refine hJ v' rfl rfl ⟨e',λu Q=>d u (zH.1 Q).1,zH.2 ⟨B,?_⟩⟩;have:¬(r.1:Int)=(s.1:Int):=λe=>by
    have:=Gg hr j E.1 E.2;have e1:r.1=s.1:=by omega
    by_cases h2:r.2=0
    ·omega
    by_cases h3:s.2=0
    ·have:=L.2.nodup;have K:=Ka this (zD.2 ⟨r,j,rfl⟩);have M:=Ka this (zD.2 ⟨s,P,rfl⟩);rw[e1,M]at K;have:s.2=r.2:=by
      have:(s.2:Int)=(r.2:Int):=Option.some.inj K;omega
     omega
    ·have:=hr.sR r j s P r.1 O O O O;subst this;omega
   simpa using this
  ·refine hJ v' rfl rfl ⟨e',λu Q=>d u (zH.1 Q).1,zH.2 ⟨B,?_⟩⟩;have:¬(r.1:Int)=(s.1:Int):=λe=>by omega
   simpa using this
 ·have w:no≠41:=by simpa using c2
  rw[zA w]at g;have Z:=hr.cls _ D (by rw[hno];exact C) (by rw[hno];exact w);rw[hno]at Z;obtain⟨c,ss,q,t,r,hc,N,hq,_,_,hok⟩:=h.at_ (k:=no-1) O;obtain⟨G,ps,hG,hC⟩:=h.cI hq hc N;rw[hc,N]at g;simp only at g;refine bO (h.hd.rS rfl (cC (m:=no-1) O (by have:=h.lay.nC;omega) (h.kc hq (ON hC _ hx (λa ha=>?_) λha=>?_))))
  ·refine bZ rfl (cC (m:=no-1) O (by have:=h.lay.nC;omega) (h1 U _ a (Ext.refl _ _) ?_));rw[g,ha];rfl
  ·refine cJ rfl (h0 U (Ext.refl _ _) ?_);rw[g,ha];rfl
end Go.Ar
namespace Go.Ar
open Go Go.Vc Go.Proofs
open Go.Bu (YS Q8 Zx)
open Classical in
theorem _root_.Go.Vc.Sep.jx {L:Type}{C:L->Hp->Rg->Prop}{U:Hp}{F:Rg}(hC:∀i,dH (C i))(h:Sep C U F)(i:L):∃G:Rg,(∀b,G b->F b)/\C i U G/\(∀j,j≠i->∃H:Rg,(∀b,H b->F b)/\(∀b,H b->¬G b)/\C j U H)/\∀(σ':Hp) (C':L->Hp->Rg->Prop) (G':Rg),
 (∀j,j≠i->C' j=C j)->Ext G U σ'->(∀b,G' b->G b\/U.size<=b)->C' i σ' G'->dH (C' i)->Sep C' σ' λb=>F b/\b<U.size/\¬G b\/G' b:=by
 obtain⟨ρ,h⟩:=h;refine⟨_,λb a=>a.1,h i,λj r=>⟨_,λb a=>a.1,λb m w=>r (m.2.symm.trans w.2),h j⟩,λσ' C' G' r e x u y=>⟨λb=>if G' b then i else ρ b,λj=>?_⟩⟩
 by_cases hji:j=i
 ·subst hji;exact y.mono u λb _ a=>⟨.inr a,zB a⟩
 ·rw[r j hji];refine hC j _ _ _ _ (h j) e.1 λb a p=>?_;have d:¬(F b/\ρ b=i):=λs=>hji (p.2.symm.trans s.2);have g:¬G' b:=λs=>by
   rcases x b s with m|m
   ·exact d m
   ·omega
  exact⟨⟨.inl ⟨p.1,a,d⟩,(zA g).trans p.2⟩,e.2 b a d⟩
variable {U:Hp}{F:Rg}{p hs:Nat}{A:AR}{Y:Lay}{T:Nat->Hp->Rg->Prop}
theorem dA.step (h:dA U F Y A T)(i:Lb):∃G:Rg,(∀b,G b->F b)/\AC A Y T i U G/\(∀j,j≠i->∃H:Rg,(∀b,H b->F b)/\(∀b,H b->¬G b)/\AC A Y T j U H)/\∀(σ':Hp) (A':AR) (Y':Lay) (T':Nat->Hp->Rg->Prop) (G' H:Rg),
 eZ A' Y'->(∀k,dH (T' k))->(∀j,j≠i->AC A' Y' T' j=AC A Y T j)->Ext G U σ'->(∀b,G' b->G b\/U.size<=b)->AC A' Y' T' i σ' G'->(∀b,(F b/\b<U.size/\¬G b\/G' b)->H b)->dA σ' H Y' A' T':=by
 obtain⟨G,m,p,hd,a⟩:=h.sep.jx (AC.loc h.tl) i;refine⟨G,m,p,hd,λσ' A' Y' T' G' H x d s e w g r=>⟨x,d,?_⟩⟩;exact(Sep.loc (AC.loc d)).mono (a σ' _ G' s e w g (AC.loc d i)) λb _ u=>r b u
theorem HT {U:Hp}{F G G':Rg}(hG:∀b,G b->F b)(hg:∀b,G' b->G b\/U.size<=b):∀b,(F b/\b<U.size/\¬G b\/G' b)->Grow F U b:=λb a=>by
 rcases a with a|a
 ·exact .inl a.1
 ·exact(hg b a).imp (hG b) id
theorem vA {U:Hp}{F G G':Rg}(hG:∀b,G b->F b)(hg:∀b,G' b->G b):∀b,(F b/\b<U.size/\¬G b\/G' b)->F b:=λb a=>by
 rcases a with a|a
 ·exact a.1
 ·exact hG b (hg b a)
theorem CJ {U:Hp}{F G:Rg}(hG:∀b,G b->F b):∀b,(F b/\b<U.size/\¬G b\/Cut G U b)->Cut F U b:=λb a=>by
 rcases a with a|a
 ·exact⟨a.1,a.2.1⟩
 ·exact⟨hG b a.1,a.2⟩
theorem F4 {ow:Nat->Nat}:∀j,j≠Lb.own->AC {A with ow:=ow} Y T j=AC A Y T j:=by
 intro j hj;cases j<;>first|rfl|exact absurd rfl hj
theorem Og {st:List Nat}:∀j,j≠Lb.l4->AC {A with st:=st} Y T j=AC A Y T j:=by
 intro j hj;cases j<;>first|rfl|exact absurd rfl hj
theorem BY {S:Nat->Bool}:∀j,j≠Lb.free->AC {A with S:=S} Y T j=AC A Y T j:=by
 intro j hj;cases j<;>first|rfl|exact absurd rfl hj
theorem OD {rs:List (Nat×Nat)}:∀j,j≠Lb.runs->AC {A with runs:=rs} Y T j=AC A Y T j:=by
 intro j hj;cases j<;>first|rfl|exact absurd rfl hj
theorem NM {k:Nat}{ss:List cM}:∀j,j≠Lb.cI k->AC {A with cI:=A.cI.set k ss} Y T j=AC A Y T j:=by
 intro j hj;cases j<;>first|rfl|skip
 rename_i k';have a:k≠k':=λe=>hj (by rw[e]);simp only[AC];rw[zd a]
theorem eZ.ow {ow:Nat->Nat}(h:eZ A Y):eZ {A with ow:=ow} Y:=⟨h.c,h.t,h.cI,h.cF,h.lA,h.nC,h.n1,h.n2,h.n3,h.st,h.room,h.ok⟩
theorem eZ.Ax {S:Nat->Bool}(h:eZ A Y):eZ {A with S:=S} Y:=⟨h.c,h.t,h.cI,h.cF,h.lA,h.nC,h.n1,h.n2,h.n3,h.st,h.room,h.ok⟩
theorem eZ.qL {rs:List (Nat×Nat)}(h:eZ A Y):eZ {A with runs:=rs} Y:=⟨h.c,h.t,h.cI,h.cF,h.lA,h.nC,h.n1,h.n2,h.n3,h.st,h.room,h.ok⟩
theorem eZ.vJ {st:List Nat}(h:eZ A Y)(hl:st.length=A.st.length):eZ {A with st:=st} Y:=⟨h.c,h.t,h.cI,h.cF,h.lA,h.nC,h.n1,h.n2,h.n3,hl.trans h.st,h.room,h.ok⟩
theorem eZ.lu {k:Nat}{ss:List cM}(h:eZ A Y):eZ {A with cI:=A.cI.set k ss} Y:=⟨h.c,h.t,by simpa using h.cI,h.cF,h.lA,h.nC,h.n1,h.n2,h.n3,h.st,h.room,h.ok⟩
theorem Cy (st:List Nat)(a m:Int)(v:Nat)(fr:List Nat):(Uu st a m v fr).length=st.length:=by
 unfold Uu;split<;>simp[QH]
theorem MN (st:List Nat)(k:Int):(jo st k).length=st.length:=by
 unfold jo;split<;>simp[QH]
theorem Pn (st:List Nat)(k:Int):(jK st k).length=st.length:=by
 unfold jK;split<;>simp[QH]
theorem dA.Clear (h:dA U F Y A T)(a m:Nat)(ha:a<=1000000){R:aN}(hR:∀σ' t,Ext F U σ'->dA σ' (Grow F U) Y {A with ow:=ju A.ow a m 0} T->R t σ'):XP.c (aW Y.op) a m U R:=by
 obtain⟨G,i,j,_,d⟩:=h.step .own;refine SG j a m ha λσ' e p=>hR σ' _ (e.sub i) ?_;exact d σ' _ _ T (Grow G U) _ h.lay.ow h.tl F4 e (λb g=>g) p (HT i λb g=>g)
theorem dA.Set (h:dA U F Y A T)(a m:Nat)(ha:a<=1000000){no:Nat}(h1:1<=no)(h2:no<=1000){R:aN}(hR:∀σ' t,Ext F U σ'->dA σ' (Grow F U) Y {A with ow:=ju A.ow a m no} T->R t σ'):Yq.c (aW Y.op) a m no U R:=by
 obtain⟨G,i,j,_,d⟩:=h.step .own;refine Tv j a m ha h1 h2 λσ' e p=>hR σ' _ (e.sub i) ?_;exact d σ' _ _ T (Grow G U) _ h.lay.ow h.tl F4 e (λb g=>g) p (HT i λb g=>g)
theorem dA.l4 (h:dA U F Y A T):∃G:Rg,(∀b,G b->F b)/\∃q,gG U Y.tr q A.st/\F q/\∀(σ':Hp) (st:List Nat),st.length=A.st.length->Ext (· = q) U σ'->gG σ' Y.tr q st->Ext F U σ'/\dA σ' F Y {A with st:=st} T:=by
 obtain⟨G,i,⟨q,j,r,g⟩,_,d⟩:=h.step .l4;refine⟨G,i,q,j,i _ g,λσ' st m e p=>⟨e.sub λb a=>by subst a;exact i _ g,?_⟩⟩;exact d σ' _ _ T G _ (h.lay.vJ m) h.tl Og (e.sub λb a=>by subst a;exact g) (λb a=>.inl a) ⟨q,p,r,g⟩ (vA i λb a=>a)
theorem dA.xq (h:dA U F Y A T)(a m:Int){R:aN}(hR:∀σ' t,Ext F U σ'->dA σ' F Y {A with st:=Uu A.st a m 2 [1]} T->R t σ'):Xz.c (aW Y.tr) a m U R:=by
 obtain⟨G,i,q,d,_,b⟩:=h.l4;refine TC d a m λσ' e g=>?_;have:=b σ' _ (Cy _ _ _ _ _) e g;exact hR σ' _ this.1 this.2
theorem dA.S5 (h:dA U F Y A T)(a m:Int){R:aN}(hR:∀σ' t,Ext F U σ'->dA σ' F Y {A with st:=Uu A.st a m 1 [2,3]} T->R t σ'):XL.c (aW Y.tr) a m U R:=by
 obtain⟨G,i,q,d,_,b⟩:=h.l4;refine Ou d a m λσ' e g=>?_;have:=b σ' _ (Cy _ _ _ _ _) e g;exact hR σ' _ this.1 this.2
theorem dA.Rel (h:dA U F Y A T)(a m:Int){R:aN}(hR:∀σ' t,Ext F U σ'->dA σ' F Y {A with st:=Uu A.st a m 3 [2]} T->R t σ'):Xd.c (aW Y.tr) a m U R:=by
 obtain⟨G,i,q,d,_,b⟩:=h.l4;refine PX d a m λσ' e g=>?_;have:=b σ' _ (Cy _ _ _ _ _) e g;exact hR σ' _ this.1 this.2
theorem dA.Cp (h:dA U F Y A T)(k:Int){R:aN}(hR:∀σ' t,Ext F U σ'->dA σ' F Y {A with st:=jo A.st k} T->R t σ'):Yw.c (aW Y.tr) k U R:=by
 obtain⟨G,g,q,b,_,a⟩:=h.l4;refine γ b k λσ' e d=>?_;have:=a σ' _ (MN _ _) e d;exact hR σ' _ this.1 this.2
theorem dA.AM (h:dA U F Y A T)(k:Int){R:aN}(hR:∀σ' t,Ext F U σ'->dA σ' F Y {A with st:=jK A.st k} T->R t σ'):Xj.c (aW Y.tr) k U R:=by
 obtain⟨G,g,q,b,_,a⟩:=h.l4;refine TL b k λσ' e d=>?_;have:=a σ' _ (Pn _ _) e d;exact hR σ' _ this.1 this.2
theorem dA.free (h:dA U F Y A T):∃sb ms,Go.Bu.BH U Y.fr A.n A.S sb ms/\∀(σ':Hp) (S:Nat->Bool),Ext (· ∈ ms) U σ'->Go.Bu.BH σ' Y.fr A.n S sb ms->Ext F U σ'/\dA σ' F Y {A with S:=S} T:=by
 obtain⟨G,j,⟨sb,ms,p,i⟩,_,d⟩:=h.step .free;have g:∀b,b∈ms->G b:=λb a=>i b (by unfold Go.Bu.fp;simp[a]);refine⟨sb,ms,p,λσ' S e m=>⟨e.sub λb a=>j b (g b a),?_⟩⟩;exact d σ' _ _ T G _ h.lay.Ax h.tl BY (e.sub g) (λb a=>.inl a) ⟨sb,ms,m,i⟩ (vA j λb a=>a)
theorem dA.vz (h:dA U F Y A T)(a m:Int){R:aN}(hR:∀σ' t,Ext F U σ'->dA σ' F Y {A with S:=Q8 A.n A.S a m} T->R t σ'):Ym.c (aW Y.fr) a m U R:=by
 obtain⟨i,j,d,b⟩:=h.free;refine Go.Bu.qN d a m λσ' e g=>?_;have:=b σ' _ e g;exact hR σ' _ this.1 this.2
theorem dA.rJ (h:dA U F Y A T)(a m:Int){R:aN}(hR:∀σ' t,Ext F U σ'->dA σ' F Y {A with S:=Go.Bu.j6 A.n A.S a m} T->R t σ'):XC.c (aW Y.fr) a m U R:=by
 obtain⟨i,j,d,b⟩:=h.free;refine Go.Bu.nk d a m λσ' e g=>?_;have:=b σ' _ e g;exact hR σ' _ this.1 this.2
theorem dA.wM (h:dA U F Y A T)(a m:Int){R:Int->Int->Hp->Prop}(hR:∀σ',Ext F U σ'->dA σ' F Y {A with S:=Go.Bu.jF A.n A.S a m} T->R ((Go.Bu.jm A.n A.S a m:Nat):Int) (Go.Bu.jl A.n A.S a m) σ'):XS.c (aW Y.fr) a m U R:=by
 obtain⟨i,j,d,b⟩:=h.free;refine Go.Bu.lD d a m λσ' e g=>?_;have:=b σ' _ e g;exact hR σ' this.1 this.2
def rV (rs:List (Nat×Nat)):List Value:=rs.flatMap λr=>[.int .i64 (r.1:Int),.int .i64 (r.2:Int)]
theorem y6 (rs:List (Nat×Nat)):(rV rs).length=rs.length*2:=by
 induction rs with
 | nil=>rfl
 | cons x l ih=>simp only[rV,mU,zR,zV,lS]at *;omega
theorem Μ {l:List (Nat×Nat)}{i:Nat}{r:Nat×Nat}(h:l[i]?=some r):(rV l)[2*i]?=some (.int .i64 (r.1:Int))/\(rV l)[2*i+1]?=some (.int .i64 (r.2:Int)):=by
 induction l generalizing i with
 | nil=>simp at h
 | cons x l ih=>
  have e:rV (x::l)=[.int .i64 (x.1:Int),.int .i64 (x.2:Int)]++rV l:=by simp[rV]
  rw[e];cases i with
  | zero=>simp at h;subst h;simp
  | succ i=>
   have:=ih (i:=i) (by simpa using h);rw[show 2*(i+1)=2*i+2 by omega];simpa using this
theorem FY (c:cD)(l:List Nat):je c l=rV (l.map λs=>(s,c.bK)):=by
 simp[je,rV,List.flatMap_map]
theorem ER {s:Sl}{rs:List (Nat×Nat)}(h:cS s 2 (rV rs) U F){i:Nat}{r:Nat×Nat}(hr:rs[i]?=some r){K:Int->Int->Prop}(hK:K (r.1:Int) (r.2:Int)) :
 Ix s.a s.len (i:Int) 2 λa=>gO .i64 (a.add 0) U λu=>gO .i64 (a.add 1) U λw=>K u w:=by
 have g:=Μ hr;have x:=(cV.1 hr).1;obtain⟨b,o,j,p⟩:=h.cell g.1;obtain⟨y,o1,d,e⟩:=h.cell g.2;rw[j]at d;cases d;have m:=h.1;rw[y6]at m;rw[j];refine ix O O ?_;rw[add_lit];refine nL ?_ (nL ?_ hK)<;>rw[add_lit]
 ·rw[show o+(i:Int).toNat*2+0=o+2*i by omega];exact p
 ·rw[show o+(i:Int).toNat*2+1=o+(2*i+1) by omega];exact e
theorem dA.mono {G:Rg}(h:dA U F Y A T)(hs:∀b,b<U.size->F b->G b):dA U G Y A T:=dH.mono dA.loc h hs
theorem dA.cut (h:dA U F Y A T):dA U (Cut F U) Y A T:=dH.cut dA.loc h
theorem Pg (A:AR)(rs:List (Nat×Nat))(r:Nat×Nat):Us A (rs++[r])=UH (Us A rs) r:=by simp[Us]
theorem Bs (h:dA U F Y A T){sl:Sl}{rs:List (Nat×Nat)}{X:Rg}(hs:cS sl 2 (rV rs) U X)(hX:∀b,b<U.size->X b->¬F b)(hl:rs.length<=1000000)(hb:∀r∈rs,r.1<=1000000){R:aP}
 (hR:∀σ',Ext F U σ'->dA σ' (Grow F U) Y (Us A rs) T->R σ'):Xh.c (aW Y.p) sl U R:=by
 refine Xh.o ?_;unfold Xh.v;have Q:sl.len=rs.length:=by have:=hs.1;rw[y6]at this;omega
 have J:cS sl 2 (rV rs) U (Cut X U):=aH.cut hs;refine Zw (a:=bN) (λ(t:Int) v=>∃i:Nat,t=(i:Int)/\i<=rs.length/\Ext F U v/\dA v (Grow F U) Y (Us A (rs.take i)) T) (λt _=>rs.length-t.toNat) ⟨0,rfl,O,Ext.refl _ _,by simpa[Us]using h.mono λb _ hb=>.inl hb⟩ ?_;rintro t v ⟨i,rfl,P,e,D⟩;refine cL (λhlt=>?_) λhge=>?_
 ·have x:i<rs.length:=by omega
  have y:rs[i]?=some rs[i]:=cQ x;have K:=hb _ (zb x);have M:=aH.bV J e λb C y w=>hX b C y.1 w;refine ER M y ?_;have L:rs.take (i+1)=rs.take i++[rs[i]]:=by rw[zj,y];rfl
  generalize rs[i]=r at *;refine nw (cs:=[.int .i64 0,.int .i64 0]) λv4 hz4 e4 z=>z.s1 aA λv5 o5 b5=>b5.s1 aA λv6 o6 b6=>?_;have s:aG v v6:=Ext.fresh (Ext.fresh e4 o5.ext λi P=>O) o6.ext λi P=>by omega
  have u:=D.cut.aF s;have Z:¬Cut (Grow F U) v v.size:=λw=>by have:=w.2;omega
  have g:bY v6 v.size [.int .i64 (r.1:Int),.int .i64 (r.2:Int)]:=b6;have z6:v.size<v6.size:=b6.lt;refine bO (u.hd.rP rfl (g.rI rfl (g.rI rfl (u.Clear r.1 r.2 K λv7 t7 S N=>?_))));have E:=S.bX g Z;have d:=N.mono (G:=λb=>Cut (Grow F U) v b\/v.size<b) λb _ hb=>by
   rcases hb with hb|hb
   ·exact .inl hb
   ·exact .inr O
  have H:¬(Cut (Grow F U) v v.size\/v.size<v.size):=λw=>by
   rcases w with h|h
   ·exact Z h
   ·omega
  refine bO (d.hd.rP rfl (E.rI rfl (E.rI rfl (d.xq _ _ λv8 t8 V j=>?_))));have W:=V.bX E H;refine bO (j.hd.rP rfl (W.rI rfl (W.rI rfl (j.vz _ _ λv9 t9 e9 B=>?_))));have sub:∀b,(Cut (Grow F U) v b\/v.size<b)->Grow F U b:=λb hb=>by
   rcases hb with hb|hb
   ·exact hb.1
   ·exact .inr (by have:=e.1;omega)
  have ee:Ext F U v9:=((((e.trans (aG.to s)).iK (S.sub λb hb=>hb.1))).iK (V.sub sub)).iK (e9.sub sub);refine cC (m:=i+1) O O ⟨⟨i+1,rfl,O,ee,?_⟩,O⟩;rw[L,Pg];exact B.mono λb _ hb=>sub b hb
 ·have:i=rs.length:=by omega
  subst this;rw[zy]at D;exact hR v e D
end Go.Ar
namespace Go.Proofs
open Go.Vc
set_option maxRecDepth 100000
def XW.h:Hn:=.q .o1 (.q (.q .o3 .aK) (.q (.cW (.gM true [] [(3,.one .p)] (.tk [0,1,2,3,5,6,7,8] (.all [(4,.all [(9,.take 10 (.all [(11,.take 12 (.done))]))]),(9,.all [(4,.take 10 (.all [(11,.take 12 (.done))]))])])))) (.q (.q .o5 (.k (.loop [] (.q (.cW (.seq [.it .i64 .p,.op])) (.q (.c .l .l) (.k (.q (.cW (.seq [.it .i64 .p,.op,.op,.op,.op])) (.cW (.held true [20] (.tk [0,1,2,3,4,5,6,7,8,10,11,12,13,14,15,16,17] (.all [(9,.take 18 (.all [(19,.all [(20,.done)])]))]))))))))))) .aL)))
def XW.v (a:R2)(b:Hp)(c:Option Addr->Hp->Prop):Prop:=W9.c a b λd e=>If (!d) (c none e) (Jn [.p] (λ(f:R2) g=>bI a 2 g λi=>pG .i64 .p i g λj k=>WU [] (λl=>l k) λm n=>pN .i64 .p j n (c f n) (λo p q=>qf .i64 .p j q λr s=>dP q λt=>bU f λu=>fR t .m (u.add 2) λ(v:Option Nat)=>bU s λw=>aT t w 0 λx=>bU s λy=>aS t y 1 λz=>bU s λaa=>aS t aa 2 λab=>Wk.c x q λac ad=>And (t ad) <| aV #[.slice ac.a ac.len ac.cap,.I z,.I ab] 148 ad λae af=>And (t af) <| jS .i64 .p v r (some ae) af λag=>m ag)) λah=>dP e λai=>bU a λaj=>aT ai aj 0 λak=>bU a λal=>aS ai al 1 λam=>(Wb.c ak e λan ao=>And (ai ao) <| Nw (.map #[] 0) ao λap aq=>And (ai aq) <| aV #[.slice an.a an.len an.cap,.I am,.map (some ap.block)] 145 aq λar au=>And (ai au) <| ah (some ar) au) ∧ (Nw (.map #[] 0) e λav aw=>And (ai aw) <| Wb.c ak aw λax ay=>And (ai ay) <| aV #[.slice ax.a ax.len ax.cap,.I am,.map (some av.block)] 145 ay λaz a0=>And (ai a0) <| ah (some az) a0))
theorem XW.o {a b c}(d:XW.v a b c):XW.c a b c:=Wa Tryz.func46 (x:=XW.h) (R0 d)
def W9.h:Hn:=.q .o1 (.q (.cW (.seq [.op,.op,.op,.cY true 5 (RI.ops 5),.op])) .l)
def W9.v (a:R2)(b:Hp)(c:aO):Prop:=bW (λd e=>c d e) λf=>If (!a.isNone) (bI a 2 b λh=>f (!h.isNone) b) (f false b)
theorem W9.o {a b c}(d:W9.v a b c):W9.c a b c:=Wa Tryz.func78 (x:=W9.h) (R0 d)
def Ku.h:Hn:=.q .o2 (.q (.k (.q .o4 (.c .aL (.q (.cW (.seq [.op,.op,.op,.cY false 2 [.op,.op],.op])) .aJ)))) (.q .o8 .l))
def Ku.v (a:Sl)(b:Int)(c:Hp)(d:Option Addr->Int->Hp->Prop):Prop:=ZU.c a c λe f=>If (!e) (d none 2 f) (bW (λg h=>If g (d none 1 h) (Wb.c a h λi j=>Nw (.map #[] 0) j λk l=>aV #[.slice i.a i.len i.cap,.I b,.map (some k.block)] 145 l λm n=>d (some m) 0 n)) λo=>If (b<0) (o true f) (o (decide (b>65536)) f))
theorem Ku.o {a b c d}(e:Ku.v a b c d):Ku.c a b c d:=Wa Tryz.func88 (x:=Ku.h) (R0 e)
def Ys.h:Hn:=.q .o2 (.q .o8 (.q (.q .o2 (.c (.q .o3 .l) .l)) (.q (.q .o6 (.c (.q (.q .o9 (.q .o6 (.c .o8 (.o 11)))) .aL) .l)) (.q .o7 (.q .o8 (.q .gE (.q .gE (.q .o3 .l))))))))
def Ys.v (a:R2)(b:Int)(c:Hp)(d:Int->Int->Hp->Prop):Prop:=Xs.c a b c λe f g=>If (f != 0) (d 0 f g) (bE e 0 g λi=>If (((i.len:Nat):Int)==0) (bE a 0 g λk=>Ix k.a k.len b 3 λl=>aQ l 2 g λm=>bD e 1 g λo=>If (o<m) (bD e 1 g λq=>bL (q+1) λr=>bU e λs=>aR s 1 (.I r) g λt=>d 0 4 t) (bD e 1 g λv=>bL (v+m) λw=>bU e λx=>aR x 1 (.I (if 128<w then 128 else w)) g λy=>d 0 4 y)) (bE e 0 g λaa=>bL (((aa.len:Nat):Int)-1) λab=>bE e 0 g λad=>Ix ad.a ad.len ab 1 λae=>bM ae g λaf=>bE e 0 g λah=>fE ah 1 0 ab (ah.cap:Nat) λai=>bU e λaj=>aR aj 0 (.slice ai.a ai.len ai.cap) g λak=>bD e 2 ak λam=>bU e λan=>aR an 2 (.I (if ab<am then ab else am)) ak λao=>d af 0 ao))
theorem Ys.o {a b c d}(e:Ys.v a b c d):Ys.c a b c d:=Wa Tryz.func121 (x:=Ys.h) (R0 e)
def Yp.h:Hn:=.q .o2 (.q .o8 (.q (.q .o2 (.c (.q .o3 .l) .l)) (.q (.oq 15) .l)))
def Yp.v (a:R2)(b:Int)(c:Hp)(d:Int->Int->Hp->Prop):Prop:=Xs.c a b c λe f g=>If (f != 0) (d 0 f g) (bD e 1 g λi=>bE a 0 g λk=>Ix k.a k.len b 3 λl=>aQ l 2 g λm=>d (if m<i then m else i) 0 g)
theorem Yp.o {a b c d}(e:Yp.v a b c d):Yp.c a b c d:=Wa Tryz.func123 (x:=Yp.h) (R0 e)
def Yh.h:Hn:=.q .o1 (.q .o8 (.q (.q .o2 .aJ) (.q .o3 (.q .o2 (.q .o4 .l)))))
def Yh.v (a:R2)(b:Int)(c:Sl)(d:Hp)(e:aN):Prop:=Xs.c a b d λf g h=>If (g != 0) (e g h) (Wk.c c h λi j=>W5.c i j λk=>W6.c f i k λl m=>e l m)
theorem Yh.o {a b c d e}(f:Yh.v a b c d e):Yh.c a b c d e:=Wa Tryz.func128 (x:=Yh.h) (R0 f)
def YV.h:Hn:=.q .o2 (.q .o8 (.q (.q .o2 (.c (.q .o3 .l) .l)) (.q (.q .o5 (.q .o2 (.c (.q .o3 .l) .l))) (.q (.q (.oq 10) .aJ) (.q .o9 (.j8 [] (.q .o6 (.c .o8 .l)) (.q (.o 11) .l)))))))
def YV.v (a:R2)(b c:Int)(d:Hp)(e:Sl->Int->Hp->Prop):Prop:=Xs.c a b d λf g h=>If (g != 0) (e ⟨none,0,0⟩ g h) (aV #[.I c] 3 h λi j=>W6.c f ⟨some i,1,1⟩ j λk l=>If (k != 0) (e ⟨none,0,0⟩ k l) (bE f 0 l λn=>bD f 1 l λp=>If (((n.len:Nat):Int)<=p) (e ⟨none,0,0⟩ 0 l) (bE a 0 l λr=>Ix r.a r.len b 3 λs=>aQ s 2 l λt=>Jn [] (λu=>bE f 0 u λw=>Xg.c f (if((w.len:Nat):Int)<t then((w.len:Nat):Int)else t) u λx y=>e x 0 y) λz=>bD f 1 l λab=>If (ab<t) (bD f 1 l λad=>bL (ad+1) λae=>bU f λaf=>aR af 1 (.I ae) l λag=>z ag) (z l))))
theorem YV.o {a b c d e}(f:YV.v a b c d e):YV.c a b c d e:=Wa Tryz.func131 (x:=YV.h) (R0 f)
def Yt.h:Hn:=.q .o1 (.q (.cW (.gM false [] [(2,.one .b)] (.take 0 (.all [(1,.take 2 (.split 5 (.tk [3,5,6,7] (.all [(4,.all [(8,.tk [9,10,11] (.done))]),(8,.all [(4,.tk [9,10,11] (.done))])])) (.tk [3,4,5,6,7,8,9,10,11] (.done))))])))) .l)
def Yt.v (a:R2)(b:Hp)(c:aO):Prop:=Jn [.b] (λ(d:Bool) e=>c d e) λf=>W9.c a b λg h=>If g (bU a λi=>(XV.c a h λj k=>aQ i 1 k λl=>f (decide (j>l)) k) ∧ (aQ i 1 h λm=>XV.c a h λn o=>f (decide (n>m)) o)) (f false h)
theorem Yt.o {a b c}(d:Yt.v a b c):Yt.c a b c:=Wa Tryz.func132 (x:=Yt.h) (R0 d)
def Xb.h:Hn:=.q .o1 (.q .o3 .l)
def Xb.v (a:R2)(b:Hp)(c:Sl->Hp->Prop):Prop:=Xl.c a ⟨181,#[],#[]⟩ b λd e=>c d e
theorem Xb.o {a b c}(d:Xb.v a b c):Xb.c a b c:=Wa Tryz.func133 (x:=Xb.h) (R0 d)
def XO.h:Hn:=.q .o1 (.q .o3 .l)
def XO.v (a:R2)(b:Hp)(c:Sl->Hp->Prop):Prop:=Xl.c a ⟨183,#[],#[]⟩ b λd e=>c d e
theorem XO.o {a b c}(d:XO.v a b c):XO.c a b c:=Wa Tryz.func138 (x:=XO.h) (R0 d)
def Xs.h:Hn:=.q .o2 (.q (.q .o3 .aJ) (.q .o4 (.q (.q .o2 .aJ) (.q .o3 .l))))
def Xs.v (a:R2)(b:Int)(c:Hp)(d:Option Addr->Int->Hp->Prop):Prop:=W9.c a c λe f=>If (!e) (d none 5 f) (ZH.c a b f λg h=>If g.isNone (d none 1 h) (d g 0 h))
theorem Xs.o {a b c d}(e:Xs.v a b c d):Xs.c a b c d:=Wa Tryz.func170 (x:=Xs.h) (R0 e)
def W6.h:Hn:=.q .o1 (.q (.q .o9 .aK) (.q (.o 11) .aM))
def W6.v (a:R2)(b:Sl)(c:Hp)(d:aN):Prop:=bE a 0 c λf=>bL (((f.len:Nat):Int)+((b.len:Nat):Int)) λg=>If (g>256) (d 6 c) (bE a 0 c λi=>Xp.c i c λj k=>App j 1 8 3 [.I 0] b k λl m=>bU a λn=>aR n 0 (.slice l.a l.len l.cap) m λo=>d 0 o)
theorem W6.o {a b c d}(e:W6.v a b c d):W6.c a b c d:=Wa Tryz.func177 (x:=W6.h) (R0 e)
def Xg.h:Hn:=.q .o1 (.q .o8 (.q (.o 11) (.q (.cW (.tail 13 (RI.ops 13) [.op])) .aL)))
def Xg.v (a:R2)(b:Int)(c:Hp)(d:Sl->Hp->Prop):Prop:=bE a 0 c λf=>fE f 1 0 b (f.cap:Nat) λg=>Wk.c g c λh i=>bE a 0 i λk=>fE k 1 b (k.len:Nat) (k.cap:Nat) λl=>Wk.c l i λm n=>bU a λo=>aR o 0 (.slice m.a m.len m.cap) n λp=>bD a 2 p λr=>bE a 0 p λt=>bU a λu=>aR u 2 (.I (if((t.len:Nat):Int)<r then((t.len:Nat):Int)else r)) p λv=>d h v
theorem Xg.o {a b c d}(e:Xg.v a b c d):Xg.c a b c d:=Wa Tryz.func178 (x:=Xg.h) (R0 e)
def XV.h:Hn:=.q .o1 (.q (.q .o3 .aK) (.q .o1 (.q (.q .o5 (.k (.loop [(3,.I)] (.q (.cW (.seq [.it .i64 .p,.op])) (.q (.c .l .l) (.k (.q (.cW (.seq [.it .i64 .p,.op,.op,.op,.op])) (.oq 17)))))))) .aL)))
def XV.v (a:R2)(b:Hp)(c:aN):Prop:=W9.c a b λd e=>If (!d) (c 0 e) (bI a 2 e λg=>pG .i64 .p g e λh i=>WU [bN] (λj=>j 0 i) λk (l:Int) m=>pN .i64 .p h m (c l m) (λn o p=>qf .i64 .p h p λq r=>bE a 0 p λt=>Ix t.a t.len q 3 λu=>aQ u 0 p λv=>bE r 0 p λx=>bL (v*((x.len:Nat):Int)) λy=>bL (l+y) λz=>k z p))
theorem XV.o {a b c}(d:XV.v a b c):XV.c a b c:=Wa Tryz.func179 (x:=XV.h) (R0 d)
def Xl.h:Hn:=.q .o1 (.q (.q .o3 .aK) (.q .o1 (.q (.q .o5 (.k (.loop [(5,.one .s)] (.q (.cW (.seq [.it .i64 .p,.op])) (.q (.c .l .l) (.k (.q (.cW (.seq [.it .i64 .p,.op,.op,.op,.op])) (.q (.o 12) (.q .o3 (.c .o7 .l)))))))))) (.q .o2 .aL))))
def Xl.v (a:R2)(b:Fv)(c:Hp)(d:Sl->Hp->Prop):Prop:=W9.c a c λe f=>If (!e) (d ⟨none,0,0⟩ f) (bI a 2 f λh=>pG .i64 .p h f λi j=>WU [.s] (λk=>k ⟨none,0,0⟩ j) λl (m:Sl) n=>pN .i64 .p i n (Qh.c m ⟨232,#[],#[]⟩ n λo=>d m o) (λp q r=>qf .i64 .p i r λs t=>bE a 0 r λv=>Ix v.a v.len s 3 λw=>aQ w 2 r λx=>UE Tryz.prog b [.pointer t,.I x] [.one .s] r λy z=>If (((y.len:Nat):Int)>0) (aV #[.I s,.slice y.a y.len y.cap] 98 z λaa ab=>App m 2 32 98 [.I 0,.slice none 0 0] ⟨some aa,1,1⟩ ab λac ad=>l ac ad) (l m z)))
theorem Xl.o {a b c d}(e:Xl.v a b c d):Xl.c a b c d:=Wa Tryz.func180 (x:=Xl.h) (R0 e)
def XB.h:Hn:=.q .o1 (.q .o9 (.j8 [] (.q .o6 (.c (.o 12) .l)) (.q .o9 .aL)))
def XB.v (a:R2)(b:Int)(c:Hp)(d:Sl->Hp->Prop):Prop:=bD a 2 c λf=>bL (f+1) λg=>Nz 2<|bL (g.tdiv 2) λh=>Xg.c a h c λi j=>Jn [] (λk=>bE a 0 k λm=>bU a λn=>aR n 2 (.I ((m.len:Nat):Int)) k λo=>d i o) λp=>bD a 1 j λr=>If (r>b) (bD a 1 j λt=>bL (t-b) λu=>bU a λv=>aR v 1 (.I (if b>u then b else u)) j λw=>p w) (p j)
theorem XB.o {a b c d}(e:XB.v a b c d):XB.c a b c d:=Wa Tryz.func181 (x:=XB.h) (R0 e)
def YO.h:Hn:=.q .o1 (.q .o8 .l)
def YO.v (a:R2)(b:Int)(c:Hp)(d:Sl->Hp->Prop):Prop:=bE a 0 c λf=>Xg.c a ((f.len:Nat):Int) c λg h=>d g h
theorem YO.o {a b c d}(e:YO.v a b c d):YO.c a b c d:=Wa Tryz.func183 (x:=YO.h) (R0 e)
def ZH.h:Hn:=.q .o1 (.q (.q (.cW (.seq [.op,.op,.op,.op,.cY false 2 [.op,.op],.op,.cY false 7 (RI.ops 7)])) .aK) (.j8 [] (.q .o7 (.c .o8 .l)) (.q .o7 .l)))
def ZH.v (a:R2)(b:Int)(c:Hp)(d:Option Addr->Hp->Prop):Prop:=W9.c a c λe f=>bW (λg h=>bW (λi j=>If i (d none j) (Jn [] (λk=>bI a 2 k λm=>Lk .i64 .p m b k λn=>d (n.getD none) k) λo=>bU a λp=>bB p 2 j λq=>Lk .i64 .p q b j λr=>If ((r.getD none).isNone) (bI a 2 j λt=>aV #[.slice none 0 0,.I 1,.I 0] 148 j λu v=>jS .i64 .p t b (some u) v λw=>o w) (o j))) λx=>If g (x true h) (bE a 0 h λz=>x (decide (b≥((z.len:Nat):Int))) h)) λaa=>If (!e) (aa true f) (aa (decide (b<0)) f)
theorem ZH.o {a b c d}(e:ZH.v a b c d):ZH.c a b c d:=Wa Tryz.func220 (x:=ZH.h) (R0 e)
end Go.Proofs
namespace Go.Ar
open Go Go.Vc Go.Proofs
theorem cS.sub {U:Hp}{F:Rg}{s:Sl}{sz:Nat}{xs:List Value}(h:cS s sz xs U F){lo hi mx:Nat}(h1:lo<=hi)(h2:hi<=s.len)(h3:hi<=mx) :
 cS ⟨if mx=lo then s.a else s.a.map (·.add (lo*sz)),hi-lo,mx-lo⟩ sz ((xs.drop (lo*sz)).take ((hi-lo)*sz)) U F:=by
 have e:=h.1;have e1:hi*sz<=s.len*sz:=k7 _ h2;have e2:(hi-lo)*sz=hi*sz-lo*sz:=Nat.sub_mul _ _ _;have g:lo*sz<=hi*sz:=k7 _ h1;refine⟨by rw[zL,zt];simp only;omega,?_⟩;by_cases hm:mx=lo
 ·left;have:hi-lo=0:=by omega
  rw[this,u6,wC]
 ·rcases h.2 with h0|⟨b,o,cs,hb,ha,hq,hc⟩
  ·left;subst h0;simp
  ·refine .inr ⟨b,o+lo*sz,cs,hb,?_,hq,λj d=>?_⟩
   ·simp only[zA hm,ha,zh,add_lit]
   ·rw[zL,zt]at d;rw[qu,hc _ O,zY,zn,zB O]
inductive nU where
 | hd|cH|mp
 | li (k:Nat)
 deriving DecidableEq
structure gQ where
 p:Nat
 m:Nat
 cH:Sl
 ps:List (Nat×Nat)
def gW (ps:List (Nat×Nat))(k:Nat):Option Nat:=(ps.find? λx=>x.1==k).map (·.2)
def jY (ps:List (Nat×Nat)):List (Int×Option Addr):=ps.map λx=>((x.1:Int),some ⟨x.2,0,none⟩)
def mK (s:Sl)(l:Li):List Value:=[.slice s.a s.len s.cap,.int .i64 (l.lim:Int),.int .i64 (l.low:Int)]
def jj (b:Nat)(l:Li):Hp->Rg->Prop:=λU F=>F b/\fS l/\∃s:Sl,bY U b (mK s l)/\cS s 1 (Wu l.os) U (λq=>F q/\q≠b)/\s.len<=s.cap
def np (b:Option Nat)(l:Option Li):Hp->Rg->Prop:=λU F=>match b,l with
 | some b,some l=>jj b l U F
 | none,some l=>l=il
 | _,none=>True
def vU (Y:gQ)(bud:Nat):List Value:=[.slice Y.cH.a Y.cH.len Y.cH.cap,.int .i64 (bud:Int),.map (some Y.m)]
def CC (tb:List cD)(bud:Nat)(ls:List Li)(Y:gQ):nU->Hp->Rg->Prop
 | .hd=>gR Y.p (vU Y bud)
 | .cH=>cS Y.cH 3 (fB tb)
 | .mp=>iT Y.m .i64 .p (jY Y.ps)
 | .li k=>np (gW Y.ps k) ls[k]?
theorem jj.loc (b:Nat)(l:Li):dH (jj b l):=by
 rintro U x F G ⟨j,p,s,i,r,w⟩ m a;have hp:=a b i.lt j;obtain⟨e,u⟩:=i;exact⟨hp.1,p,s,⟨e,hp.2.trans u⟩,cS.loc _ _ _ _ _ _ _ r m λq g d=>⟨⟨(a q g d.1).1,d.2⟩,(a q g d.1).2⟩,w⟩
theorem np.loc (b:Option Nat)(l:Option Li):dH (np b l):=by
 intro U σ' F G h hz hs;unfold np at *;split at h
 ·exact jj.loc _ _ _ _ _ _ h hz hs
 ·exact h
 ·trivial
theorem CC.loc {tb:List cD}{bud:Nat}{ls:List Li}{Y:gQ}:∀i,dH (CC tb bud ls Y i)
 | .hd=>gR.loc _ _
 | .cH=>cS.loc _ _ _
 | .mp=>iT.loc _ _ _ _
 | .li k=>np.loc _ _
structure dY (U:Hp) (F:Rg) (Y:gQ) (tb:List cD) (bud:Nat) (ls:List Li):Prop where
 lA:tb.length<=40
 ok:∀c∈tb,c.ok
 len:ls.length=tb.length
 keys:∀x∈Y.ps,x.1<tb.length
 sep:Sep (CC tb bud ls Y) U F
variable {U:Hp}{F G:Rg}{Y:gQ}{tb:List cD}{bud:Nat}{ls:List Li}{b k:Nat}{l:Li}
theorem dY.loc:dH λU F=>dY U F Y tb bud ls:=λU d F G h a b=>⟨h.lA,h.ok,h.len,h.keys,Sep.loc CC.loc _ _ _ _ h.sep a b⟩
theorem dY.aF {σ':Hp}(h:dY U F Y tb bud ls)(e:aG U σ'):dY σ' F Y tb bud ls:=dH.aF dY.loc h e
theorem dY.hd (h:dY U F Y tb bud ls):bY U Y.p (vU Y bud):=by
 obtain⟨G,b,a⟩:=h.sep.get .hd;exact a.2
theorem dY.iW (h:dY U F Y tb bud ls):cS Y.cH 3 (fB tb) U F:=by
 obtain⟨G,d,a⟩:=h.sep.get .cH;exact aH.mono a λb _ a=>d b a
theorem dY.oy (h:dY U F Y tb bud ls):Y.cH.len=tb.length:=by
 have:=h.iW.1;rw[V7]at this;omega
theorem dY.map (h:dY U F Y tb bud ls):dD U Y.m .i64 .p (jY Y.ps):=by
 obtain⟨G,b,a⟩:=h.sep.get .mp;exact a.2
theorem AA (ps:List (Nat×Nat))(k:Nat):cB (α:=Option Addr) (jY ps) (k:Int)=(gW ps k).map λb=>some ⟨b,0,none⟩:=by
 induction ps with
 | nil=>rfl
 | cons x l ih=>
  simp only[cB,jY,gW,zX,uP]at *;have e:(((x.1:Nat):Int)==(k:Int))=(x.1==k):=jg _ _;rw[e];cases x.1==k
  ·exact ih
  ·rfl
theorem Sk {ps:List (Nat×Nat)}(h:gW ps k=some b):(k,b)∈ps:=by
 unfold gW at h;obtain⟨x,d,rfl⟩:=qA.1 h;have e:=sg d;have a:=sy d;simp only[za]at a;subst a;exact e
theorem Ls {ps:List (Nat×Nat)}(h:gW ps k=none):∀x∈ps,x.1≠k:=by
 unfold gW at h;simp only[uV,qw,za]at h;exact h
theorem I8 {ps:List (Nat×Nat)}(h:gW ps k=none)(b:Nat):dO (α:=Option Addr) (jY ps) (k:Int) (some ⟨b,0,none⟩)=jY (ps++[(k,b)]):=by
 unfold dO;rw[zA]
 ·simp[jY]
 ·simp only[jY,List.any_map,kM,Function.comp,za,not_exists,not_and];intro x hx e;exact Ls h x hx O
theorem KG {ps:List (Nat×Nat)}(h:gW ps k=none)(b j:Nat):gW (ps++[(k,b)]) j=if j=k then some b else gW ps j:=by
 have a:=Ls h;unfold gW at *;rw[List.find?_append];by_cases hj:j=k
 ·subst hj;have:ps.find? (λx=>x.1==j)=none:=by simpa using h
  rw[this];simp
 ·rw[zA hj];cases hf:ps.find? (λx=>x.1==j)with
  | none=>
   have:(k==j)=false:=by simpa using λe=>hj e.symm
   simp[this]
  | some x=>simp
theorem Dm {ps:List (Nat×Nat)}(hn:((jY ps).map (·.1)).Nodup)(h:(k,b)∈ps):gW ps k=some b:=by
 induction ps with
 | nil=>simp at h
 | cons x l ih=>
  simp only[jY,zX,zo]at hn;unfold gW;rw[uP];rcases zW.1 h with rfl|h
  ·simp
  ·have:(x.1==k)=false:=by
    have:x.1≠k:=λe=>hn.1 (zD.2 ⟨(((k:Nat):Int),some ⟨b,0,none⟩),zD.2 ⟨(k,b),h,rfl⟩,by rw[e]⟩);simpa using this
   rw[this];exact ih hn.2 h
theorem Hq (h:dY U F Y tb bud ls){R:aO}(hR:R true U):W9.c (aW Y.p) U R:=by
 refine W9.o ?_;unfold W9.v;exact bW.intro (cJ rfl (bO (h.hd.rM rfl hR)))
theorem dY.xi (h:dY U F Y tb bud ls)(hb:gW Y.ps k=some b)(hl:ls[k]?=some l):∃G:Rg,(∀q,G q->F q)/\jj b l U G/\¬G Y.m ∧
 ∀(σ':Hp) (l':Li) (G':Rg),Ext G U σ'->(∀q,G' q->Grow G U q)->jj b l' σ' G'->Ext F U σ'/\dY σ' (λq=>F q/\q<U.size/\¬G q\/G' q) Y tb bud (ls.set k l'):=by
 have r:=(cV.1 hl).1;obtain⟨G,s,g,a,d⟩:=h.sep.jx CC.loc (.li k);have g:jj b l U G:=by
  simp only[CC,np,hb,hl]at g;exact g
 have i:¬G Y.m:=by
  obtain⟨H,_,hd,p⟩:=a .mp (by intro e;cases e);exact hd _ p.1
 refine⟨G,s,g,i,λσ' l' G' e w x=>⟨e.sub s,h.lA,h.ok,by rw[nZ];exact h.len,h.keys,?_⟩⟩;refine d σ' (CC tb bud (ls.set k l') Y) G' (λj u=>?_) e w ?_ (CC.loc _)
 ·cases j<;>try rfl
  rename_i m;have i:m≠k:=λe=>u (by rw[e]);simp only[CC,zd (Ne.symm i)]
 ·simp only[CC,np,hb,zK r];exact x
theorem dY.mono (h:dY U F Y tb bud ls)(hs:∀q,q<U.size->F q->G q):dY U G Y tb bud ls:=dH.mono dY.loc h hs
theorem dY.cut (h:dY U F Y tb bud ls):dY U (Cut F U) Y tb bud ls:=dH.cut dY.loc h
theorem dY.gF {v:Hp}(h:dY v (Grow F U) Y tb bud ls)(e0:Ext F U v)(hb:gW Y.ps k=some b)(hl:ls[k]?=some l):∃G:Rg,jj b l v G ∧
 ∀(σ':Hp) (l':Li) (G':Rg),Ext G v σ'->(∀q,G' q->Grow G v q)->jj b l' σ' G'->Ext F U σ'/\dY σ' (Grow F U) Y tb bud (ls.set k l'):=by
 obtain⟨G,j,m,_,d⟩:=h.xi hb hl;refine⟨G,m,λσ' l' G' e i g=>?_⟩;obtain⟨e1,p⟩:=d σ' l' G' e i g;refine⟨e0.iK e1,p.mono λq _ a=>?_⟩;have:=e0.1;rcases a with a|a
 ·exact a.1
 ·rcases i q a with h2|h2
  ·exact j q h2
  ·exact .inr O
theorem ω (h:dY U F Y tb bud ls)(hk:k<tb.length){R:Option Addr->Hp->Prop}(hR:∀σ' Y' b,Ext F U σ'->Y'.p=Y.p->gW Y'.ps k=some b->dY σ' (Grow F U) Y' tb bud ls->R (some ⟨b,0,none⟩) σ') :
 ZH.c (aW Y.p) (k:Int) U R:=by
 refine ZH.o ?_;unfold ZH.v;have B:k<ls.length:=by rw[h.len];exact hk
 have E:ls[k]?=some ls[k]:=cQ B;generalize ls[k]=l at E;have N:=h.oy;refine Hq h (bW.intro (bZ rfl ?_));refine bW.intro (dR O (bO (h.hd.rS rfl ?_)));refine dR aC ?_;refine Jn.intro (bO (h.hd.rM rfl ⟨_,h.map,?_⟩));rw[AA];cases hf:gW Y.ps k with
 | some b=>
  refine bZ rfl (bO (h.hd.rM rfl ⟨_,h.map,?_⟩));rw[AA,hf];exact hR U Y b (Ext.refl _ _) rfl hf (h.mono λq _ a=>.inl a)
 | none=>
  refine cJ rfl (bO (h.hd.rM rfl (nw (cs:=[.slice none 0 0,.int .i64 1,.int .i64 0]) λv Q e D=>?_)));obtain⟨G,H,s,S,hd,g,w,u⟩:=h.cut.sep.nI CC.loc .mp (.li k) (by intro e;cases e);have M:∀q,G q->F q:=λq a=>(s q a).1;have g:iT Y.m .i64 .p (jY Y.ps) U G:=g;have w:l=il:=by
   simp only[CC,np,hf,E]at w;exact w
  have L:=g.2.lt;have C:dD v Y.m .i64 .p (jY Y.ps):=e.fC g.2 id;refine⟨Y.m,_,rfl,C,λv2 J r=>?_⟩;rw[I8 hf]at r;have e2:Ext F U v2:=(aG.to e).only J (.inl (M _ g.1));have y:Ext (λq=>G q\/H q) U v2:=(aG.to e).only J (.inl (.inl g.1));have A:bY v2 U.size [.slice none 0 0,.int .i64 1,.int .i64 0]:=Wm J D O;have d:dY v2 (Grow F U) {Y with ps:=Y.ps++[(k,U.size)]} tb bud ls:=by
   refine⟨h.lA,h.ok,h.len,λx i=>?_,?_⟩
   ·rcases zS.1 i with i|i
    ·exact h.keys x i
    ·simp only[zZ]at i;subst i;exact hk
   refine(Sep.loc CC.loc).mono (u v2 (CC tb bud ls {Y with ps:=Y.ps++[(k,U.size)]}) G (· = U.size) (λj z K=>?_) y (λq a=>.inl (.inl a)) (λq a=>.inr O) (λq z K=>?_) ⟨g.1,r⟩ ?_ CC.loc) λq _ a=>?_
   ·cases j<;>first|rfl|exact absurd rfl z|skip
    rename_i m;have P:m≠k:=λe=>K (by rw[e]);simp only[CC,KG hf,zA P]
   ·have:=(s q z).2;omega
   ·simp only[CC,KG hf,zT,E,w,np];exact⟨rfl,fS.nil,⟨none,0,0⟩,A,cS.nil _ _ _ _,zC _⟩
   ·rcases a with a|a|a
    ·exact .inl a.1.1
    ·exact .inl (M q a)
    ·exact .inr O
  refine bO (d.hd.rM rfl ⟨_,d.map,?_⟩);rw[AA,KG hf,zB rfl];exact hR v2 {Y with ps:=Y.ps++[(k,U.size)]} U.size e2 rfl (by show gW (Y.ps++[(k,U.size)]) k=_;rw[KG hf,zB rfl]) d
theorem yO (h:dY U F Y tb bud ls)(hk:k<tb.length){R:Option Addr->Int->Hp->Prop}(hR:∀σ' Y' b,Ext F U σ'->Y'.p=Y.p->gW Y'.ps k=some b->dY σ' (Grow F U) Y' tb bud ls->R (some ⟨b,0,none⟩) 0 σ') :
 Xs.c (aW Y.p) (k:Int) U R:=by
 refine Xs.o ?_;unfold Xs.v;exact Hq h (bZ rfl (ω h hk λσ' Y' b e hp d a=>bZ rfl (hR σ' Y' b e hp d a)))
theorem bR.oc {s:Sl}{sz:Nat}{xs:List Value}(h:bR s sz xs U F):s.len<=s.cap:=by
 rcases h.2 with⟨q1,q2⟩|⟨_,_,_,_,_,q,_⟩
 ·omega
 ·exact q
theorem GM (h:jj b l U G){m:Nat}(hm:m<=l.os.length){R:Sl->Hp->Prop}
 (hR:∀s z σ',Ext (· = b) U σ'->U.size<=z->bR s 1 (Wu (l.os.take m)) σ' (λq=>U.size<=q/\q<z)->jj b (gV m l).2 σ' (λq=>q=b\/z<=q)->R s σ') :
 Xg.c (aW b) (m:Int) U R:=by
 refine Xg.o ?_;unfold Xg.v;obtain⟨Y,e,s,A,E,X⟩:=h;have P:s.len=l.os.length:=by have:=E.1;simp[Wu]at this;omega
 have J:=e.many;have M:=e.low;have j:=cS.sub E (lo:=0) (hi:=m) (mx:=s.cap) O O O;have e1:((Wu l.os).drop (0*1)).take ((m-0)*1)=Wu (l.os.take m):=by simp[Wu]
 rw[e1]at j;refine bO (A.rS rfl (jI (lo:=0) O aC aC (Kz j KH aC λs1 L Q y F=>?_)));have i:=y.bX A id;have D:=aH.aF E y;have r:=cS.sub D (lo:=m) (hi:=s.len) (mx:=s.cap) O O O;have e2:((Wu l.os).drop (m*1)).take ((s.len-m)*1)=Wu (l.os.drop m):=by
  rw[l0 (by simp[Wu];omega)];simp[Wu]
 rw[e2]at r;refine bO (i.rS rfl (jI aC aC aC (Kz r KH aC λx S B K u=>?_)));have H:=K.bX i id;refine bO (H.s1 (by simp[mK]) λv3 o3 a=>bO (a.rI rfl (bO (a.rS rfl (bO (a.s1 (by simp[mK]) λv4 o4 g=>?_))))));have d:Ext (· = b) S v4:=o3.ext.trans o4.ext;have V:=A.lt;have C:=y.1;have w:x.len=l.os.length-m:=by rw[B];simp only;omega
 refine hR s1 L.size v4 ((aG.to (y.trans K)).trans d) C ?_ ⟨.inl rfl,Al e,x,?_,?_,bR.oc u⟩
 ·refine aI.bV (aI.aF (aI.mono F (G:=λq=>U.size<=q/\q<L.size) λq p N=>⟨N,p⟩) K) d λq _ p W=>by omega
 ·have:(if((x.len:Nat):Int)<(l.low:Int)then((x.len:Nat):Int)else(l.low:Int))=((min l.low (l.os.length-m):Nat):Int):=by rw[w];split<;>omega
  rw[this]at g;exact g
 ·refine aH.mono (aH.bV u.fM d λq _ p W=>O) λq _ p=>⟨.inr p,O⟩
theorem Wmv (h:jj b l U G){sl:Sl}{xs:List Int}{X:Rg}(hs:cS sl 1 (Wu xs) U X)(hx:xs≠[])(hfit:l.os.length+xs.length<=256){R:aN}
 (hR:∀σ',Ext (· = b) U σ'->jj b (eM xs l) σ' (λq=>q=b\/U.size<=q)->R 0 σ'):W6.c (aW b) sl U R:=by
 refine W6.o ?_;unfold W6.v;obtain⟨K,u,s,g,d,J⟩:=h;have B:s.len=l.os.length:=by have:=d.1;simp[Wu]at this;omega
 have D:sl.len=xs.length:=by have:=hs.1;simp[Wu]at this;omega
 have z:=qo.2 hx;have x:eM xs l = {l with os:=l.os++xs}:=by unfold eM;rw[zA O]
 refine bO (g.rS rfl (cC (m:=l.os.length+xs.length) aC O (dR O (bO (g.rS rfl ?_)))));refine Xp.o ?_;unfold Xp.v;refine jI (lo:=0) aC aC aC ?_;have F:=g.lt;refine⟨Wu l.os,Wu xs,by simp[Wu];omega,by simp[Wu];omega,?_,hs.rd,KH,?_,by simp only;omega,λw=>by simp only at w;omega,λy c i=>?_⟩
 ·by_cases h0:s.len=0
  ·have:l.os=[]:=xX.1 O;rw[this];simp only[h0,zT];cases s.a<;>simp[Rd,Wu]
  ·simp only[zA h0,u6];have:=d.rd;cases ha:s.a with
   | none=>rw[ha]at this;simpa[Rd]using this
   | some a=>rw[ha]at this;simpa[Rd,Addr.add_zero']using this
 ·simp only;have:(s.len-0+sl.len)*8<=256*8:=lV O O;omega
 ·refine nw λv H e r=>bO ((e.bX g id).s1 (by simp[mK]) λE o2 p=>?_);have C:l.os.length+xs.length<=c:=by simp only at i;omega
  refine hR E ((aG.to e).trans o2.ext) ?_;rw[x];have:=yH (xs:=xs) u;rw[x]at this;refine⟨.inl rfl,this,⟨some ⟨U.size,0,none⟩,s.len-0+sl.len,c⟩,p,⟨by simp[Wu];omega,.inr ⟨U.size,0,_,⟨.inr (zC _),O⟩,rfl,(Wm o2 r O).q,λj A=>?_⟩⟩,by simp only;omega⟩;simp only[Wu,zi,zR]at A;rw[zG,zm,←zm,zQ (by simp[Wu];omega)];simp[Wu]
theorem SN (h:jj b l U G){sl:Sl}{xs:List Int}{X:Rg}(hs:cS sl 1 (Wu xs) U X)(hfit:¬l.os.length+xs.length<=256)(hxs:xs.length<=1000000){R:aN}
 (hR:R 6 U):W6.c (aW b) sl U R:=by
 refine W6.o ?_;unfold W6.v;obtain⟨j,a,s,g,d,p⟩:=h;have e:s.len=l.os.length:=by have:=d.1;simp[Wu]at this;omega
 have i:sl.len=xs.length:=by have:=hs.1;simp[Wu]at this;omega
 have:=a.many;exact bO (g.rS rfl (cC (m:=l.os.length+xs.length) aC O (jt O hR)))
end Go.Ar
namespace Go.Ar
open Go Go.Vc Go.Proofs
variable {U:Hp}{F G:Rg}{Y:gQ}{tb:List cD}{bud:Nat}{ls:List Li}{b k:Nat}{l:Li}{c:cD}
theorem dY.cls (h:dY U F Y tb bud ls)(hc:tb[k]?=some c):c.ok/\k<tb.length:=⟨h.ok c (zE hc),(cV.1 hc).1⟩
theorem jj.st {v:Hp}(h:jj b l U G){s:Sl}{l':Li}(ho:Ext (· = b) U v)(hb:bY v b (mK s l'))(hs:cS s 1 (Wu l'.os) U (λq=>G q/\q≠b))(hc:s.len<=s.cap)(ok:fS l'):jj b l' v G:=
 ⟨h.1,ok,s,hb,aH.bV hs ho λq _ d a=>d.2 a,hc⟩
theorem lD (h:dY U F Y tb bud ls)(hc:tb[k]?=some c)(hl:ls[k]?=some l){R:Int->Int->Hp->Prop}
 (hR:∀σ' Y',Ext F U σ'->Y'.p=Y.p->dY σ' (Grow F U) Y' tb bud (ls.set k (KJ c l).2)->R ((KJ c l).1.getD 0) (if(KJ c l).1.isSome then 0 else 4) σ'):Ys.c (aW Y.p) (k:Int) U R:=by
 obtain⟨r,hk⟩:=h.cls hc;refine Ys.o ?_;unfold Ys.v;refine yO h hk λv Y' b e hp hb P=>bZ rfl ?_;obtain⟨G,Z,M⟩:=P.gF e hb hl;have z:=Z;obtain⟨X,i,s,g,D,u⟩:=Z;have C:=P.hd;rw[hp]at C;have N:s.len=l.os.length:=by have:=D.1;simp[Wu]at this;omega
 have o1:=i.low;have o2:=i.many;have o3:=i.lim;have o4:=i.nV;have a:=Fs r i;have fin:∀v' G',Ext G v v'->(∀q,G' q->Grow G v q)->jj b (KJ c l).2 v' G'->R ((KJ c l).1.getD 0) (if(KJ c l).1.isSome then 0 else 4) v':=λv' G' V hg S=>by
  obtain⟨e2,h2⟩:=M v' _ G' V hg S;exact hR v' Y' e2 hp h2
 unfold cD.ok at r;have A:∀{v':Hp},Ext (· = b) v v'->Ext G v v':=λV=>V.sub λq B=>by rw[B];exact X
 refine bO (g.rS rfl ?_);by_cases h0:l.os=[]
 ·have e1:(KJ c l).1=none:=by unfold KJ;rw[h0];rfl
  have e2:(KJ c l).2=if l.lim<c.batch then{l with lim:=l.lim+1}else{l with lim:=min (l.lim+c.batch) 128}:=by unfold KJ;rw[h0];rfl
  rw[e1,e2]at fin;rw[e2]at a;refine cJ (by simp[N,h0]) (bO (C.rS rfl (r8 P.iW hc (d:=2) O ?_)));simp only[zA (show ¬(2=0) by omega),zA (show ¬(2=1) by omega)];refine bO (g.rI rfl (cL (λc1=>?_) λc1=>?_))
  ·have y:l.lim<c.batch:=by omega
   rw[zB y]at fin a;refine bO (g.rI rfl (cC (m:=l.lim+1) O O (bO (g.s1 (by simp[mK]) λv' K j=>?_))));exact fin v' G (A K.ext) (λq B=>.inl B) (z.st K.ext j D u a)
  ·have y:¬l.lim<c.batch:=by omega
   rw[zA y]at fin a;refine bO (g.rI rfl (cC (m:=l.lim+c.batch) O O (bO (g.s1 (by simp[mK]) λv' K j=>?_))));refine fin v' G (A K.ext) (λq B=>.inl B) (z.st K.ext ?_ D u a);have:(if(128:Int)<((l.lim+c.batch:Nat):Int)then(128:Int)else((l.lim+c.batch:Nat):Int))=((min (l.lim+c.batch) 128:Nat):Int):=by split<;>omega
   rw[this]at j;exact j
 ·have aa:=qo.2 h0;obtain⟨x,hx⟩:∃x,l.os[l.os.length-1]?=some x:=⟨_,cQ O⟩;have E:l.os.getLast?=some x:=by rw[List.getLast?_eq_getElem?];exact hx
  have e1:(KJ c l).1=some x:=by unfold KJ;rw[E]
  have e2:(KJ c l).2 = {l with os:=l.os.dropLast,low:=min l.low (l.os.length-1)}:=by unfold KJ;rw[E]
  rw[e1,e2]at fin;rw[e2]at a;refine bZ (by simp only[kR];omega) ?_;refine bO (g.rS rfl (cC (m:=l.os.length-1) aC O (bO (g.rS rfl (D.nK hx (bO (g.rS rfl ?_)))))));have w:=cS.sub D (lo:=0) (hi:=l.os.length-1) (mx:=s.cap) O O O;have ed:((Wu l.os).drop (0*1)).take ((l.os.length-1-0)*1)=Wu l.os.dropLast:=by simp[Wu,ya]
  rw[ed]at w;refine jI (lo:=0) O aC aC (bO (g.s1 (by simp[mK]) λv1 W J=>bO (J.rI rfl (bO (J.s1 (by simp[mK]) λv2 Q H=>?_)))));have L:=W.ext.trans Q.ext;refine fin v2 G (A L) (λq B=>.inl B) (z.st L ?_ w aC a);have:(if((l.os.length-1:Nat):Int)<(l.low:Int)then((l.os.length-1:Nat):Int)else(l.low:Int))=((min l.low (l.os.length-1):Nat):Int):=by split<;>omega
  rw[this]at H;exact H
theorem TZ (h:dY U F Y tb bud ls)(hc:tb[k]?=some c)(hl:ls[k]?=some l){R:Int->Int->Hp->Prop}
 (hR:∀σ' Y',Ext F U σ'->Y'.p=Y.p->dY σ' (Grow F U) Y' tb bud ls->R ((qd c l:Nat):Int) 0 σ'):Yp.c (aW Y.p) (k:Int) U R:=by
 obtain⟨j,x⟩:=h.cls hc;refine Yp.o ?_;unfold Yp.v;refine yO h x λv Y' b e hp y g=>bZ rfl ?_;obtain⟨G,z,r⟩:=g.gF e y hl;obtain⟨w,u,s,i,A,m⟩:=z;have a:=g.hd;rw[hp]at a;refine bO (i.rI rfl (bO (a.rS rfl (r8 g.iW hc (d:=2) O ?_))));simp only[zA (show ¬(2=0) by omega),zA (show ¬(2=1) by omega)];have:(if(c.batch:Int)<(l.lim:Int)then(c.batch:Int)else(l.lim:Int))=((qd c l:Nat):Int):=by unfold qd;split<;>omega
 rw[this];exact hR v Y' e hp g
theorem OX (l:List Int)(i:Nat)(h:i<l.length):l.reverse[i]?=l[l.length-1-i]? := by
 rw[List.getElem?_reverse h]
theorem Su {s:Sl}{xs:List Int}(h:bR s 1 (Wu xs) U F)(hlen:xs.length<=1000000){R:aP}(hR:∀σ',Ext F U σ'->bR s 1 (Wu xs.reverse) σ' F->R σ'):W5.c s U R:=by
 refine W5.o ?_;unfold W5.v;have L:s.len=xs.length:=by have:=h.1;simp[Wu]at this;omega
 let jG (i:Nat):List Int:=(List.range xs.length).map λj=>if j<i\/xs.length-i<=j then xs.getD (xs.length-1-j) 0 else xs.getD j 0
 have ly:∀i,(jG i).length=xs.length:=λi=>by simp[jG]
 have cB:∀i j,j<xs.length->(jG i)[j]?=some (if j<i\/xs.length-i<=j then xs.getD (xs.length-1-j) 0 else xs.getD j 0):=λi j d=>by simp[jG,d]
 have K:jG 0=xs:=by
  apply zp;intro j;by_cases d:j<xs.length
  ·rw[cB 0 j d,zA O];simp[zM,cQ d]
  ·rw[zO (by rw[ly];omega),zO O]
 have y:∀i,xs.length<=2*i+1->i<=xs.length->jG i=xs.reverse:=by
  intro i E G;apply zp;intro j;by_cases d:j<xs.length
  ·rw[cB i j d,OX xs j d,zM,zM,cQ (show xs.length-1-j<xs.length by omega),cQ d];split
   ·rfl
   ·have:xs.length-1-j=j:=by omega
    simp only[this];rfl
  ·rw[zO (by rw[ly];omega),zO aE]
 have step:∀i,2*i+1<xs.length->((jG i).set i (xs.getD (xs.length-1-i) 0)).set (xs.length-1-i) (xs.getD i 0)=jG (i+1):=by
  intro i hi;apply zp;intro j;by_cases d:j<xs.length
  ·rw[cB (i+1) j d,oh,oh];simp only[nZ,ly];by_cases e1:xs.length-1-i=j
   ·subst e1;rw[zB rfl,zB O,zB O]
    congr 2;omega
   ·rw[zA e1];by_cases e2:i=j
    ·subst e2;rw[zB rfl,zB O,zB O]
    ·rw[zA e2,cB i j d];by_cases e3:j<i\/xs.length-i<=j
     ·rw[zB e3,zB O]
     ·rw[zA e3,zA O]
  ·rw[zO (by simp[ly];omega),zO (by rw[ly];omega)]
 refine pc ?_;rw[Hi O O];refine Vu (a:=bN) (bb:=bN) (λ(i j:Int) v=>∃n:Nat,i=(n:Int)/\j=(xs.length:Int)-1-n/\n<=xs.length/\Ext F U v/\bR s 1 (Wu (jG n)) v F) (λi _ _=>xs.length-i.toNat) ⟨0,rfl,O,O,Ext.refl _ _,by rw[K];exact h⟩ ?_;rintro i j v ⟨n,rfl,rfl,S,ev,z⟩;refine cL (λM=>?_) λQ=>?_
 ·have w:2*n+1<xs.length:=by omega
  have C:(xs.length:Int)-1-n=((xs.length-1-n:Nat):Int):=by omega
  rw[C];have D:=cB n (xs.length-1-n) O;have B:=cB n n O;rw[zA O]at D B;rw[zM]at D B;obtain⟨b,p⟩:∃b,s.a=some ⟨b,0,none⟩:=by
   rcases z.2 with⟨q1,q2⟩|⟨b,cs,_,A,_⟩
   ·omega
   ·exact⟨b,A⟩
  have g:∀u,bR s 1 (Wu (jG n)) u F->∀(j:Nat) (x:Int),(jG n)[j]?=some x->cell u (Addr.add ⟨b,0,none⟩ ((j:Int).toNat*1))=some (.int .i64 x):=λu r j x P=>by
   obtain⟨H,o,A,N⟩:=r.fM.cell (j:=j) (v:=.int .i64 x) (by simp[Wu,P]);rw[p]at A;cases A;rw[add_lit,show 0+(j:Int).toNat*1=0+j by omega];exact N
  rw[p];refine⟨λu=>bR s 1 (Wu (jG n)) u F,z,?_⟩;refine ix O O ⟨_,λu r=>g u r _ _ D,?_⟩;refine ix O O ⟨_,λu r=>g u r _ _ B,?_⟩;refine ix O O ?_;refine z.st (j:=n) (by simp[Wu,ly];omega) (λH e=>by rw[p]at e;cases e;rw[add_lit];simp) λV e1 E=>?_;refine ix O O ?_;refine E.st (j:=xs.length-1-n) (by simp[Wu,ly];omega) (λH e=>by rw[p]at e;cases e;rw[add_lit];simp) λW e2 G=>?_;refine cC (m:=n+1) O O (cC (m:=xs.length-1-n-1) O O ⟨⟨n+1,rfl,O,O,(ev.trans e1).trans e2,?_⟩,O⟩);rw[←step n w,zM,zM];have J:∀(l:List Int) (i:Nat) (x:Int),Wu (l.set i x)=(Wu l).set i (.int .i64 x):=λl i x=>by simp[Wu,tA]
  rw[J,J];exact G
 ·rw[y n O O]at z;exact hR v ev z
theorem P4 (h:jj b l U G){sl:Sl}(hz:sl.len=0){R:aN}(hR:∀σ',Ext (· = b) U σ'->jj b l σ' G->R 0 σ'):W6.c (aW b) sl U R:=by
 refine W6.o ?_;unfold W6.v;have C:=h;obtain⟨D,g,s,u,i,E⟩:=h;have w:s.len=l.os.length:=by have:=i.1;simp[Wu]at this;omega
 have p:=g.many;refine bO (u.rS rfl (cC (m:=l.os.length) aC O (dR O (bO (u.rS rfl ?_)))));refine Xp.o ?_;unfold Xp.v;refine jI (lo:=0) aC aC aC ?_;have d:=cS.sub i (lo:=0) (hi:=s.len) (mx:=s.len) O O O;have A:((Wu l.os).drop (0*1)).take ((s.len-0)*1)=Wu l.os:=by rw[w,l0 (by simp[Wu])];simp
 rw[A]at d;have key:∀(e:Sl),cS e 1 (Wu l.os) U (λq=>G q/\q≠b)->e.len<=e.cap->bU (some ⟨b,0,none⟩) λr=>eP (r.add 0) (.slice e.a e.len e.cap) U λv2=>R 0 v2:=λe x z=>by
  refine bO (u.s1 (by simp[mK]) λv2 o2 y=>hR v2 o2.ext ?_);exact C.st (l':=l) (s:=e) o2.ext y x z g
 refine⟨Wu l.os,[],by simp[Wu];omega,by simp[hz],d.rd,by cases sl.a<;>simp[Rd],by simp,?_,by simp only;omega,λB=>?_,λj=>absurd (by simp only[hz];omega) j⟩
 ·simp only[hz];have:(s.len-0+0)*8<=256*8:=lV O O;omega
 ·simp only[hz,zw];cases ha:(if s.len=0 then s.a else s.a.map (·.add (0*1)))
  ·rw[ha]at d;exact key ⟨none,s.len-0,s.len-0⟩ d (zC _)
  ·rw[ha]at d;exact key ⟨some _,s.len-0,s.len-0⟩ d (zC _)
theorem En (h:jj b l U G){sl:Sl}{xs:List Int}{X:Rg}(hs:cS sl 1 (Wu xs) U X)(hfit:l.os.length+xs.length<=256){R:aN}
 (hR:∀σ',Ext (· = b) U σ'->jj b (eM xs l) σ' (Grow G U)->R 0 σ'):W6.c (aW b) sl U R:=by
 by_cases hx:xs=[]
 ·subst hx;have g:eM [] l=l:=by unfold eM;rw[zA (by simp only[lS]at hfit ⊢;omega)];simp
  refine P4 h (by have:=hs.1;simp[Wu]at this;omega) λσ' e d=>hR σ' e ?_;rw[g];exact(jj.loc _ _).mono d λq _ a=>.inl a
 ·exact Wmv h hs hx hfit λσ' e d=>hR σ' e ((jj.loc _ _).mono d λq _ a=>a.imp (λe=>by rw[e];exact h.1) id)
theorem PO (h:dY U F Y tb bud ls)(hc:tb[k]?=some c)(hl:ls[k]?=some l){sl:Sl}{xs:List Int}{X:Rg}(hs:cS sl 1 (Wu xs) U X)(hX:∀q,X q->¬F q)(hfit:l.os.length+xs.length<=256){R:aN}
 (hR:∀σ' Y',Ext F U σ'->Y'.p=Y.p->dY σ' (Grow F U) Y' tb bud (ls.set k (eM xs.reverse l))->R 0 σ'):Yh.c (aW Y.p) (k:Int) sl U R:=by
 obtain⟨s,y⟩:=h.cls hc;have A:sl.len=xs.length:=by have:=hs.1;simp[Wu]at this;omega
 refine Yh.o ?_;unfold Yh.v;refine yO h y λv Y' b e hp z x=>bZ rfl ?_;have r:=aH.bV hs e λq _ a=>hX q a;refine Kz r KH O λs1 E D e1 m=>?_;refine Su m O λv2 e2 j=>?_;have d:aG v v2:=Ext.fresh e1 e2 λq a=>a;obtain⟨G,u,g⟩:=(x.aF d).gF (e.trans (aG.to d)) z hl;refine En u j.fM aE λv3 C i=>?_;obtain⟨B,w⟩:=g v3 _ _ (C.sub λq a=>a▸u.1) (λq a=>a) i;exact hR v3 Y' B hp w
theorem QG {α:Type}{ls:List α}{k:Nat}{l:α}(h:ls[k]?=some l):ls.set k l=ls:=by
 apply zp;intro j;by_cases hj:j=k
 ·subst hj;rw[zK (cV.1 h).1,h]
 ·rw[zd (Ne.symm hj)]
theorem S3 (h:dY U F Y tb bud ls)(hc:tb[k]?=some c)(hl:ls[k]?=some l)(x:Int){R:Sl->Int->Hp->Prop}
 (hR:∀σ' Y' s e (Q:Rg),Ext F U σ'->Y'.p=Y.p->(l.os.length+1<=256->e=0)->(∀q,Q q->U.size<=q)->bR s 1 (Wu (dM c x l).1) σ' Q->dY σ' (λq=>Grow F U q/\¬Q q) Y' tb bud (ls.set k (dM c x l).2)->R s e σ'):YV.c (aW Y.p) (k:Int) x U R:=by
 obtain⟨K,hk⟩:=h.cls hc;refine YV.o ?_;unfold YV.v;refine yO h hk λv Y' b e hp hb h'=>bZ rfl ?_;have hσv:=e.1;obtain⟨G,hG,hL,_,ad⟩:=h'.xi hb hl;have hblt:b<v.size:=by obtain⟨_,_,s,hbk,_⟩:=hL;exact hbk.lt
 have u:=hL.1;have M:=hL.2.1;have hmany:=M.many;have r:∀(σ':Hp) (l':Li) (G':Rg),Ext G v σ'->(∀q,G' q->Grow G v q)->jj b l' σ' G'->Ext F U σ'/\dY σ' (λq=>Grow F U q/\q<v.size/\¬G q\/G' q) Y' tb bud (ls.set k l'):=λσ' l' G' e' hg hL'=>by
  obtain⟨e1,h1⟩:=ad σ' l' G' e' hg hL';exact⟨e.iK e1,h1⟩
 have hin:∀{G':Rg} {q:Nat},(∀q,G' q->Grow G v q)->(Grow F U q/\q<v.size/\¬G q\/G' q)->Grow F U q:=λhg a=>by
  rcases a with a|a
  ·exact a.1
  ·rcases hg _ a with H|H
   ·exact hG _ H
   ·exact .inr O
 refine nw (cs:=[.int .i64 x]) λv1 hz1 e1 hb1=>?_;have aa:=(jj.loc _ _).aF hL e1;have X:cS ⟨some ⟨v.size,0,none⟩,1,1⟩ 1 (Wu [x]) v1 (· = v.size):=hb1.fM (o:=0) rfl (by simp[Wu]) (λj hj=>by
  simp only[Wu,zX,sx,zV,lS]at hj ⊢;rw[zG])
 by_cases hfit:l.os.length+1<=256
 ·refine En aa X (by simpa using hfit) λv2 e2 E=>bZ rfl ?_;have B:Ext G v v2:=(aG.to e1).trans (e2.sub λq a=>a▸u);have N:∀q,Grow G v1 q->Grow G v q:=λq a=>a.imp id λZ=>by omega
  obtain⟨eF2,H⟩:=r v2 _ _ B N E;have i:(eM [x] l).os=l.os++[x]/\(eM [x] l).lim=l.lim/\(eM [x] l).low=l.low:=by unfold eM;rw[zA (by simp only[zV,lS];omega)];exact⟨rfl,rfl,rfl⟩
  have A:=E;obtain⟨_,ok2,s2,g,ab,C⟩:=E;have hs2l:s2.len=l.os.length+1:=by have:=ab.1;simp[Wu,i.1]at this;omega
  refine bO (g.rS rfl (bO (g.rI rfl ?_)));rw[i.2.1];refine cL (λc1=>?_) λc1=>?_
  ·have D:l.os.length+1<=l.lim:=by simp only at c1;omega
   have w:dM c x l=([],eM [x] l):=by unfold dM;rw[zA O,zB D]
   refine hR v2 Y' _ 0 (λ_=>False) eF2 hp (λ_=>rfl) (λq a=>a.elim) (by rw[w];exact bR.nil _ _ _ _) ?_;rw[w];exact H.mono λq _ a=>⟨hin N a,id⟩
  ·have D:¬l.os.length+1<=l.lim:=by simp only at c1;omega
   have w:dM c x l=gV (min c.batch (l.os.length+1)) (nj c (eM [x] l)):=by unfold dM;rw[zA O,zA D]
   have J:=H.hd;rw[hp]at J;refine bO (J.rS rfl (r8 H.iW hc (d:=2) O ?_));simp only[zA (show ¬(2=0) by omega),zA (show ¬(2=1) by omega)];refine Jn.intro ?_;have y:∀v3,Ext (· = b) v2 v3->jj b (nj c (eM [x] l)) v3 (Grow G v1)->bU (some ⟨b,0,none⟩) λa62=>ji (a62.add 0) v3 λV=>Xg.c (aW b) (if((V.len:Nat):Int)<(c.batch:Int)then((V.len:Nat):Int)else(c.batch:Int)) v3 λt67 v4=>R t67 0 v4:=by
    intro v3 e3 hL3;have P:=hL3;obtain⟨_,ok3,s3,L,hs3,hcap3⟩:=hL3;have S:(nj c (eM [x] l)).os=l.os++[x]:=by unfold nj;split<;>exact i.1
    have ac:s3.len=l.os.length+1:=by have:=hs3.1;simp[Wu,S]at this;omega
    refine bO (L.rS rfl ?_);have em:(if((s3.len:Nat):Int)<(c.batch:Int)then((s3.len:Nat):Int)else(c.batch:Int))=((min c.batch (l.os.length+1):Nat):Int):=by rw[ac];split<;>omega
    rw[em];refine GM P (by rw[S];simp;omega) λs z v4 e4 hz hr hL4=>?_;have e24:Ext (· = b) v2 v4:=e3.trans e4;have e04:Ext G v v4:=B.trans (e24.sub λq a=>a▸u);have hs23:=e3.1;have hs02:=B.1;obtain⟨eF4,h4⟩:=r v4 _ (λq=>q=b\/z<=q) e04 (λq a=>a.imp (λ(Z:q=b)=>by rw[Z];exact u) λ(Z:z<=q)=>O) hL4;refine hR v4 Y' s 0 (λq=>v3.size<=q/\q<z) eF4 hp (λ_=>rfl) (λq a=>O) (by rw[w];exact hr) ?_;rw[w];refine h4.mono λq _ a=>⟨?_,λhQ=>?_⟩
    ·rcases a with a|a|a
     ·exact a.1
     ·subst a;exact hG _ u
     ·exact .inr O
    ·rcases a with a|a|a<;>omega
   refine bO (g.rI rfl ?_);rw[i.2.1];refine cL (λc2=>?_) λc2=>?_
   ·have c2':l.lim<c.batch:=by omega
    have eu:nj c (eM [x] l) = {eM [x] l with lim:=l.lim+1}:=by unfold nj;rw[i.2.1,zB c2']
    have W:=Fu K ok2;refine bO (g.rI rfl ?_);rw[i.2.1];have hl128:=M.lim;refine cC (m:=l.lim+1) O O (bO (g.s1 (by simp[mK]) λv3 o3 hb3=>y v3 o3.ext ?_));rw[eu]at W ⊢;exact A.st o3.ext hb3 ab C W
   ·have eu:nj c (eM [x] l)=eM [x] l:=by unfold nj;rw[i.2.1,zA O]
    exact y v2 (Ext.refl _ _) (by rw[eu];exact A)
 ·refine SN aa X (by simpa using hfit) aA (cJ rfl ?_);have w:dM c x l=([],l):=by unfold dM;rw[zB O]
  refine hR v1 Y' _ 6 (λ_=>False) (e.trans (aG.to e1)) hp (λZ=>absurd Z hfit) (λq a=>a.elim) (by rw[w];exact bR.nil _ _ _ _) ?_;rw[w,QG hl];exact(h'.aF e1).mono λq _ a=>⟨a,id⟩
end Go.Ar
namespace Go.Ar
open Go Go.Vc Go.Proofs
open Go.Bu (YS Q8 Zx)
variable {U:Hp}{F:Rg}{p hs:Nat}{A:AR}{Y:Lay}{T:Nat->Hp->Rg->Prop}
theorem dA.qM (h:dA U F Y A T){k q:Nat}{c:cD}{ss:List cM}(h1:Y.eU[k]?=some q)(h2:A.tb[k]?=some c)(h3:A.cI[k]?=some ss) :
 ∃G:Rg,(∀b,G b->F b)/\(∃ps,eX U G q c ps ss)/\(∀j,∃H:Rg,(∀b,H b->F b)/\(∀b,H b->¬G b)/\T j U H)/\∀(σ':Hp) (ss':List cM) (ps':List (Nat×Nat)) (G' H:Rg),
  Ext G U σ'->(∀b,G' b->G b\/U.size<=b)->eX σ' G' q c ps' ss'->(∀b,(F b/\b<U.size/\¬G b\/G' b)->H b)->dA σ' H Y {A with cI:=A.cI.set k ss'} T:=by
 obtain⟨G,i,m,hd,a⟩:=h.step (.cI k);have g:k<A.cI.length:=(cV.1 h3).1;refine⟨G,i,EW h1 h2 h3 m,λj=>hd (.cF j) (by intro e;cases e),λσ' ss' ps' G' H e d r p=>?_⟩;refine a σ' _ _ T G' H h.lay.lu h.tl NM e d ?_ p;simp only[AC];rw[h1,h2,zK g];exact⟨ps',r⟩
theorem N2 (h:dA U F Y A T)(k m:Int){R:Sl->Int->Hp->Prop}(hR:∀s σ',Ext F U σ'->bR s 1 (ints (Yy A k m)) σ' (λb=>U.size<=b)->dA σ' (Cut F U) Y (YU A k m) T->R s (Q3 A k m) σ') :
 WF.c (aW Y.p) k m U R:=by
 refine WF.o ?_;unfold WF.v;refine U7 h k (λj=>?_) λx J w=>?_
 ·have e1:Q3 A k m=1:=by unfold Q3;rw[j];rfl
  have e2:YU A k m=A:=by unfold YU;rw[e1];rfl
  have g:Yy A k m=[]:=by unfold Yy;rw[e1];rfl
  have:=hR ⟨none,0,0⟩ U (Ext.refl _ _) (by rw[g];exact bR.nil _ _ _ _) (by rw[e2];exact h.cut);rw[e1]at this;exact cJ rfl this
 ·subst J;have j:A.ck (x:Int)=true:=by unfold AR.ck;simp;omega
  obtain⟨c,ss,q,t,r,C,d,z,_,_,E⟩:=h.at_ w;obtain⟨G,y,⟨K,D⟩,_,i⟩:=h.qM z C d;refine bZ rfl (bO (h.hd.rS rfl (h.kc z ?_)));by_cases hm:m<0
  ·have e1:Q3 A x m=1:=by unfold Q3;rw[j,zB rfl,zB hm]
   have e2:YU A x m=A:=by unfold YU;rw[e1];rfl
   have g:Yy A x m=[]:=by unfold Yy;rw[e1];rfl
   have:=hR ⟨none,0,0⟩ U (Ext.refl _ _) (by rw[g];exact bR.nil _ _ _ _) (by rw[e2];exact h.cut);rw[e1]at this;exact RV D m hm this
  ·have e1:Q3 A x m=0:=by unfold Q3;rw[j,zB rfl,zA hm]
   have B:V8 A x m=KF c m.toNat ss:=by unfold V8;simp only[dE];rw[C,d]
   have e2:YU A x m = {A with cI:=A.cI.set x (KF c m.toNat ss).2}:=by unfold YU;rw[e1,zB rfl,B];rfl
   have g:Yy A x m=(KF c m.toNat ss).1:=by unfold Yy;rw[e1,zB rfl,B]
   refine Pk D m O λs σ' e a u=>?_;have:=hR s σ' (e.sub y) (by rw[g];exact a) (by rw[e2];exact i σ' _ _ (Cut G U) _ e (λb H=>.inl H.1) u (CJ y));rw[e1]at this;exact this
theorem LP {k:Nat}{f:gg->gg}:∀j,j≠Lb.cF k->AC {A with cF:=A.cF.modify k f} Y (cA {A with cF:=A.cF.modify k f} Y) j=AC A Y (cA A Y) j:=by
 intro j hj;cases j<;>first|rfl|skip
 rename_i k';have a:k≠k':=λe=>hj (by rw[e]);simp only[AC,cA];simp[tB,a]
theorem eZ.kn {k:Nat}{f:gg->gg}(h:eZ A Y):eZ {A with cF:=A.cF.modify k f} Y:=⟨h.c,h.t,h.cI,by simpa using h.cF,h.lA,h.nC,h.n1,h.n2,h.n3,h.st,h.room,h.ok⟩
theorem dA.tZ (h:dA U F Y A (cA A Y)){k q:Nat}{c:cD}{t:gg}(h1:Y.fT[k]?=some q)(h2:A.tb[k]?=some c)(h3:A.cF[k]?=some t) :
 ∃G:Rg,(∀b,G b->F b)/\ij U G q c.batch A.room t/\∀(σ':Hp) (f:gg->gg) (G' H:Rg),
  Ext G U σ'->(∀b,G' b->G b\/U.size<=b)->ij σ' G' q c.batch A.room (f t)->(∀b,(F b/\b<U.size/\¬G b\/G' b)->H b)->dA σ' H Y {A with cF:=A.cF.modify k f} (cA {A with cF:=A.cF.modify k f} Y):=by
 obtain⟨G,m,d,hd,a⟩:=h.step (.cF k);have g:ij U G q c.batch A.room t:=by
  simp only[AC,cA]at d;rw[h1,h2,h3]at d;exact d
 refine⟨G,m,g,λσ' f G' H e i r p=>?_⟩;refine a σ' _ _ _ G' H h.lay.kn (λj=>cA.loc j) LP e i ?_ p;simp only[AC,cA];rw[h1,h2,List.getElem?_modify_eq,h3];exact r
theorem Ps (h:dA U F Y A (cA A Y))(k:Int){R:Sl->Int->Hp->Prop}(hR:∀s σ',Ext F U σ'->(∀b,lg s b->F b)->cS s 1 (Wu (YQ A k)) σ' (lg s)->s.len<=s.cap->dA σ' (λb=>F b/\¬lg s b) Y (ZV A k) (cA (ZV A k) Y)->R s (Qq A k) σ') :
 WD.c (aW Y.p) k U R:=by
 refine WD.o ?_;unfold WD.v;refine U7 h k (λz=>?_) λx N D=>?_
 ·have e1:Qq A k=1:=by unfold Qq;rw[z];rfl
  have e2:ZV A k=A:=by unfold ZV;rw[e1];rfl
  have i:YQ A k=[]:=by unfold YQ;rw[e1];rfl
  have:=hR ⟨none,0,0⟩ U (Ext.refl _ _) (λb d=>by obtain⟨a,g,_⟩:=d;cases g) (by rw[i];exact cS.nil _ _ _ _) (zC _) (by rw[e2];exact h.mono λb _ d=>⟨d,λ⟨a,g,_⟩=>by cases g⟩);rw[e1]at this;exact cJ rfl this
 ·subst N;have z:A.ck (x:Int)=true:=by unfold AR.ck;simp;omega
  obtain⟨c,S,q,t,r,M,L,Q,B,J,P⟩:=h.at_ D;obtain⟨G,E,H,y⟩:=h.tZ J M B;refine bZ rfl (bO (h.hd.rS rfl (h.pZ J ?_)));by_cases d:t.bs=[]
  ·have e1:Qq A x=4:=by unfold Qq;rw[z,zB rfl];simp only[dE];rw[B];simp[d]
   have e2:ZV A x=A:=by unfold ZV;rw[e1];rfl
   have i:YQ A x=[]:=by unfold YQ;rw[e1];rfl
   have:=hR ⟨none,0,0⟩ U (Ext.refl _ _) (λb d=>by obtain⟨a,g,_⟩:=d;cases g) (by rw[i];exact cS.nil _ _ _ _) (zC _) (by rw[e2];exact h.mono λb _ d=>⟨d,λ⟨a,g,_⟩=>by cases g⟩);rw[e1]at this;exact Rk H d this
  ·have e1:Qq A x=0:=by unfold Qq;rw[z,zB rfl];simp only[dE];rw[B];simp[d]
   have e2:ZV A x = {A with cF:=A.cF.modify x gg.rem}:=by unfold ZV;rw[e1,zB rfl];rfl
   have i:YQ A x=t.bs.getLast?.getD []:=by unfold YQ;rw[e1,zB rfl];simp only[dE];rw[B]
   refine WhI H d λs σ' e w m u C=>?_;have j:∀b,(F b/\b<U.size/\¬G b\/G b/\¬lg s b)->F b/\¬lg s b:=λb d=>by
    rcases d with d|d
    ·exact⟨d.1,λK=>d.2.2 (w b K)⟩
    ·exact⟨E b d.1,d.2⟩
   have:=hR s σ' (e.sub E) (λb d=>E b (w b d)) (by rw[i];exact m) u (by rw[e2];exact y σ' _ (λb=>G b/\¬lg s b) _ e (λb d=>.inl d.1) C j);rw[e1]at this;exact this
theorem Se (h:dA U F Y A (cA A Y))(k:Int){sl:Sl}{xs:List Int}{X:Rg}(hs:cS sl 1 (Wu xs) U X)(hi:∀x∈xs,iz x){R:Bool->Int->Hp->Prop}(hR:∀σ',Ext F U σ'->dA σ' (Grow F U) Y (KC A k xs) (cA (KC A k xs) Y)->R (VM A k xs) (Gs A k xs) σ') :
 WK.c (aW Y.p) k sl U R:=by
 refine WK.o ?_;unfold WK.v;have w:sl.len=xs.length:=by have:=hs.1;simp[Wu]at this;omega
 have no:∀e:Int,e≠0->Gs A k xs=e->R false e U:=λe he C=>by
  have e3:VM A k xs=false:=by unfold VM;rw[zJ O];rfl
  have e2:KC A k xs=A:=by unfold KC;rw[e3];rfl
  have:=hR U (Ext.refl _ _) (by rw[e2];exact h.mono λb _ g=>.inl g);rw[C,e3]at this;exact this
 refine U7 h k (λS=>cJ rfl (no 1 aB (by unfold Gs;rw[S];rfl))) λx P Z=>?_;subst P;have S:A.ck (x:Int)=true:=by unfold AR.ck;simp;omega
 obtain⟨c,ss,q,t,r,N,H,hq,ht,hr,aa⟩:=h.at_ Z;obtain⟨G1,ps,hG1,hCe⟩:=h.cI hq N H;obtain⟨G,hG,hC,L⟩:=h.tZ hr N ht;have M:Gs A x xs=if xs.length=c.batch then(if xs.all (λx=>eD c ss x==some true)then 0 else 8)else 1:=by unfold Gs;rw[S,zB rfl];simp only[dE];rw[N,H]
 refine bZ rfl (bO (h.hd.rS rfl (h.vF (d:=2) N O ?_)));simp only[zA (show ¬(2=0) by omega),zA (show ¬(2=1) by omega)];rw[pJ];refine cU (λg=>?_) λg=>?_
 ·have:¬xs.length=c.batch:=by rw[←w];simpa using g
  exact no 1 aB (by rw[M,zA this])
 have K:xs.length=c.batch:=by rw[←w];simpa using g
 rw[zB K]at M;have h32:c.batch<=32:=aa.2.2.2.2.2.2.2;refine Zw (a:=bN) (λ(i:Int) v=>∃j:Nat,i=(j:Int)/\j<=xs.length/\v=U/\∀y∈xs.take j,eD c ss y=some true) (λi _=>xs.length-i.toNat) ⟨0,rfl,O,rfl,by simp⟩ ?_;rintro i v ⟨j,rfl,hj,rfl,s⟩;refine cL (λhlt2=>?_) λhge=>?_
 ·have J:j<xs.length:=by omega
  have P:xs[j]?=some xs[j]:=cQ J;have W:xs.take (j+1)=xs.take j++[xs[j]]:=by rw[zj,P];rfl
  have u:=zb J;generalize xs[j]=y at *;have E:eD c ss y≠some true->R false 8 v:=λV=>no 8 aB (by
   rw[M,zA];intro ha;rw[kK]at ha;exact V (by simpa using ha y u))
  refine hs.nK P (bO (h.hd.rS rfl (h.kc hq (Fk hCe _ (hi y u) (λb g=>?_) λg=>?_))))
  ·refine bW.intro (bZ rfl ?_);cases b
   ·exact cJ rfl (E (by rw[g];simp))
   ·refine bZ rfl (cC (m:=j+1) O O ⟨⟨j+1,rfl,O,rfl,λz hz=>?_⟩,O⟩);rw[W]at hz;rcases zS.1 hz with C|C
    ·exact s z C
    ·simp at C;rw[C];exact g
  ·exact bW.intro (cJ rfl (cJ rfl (E (by rw[g];simp))))
 ·have:j=xs.length:=by omega
  subst this;rw[zy]at s;have B:Gs A x xs=0:=by
   rw[M,zB];rw[kK];intro y hy;simp[s y hy]
  have D:VM A x xs=decide (t.bs.length<A.room):=by unfold VM;rw[B];simp only[dE];rw[ht];simp
  refine bO (h.hd.rS rfl (h.pZ hr (Nx hC hs O (λV=>absurd K V) (λ_ hf=>?_) λ_ hf σ' e Q=>?_)))
  ·rw[zJ O]at D;have e2:KC A x xs=A:=by unfold KC;rw[D];rfl
   have:=hR v (Ext.refl _ _) (by rw[e2];exact h.mono λb _ g=>.inl g);rw[B,D]at this;exact this
  ·rw[zI O]at D;have e2:KC A x xs = {A with cF:=A.cF.modify x λt=>{t with bs:=t.bs++[xs]}}:=by unfold KC;rw[D,zB rfl];rfl
   have:=hR σ' (e.sub hG) (by rw[e2];exact L σ' (λt=>{t with bs:=t.bs++[xs]}) (Grow G v) _ e (λb g=>g) Q (HT hG λb g=>g));rw[B,D]at this;exact this
theorem eX.Lg {q:Nat}{c:cD}{ps:List (Nat×Nat)}{ss:List cM}{G:Rg}(h:eX U G q c ps ss):∀s∈ss,s.st<=1024:=by
 intro s hs;obtain⟨i,a⟩:=zN hs;have b:=(cV.1 a).1;have hp:i<ps.length:=by rw[h.len];exact b
 have:=(h.sp _ _ _ (cQ hp) a).fit;omega
theorem EU (h:dA U F Y A T)(k:Int){sl:Sl}{xs:List Int}(hi:∀x∈xs,iz x)(hl:xs.length<=1000000)(hcap:sl.len<=sl.cap)
 (hs:(∃X:Rg,cS sl 1 (Wu xs) U X/\∀b,b<U.size->X b->¬F b)\/∃j,∀H,T j U H->cS sl 1 (Wu xs) U H)
 {R:aN} (hR:∀σ',Ext F U σ'->dA σ' (Grow F U) Y (Zh A k xs) T->R (Km A k xs) σ') :
 WC.c (aW Y.p) k sl U R:=by
 refine WC.o ?_;unfold WC.v;have no:∀e:Int,e≠0->Km A k xs=e->R e U:=λe he E=>by
  have e2:Zh A k xs=A:=by unfold Zh;rw[zA O]
  have:=hR U (Ext.refl _ _) (by rw[e2];exact h.mono λb _ d=>.inl d);rw[E]at this;exact this
 refine U7 h k (λJ=>cJ rfl (no 1 aB (by unfold Km;rw[J];rfl))) λx hx N=>?_;subst hx;have J:A.ck (x:Int)=true:=by unfold AR.ck;simp;omega
 obtain⟨c,g,q,t,r,Q,u,hq,_,_,hok⟩:=h.at_ N;obtain⟨G,V,⟨ps,S⟩,hd,C⟩:=h.qM hq Q u;have hX:∃X:Rg,cS sl 1 (Wu xs) U X/\∀b,X b->¬G b:=by
  rcases hs with⟨X,E,h2⟩|⟨j,hj⟩
  ·exact⟨Cut X U,aH.cut E,λb d hg=>h2 b d.2 d.1 (V b hg)⟩
  ·obtain⟨H,_,D,hT⟩:=hd j;exact⟨H,hj H hT,D⟩
 obtain⟨X,K,L⟩:=hX;have M:Km A x xs=iU c g xs:=by unfold Km;rw[J,zB rfl];simp only[dE];rw[Q,u]
 refine bZ rfl (bO (h.hd.rS rfl (h.kc hq (OU S K L hi hl hcap (λD=>?_) λh0 o σ1 e1 m aa=>?_))))
 ·refine cJ (by simpa using D) (no _ D M)
 ·refine bZ rfl ?_;have eS:Zh A x xs=Us {A with cI:=A.cI.set x (cO (xs.foldl (fL c) g))} ((Qp (xs.foldl (fL c) g)).map λs=>(s,c.bK)):=by
   unfold Zh;rw[M,zB h0];simp only[dE];rw[Q,u]
  have W:=C σ1 _ _ (Cut G U) _ e1 (λb d=>.inl d.1) aa (CJ V);rw[FY]at m;have B:((Qp (xs.foldl (fL c) g)).map λs=>(s,c.bK)).length<=1000000/\∀r∈((Qp (xs.foldl (fL c) g)).map λs=>(s,c.bK)),r.1<=1000000:=by
   have i:∀(ys:List Int) (ls:List cM),((ys.foldl (fL c) ls).map (·.st))=ls.map (·.st):=by
    intro ys
    induction ys with
    | nil=>intro ls;rfl
    | cons y ys ih=>
     intro ls;rw[lp,ih];unfold fL;split
     ·rename_i j hj;split
      ·rename_i s a;split
       ·simp only[tA];apply zp;intro z;rw[oh];by_cases w:j=z
        ·subst w;rw[zB rfl];have:=(cV.1 a).1;rw[zB (by simpa using this)];simp[a,cM.put]
        ·rw[zA w]
       ·rfl
      ·rfl
     ·rfl
   have Z:∀s∈Qp (xs.foldl (fL c) g),s∈g.map (·.st):=by
    intro s a;rw[←i xs g];unfold Qp at a;simp only[zD,zH]at a ⊢;obtain⟨z,w,rfl⟩:=a;exact⟨z,w.1,rfl⟩
   have hfew:=S.lZ;refine⟨?_,λr hr=>?_⟩
   ·have:(Qp (xs.foldl (fL c) g)).length<=(xs.foldl (fL c) g).length:=by
     unfold Qp;rw[zi];exact ny _ _
    have h2:(xs.foldl (fL c) g).length=g.length:=by have:=congrArg List.length (i xs g);simpa using this
    rw[zi];omega
   ·obtain⟨s,a,rfl⟩:=zD.1 hr;obtain⟨z,w,rfl⟩:=zD.1 (Z s a);have:=S.Lg z w;simp only;omega
  refine Bs W m.fM (λb _ d hf=>by have:=hf.2;omega) B.1 B.2 λσ2 e2 P=>?_;have:=hR σ2 ((e1.sub V).trans (e2.sub λb d=>d.1)) ?_
  ·rw[M,h0]at this;exact this
  ·rw[eS];exact P.mono λb _ d=>by
    rcases d with d|d
    ·exact .inl d.1
    ·exact .inr (zP e1.1 d)
theorem WkM (l:List (Nat×Nat))(x:Int):cB (gK l) x=(l.find? λr=>(r.1:Int)==x).map λr=>(r.2:Int):=by
 induction l with
 | nil=>rfl
 | cons r l ih=>
  have:gK (r::l)=((r.1:Int),(r.2:Int))::gK l:=rfl;rw[this,KR,uP,ih];by_cases h:(r.1:Int)=x
  ·simp[h]
  ·have:((r.1:Int)==x)=false:=by simpa using h
   rw[this,zA h]
theorem No (l:List (Nat×Nat))(x:Int):dK (gK l) x=gK (l.filter λq=>!((q.1:Int)==x)):=by
 unfold dK gK;rw[List.filter_map];rfl
theorem Ip (l:List (Nat×Nat))(x m:Nat):dO (gK l) (x:Int) (m:Int)=gK (cE.mset2 l x m):=by
 unfold dO cE.mset2 gK;have e:(l.map λr=>((r.1:Int),(r.2:Int))).any (λy=>y.1==(x:Int))=l.any λr=>r.1==x:=by
  rw[List.any_map]
  congr 1
  funext r
  exact jg r.1 x
 rw[e];split
 ·rw[mC,mC];apply k5;intro r _;simp only[Function.comp_def];rw[jg];split<;>rfl
 ·simp
theorem dA.nA (h:dA U F Y A T):F Y.rn/\dD U Y.rn .i64 bN (gK A.runs)/\∀(σ':Hp) (rs:List (Nat×Nat)),QT U σ' Y.rn->dD σ' Y.rn .i64 bN (gK rs)->dA σ' F Y {A with runs:=rs} T:=by
 obtain⟨G,g,⟨e,j⟩,_,a⟩:=h.step .runs;refine⟨g _ e,j,λσ' rs p m=>?_⟩;exact a σ' _ _ T G _ h.lay.qL h.tl OD (p.ext.sub λb d=>by subst d;exact e) (λb d=>.inl d) ⟨e,m⟩ (vA g λb d=>d)
theorem PB (h:dA U F Y A T)(x:Int)(hf:∀r∈A.runs,r.1<=1000000){R:aN}(hR:∀σ',Ext F U σ'->dA σ' (Grow F U) Y (Q5 A x) T->R (Vy A x) σ') :
 WV.c (aW Y.p) x U R:=by
 refine WV.o ?_;unfold WV.v;obtain⟨L,J,g⟩:=h.nA;refine VB h (bZ rfl (bO (h.hd.rM rfl ⟨_,J,?_⟩)));rw[WkM];cases hr:(A.runs.find? λr=>(r.1:Int)==x)with
 | none=>
  have e1:Vy A x=8:=by unfold Vy qE;rw[hr];rfl
  have e2:Q5 A x=A:=by unfold Q5 qE;rw[hr]
  have:=hR U (Ext.refl _ _) (by rw[e2];exact h.mono λb _ a=>.inl a);rw[e1]at this;exact cJ rfl this
 | some r=>
  have e1:Vy A x=0:=by unfold Vy qE;rw[hr];rfl
  have e2:Q5 A x=UH {A with runs:=A.runs.filter λq=>!((q.1:Int)==x)} r:=by unfold Q5 qE;rw[hr]
  have z:=sg hr;have C:(r.1:Int)=x:=by simpa using sy hr
  refine bZ rfl (bO (h.hd.rM rfl ⟨_,J,λm u _ y=>?_⟩));have o1:=u _ rfl;have d:dD m Y.rn .i64 bN (dK (gK A.runs) x):=y;rw[No]at d;have w:=g m _ o1 d;simp only[zh,oZ];refine nw (cs:=[.int .i64 x,.int .i64 (r.2:Int)]) λK P e D=>?_;have G:=w.cut.aF e;have B:cS ⟨some ⟨m.size,0,none⟩,1,1⟩ 2 (rV [r]) K (· = m.size):=by
   refine⟨rfl,.inr ⟨_,0,_,rfl,rfl,D.q,λj Q=>?_⟩⟩;have:rV [r]=[.int .i64 (r.1:Int),.int .i64 (r.2:Int)]:=rfl;rw[this,C,zG]
  refine Bs G B (λb _ a N=>by have:=N.2;omega) aA (λq H=>by simp at H;subst H;exact hf _ z) λv3 M E=>?_;have s:Ext F U v3:=(o1.ext.sub λb a=>by subst a;exact L).trans ((aG.to e).trans (M.sub λb a=>a.1));have:=hR v3 s (by
   rw[e2];exact E.mono λb _ a=>by
    rcases a with a|a
    ·exact .inl a.1
    ·exact .inr (by have:=o1.1;omega))
  rw[e1]at this;exact this
theorem QD (rs:List (Nat×Nat)):∀A:AR,(Us A rs).tb=A.tb/\(Us A rs).room=A.room/\(Us A rs).cF=A.cF/\(Us A rs).cI=A.cI/\(Us A rs).runs=A.runs/\(Us A rs).n=A.n:=by
 induction rs with
 | nil=>intro A;exact⟨rfl,rfl,rfl,rfl,rfl,rfl⟩
 | cons r rs ih=>intro A;exact ih (UH A r)
theorem V0 (A:AR)(k:Int)(xs:List Int):(Zh A k xs).tb=A.tb/\(Zh A k xs).room=A.room/\(Zh A k xs).cF=A.cF/\(Zh A k xs).runs=A.runs/\(Zh A k xs).n=A.n:=by
 unfold Zh;split
 ·split
  ·exact⟨(QD _ _).1,(QD _ _).2.1,(QD _ _).2.2.1,(QD _ _).2.2.2.2.1,(QD _ _).2.2.2.2.2⟩
  ·exact⟨rfl,rfl,rfl,rfl,rfl⟩
 ·exact⟨rfl,rfl,rfl,rfl,rfl⟩
theorem dA.τ {T':Nat->Hp->Rg->Prop}(h:dA U F Y A T)(hT:∀k,dH (T' k))(hi:∀k G,T k U G->T' k U G):dA U F Y A T':=by
 refine⟨h.lay,hT,?_⟩;obtain⟨ρ,a⟩:=h.sep;refine⟨ρ,λi=>?_⟩;have:=a i;cases i<;>first|exact this|exact hi _ _ this
theorem RD (h:dA U F Y A T){k:Nat}(hk:k<A.tb.length){q:Nat}(hq:Y.eU[k]?=some q){K:aP}(hK:∀σ',Ext F U σ'->dA σ' (Grow F U) Y (Q9 A k) T->K σ') :
 W0.c (aW q) U λt34 v2=>Xh.c (aW Y.p) t34 v2 K:=by
 obtain⟨c,m,R,t,r,C,g,i,_,_,M⟩:=h.at_ hk;rw[hq]at i;cases i;obtain⟨G,D,⟨S,x⟩,hd,j⟩:=h.qM hq C g;refine IM x λo Q e1 d B=>?_;have y:=j Q _ _ (Cut G U) _ e1 (λb a=>.inl a.1) B (CJ D);rw[FY]at d;have L:Q9 A k=Us {A with cI:=A.cI.set k (cO m)} ((Qp m).map λs=>(s,c.bK)):=by
  unfold Q9;rw[C,g]
 have E:=x.lZ;have u:=x.Lg;refine Bs y d.fM (λb _ a H=>by have:=H.2;omega) ?_ (λr P=>?_) λN e2 w=>?_
 ·have:(Qp m).length<=m.length:=by unfold Qp;rw[zi];exact ny _ _
  rw[zi];omega
 ·obtain⟨s,e,rfl⟩:=zD.1 P;unfold Qp at e;simp only[zD,zH]at e;obtain⟨z,J,rfl⟩:=e;have:=u z J.1;simp only;omega
 ·refine hK N ((e1.sub D).trans (e2.sub λb a=>a.1)) ?_;rw[L];exact w.mono λb _ a=>by
   rcases a with a|a
   ·exact .inl a.1
   ·exact .inr (zP e1.1 a)
theorem MQ (A:AR)(k:Nat):(Q9 A k).tb=A.tb/\(Q9 A k).room=A.room/\(Q9 A k).cF=A.cF/\(Q9 A k).runs=A.runs/\(Q9 A k).n=A.n:=by
 unfold Q9;split
 ·exact⟨(QD _ _).1,(QD _ _).2.1,(QD _ _).2.2.1,(QD _ _).2.2.2.2.1,(QD _ _).2.2.2.2.2⟩
 ·exact⟨rfl,rfl,rfl,rfl,rfl⟩
theorem VW (m:Nat)(A:AR):((List.range m).foldl Q9 A).tb=A.tb/\((List.range m).foldl Q9 A).room=A.room/\((List.range m).foldl Q9 A).cF=A.cF/\((List.range m).foldl Q9 A).runs=A.runs/\((List.range m).foldl Q9 A).n=A.n:=by
 induction m with
 | zero=>exact⟨rfl,rfl,rfl,rfl,rfl⟩
 | succ m ih=>
  rw[kI,lb];have:=MQ ((List.range m).foldl Q9 A) m;exact⟨this.1.trans ih.1,this.2.1.trans ih.2.1,this.2.2.1.trans ih.2.2.1,this.2.2.2.1.trans ih.2.2.2.1,this.2.2.2.2.trans ih.2.2.2.2⟩
theorem OJ (h:dA U F Y A T){dF:Sl}(hcr:dF=Y.dF){K:aP}(hK:∀σ',Ext F U σ'->dA σ' (Grow F U) Y (YP A) T->K σ') :
 WU [bN] (λI=>I 0 U) λJ (t28:Int) v1=>If (decide (t28<((dF.len:Nat):Int))) (Ix dF.a dF.len t28 1 λa30=>fW a30 v1 λl=>W0.c l v1 λt34 v2=>
  Xh.c (aW Y.p) t34 v2 λv3=>Ar .i64 (t28+1) λt36=>J t36 v3) (K v1):=by
 subst hcr;have G:=h.sv;refine Zw (a:=bN) (λ(t:Int) v=>∃i:Nat,t=(i:Int)/\i<=A.tb.length/\Ext F U v/\dA v (Grow F U) Y ((List.range i).foldl Q9 A) T) (λt _=>A.tb.length-t.toNat) ⟨0,rfl,O,Ext.refl _ _,h.mono λb _ d=>.inl d⟩ ?_;rintro t v ⟨i,rfl,D,e,s⟩;refine cL (λC=>?_) λy=>?_
 ·have g:i<A.tb.length:=by omega
  have j:=VW i A;obtain⟨c,E,q,t,r,H,z,w,_,_,x⟩:=h.at_ g;refine s.kc w (RD s.cut (by rw[j.1];exact g) w λv3 B u=>?_);refine cC (m:=i+1) O (by have:=h.lay.nC;omega) ⟨⟨i+1,rfl,O,e.iK (B.sub λb d=>d.1),?_⟩,O⟩;rw[kI,lb];exact u.mono λb _ d=>by
   rcases d with d|d
   ·exact d.1
   ·exact .inr (zP e.1 d)
 ·have:i=A.tb.length:=by omega
  subst this;exact hK v e s
def lx (A:AR):Prop:=∀t∈A.cF,∀xs∈t.bs,∀x∈xs,iz x
theorem gg.mc (t:gg):∀xs∈t.tick.bs,xs∈t.bs:=λxs h=>qW h
theorem gg.ru (t:gg):∀xs∈t.out,xs∈t.bs:=λxs h=>qp h
theorem VF {α:Type}{l:List α}{k:Nat}{t:α}{f:α->α}(h:l[k]?=some t):l.modify k f=l.set k (f t):=by
 apply zp;intro i;rw[oh,tB];by_cases hi:k=i
 ·subst hi;have:=(cV.1 h).1;rw[zB rfl,zB this,h];simp
 ·simp[hi]
theorem HU (A:AR)(k:Nat):(Vf A k).tb=A.tb/\(Vf A k).room=A.room/\(Vf A k).cF=(match A.cF[k]? with|some t=>A.cF.set k t.tick|none=>A.cF)/\(Vf A k).runs=A.runs/\(Vf A k).n=A.n:=by
 have key:∀(l:List (List Int)) (B:AR),(l.foldl (λA' a=>Zh A' k a) B).tb=B.tb/\(l.foldl (λA' a=>Zh A' k a) B).room=B.room/\(l.foldl (λA' a=>Zh A' k a) B).cF=B.cF/\(l.foldl (λA' a=>Zh A' k a) B).runs=B.runs/\(l.foldl (λA' a=>Zh A' k a) B).n=B.n:=by
  intro l
  induction l with
  | nil=>intro B;exact⟨rfl,rfl,rfl,rfl,rfl⟩
  | cons x l ih=>
   intro B;have b:=ih (Zh B k x);have d:=V0 B k x;exact⟨b.1.trans d.1,b.2.1.trans d.2.1,b.2.2.1.trans d.2.2.1,b.2.2.2.1.trans d.2.2.2.1,b.2.2.2.2.trans d.2.2.2.2⟩
 unfold Vf;cases A.cF[k]? with
 | none=>exact⟨rfl,rfl,rfl,rfl,rfl⟩
 | some t=>exact key _ _
theorem RB {k:Nat}(h:lx A):lx (Vf A k):=by
 unfold lx;rw[(HU A k).2.2.1];cases hk:A.cF[k]? with
 | none=>exact h
 | some t=>
  intro t' ht';rcases wH ht' with h1|h1
  ·exact h t' h1
  ·subst h1;exact λb a=>h t (zE hk) b (t.mc b a)
def oU (A:AR)(Y:Lay)(k r:Nat)(c:cD)(t:gg)(out:Sl)(sls:List Sl)(j:Nat):Hp->Rg->Prop:=
 if j=k then λU G=>ij U G r c.batch A.room t.tick/\cS out 1 (sls.map mn) U G/\oI sls t.out U G else cA A Y j
theorem oU.loc {k r:Nat}{c:cD}{t:gg}{out:Sl}{sls:List Sl}(j:Nat):dH (oU A Y k r c t out sls j):=by
 unfold oU;split
 ·exact λU i F G ⟨d,g,e⟩ b a=>⟨ij.loc _ _ _ _ d b a,cS.loc _ _ _ _ _ _ _ g b a,oI.loc _ _ _ _ _ _ e b a⟩
 ·exact cA.loc j
theorem SZ {k r:Nat}{c:cD}{t:gg}{out:Sl}{sls:List Sl}{tr:List gg}:∀j,j≠Lb.cF k->AC {A with cF:=tr} Y (oU A Y k r c t out sls) j=AC A Y (cA A Y) j:=by
 intro j hj;cases j<;>first|rfl|skip
 rename_i k';have a:¬k'=k:=λe=>hj (by rw[e]);simp only[AC,oU];rw[zA a]
theorem L6 (h:dA U F Y A (cA A Y)){k r:Nat}(hk:k<A.tb.length)(hr:Y.fT[k]?=some r)(hI:lx A){K:aP}(hK:∀σ',Ext F U σ'->dA σ' (Grow F U) Y (Vf A k) (cA (Vf A k) Y)->K σ') :
 Xo.c (aW r) U λt20 v2=>WU [bN] (λI1=>I1 0 v2) λJ1 (t22:Int) v3=>If (decide (t22<((t20.len:Nat):Int))) (Ix t20.a t20.len t22 1 λa24=>ji a24 v3 λbatch=>
  WC.c (aW Y.p) (k:Int) batch v3 λt29 v4=>Ar .i64 (t22+1) λt30=>J1 t30 v4) (K v3):=by
 obtain⟨c,ss,q,t,r',hc,hss,hq,P,E,hok⟩:=h.at_ hk;rw[hr]at E;cases E;obtain⟨G,hG,Q,hd,N⟩:=h.step (.cF k);have L:ij U G r c.batch A.room t:=by
  simp only[AC,cA]at Q;rw[hr,hc,P]at Q;exact Q
 refine Sv L λout v2 e2 M R=>?_;obtain⟨d,D,J⟩:=M;have e2F:=e2.sub hG;have hOg:cS out 1 (d.map mn) v2 (Grow G U):=aH.mono D λb _ g=>.inl g;have W:oI d t.out v2 (Grow G U):=(oI.loc _ _).mono J λb _ g=>.inl g;have V:dA v2 (Grow F U) Y {A with cF:=A.cF.set k t.tick} (oU A Y k r c t out d):=by
  refine N v2 _ _ _ (Grow G U) _ ?_ oU.loc SZ e2 (λb g=>g) ?_ (HT hG λb g=>g)
  ·exact⟨h.lay.c,h.lay.t,h.lay.cI,by simpa using h.lay.cF,h.lay.lA,h.lay.nC,h.lay.n1,h.lay.n2,h.lay.n3,h.lay.st,h.lay.room,h.lay.ok⟩
  ·simp only[AC,oU,zT];exact⟨R,hOg,W⟩
 have hol:out.len=t.out.length:=by
  have:=D.1;have:=J.1;simp at *;omega
 have hfew:t.out.length<=8:=by
  have h1:=L.lZ;have h2:=L.r1;have:t.out.length<=t.bs.length:=by unfold gg.out;rw[zL];omega
  omega
 refine Zw (a:=bN) (λ(i:Int) w=>∃j:Nat,i=(j:Int)/\j<=t.out.length/\Ext F U w/\dA w (Grow F U) Y ((t.out.take j).foldl (λA' xs=>Zh A' k xs) {A with cF:=A.cF.set k t.tick}) (oU A Y k r c t out d)) (λi _=>t.out.length-i.toNat) ⟨0,rfl,O,e2F,V⟩ ?_;rintro i w ⟨j,rfl,hj,ew,s⟩;refine cL (λhlt=>?_) λhge=>?_
 ·have C:j<t.out.length:=by omega
  have hx:t.out[j]?=some t.out[j]:=cQ C;have Z:t.out.take (j+1)=t.out.take j++[t.out[j]]:=by rw[zj,hx];rfl
  have z:=t.ru _ (zb C);generalize t.out[j]=xs at *;obtain⟨G2,hG2,y⟩:=s.sep.get (.cF k);simp only[AC,oU,zT]at y;have X:j<d.length:=by rw[y.2.2.1];exact C
  have S:d[j]?=some d[j]:=cQ X;refine y.2.1.C4 S (EU (xs:=xs) s k (hI t (zE P) xs z) (by have:=L.all xs z;have:=L.b1;omega) (y.2.2.2 j _ xs S hx).2 (.inr ⟨k,λH B=>?_⟩) λw2 e3 hA3=>?_)
  ·unfold oU at B;rw[zB rfl]at B;exact(B.2.2.2 j _ xs S hx).1
  ·refine cC (m:=j+1) O O ⟨⟨j+1,rfl,O,ew.iK e3,?_⟩,O⟩;rw[Z,lb];exact hA3.mono λb _ g=>by
    rcases g with g|g
    ·exact g
    ·exact .inr (zP ew.1 g)
 ·have:j=t.out.length:=by omega
  subst this;rw[zy]at s;have x:=HU A k;rw[P]at x;have e1:Vf A k=t.out.foldl (λA' xs=>Zh A' k xs) {A with cF:=A.cF.set k t.tick}:=by unfold Vf;rw[P]
  rw[←e1]at s;refine hK w ew (s.τ (λj=>cA.loc j) λj G3 u=>?_);unfold oU at u;unfold cA;rw[x.1,x.2.1,x.2.2.1];simp only;split at u
  ·rename_i hjk;subst hjk;rw[hr,hc,zK (by rw[h.lay.cF];exact hk)];exact u.1
  ·rename_i hjk;rw[zd (λe=>hjk e.symm)];exact u
theorem I5 (m:Nat)(A:AR)(hI:lx A):((List.range m).foldl Vf A).tb=A.tb/\((List.range m).foldl Vf A).cF.length=A.cF.length/\((List.range m).foldl Vf A).runs=A.runs/\((List.range m).foldl Vf A).n=A.n/\lx ((List.range m).foldl Vf A):=by
 induction m with
 | zero=>exact⟨rfl,rfl,rfl,rfl,hI⟩
 | succ m ih=>
  rw[kI,lb];have:=HU ((List.range m).foldl Vf A) m;refine⟨this.1.trans ih.1,?_,this.2.2.2.1.trans ih.2.2.1,this.2.2.2.2.trans ih.2.2.2.1,RB ih.2.2.2.2⟩;show(Vf ((List.range m).foldl Vf A) m).cF.length=_;rw[this.2.2.1];split
  ·rw[nZ];exact ih.2.1
  ·exact ih.2.1
theorem TF (h:dA U F Y A (cA A Y))(hI:lx A){R:aP}(hR:∀σ',Ext F U σ'->dA σ' (Grow F U) Y (HF A) (cA (HF A) Y)->R σ'):Zb.c (aW Y.p) U R:=by
 refine Zb.o ?_;unfold Zb.v;refine VB h (bZ rfl (bO (h.hd.rS rfl ?_)));have H:=h.jb;refine Zw (a:=bN) (λ(t:Int) v=>∃i:Nat,t=(i:Int)/\i<=A.tb.length/\Ext F U v/\dA v (Grow F U) Y ((List.range i).foldl Vf A) (cA ((List.range i).foldl Vf A) Y)) (λt _=>A.tb.length-t.toNat) ⟨0,rfl,O,Ext.refl _ _,h.mono λb _ d=>.inl d⟩ ?_;rintro t v ⟨i,rfl,D,e,u⟩;refine cL (λw=>?_) λs=>?_
 ·have g:i<A.tb.length:=by simp only at w;omega
  have j:=I5 i A hI;obtain⟨c,G,q,t,r,J,B,E,_,y,z⟩:=h.at_ g;refine u.pZ y (L6 u.cut (by rw[j.1];exact g) y j.2.2.2.2 λv3 C x=>?_);refine cC (m:=i+1) O (by have:=h.lay.nC;omega) ⟨⟨i+1,rfl,O,e.iK (C.sub λb d=>d.1),?_⟩,O⟩;rw[kI,lb];exact x.mono λb _ d=>by
   rcases d with d|d
   ·exact d.1
   ·exact .inr (zP e.1 d)
 ·have:i=A.tb.length:=by simp only at s;omega
  subst this;refine hR v e ?_;unfold HF;rw[h.lay.cF];exact u
end Go.Ar
namespace Go.Bu
variable {n:Nat}{S:Nat->Bool}
theorem Uz {m a k x:Nat}(h:Z0 n S m a k=some x):∃j,j<k/\m<=2^j/\a<=2^j/\(KX n S j).head?=some x/\∀i,i<j->m<=2^i->a<=2^i->KX n S i=[]:=by
 have xd:∀k,Z0 n S m a k=none->∀i,i<k->m<=2^i->a<=2^i->KX n S i=[]:=by
  intro k
  induction k with
  | zero=>intro _ i hi;omega
  | succ k ih=>
   intro hn i hi d b;rw[Z0]at hn;split at hn
   ·cases hn
   ·rename_i hn';by_cases e:i=k
    ·subst e;rw[zB ⟨d,b⟩]at hn;simpa using hn
    ·exact ih hn' i O d b
 induction k with
 | zero=>simp[Z0]at h
 | succ k ih=>
  rw[Z0]at h;split at h
  ·rename_i y hy;cases h;obtain⟨j,d,b⟩:=ih hy;exact⟨j,O,b⟩
  ·rename_i hn;split at h
   ·rename_i hc;exact⟨k,O,hc.1,hc.2,h,xd k hn⟩
   ·cases h
theorem HD {m a:Nat}:∀{k},Z0 n S m a k=none->∀i,i<k->m<=2^i->a<=2^i->KX n S i=[]
 | 0,_,i,hi,_,_=>by omega
 | k+1,hn,i,hi,h1,h2=>by
  rw[Z0]at hn;split at hn
  ·cases hn
  ·rename_i hn';by_cases e:i=k
   ·subst e;rw[zB ⟨h1,h2⟩]at hn;simpa using hn
   ·exact HD hn' i O h1 h2
theorem lN (hb:Bounded S n){m a x:Nat}(h:Zx n S m a=some x):x+m<=n/\∀y,x<=y->y<x+m->S y=true:=by
 obtain⟨j,_,g,_,e,_⟩:=Uz h;have b:x∈KX n S j:=List.mem_of_head? e;obtain⟨q,rfl,d⟩:=(Kf hb).1 b;have:=Z5 hb (ZW.1 d).1;exact⟨O,λy i p=>Uw d (Qv.2 O)⟩
end Go.Bu
namespace Go.Ar
open Go Go.Vc Go.Proofs
open Go.Bu (YS Q8 Zx)
variable {U:Hp}{F H:Rg}{p hs:Nat}{A:AR}{sp:Sp}{Y:Lay}{T:Nat->Hp->Rg->Prop}
structure W2 (U:Hp) (F H:Rg) (Y:Lay) (A:AR) (T:Nat->Hp->Rg->Prop) (sp:Sp):Prop where
 a:dA U F Y A T
 s:cZ U H Y.hs sp
 d:∀b,F b->¬H b
 g:Gl U
 o:jk F
 o2:jk H
def gN (F H:Rg):Rg:=λb=>F b\/H b
theorem W2.jX (h:W2 U F H Y A T sp){σ':Hp}{A':AR}(e:Ext F U σ')(ha:dA σ' F Y A' T):W2 σ' F H Y A' T sp:=
 ⟨ha,dH.bV cZ.loc h.s e λb _ a i=>h.d b i a,h.d,h.g.bV e h.o,h.o,h.o2⟩
theorem W2.space (h:W2 U F H Y A T sp){σ':Hp}{sp':Sp}(e:Ext H U σ')(hs:cZ σ' H Y.hs sp'):W2 σ' F H Y A T sp':=
 ⟨dH.bV dA.loc h.a e λb _ i j=>h.d b i j,hs,h.d,h.g.bV e h.o2,h.o,h.o2⟩
theorem W2.aF (h:W2 U F H Y A T sp){σ':Hp}(e:aG U σ'):W2 σ' F H Y A T sp:=⟨h.a.aF e,h.s.aF e,h.d,h.g.aF e,h.o,h.o2⟩
theorem W2.cut (h:W2 U F H Y A T sp):W2 U (Cut F U) (Cut H U) Y A T sp:=⟨h.a.cut,dH.cut cZ.loc h.s,λb e i=>h.d b e.1 i.1,h.g,h.o.sub λb e=>e.1,h.o2.sub λb e=>e.1⟩
theorem W2.ns (h:W2 U F H Y A T sp){σ':Hp}{A':AR}(e:Ext F U σ')(ha:dA σ' (Grow F U) Y A' T):W2 σ' (Grow F U) (Cut H U) Y A' T sp:=
 ⟨ha,dH.bV cZ.loc (dH.cut cZ.loc h.s) e λb _ a j=>h.d b j a.1,λb a i=>by
  rcases a with a|a
  ·exact h.d b a i.1
  ·have:=i.2;omega,h.g.bV e h.o,h.o.grow h.g,h.o2.sub λb a=>a.1⟩
theorem W2.Ag (h:W2 U F H Y A T sp){K:Option Addr->Prop}(hK:K (some ⟨Y.hs,0,none⟩)):fW (Addr.add ⟨Y.p,0,none⟩ 1) U K:=h.a.hd.rP rfl hK
theorem EN (st:List Nat)(a m:Nat):Hu st a (m+1)=jo (Hu st a m) ((a+m:Nat):Int):=by
 unfold Hu;rw[kI,lr,lb];rfl
theorem Ry {a m:Int}(h:fH sp a m≠0):gL sp a m=sp:=by unfold gL;rw[zA h]
theorem NH {size:Nat}(h1:1<=size)(h:∀j,1<=j->j*size+size<=sp.st.length->fH sp ((j*size:Nat):Int) (size:Int)≠0):dB sp size=none:=by
 unfold dB;rw[qw];intro x hx;obtain⟨j,b,rfl⟩:=zD.1 hx;rw[ze]at b;have d:(j+1)*size<=sp.st.length:=zP (k7 size b) (yf _ _);rw[zl,Nat.one_mul]at d;by_cases h0:j=0
 ·subst h0;simp
 ·have:=h j O d;have a:(fH sp ((j*size:Nat):Int) (size:Int)==0)=false:=by simpa only[kR]using this
  rw[a,sL];simp
theorem Ω {size j:Nat}(h1:1<=size)(h0:1<=j)(hf:j*size+size<=sp.st.length)(hm:fH sp ((j*size:Nat):Int) (size:Int)=0)(h:∀i,1<=i->i<j->fH sp ((i*size:Nat):Int) (size:Int)≠0):dB sp size=some (j*size):=by
 unfold dB;have m:j<sp.st.length/size:=by
  rw[Nat.lt_iff_add_one_le,Nat.le_div_iff_mul_le h1,zl,Nat.one_mul];exact hf
 have a:List.range (sp.st.length/size)=List.range j++(j::(List.range (sp.st.length/size-j-1)).map (j+1 + ·)):=by
  apply zp;intro i;rw[List.getElem?_append,rm];by_cases d:i<j
  ·rw[zB d,nW O,nW d]
  ·rw[zA d];by_cases hij:i=j
   ·subst hij;rw[mI,uz,nW m]
   ·rw[show i-j=(i-j-1)+1 by omega,Ca,zk];by_cases hl:i<sp.st.length/size
    ·rw[nW hl,nW O];simp only[zh]
     congr 1;omega
    ·rw[zO (by rw[rm];omega),zO (by rw[rm];omega)];rfl
 rw[a,lr,List.find?_append];have b:((List.range j).map (· * size)).find? (λ(s:Nat)=>s != 0&&fH sp s size==0)=none:=by
  rw[qw];intro x hx;obtain⟨i,d,rfl⟩:=zD.1 hx;rw[ze]at d;by_cases h0:i=0
  ·subst h0;simp
  ·have:=h i O d;have e:(fH sp ((i*size:Nat):Int) (size:Int)==0)=false:=by simpa only[kR]using this
   rw[e,sL];simp
 rw[b,zX,uP];have:(j*size != 0&&fH sp ((j*size:Nat):Int) (size:Int)==0)=true:=by
  rw[hm];have hp:0<j*size:=Nat.mul_pos O O;have g:j*size≠0:=by omega
  simp[g]
 rw[this];rfl
theorem PR (h:W2 U F H Y A T sp){size:Nat}(h1:size=16\/size=32\/size=64){R:aO}(h0:Ht A sp size=none->∀σ',Ext (gN F H) U σ'->W2 σ' F H Y A T sp->R false σ')
 (hR:∀A' sp',Ht A sp size=some (A',sp')->∀σ',Ext (gN F H) U σ'->W2 σ' F H Y A' T sp'->R true σ'):Y9.c (aW Y.p) (size:Int) U R:=by
 refine Y9.o ?_;unfold Y9.v;have hn2:sp.st.length<=1024:=by obtain⟨q,r,l,B,hh⟩:=h.s;exact hh.n2
 have es:∀{a b:Hp},Ext H a b->Ext (gN F H) a b:=λe=>e.sub λb P=>.inr P;have ea:∀{a b:Hp},Ext F a b->Ext (gN F H) a b:=λe=>e.sub λb P=>.inl P;have d:∀j,j*size+size=(j+1)*size:=λj=>by rw[zl,Nat.one_mul]
 refine Zw (a:=bN) (λ(t:Int) v=>∃j:Nat,t=((j*size:Nat):Int)/\1<=j/\j*size<=1024+64/\Ext (gN F H) U v/\W2 v F H Y A T sp/\∀i,1<=i->i<j->i*size+size<=sp.st.length->fH sp ((i*size:Nat):Int) (size:Int)≠0) (λt _=>2000-t.toNat)
  ⟨1,O,zC _,O,Ext.refl _ _,h,λi h1 h2=>O⟩ ?_
 rintro t v ⟨j,rfl,hj,P,e,z,x⟩;refine cC (m:=j*size+size) O O (bO (z.Ag (He z.s (cL (λhlt=>?_) λhge=>?_))))
 ·have hf:j*size+size<=sp.st.length:=by omega
  refine bO (z.Ag (WoG z.s z.g z.o2 _ _ λv2 e2 G=>?_));refine cU (λV=>?_) λV=>?_
  ·have M:fH sp ((j*size:Nat):Int) (size:Int)≠0:=by simpa using V
   rw[Ry M]at G;refine cC (m:=(j+1)*size) (by rw[←d];omega) (by rw[←d];omega) ⟨⟨j+1,rfl,O,by rw[←d];omega,e.trans (es e2),z.space e2 G,λi y C D=>?_⟩,by rw[←d];omega⟩;by_cases hij:i=j
   ·subst hij;exact M
   ·exact x i y O D
  ·have W:fH sp ((j*size:Nat):Int) (size:Int)=0:=by simpa using V
   have Q:=z.space e2 G;have L:∀i,i<j->i*size+size<=sp.st.length:=λi Z=>by
    have:(i+1)*size<=j*size:=k7 _ Z;rw[d];omega
   have K:=Ω (sp:=sp) O hj hf W λi y C=>x i y C (L i C);have E:Ht A sp size=some ({A with st:=Hu A.st (j*size/16) (size/16),S:=Q8 A.n A.S ((j*size:Nat):Int) size},gL sp ((j*size:Nat):Int) size):=by unfold Ht;rw[K]
   have hd16:(j*size)%16=0:=by
    rcases h1 with rfl|rfl|rfl
    ·omega
    ·omega
    ·omega
   refine nz aB (cC (m:=j*size/16) (by rw[Xq O];simp) O ?_);refine Zw (a:=bN) (λ(t:Int) w=>∃i:Nat,t=((j*size/16+i:Nat):Int)/\i<=size/16/\Ext (gN F H) U w/\W2 w F H Y {A with st:=Hu A.st (j*size/16) i} T (gL sp ((j*size:Nat):Int) size)) (λt _=>200-t.toNat)
    ⟨0,O,O,e.trans (es e2),Q⟩ ?_
   rintro t w ⟨i,rfl,Z,ew,u⟩;refine cC (m:=j*size+size) O O (nz aB (cC (m:=(j*size+size)/16) (by rw[Xq O];simp) O (cL (λab=>?_) λaa=>?_)))
   ·refine bO (u.a.hd.rP rfl (u.a.Cp _ λw2 t2 N J=>?_));refine cC (m:=j*size/16+(i+1)) O O ⟨⟨i+1,rfl,O,ew.trans (ea N),?_⟩,O⟩;rw[EN];exact u.jX N J
   ·have X:i=size/16:=by omega
    subst X;refine bO (u.a.hd.rP rfl (u.a.vz _ _ λw2 t2 N J=>?_));exact hR _ _ E w2 (ew.trans (ea N)) (u.jX N J)
 ·have K:=NH (sp:=sp) (size:=size) O λi y D=>by
   by_cases hij:i<j
   ·exact x i y hij D
   ·have:j*size<=i*size:=k7 _ O;omega
  have E:Ht A sp size=none:=by unfold Ht;rw[K]
  exact h0 E v e z
theorem Rv {m a:Nat}(h1:1<=m)(h2:m<=64)(ha:a=1\/a=2\/a=4\/a=8\/a=16):Go.Bu.fU (m:Int) (a:Int)=true:=by
 have hp:Go.Bu.fZ (a:Int)=true:=by rcases ha with rfl|rfl|rfl|rfl|rfl<;>decide
 unfold Go.Bu.fU;rw[hp];simp only[ub,zF,zU];omega
theorem W2.take (h:W2 U F H Y A T sp){m a:Nat}(hok:Go.Bu.fU (m:Int) (a:Int)=true){R:Int->Int->Hp->Prop}(h0:Zx A.n A.S m a=none->∀σ',Ext F U σ'->W2 σ' F H Y A T sp->R 0 6 σ')
 (h1:∀x,Zx A.n A.S m a=some x->x+m<=A.n->∀σ',Ext F U σ'->W2 σ' F H Y {A with S:=Go.Bu.take A.S x (x+m)} T sp->R (x:Int) 0 σ'):XS.c (aW Y.fr) (m:Int) (a:Int) U R:=by
 have b:Go.Bu.Bounded A.S A.n:=by obtain⟨r,p,j,_⟩:=h.a.free;exact j.jU
 refine h.a.wM _ _ λσ' e i=>?_;have d:=h.jX e i;cases ht:Zx A.n A.S m a with
 | none=>
  have e1:Go.Bu.jl A.n A.S (m:Int) (a:Int)=6:=by unfold Go.Bu.jl;rw[hok,zB rfl];simp only[dE];rw[ht]
  have e2:Go.Bu.jm A.n A.S (m:Int) (a:Int)=0:=by unfold Go.Bu.jm;rw[hok,zB rfl];simp only[dE];rw[ht]
  have g:Go.Bu.jF A.n A.S (m:Int) (a:Int)=A.S:=by unfold Go.Bu.jF;rw[hok,zB rfl];simp only[dE];rw[ht]
  rw[e1,e2];rw[g]at d;exact h0 ht σ' e d
 | some x=>
  have e1:Go.Bu.jl A.n A.S (m:Int) (a:Int)=0:=by unfold Go.Bu.jl;rw[hok,zB rfl];simp only[dE];rw[ht]
  have e2:Go.Bu.jm A.n A.S (m:Int) (a:Int)=x:=by unfold Go.Bu.jm;rw[hok,zB rfl];simp only[dE];rw[ht]
  have g:Go.Bu.jF A.n A.S (m:Int) (a:Int)=Go.Bu.take A.S x (x+m):=by unfold Go.Bu.jF;rw[hok,zB rfl];simp only[dE];rw[ht]
  rw[e1,e2];rw[g]at d;exact h1 x ht (Go.Bu.lN b ht).1 σ' e d
theorem NO {size:Nat}{A':AR}{sp':Sp}(h:Ht A sp size=some (A',sp')):A'.n=A.n:=by
 unfold Ht at h;split at h
 ·cases h
 ·cases h;rfl
def Fits (U:Hp)(F H F' H':Rg):Prop:=(∀b,F' b->Grow F U b)/\∀b,H' b->H b
theorem FM (h:W2 U F H Y A T sp){m a no:Nat}(h1:1<=m)(h2:m<=64)(ha:a=1\/a=2\/a=4\/a=8\/a=16)(hn1:1<=no)(hn2:no<=1000){R:Int->Int->Hp->Prop}
 (h0:(dC A sp m a no).1=none->∀σ',Ext (gN F H) U σ'->W2 σ' F H Y (dC A sp m a no).2.1 T (dC A sp m a no).2.2->R 0 6 σ')
 (hR:∀x,(dC A sp m a no).1=some x->x+m<=A.n->∀σ' F' H',Fits U F H F' H'->Ext (gN F H) U σ'->W2 σ' F' H' Y (dC A sp m a no).2.1 T (dC A sp m a no).2.2->R (x:Int) 0 σ') :
 Y3.c (aW Y.p) (m:Int) (a:Int) (no:Int) U R:=by
 refine Y3.o ?_;unfold Y3.v;have G:=Rv h1 h2 ha;have es:∀{a b:Hp},Ext H a b->Ext (gN F H) a b:=λe=>e.sub λb j=>.inr j;have r:∀{a b:Hp},Ext F a b->Ext (gN F H) a b:=λe=>e.sub λb j=>.inl j;have fin:∀(v:Hp) (x:Nat) (A1:AR) (sp1:Sp),Ext (gN F H) U v->x+m<=A.n->W2 v F H Y {A1 with S:=Go.Bu.take A1.S x (x+m)} T sp1->dC A sp m a no=(some x,dU A1 x m no,sp1) →
  bU (some ⟨Y.p,0,none⟩) λW=>fW (W.add 3) v λK=>XL.c K (x:Int) (m:Int) v λt55 u=>bU (some ⟨Y.p,0,none⟩) λN=>fW (N.add 4) u λZ=>Yq.c Z (x:Int) (m:Int) (no:Int) u λt63 v3=>R (x:Int) 0 v3:=by
  intro v x A1 sp1 e hxm z y;have Q:x<=1000000:=by have:=h.a.lay.n2;omega
  refine bO (z.a.hd.rP rfl (z.a.S5 _ _ λu t2 e2 P=>?_));have g:=z.jX e2 P;refine bO (g.a.hd.rP rfl (g.a.Set x m Q hn1 hn2 λv3 t3 e3 X=>?_));have L:=g.ns e3 X;refine hR x (by rw[y]) hxm v3 (Grow F u) (Cut H u) ⟨λb j=>?_,λb j=>j.1⟩ ((e.trans (r e2)).trans (r e3)) (by rw[y];exact L);rcases j with j|j
  ·exact .inl j
  ·exact .inr (zP (e.trans (r e2)).1 j)
 refine bO (h.a.hd.rP rfl (h.take G (λE v e z=>?_) λx E D v e z=>?_))
 ·refine Jn.intro (cJ rfl ?_);have V:(if(a:Int)>(m:Int)then(a:Int)else(m:Int))=((max m a:Nat):Int):=by
   by_cases hgt:(a:Int)>(m:Int)
   ·rw[zB hgt];omega
   ·rw[zA hgt];omega
  rw[V];refine Zw (a:=bN) (λ(t:Int) w=>w=v/\(t=16\/t=32/\16<max m a\/t=64/\32<max m a)) (λt _=>100-t.toNat) ⟨rfl,.inl rfl⟩ ?_;rintro(t:Int) w ⟨rfl,hcase⟩;have ha16:a<=16:=by omega
  refine cL (λhlt=>?_) λhge=>?_
  ·have:t=16\/t=32:=by omega
   rcases this with rfl|rfl
   ·exact ar O O ⟨⟨rfl,O⟩,by decide⟩
   ·exact ar O O ⟨⟨rfl,O⟩,by decide⟩
  ·have M:t=((Kw (max m a):Nat):Int):=by
    unfold Kw;by_cases c1:max m a<=16
    ·rw[zB c1];omega
    ·rw[zA c1];by_cases c2:max m a<=32
     ·rw[zB c2];omega
     ·rw[zA c2];omega
   subst M;have ir:Kw (max m a)=16\/Kw (max m a)=32\/Kw (max m a)=64:=by omega
   refine PR z ir (λy σ' J s=>?_) λA' B y σ' J s=>?_
   ·have d:dC A sp m a no=(none,A,sp):=by unfold dC;rw[E];simp only;rw[y]
    exact cJ rfl (h0 (by rw[d]) σ' ((r e).trans J) (by rw[d];exact s))
   ·refine bZ rfl (bO (s.a.hd.rP rfl (s.take G (λC u e2 g=>?_) λx C D u e2 g=>?_)))
    ·have d:dC A sp m a no=(none,A',B):=by unfold dC;rw[E];simp only;rw[y];simp only;rw[C]
     exact cJ rfl (h0 (by rw[d]) u (((r e).trans J).trans (r e2)) (by rw[d];exact g))
    ·have d:dC A sp m a no=(some x,dU A' x m no,B):=by unfold dC;rw[E];simp only;rw[y];simp only;rw[C]
     exact bZ rfl (fin u x A' B (((r e).trans J).trans (r e2)) (by rw[←NO y];exact D) g d)
 ·have d:dC A sp m a no=(some x,dU A x m no,sp):=by unfold dC;rw[E]
  refine Jn.intro (bZ rfl (bZ rfl (fin v x A sp (r e) D z d)))
theorem Fits.refl:Fits U F H F H:=⟨λb a=>.inl a,λb a=>a⟩
theorem R8 (h:W2 U F H Y A T sp)(k:Int){R:aN}(hR:∀σ' F' H',Fits U F H F' H'->Ext (gN F H) U σ'->W2 σ' F' H' Y (cR A sp k).1 T (cR A sp k).2->R (Vr A sp k) σ') :
 Yl.c (aW Y.p) k U R:=by
 refine Yl.o ?_;unfold Yl.v;refine U7 h.a k (λD=>?_) λx hx N=>?_
 ·have e1:Vr A sp k=1:=by unfold Vr;rw[D];rfl
  have e2:cR A sp k=(A,sp):=by unfold cR;rw[D];rfl
  have:=hR U F H Fits.refl (Ext.refl _ _) (by rw[e2];exact h);rw[e1]at this;exact cJ rfl this
 ·subst hx;have D:A.ck (x:Int)=true:=by unfold AR.ck;simp;omega
  obtain⟨c,V,q,t,r,J,B,hq,_,_,Q⟩:=h.a.at_ N;have ht2:=h.a.lay.nC;obtain⟨_,_,_,M,hp4,_⟩:=Q;refine bZ rfl (bO (h.a.hd.rS rfl (h.a.vF (d:=1) J O ?_)));simp only[zA (show ¬(1=0) by omega),zT];refine cC (m:=x+1) O O ?_;have Z:Vr A sp x=match (dC A sp c.bK 1 (x+1)).1 with
   | some y=>oY c V y
   | none=>6:=by unfold Vr;rw[D,zB rfl];simp only[dE];rw[J,B];rfl
  have eS:cR A sp x=match dC A sp c.bK 1 (x+1)with
   | (some y,A',w)=>(if oY c V y=0 then{A' with cI:=A'.cI.set x (iD c V y)}else A',w)
   | (none,A',w)=>(A',w):=by unfold cR;rw[D,zB rfl];simp only[dE];rw[J,B];rfl
  refine FM (a:=1) h M O (.inl rfl) O O (λC σ' e u=>?_) λy C hyn σ' F' H' i e u=>?_
  ·have:=hR σ' F H Fits.refl e;rw[Z,eS,C]at this;generalize dC A sp c.bK 1 (x+1)=g at *;obtain⟨g1,g2,g3⟩:=g;simp only at C;subst C;exact cJ rfl (this u)
  ·have z:(dC A sp c.bK 1 (x+1)).2.1.tb=A.tb/\(dC A sp c.bK 1 (x+1)).2.1.cI=A.cI:=by
    unfold dC;split
    ·exact⟨rfl,rfl⟩
    ·split
     ·exact⟨rfl,rfl⟩
     ·rename_i A1 sp1 hga;have:A1.tb=A.tb/\A1.cI=A.cI:=by
       unfold Ht at hga;split at hga
       ·cases hga
       ·cases hga;exact⟨rfl,rfl⟩
      split
      ·exact this
      ·exact this
   have s:=λσ' F' H'=>hR σ' F' H';rw[Z,eS]at s;generalize dC A sp c.bK 1 (x+1)=g at *;obtain⟨g1,A',w⟩:=g;simp only at C u z s;subst C;simp only at s;have hWc:=u;obtain⟨G,S,⟨ps,hC⟩,_,E⟩:=u.a.qM hq (by rw[z.1];exact J) (by rw[z.2];exact B);have hn2:=h.a.lay.n2;refine bZ rfl (bO (u.a.hd.rS rfl (u.a.kc hq (Ni hC O (λX v e2=>?_) λW v ps' e2 K=>?_))))
   ·have:=s v F' H' i (e.lH e2) (by rw[X];exact u.aF e2);rw[X]at this;exact this
   ·have P:=E v _ _ (Grow G σ') _ e2 (λb j=>j) K (HT S λb j=>j);have L:=u.ns (e2.sub S) P;have:=s v (Grow F' σ') (Cut H' σ') ⟨λb j=>?_,λb j=>i.2 b j.1⟩ (e.eY (e2.sub S) λb j=>?_) (by rw[W];exact L)
    ·rw[W]at this;exact this
    ·rcases j with j|j
     ·exact i.1 b j
     ·exact .inr (zP e.1 j)
    ·rcases i.1 b j with h1|h1
     ·exact .inl (.inl h1)
     ·exact .inr h1
theorem Cn (A:AR)(sp:Sp)(m a no:Nat):(dC A sp m a no).2.1.tb=A.tb/\(dC A sp m a no).2.1.cI=A.cI/\(dC A sp m a no).2.1.cF=A.cF/\(dC A sp m a no).2.1.room=A.room/\(dC A sp m a no).2.1.runs=A.runs/\(dC A sp m a no).2.1.n=A.n:=by
 unfold dC;split
 ·exact⟨rfl,rfl,rfl,rfl,rfl,rfl⟩
 ·split
  ·exact⟨rfl,rfl,rfl,rfl,rfl,rfl⟩
  ·rename_i A1 sp1 hga;have:A1.tb=A.tb/\A1.cI=A.cI/\A1.cF=A.cF/\A1.room=A.room/\A1.runs=A.runs/\A1.n=A.n:=by
    unfold Ht at hga;split at hga
    ·cases hga
    ·cases hga;exact⟨rfl,rfl,rfl,rfl,rfl,rfl⟩
   split
   ·exact this
   ·exact this
theorem NR:∀a:Nat,a<17->1<=a->((bits .and .i64 (a:Int) ((a:Int)-1) != 0) = !(a==1||(a==2||(a==4||(a==8||a==16))))):=by decide
theorem Mz (h:W2 U F H Y A T sp)(m a:Int){R:Int->Int->Hp->Prop}(hR:∀σ' F' H',Fits U F H F' H'->Ext (gN F H) U σ'->W2 σ' F' H' Y (cE A sp m a).1 T (cE A sp m a).2->R ((Qo A sp m a:Nat):Int) (QS A sp m a) σ') :
 WW.c (aW Y.p) m a U R:=by
 refine WW.o ?_;unfold WW.v;have E:KO m a=false->R 0 1 U:=λu=>by
  have e1:QS A sp m a=1:=by unfold QS;rw[u];rfl
  have e2:cE A sp m a=(A,sp):=by unfold cE;rw[u];rfl
  have Z:Qo A sp m a=0:=by unfold Qo;rw[u];rfl
  have:=hR U F H Fits.refl (Ext.refl _ _) (by rw[e2];exact h);rw[e1,Z]at this;exact this
 have d:¬(1<=m/\m<=64/\(a=1\/a=2\/a=4\/a=8\/a=16))->R 0 1 U:=λhn=>E (by
  rw[←pY];intro hp;unfold KO at hp;simp at hp;omega)
 refine VB h.a (bZ rfl (bW.intro (cL (λc1=>bW.intro (cJ rfl (bW.intro (cJ rfl (bW.intro (cJ rfl (cJ rfl (d O)))))))) λc1=>?_)));refine bW.intro (cL (λc2=>bW.intro (cJ rfl (bW.intro (cJ rfl (cJ rfl (d O)))))) λc2=>?_);refine bW.intro (cL (λX=>bW.intro (cJ rfl (cJ rfl (d O)))) λX=>?_);refine bW.intro (cL (λc4=>cJ rfl (d O)) λc4=>ar O O ?_);obtain⟨y,rfl⟩:=zf (show 0<=m by omega);obtain⟨z,rfl⟩:=zf (show 0<=a by omega);rw[NR z O O];refine cU (λM=>?_) λM=>?_
 ·refine d (λhh=>?_);simp at M;omega
 ·have W:z=1\/z=2\/z=4\/z=8\/z=16:=by
   simp at M;omega
  have u:KO (y:Int) (z:Int)=true:=by
   unfold KO;simp;omega
  have N:QS A sp y z=if(dC A sp y z 41).1.isSome then 0 else 6:=by unfold QS;rw[u,zB rfl];rfl
  have S:Qo A sp y z=(dC A sp y z 41).1.getD 0:=by unfold Qo;rw[u,zB rfl];rfl
  have P:cE A sp y z=match dC A sp y z 41 with
   | (some x,A',j)=>({A' with runs:=cE.mset2 A'.runs x y},j)
   | (none,A',j)=>(A',j):=by unfold cE;rw[u,zB rfl];rfl
  refine FM (no:=41) h O O W O O (λB σ' e w=>?_) λx B V σ' F' H' s e w=>?_
  ·have:=hR σ' F H Fits.refl e;rw[N,P,S,B]at this;generalize dC A sp y z 41=g at *;obtain⟨g1,g2,g3⟩:=g;simp only at B;subst B;exact cJ rfl (this w)
  ·have r:=λσ' F' H'=>hR σ' F' H';rw[N,P,S]at r;generalize dC A sp y z 41=g at *;obtain⟨g1,A',j⟩:=g;simp only at B w r;subst B;simp only at r;obtain⟨gr,hm,D⟩:=w.a.nA;refine bZ rfl (bO (w.a.hd.rM rfl ⟨_,_,rfl,hm,λv Q J=>?_⟩));have C:dD v Y.rn .i64 bN (dO (gK A'.runs) (x:Int) (y:Int)):=J;rw[Ip]at C;have L:=D v _ Q C;have e2:Ext F' σ' v:=Q.ext.sub λb G=>by subst G;exact gr
   have K:=w.jX e2 L;exact r v F' H' s (e.eY e2 λb G=>by
    rcases s.1 b G with h1|h1
    ·exact .inl (.inl h1)
    ·exact .inr h1) K
theorem Ov (h:W2 U F H Y A T sp){R:aN}(hR:∀σ',Ext (gN F H) U σ'->W2 σ' (Cut F U) (Cut H U) Y (eH A sp).1 T (eH A sp).2->R ((ur A:Nat):Int) σ') :
 Yj.c (aW Y.p) U R:=by
 refine Yj.o ?_;unfold Yj.v;have es:∀{a b:Hp},Ext (Cut H U) a b->Ext (gN F H) a b:=λe=>e.sub λb u=>.inr u.1;have W:∀{a b:Hp},Ext (Cut F U) a b->Ext (gN F H) a b:=λe=>e.sub λb u=>.inl u.1;obtain⟨G,hG,q,hT,_⟩:=h.a.l4;refine VB h.a (bZ rfl (bO (h.a.hd.rP rfl (WlC hT λs v1 e1 j=>?_))));have aa:=h.a.lay.n2;have V:=h.a.lay.st;have x:=j.jV;have X:(KQ A.st 0).length<=64:=by
  unfold KQ;refine zP (ny _ _) ?_;rw[rm];omega
 have B:∀k∈KQ A.st 0,k<=64:=λk D=>by
  unfold KQ at D;have:=(zH.1 D).1;rw[ze]at this;omega
 have hsl:=aH.cut j.fM;refine Zw (a:=bN) (λ(t:Int) w=>∃i:Nat,t=(i:Int)/\i<=(KQ A.st 0).length/\Ext (gN F H) U w/\W2 w (Cut F U) (Cut H U) Y (((KQ A.st 0).take i).foldl VN (A,sp)).1 T (((KQ A.st 0).take i).foldl VN (A,sp)).2/\cS s 1 (ints (KQ A.st 0)) w (λb=>U.size<=b)) (λt _=>(KQ A.st 0).length-t.toNat)
  ⟨0,rfl,O,aG.to e1,h.cut.aF e1,j.fM⟩ ?_
 rintro t w ⟨i,rfl,hi,e,y,S⟩;refine cL (λhlt=>?_) λhge=>?_
 ·have C:i<(KQ A.st 0).length:=by omega
  have Z:(KQ A.st 0)[i]?=some (KQ A.st 0)[i]:=cQ C;have P:(KQ A.st 0).take (i+1)=(KQ A.st 0).take i++[(KQ A.st 0)[i]]:=by rw[zj,Z];rfl
  have D:=B _ (zb C);generalize (KQ A.st 0)[i]=k at *;refine S.oO Z (bO (y.a.hd.rP rfl (y.a.AM _ λw2 t2 e2 J=>?_)));have r:=y.jX e2 J;refine bO (r.a.hd.rP rfl (cC (m:=k*16) O O (r.a.rJ _ _ λw3 t3 N Q=>?_)));have d:=r.jX N Q;refine bO (d.Ag (cC (m:=k*16) O O (Lu d.s d.g d.o2 _ _ λw4 E L=>?_)));have M:=d.space E L;have K:cS s 1 (ints (KQ A.st 0)) w4 (λb=>U.size<=b):=aH.bV (aH.bV (aH.bV S e2 λb _ u z=>by have:=z.2;omega) N λb _ u z=>by have:=z.2;omega) E λb _ u z=>by have:=z.2;omega
  refine cC (m:=i+1) O O ⟨⟨i+1,rfl,O,((e.trans (W e2)).trans (W N)).trans (es E),?_,K⟩,O⟩;rw[P,lb];exact M
 ·have:i=(KQ A.st 0).length:=by omega
  subst this;rw[zy]at y;rw[x];exact hR w e y
end Go.Ar
namespace Go.Proofs
open Go.Vc
set_option maxRecDepth 100000
def WR.xE:Hn:=.seq (.o 1) (.seq (.o 1) (.block (.loop [(1,.one bN),(2,.one bN),(3,.one bN),(10,.one .b),(11,.one .b)] (.block (.seq (.o 4) (.seq (.seq (.o 2) (.cond (.seq (.o 5) (.leaf)) (.leaf))) .leaf))))))
def WR.IE (data:Sl)(a:Int)(b:Int)(limit:Int)(cmp:Fv)(U:Hp)(R:aP):Prop:=
 WU [bN,bN,bN,.b,.b] (λI=>I a b limit true true U) λJ (a1:Int) (b1:Int) (limit1:Int) (wasBalanced:Bool) (wasPartitioned:Bool) v=>
 Ar .i64 (b1-a1) λlength=>
 If (decide (length<=12)) (Wt.c data a1 b1 cmp v λv1=>
  R v1)
  False
theorem WR.ue {data:Sl}{a:Int}{b:Int}{limit:Int}{cmp:Fv}{U:Hp}{R:aP}(hv:WR.IE data a b limit cmp U R):WR.c data a b limit cmp U R:=
 Wa Tryz.func237 (x:=WR.xE) (args:=[.slice data.a data.len data.cap,.int .i64 a,.int .i64 b,.int .i64 limit,.func (.func cmp.f) cmp.first cmp.captured]) (rs:=[]) (R:=R) (R0 hv)
end Go.Proofs
namespace Go.Ar
open Go Go.Vc Go.Proofs
variable {U:Hp}{Q:Rg}{key:Nat->Nat}
def jq (key:Nat->Nat)(l:List Nat)(h:Nat):List Nat:=l.takeWhile (λg=>decide (key g<key h))++h::l.dropWhile (λg=>decide (key g<key h))
def Hv (key:Nat->Nat)(l:List Nat):List Nat:=l.foldl (jq key) []
theorem AX (l:List Nat)(h:Nat):(jq key l h).Perm (h::l):=by
 unfold jq;refine List.perm_middle.trans ?_;rw[Au]
theorem MJ {l:List Nat}{h:Nat}(hs:l.Pairwise (λa b=>key a<key b))(hne:∀g∈l,key g≠key h):(jq key l h).Pairwise (λa b=>key a<key b):=by
 induction l with
 | nil=>simp[jq]
 | cons g l ih=>
  rw[nB]at hs;unfold jq;by_cases hg:key g<key h
  ·rw[List.takeWhile_cons_of_pos (by simpa using hg),List.dropWhile_cons_of_pos (by simpa using hg),lT,nB];refine⟨λb e=>?_,ih hs.2 λx i=>hne x (mM _ i)⟩;have:=(AX l h).mem_iff.1 e;rcases zW.1 this with h1|h1
   ·subst h1;exact hg
   ·exact hs.1 b h1
  ·have d:key h<key g:=by have:=hne g (mY);omega
   rw[BW (by simpa using hg),List.dropWhile_cons_of_neg (by simpa using hg),qv,nB];refine⟨λb e=>?_,nB.2 hs⟩;rcases zW.1 e with h1|h1
   ·subst h1;exact d
   ·have:=hs.1 b h1;omega
theorem Ej {s:List Nat}{h j:Nat}(hs:s.Pairwise (λa b=>key a<key b))(hj:j<=s.length)(h1:∀g∈s.drop j,key h<key g)(h2:∀g,j≠0->s[j-1]?=some g->key g<key h):jq key s h=s.take j++h::s.drop j:=by
 have x:∀g∈s.take j,key g<key h:=by
  intro g hg;obtain⟨i,p⟩:=zN hg;have w:=(cV.1 p).1;rw[zL]at w;rw[zY,zB O]at p;have r:s[j-1]?=some (s[j-1]' O):=cQ _;have m:=h2 _ O r;by_cases hij:i=j-1
  ·subst hij;rw[r]at p;cases p;exact m
  ·have:=zr.1 hs i (j-1) O O O;have u:s[i]' O=g:=by
    have:=cQ (l:=s) (i:=i) O;rw[this]at p;exact Option.some.inj p
   rw[u]at this;omega
 have e:jq key (s.take j++s.drop j) h=s.take j++h::s.drop j:=by
  unfold jq;rw[List.takeWhile_append_of_pos (by intro g hg;simpa using x g hg),List.dropWhile_append_of_pos (by intro g hg;simpa using x g hg)];cases hd:s.drop j with
  | nil=>simp
  | cons g d=>
   have:=h1 g (by rw[hd];exact mY);rw[BW aE,List.dropWhile_cons_of_neg aE,j7]
 rw[mZ]at e;exact e
theorem Vb (l:List Nat):(Hv key l).Perm l:=by
 have:∀(m acc:List Nat),(m.foldl (jq key) acc).Perm (m++acc):=by
  intro m
  induction m with
  | nil=>intro acc;exact List.Perm.refl _
  | cons h m ih=>
   intro acc;rw[lp];refine(ih _).trans ?_;refine((AX acc h).append_left m).trans ?_;exact List.perm_middle
 have:=this l []
 rwa [j7]at this
theorem FQ (l:List Nat){i h:Nat}(hh:l[i]?=some h):Hv key (l.take (i+1))=jq key (Hv key (l.take i)) h:=by
 unfold Hv;rw[zj,hh,xm,lb];rfl
theorem D5 {l:List Nat}(hn:l.Pairwise (λa b=>key a≠key b)):∀i,(Hv key (l.take i)).Pairwise (λa b=>key a<key b)
 | 0=>by simp[Hv]
 | i+1=>by
  have ih:=D5 hn i;cases hh:l[i]? with
  | none=>
   have:l.take (i+1)=l.take i:=by rw[zj,hh];simp
   rw[this];exact ih
  | some h=>
   rw[FQ l hh];refine MJ ih λg m=>?_;have:=(Vb (l.take i)).mem_iff.1 m;obtain⟨a,d⟩:=zN this;have j:=(cV.1 d).1;rw[zL]at j;rw[zY,zB O]at d;have e:=(cV.1 hh).1;have:=zr.1 hn a i O e O;rw[(cV.1 d).2,(cV.1 hh).2]at this;exact this
theorem Wkf (l:List Nat)(i x:Nat):(ints l).set i (.int .i64 (x:Int))=ints (l.set i x):=by simp[ints,tA]
theorem _root_.Go.Vc.bR.Ad {s:Sl}{l:List Nat}(h:bR s 1 (ints l) U Q){i x:Nat}(hx:l[i]?=some x){K:Int->Prop}(hK:K (x:Int)):Ix s.a s.len (i:Int) 1 λa=>fR (· = U) bN a K:=by
 have j:=(cV.1 hx).1;obtain⟨b,o,e,g⟩:=h.fM.cell (Er hx);have p:=h.jV;rw[e];refine ix O O ?_;refine⟨(x:Int),λm d=>?_,hK⟩;rw[d,add_lit,show o+(i:Int).toNat*1=o+i by omega];exact g
theorem _root_.Go.Vc.bR.vM {s:Sl}{l:List Nat}(h:bR s 1 (ints l) U Q){i x:Nat}(hi:i<l.length){K:aP}(hK:∀σ',Ext Q U σ'->bR s 1 (ints (l.set i x)) σ' Q->K σ'):Ix s.a s.len (i:Int) 1 λa=>eP a (.int .i64 (x:Int)) U K:=by
 have p:=h.jV;rcases h.2 with⟨h0,_⟩|⟨b,cs,hq,ha,hb,hle,hcl,ht⟩
 ·omega
 rw[ha];refine ix O O ?_;refine h.st (j:=i) (by rw[QZ];exact hi) (λm d=>?_) λσ' e g=>hK σ' e (by rw[←Wkf];exact g);rw[ha]at d;cases d;rw[add_lit];congr 1;omega
def uf (f:Fv)(key:Nat->Nat)(l:List Nat)(Q:Rg)(U:Hp):Prop:=∀x∈l,∀y∈l,∀(σ':Hp) (R:aN),Ext Q U σ'->(∀(d:Int) σ'',aG σ' σ''->(d<0↔key x<key y)->R d σ'') →
 UE Tryz.prog f [.int .i64 (x:Int),.int .i64 (y:Int)] [.one bN] σ' R
theorem MD (P D:List Nat)(g h:Nat):((P++g::h::D).set (P.length+1) g).set P.length h=P++h::g::D:=by
 rw[vL _ _ O,show P.length+1-P.length=1 by omega,vL _ _ (zC _),mI];rfl
set_option maxRecDepth 4000 in
theorem Tj {s:Sl}{l:List Nat}{f:Fv}(h:bR s 1 (ints l) U Q)(hl:l.length<=1000)(hn:l.Pairwise (λa b=>key a≠key b))(hc:uf f key l Q U){R:aP}
 (hR:∀σ',Ext Q U σ'->bR s 1 (ints (Hv key l)) σ' Q->R σ'):Wt.c s 0 (l.length:Int) f U R:=by
 refine Wt.o ?_;unfold Wt.v;rcases uW l.length with h0|hpos
 ·have W:l=[]:=xX.1 h0;subst W;refine ar O O (Zw (a:=bN) (λ(t:Int) v=>t=1/\v=U) (λ_ _=>0) ⟨rfl,rfl⟩ ?_);rintro t v ⟨rfl,rfl⟩;refine dR aA (hR v (Ext.refl _ _) h)
 refine cC (m:=1) O O (Zw (a:=bN) (λ(t:Int) v=>∃i:Nat,t=(i:Int)/\1<=i/\i<=l.length/\Ext Q U v/\bR s 1 (ints (Hv key (l.take i)++l.drop i)) v Q) (λt _=>l.length-t.toNat) ⟨1,rfl,zC _,hpos,Ext.refl _ _,?_⟩ ?_)
 ·have:Hv key (l.take 1)=l.take 1:=by
   cases l with
   | nil=>rfl
   | cons x l=>rfl
  rw[this,mZ];exact h
 rintro t v ⟨i,rfl,hi1,hi,e,S⟩;refine cL (λhlt=>?_) λhge=>?_
 ·have r:i<l.length:=by omega
  have hx:l[i]?=some l[i]:=cQ r;have E:l.drop i=l[i]::l.drop (i+1):=qG r;have X:=zb r;rw[E]at S;generalize l[i]=x at *;have hsl:(Hv key (l.take i)).length=i:=by rw[(Vb _).length_eq,zL];omega
  have F:=D5 hn i;have hsm:∀g∈Hv key (l.take i),g∈l/\key g≠key x:=by
   intro g D;have:=(Vb (l.take i)).mem_iff.1 D;refine⟨qp this,?_⟩;obtain⟨a,ha⟩:=zN this;have V:=(cV.1 ha).1;rw[zL]at V;rw[zY,zB O]at ha;have:=zr.1 hn a i O r O;rw[(cV.1 ha).2,(cV.1 hx).2]at this;exact this
  have M:=FQ (key:=key) l hx;generalize Hv key (l.take i)=S0 at *;refine Zw (a:=bN) (λ(t:Int) w=>∃j:Nat,t=(j:Int)/\j<=i/\Ext Q U w/\bR s 1 (ints (S0.take j++x::(S0.drop j++l.drop (i+1)))) w Q/\∀g∈S0.drop j,key x<key g) (λt _=>t.toNat)
   ⟨i,rfl,zC _,e,?_,λg D=>by rw[xO O]at D;simp at D⟩ ?_
  ·rw[l0 O,xO O,qv];exact S
  rintro t w ⟨j,rfl,hj,ew,p,A⟩;have fin:(∀g,j≠0->S0[j-1]?=some g->key g<key x)->Ar .i64 ((i:Int)+1) λi2=>(∃i':Nat,i2=(i':Int)/\1<=i'/\i'<=l.length/\Ext Q U w/\bR s 1 (ints (Hv key (l.take i')++l.drop i')) w Q)/\l.length-i2.toNat<l.length-(i:Int).toNat:=by
   intro h2;refine cC (m:=i+1) O O ⟨⟨i+1,rfl,O,O,ew,?_⟩,O⟩;rw[M,Ej F O A h2,zm,lT];exact p
  refine Jn.intro ⟨(· = w),rfl,cL (λc1=>?_) λc1=>bZ rfl (fin λg hj0=>O)⟩;have C:j-1<S0.length:=by omega
  have D:S0[j-1]?=some S0[j-1]:=cQ C;have Y:S0.take j=S0.take (j-1)++[S0[j-1]]:=by
   have:=zj (l:=S0) (i:=j-1);rw[show j-1+1=j by omega,D]at this;exact this
  have m6:S0.drop (j-1)=S0[j-1]::S0.drop j:=by
   have:=qG (l:=S0) C;rw[show j-1+1=j by omega]at this;exact this
  have L:=hsm _ (zb C);generalize S0[j-1]=g at *;have y:S0.take j++x::(S0.drop j++l.drop (i+1))=S0.take (j-1)++g::x::(S0.drop j++l.drop (i+1)):=by rw[Y];simp
  have B:(S0.take (j-1)).length=j-1:=by rw[zL];omega
  rw[y]at p;have N:(S0.take (j-1)++g::x::(S0.drop j++l.drop (i+1)))[j]?=some x:=by
   rw[zg O,B,show j-(j-1)=1 by omega];rfl
  have G:(S0.take (j-1)++g::x::(S0.drop j++l.drop (i+1)))[j-1]?=some g:=by
   rw[zg O,B,mI];rfl
  refine p.Ad N (cC (m:=j-1) O O (p.Ad G (hc x X g L.1 w _ ew λd w2 e2 hd=>?_)));have u:=aI.aF p e2;have H:=ew.trans (aG.to e2);by_cases hlt2:key x<key g
  ·refine cJ (zI (hd.2 hlt2)) ⟨(· = w2),rfl,cC (m:=j-1) O O (cC (m:=j-1) O O (u.Ad G (u.Ad N ?_)))⟩;refine u.vM (i:=j) aE λw3 e3 Z=>Z.vM (i:=j-1) aE λw4 e4 K=>?_;have P:=MD (S0.take (j-1)) (S0.drop j++l.drop (i+1)) g x;rw[B,show j-1+1=j by omega]at P;rw[P]at K;refine cC (m:=j-1) O O ⟨⟨j-1,rfl,O,(H.trans e3).trans e4,?_,λz J=>?_⟩,O⟩
   ·rw[m6];exact K
   ·rw[m6]at J;rcases zW.1 J with h1|h1
    ·subst h1;exact hlt2
    ·exact A z h1
  ·refine bZ (zJ λhh=>hlt2 (hd.1 hh)) ?_;have hgk:key g<key x:=by have:=L.2;omega
   refine cC (m:=i+1) O O ⟨⟨i+1,rfl,O,O,H,?_⟩,O⟩;rw[M,Ej F (j:=j) O A λz _ J=>by rw[D]at J;cases J;exact hgk];rw[zm,lT,y];exact u
 ·have:i=l.length:=by omega
  subst this;rw[zy,List.drop_length,j7]at S;exact hR v e S
theorem RE {e:Int}{K:Int->Prop}(h0:0<=e)(h1:e<256)(hK:K e):Ar .u8 e K:=by
 have a:IntKind.u8.wrap e=e:=by
  unfold IntKind.wrap;simp[IntKind.bits,IntKind.signed];omega
 unfold Ar;rw[a];exact hK
set_option maxRecDepth 100000 in
theorem SW {n:Nat}(hn:n<=12){R:aN}(hR:∀t,R t U):ZZ.c (n:Int) U R:=by
 refine ZZ.o ?_;unfold ZZ.v;refine ZJ.o ?_;unfold ZJ.v;refine Jn.intro (dR O (Jn.intro (dR O (Jn.intro (dR O ?_)))));refine RE O O ?_;have a:n=0\/n=1\/n=2\/n=3\/n=4\/n=5\/n=6\/n=7\/n=8\/n=9\/n=10\/n=11\/n=12:=by omega
 rcases a with rfl|rfl|rfl|rfl|rfl|rfl|rfl|rfl|rfl|rfl|rfl|rfl|rfl<;>exact⟨_,O,rfl,hR _⟩
theorem Mm {s:Sl}{l:List Nat}{f:Fv}(h:bR s 1 (ints l) U Q)(hl:l.length<=12)(hn:l.Pairwise (λa b=>key a≠key b))(hc:uf f key l Q U){R:aP}
 (hR:∀σ',Ext Q U σ'->bR s 1 (ints (Hv key l)) σ' Q->R σ'):WO.c s f U R:=by
 refine WO.o ?_;unfold WO.v;have g:=h.jV;rw[g];have j:IntKind.u64.wrap (l.length:Int)=(l.length:Int):=by
  unfold IntKind.wrap;simp[IntKind.bits,IntKind.signed];omega
 unfold Ar;rw[j];refine SW hl λt=>WR.ue ?_;unfold WR.IE;refine LF (a:=bN) (bb:=bN) (c:=bN) (d:=.b) (e:=.b) (λ(x:Int) (y:Int) _ _ _ v=>x=0/\y=(l.length:Int)/\v=U) (λ_ _ _ _ _ _=>0) ⟨rfl,rfl,rfl⟩ ?_;rintro x y z u w v ⟨rfl,rfl,rfl⟩;refine ar O O (jt O ?_);exact Tj h O hn hc hR
end Go.Ar