/- Texts joined. -/
import Derived.Lib.Overlaps
import Derived.Laws.Externs
import Derived.Test.YtkabjcanamcbeaaGreatDoorY2
set_option linter.unusedVariables false
set_option linter.unusedSimpArgs false
namespace Go.Ar
open Go Go.Vc Go.Proofs
open Go.Bu (Zf)
variable {σ:Hp}{F:Rg}{p q:Nat}{st:List Nat}
structure gG (σ:Hp) (p q:Nat) (st:List Nat):Prop where
 hd:∃cap,st.length<=cap/\bX σ p [.slice (some ⟨q,0,none⟩) st.length cap]
 row:∃rest,bX σ q (ints st++rest)
 ne:p≠q
 n1:16<=st.length
 n2:st.length<=1024
 n3:st.length%16=0
theorem gG.bU {σ':Hp}(h:gG σ p q st)(e:Ext F σ σ')(hp:¬F p)(hq:¬F q):gG σ' p q st:=
 ⟨by obtain⟨c,a,b⟩:=h.hd;exact⟨c,a,e.bZ b hp⟩,by obtain⟨r,a⟩:=h.row;exact⟨r,e.bZ a hq⟩,h.ne,h.n1,h.n2,h.n3⟩
theorem gG.bK {σ':Hp}(h:gG σ p q st)(e:bO σ σ'):gG σ' p q st:=h.bU e id id
theorem gG.lt (h:gG σ p q st):p<σ.size/\q<σ.size:=by
 obtain⟨_,_,b⟩:=h.hd;obtain⟨_,a⟩:=h.row;exact⟨b.lt,a.lt⟩
theorem gG.rS (h:gG σ p q st){K:Sl->Prop}(hK:∀cap,st.length<=cap->K ⟨some ⟨q,0,none⟩,st.length,cap⟩):jn (Addr.add ⟨p,0,none⟩ 0) σ K:=by
 obtain⟨c,b,a⟩:=h.hd;exact a.rS rfl (hK c b)
theorem gG.part (h:gG σ p q st){s:Sl}{a n:Nat}(ha:s.a=some ⟨q,a,none⟩)(hn:s.len=n)(hl:a+n<=st.length):cR s 1 (ints ((st.drop a).take n)) σ (· = q):=by
 obtain⟨r,e⟩:=h.row;have b:((st.drop a).take n).length=n:=by simp;omega
 refine e.gp ha (by rw[QH,b,hn];simp) λj d=>?_;rw[QH,b]at d;rw[zd (by rw[QH];omega)];simp[ints,zX,d,zp]
theorem TK {s:Sl}{xs:List Nat}(h:cR s 1 (ints xs) σ F)(hl:xs.length<=1000000)(v:Nat){R:aN}(hR:R ((xs.count v:Nat):Int) σ):ZK.c s v σ R:=by
 refine ZK.o ?_;unfold ZK.v;have j:=h.jO;refine Ko (a:=bN) (bb:=bN) (λ(n t:Int) p=>∃i:Nat,t=(i:Int)/\i<=xs.length/\n=(((xs.take i).count v:Nat):Int)/\p=σ) (λ_ t _=>xs.length-t.toNat) ⟨0,rfl,O,by simp,rfl⟩ ?_;rintro n t p ⟨i,rfl,y,rfl,rfl⟩;refine cI (λu=>?_) λx=>?_
 ·have g:i<xs.length:=by omega
  have r:xs[i]?=some xs[i]:=cM g;have e:(xs.take (i+1)).count v=(xs.take i).count v+if xs[i]=v then 1 else 0:=by
   rw[zg,r,tf,vE,List.count_singleton]
   congr 1
   by_cases h:xs[i]=v<;>simp[h]
  have w:(xs.take i).count v<=i:=zI vq aE;refine h.oH r (cU (λd=>?_) λd=>?_)
  ·have b:xs[i]=v:=by rw[j3]at d;simpa using d
   rw[zB b]at e;exact cA (m:=(xs.take i).count v+1) O O (cA (m:=i+1) O O ⟨⟨i+1,rfl,O,by rw[e],rfl⟩,O⟩)
  ·have b:¬xs[i]=v:=by rw[j3]at d;simpa using d
   rw[zA b,zt]at e;exact cA (m:=i+1) O O ⟨⟨i+1,rfl,O,congrArg _ e.symm,rfl⟩,O⟩
 ·have:i=xs.length:=by omega
  subst this;rw[zn]at *;exact hR
theorem jj {b o n c:Nat}{cs:List Value}(hb:bX σ b cs)(hl:o+n<=cs.length)(hn:n<=1000000)(v:Nat){R:aP}
 (hR:∀σ',QC σ σ' b->bX σ' b (cs.take o++List.replicate n (.int .i64 (v:Int))++cs.drop (o+n))->R σ'):Qo.c ⟨some ⟨b,o,none⟩,n,c⟩ v σ R:=by
 refine Qo.o ?_;unfold Qo.v;refine ZU (a:=bN) (λ(t:Int) p=>∃i:Nat,t=(i:Int)/\i<=n/\QC σ p b/\bX p b (cs.take o++List.replicate i (.int .i64 (v:Int))++cs.drop (o+i))) (λt _=>n-t.toNat) ⟨0,rfl,O,⟨rfl,λ_ _=>rfl⟩,by simpa using hb⟩ ?_;rintro t p ⟨i,rfl,x,s,g⟩;refine cI (λr=>?_) λu=>?_
 ·simp only at r;refine ix O aC ?_;rw[add_lit];refine g.s0 aE λy d j=>?_;refine cA (m:=i+1) O O ⟨⟨i+1,rfl,O,⟨d.1.trans s.1,λk w=>(d.2 k w).trans (s.2 k w)⟩,?_⟩,O⟩;have:(cs.take o++List.replicate i (Value.int .i64 (v:Int))++cs.drop (o+i)).set (o+(i:Int).toNat*1) (Value.int .i64 (v:Int))=cs.take o++List.replicate (i+1) (Value.int .i64 (v:Int))++cs.drop (o+(i+1)):=by
   rw[xX _ _ aE];have e:o+(i:Int).toNat*1-(cs.take o++List.replicate i (Value.int .i64 (v:Int))).length=0:=by simp;omega
   rw[e,qw O,List.set_cons_zero,DD];simp[km,qn]
  rw[this]at j;exact j
 ·simp only at u;have:i=n:=by omega
  subst this;exact hR p s g
theorem gG.fill (h:gG σ p q st){a n:Nat}{r:List Value}{σ':Hp}{v:Nat}(hrow:bX σ q (ints st++r))(hl:a+n<=st.length)(ho:QC σ σ' q)
 (hb:bX σ' q ((ints st++r).take a++List.replicate n (.int .i64 (v:Int))++(ints st++r).drop (a+n))):gG σ' p q (fY st a (a+n) v):=by
 obtain⟨c,e,d⟩:=h.hd;have b:=Qj st a (a+n) v;refine⟨⟨c,by rw[b];exact e,?_⟩,⟨r,?_⟩,h.ne,by rw[b];exact h.n1,by rw[b];exact h.n2,by rw[b];exact h.n3⟩
 ·rw[b];exact Ws ho d h.ne
 ·rw[PJ O hl,Vd,Vd];have j:(ints st++r).take a=ints (st.take a):=by
   rw[qb (by rw[QH];omega)];simp[ints]
  have g:(ints st++r).drop (a+n)=ints (st.drop (a+n))++r:=by
   rw[List.drop_append_of_le_length (by rw[QH];omega)];simp[ints]
  have i:ints (List.replicate (a+n-a) v)=List.replicate n (.int .i64 (v:Int)):=by
   rw[AJ];simp[ints]
  rw[j,g]at hb;rw[i];simpa[km]using hb
theorem gG.jj (h:gG σ p q st){a n c:Nat}(hl:a+n<=st.length)(v:Nat){R:aP}(hR:∀σ',Ext (· = q) σ σ'->gG σ' p q (fY st a (a+n) v)->R σ') :
 Qo.c ⟨some ⟨q,a,none⟩,n,c⟩ v σ R:=by
 obtain⟨r,b⟩:=h.row;have:=h.n2;exact Ar.jj b (by simp[QH];omega) O v λσ' d e=>hR σ' d.ext (h.fill b hl d e)
theorem He (h:gG σ p q st){R:aO}(hR:R true σ):WU.c (aW p) σ R:=by
 refine WU.o ?_;unfold WU.v;refine bY.intro (cJ rfl (aG (h.rS λcap _=>?_)));have:=h.n1;rw[zW aC];exact hR
theorem Dm (h:gG σ p q st){R:aN}(hR:R ((st.length/16:Nat):Int) σ):XO.c (aW p) σ R:=by
 refine XO.o ?_;unfold XO.v;have:=h.n2;refine aG (h.rS λcap _=>nz aB ?_);refine cA (m:=st.length/16) ?_ O hR;rw[YK O];simp
theorem vC (h:gG σ p q st){k:Nat}(hk:16*k+16<=st.length){R:Sl->Hp->Prop}(hR:∀c,R ⟨some ⟨q,16*k,none⟩,16,c⟩ σ):Xm.c (aW p) (k:Int) σ R:=by
 refine Xm.o ?_;unfold Xm.v;have:=h.n2;refine aG (h.rS λcap a=>?_);refine cA (m:=16*k) O O (cA (m:=k+1) O O (cA (m:=16*k+16) O O ?_));refine jc O aC aC ?_;have e:16*k+16-16*k=16:=by omega
 rw[zA aC,e];simp only[zf,add_lit,oy,zG];exact hR _
theorem JS (h:gG σ p q st)(k:Int){R:Sl->Int->Hp->Prop}(h1:∀(x:Nat) c,k=(x:Int)->16*x+16<=st.length->R ⟨some ⟨q,16*x,none⟩,16,c⟩ 0 σ)(h0:ud st.length k=false->R ⟨none,0,0⟩ 1 σ) :
 XT.c (aW p) k σ R:=by
 refine XT.o ?_;unfold XT.v;have n3:=h.n3;refine He h (cG rfl (bY.intro (cI (λa=>cJ rfl (h0 ?_)) λa=>Dm h ?_)))
 ·simp[ud];omega
 ·refine cI (λd=>h0 ?_) λb=>?_
  ·simp[ud];omega
  ·obtain⟨x,rfl⟩:=zk (show 0<=k by omega);exact vC h O λc=>h1 x c rfl O
theorem UE {n x:Nat}(h:16*x+16<=n):ud n (x:Int)=true:=by simp[ud];omega
theorem gG.first (h:gG σ p q st){x c:Nat}(hx:16*x+16<=st.length){K:Int->Prop}(hK:K ((st.getD (16*x) 0:Nat):Int)) :
 Ix (some ⟨q,16*x,none⟩) 16 0 1 λa=>fJ .i64 a σ K:=by
 have b:=h.part (s:=⟨some ⟨q,16*x,none⟩,16,c⟩) (n:=16) rfl rfl hx;refine b.oH (i:=0) (x:=st.getD (16*x) 0) ?_ hK;simp[zX,zp,zL];rw[cM O];simp
theorem gG.iR (h:gG σ p q st){x c v:Nat}(hx:16*x+16<=st.length){R:aN}(hR:R ((gA st (16*x) (16*x+16) v:Nat):Int) σ):ZK.c ⟨some ⟨q,16*x,none⟩,16,c⟩ v σ R:=by
 refine TK (h.part (n:=16) rfl rfl hx) aE v ?_;have e:gA st (16*x) (16*x+16) v=((st.drop (16*x)).take 16).count v:=by simp[gA]
 rw[e]at hR;exact hR
theorem PT (h:gG σ p q st){x c:Nat}(hx:16*x+16<=st.length){R:aO}(hR:R (vp st x) σ):Q2.c ⟨some ⟨q,16*x,none⟩,16,c⟩ σ R:=by
 refine Q2.o ?_;unfold Q2.v;refine h.first (c:=c) hx (bY.intro ?_);unfold vp at hR;rw[CO];cases e1:(st.getD (16*x) 0 != 0)
 ·rw[e1]at hR;exact cG rfl hR
 ·rw[e1]at hR;refine cJ rfl (h.iR (v:=1) hx ?_);rw[vo];exact hR
theorem BU (h:gG σ p q st){x c:Nat}(hx:16*x+16<=st.length){R:aN}(hR:R ((KP st x:Nat):Int) σ):Qy.c ⟨some ⟨q,16*x,none⟩,16,c⟩ σ R:=by
 refine Qy.o ?_;unfold Qy.v;refine h.iR (v:=1) hx (cU (λd=>?_) λd=>h.iR (v:=3) hx ?_)
 ·have a:gA st (16*x) (16*x+16) 1=0:=by simpa using d
  simpa[KP,a]using hR
 ·have a:¬gA st (16*x) (16*x+16) 1=0:=by simpa using d
  refine cI (λe=>?_) λe=>?_
  ·have b:0<gA st (16*x) (16*x+16) 3:=by omega
   simpa[KP,a,b]using hR
  ·have b:¬0<gA st (16*x) (16*x+16) 3:=by omega
   simpa[KP,a,b]using hR
theorem Ni (h:gG σ p q st)(k:Int){R:aN}(hR:∀σ',Ext (· = q) σ σ'->gG σ' p q (jo st k)->R (ld st k) σ'):Ye.c (aW p) k σ R:=by
 refine Ye.o ?_;unfold Ye.v;refine JS h k (λx c i j=>?_) λi=>?_
 ·subst i;have a:=UE j;refine cG rfl (h.first (c:=c) j (cU (λg=>?_) λg=>?_))
  ·have m:¬st.getD (16*x) 0=0:=by simpa using g
   have:ld st (x:Int)=5:=by simp only[ld,a,dC,zS,zA m]
   have b:jo st (x:Int)=st:=by simp[jo,this]
   have:=hR σ (Ext.refl _ _);rw[b]at this;simpa[*]using this h
  ·have m:st.getD (16*x) 0=0:=by simpa using g
   have d:ld st (x:Int)=0:=by simp only[ld,a,dC,zS,m]
   have b:jo st (x:Int)=fY st (16*x) (16*x+16) 3:=by simp[jo,d]
   refine h.jj j 3 λσ' e r=>?_;have:=hR σ' e;rw[d,b]at this;exact this r
 ·have d:ld st k=1:=by simp[ld,i]
  have b:jo st k=st:=by simp[jo,d]
  refine cJ rfl ?_;have:=hR σ (Ext.refl _ _);rw[d,b]at this;exact this h
theorem JN {s:Sl}{xs:List Nat}(h:cR s 1 (ints xs) σ F)(hl:xs.length<=1000000)(v:Nat){R:aN}(h1:∀i:Nat,xs[i]?=some v->(∀j:Nat,j<i->xs[j]?≠some v)->R (i:Int) σ)(h0:v∉xs->R (-1) σ) :
 WG.c s (v:Int) σ R:=by
 refine WG.o ?_;unfold WG.v;have w:=h.jO;refine ZU (a:=bN) (λ(t:Int) x=>∃i:Nat,t=(i:Int)/\i<=xs.length/\x=σ/\∀j,j<i->xs[j]?≠some v) (λt _=>xs.length-t.toNat) ⟨0,rfl,O,rfl,λj d=>O⟩ ?_;rintro t x ⟨i,rfl,B,rfl,b⟩;refine cI (λz=>?_) λA=>?_
 ·have p:i<xs.length:=by omega
  have u:xs[i]?=some xs[i]:=cM p;refine h.oH u ?_;rw[j3];refine cU (λr=>?_) λr=>?_
  ·have:v=xs[i]:=by simpa using r
   exact h1 i (by rw[u,this]) b
  ·have g:¬v=xs[i]:=by simpa using r
   refine cA (m:=i+1) O O ⟨⟨i+1,rfl,O,rfl,λj d=>?_⟩,O⟩;by_cases e:j=i
   ·subst e;rw[u];intro e2;cases e2;exact g rfl
   ·exact b j O
 ·refine h0 λy=>?_;obtain⟨j,d⟩:=zN y;have:=(cQ.1 d).1;exact b j O d
theorem Nd {s:Sl}{xs:List Nat}(h:cR s 1 (ints xs) σ F)(hl:xs.length<=1000000)(v:Nat){R:aO}(hR:R (xs.contains v) σ):Wo.c s (v:Int) σ R:=by
 refine Wo.o ?_;unfold Wo.v;refine JN h hl v (λi a _=>?_) λb=>?_
 ·have:xs.contains v=true:=by simpa using zE a
  rw[this]at hR;rw[zW O];exact hR
 ·have:xs.contains v=false:=by simpa using b
  rw[this]at hR;exact hR
theorem OK {s:Sl}{xs:List Int}(h:cR s 1 (xs.map (Value.int .i64)) σ F)(hl:xs.length<=1000000000)(v:Int){R:aO}(hR:R (xs.contains v) σ):Wo.c s v σ R:=by
 refine Wo.o ?_;unfold Wo.v;refine WG.o ?_;unfold WG.v;have u:s.len=xs.length:=by have:=h.1;simp at this;omega
 refine ZU (a:=bN) (λ(t:Int) w=>∃i:Nat,t=(i:Int)/\i<=xs.length/\w=σ/\∀j,j<i->xs[j]?≠some v) (λt _=>xs.length-t.toNat) ⟨0,rfl,O,rfl,λj d=>O⟩ ?_;rintro t w ⟨i,rfl,A,rfl,b⟩;refine cI (λy=>?_) λz=>?_
 ·have p:i<xs.length:=by omega
  have x:xs[i]?=some xs[i]:=cM p;refine h.pK x (cU (λr=>?_) λr=>?_)
  ·have e:v=xs[i]:=by simpa using r
   have:xs.contains v=true:=by rw[e];simp
   rw[this]at hR;show R (decide ((i:Int)≥0)) _;rw[zW O];exact hR
  ·have g:¬v=xs[i]:=by simpa using r
   refine cA (m:=i+1) O O ⟨⟨i+1,rfl,O,rfl,λj d=>?_⟩,O⟩;by_cases e:j=i
   ·subst e;rw[x];intro e2;cases e2;exact g rfl
   ·exact b j O
 ·have:xs.contains v=false:=by
   simp only[sj,decide_eq_false_iff_not];intro hm;obtain⟨j,d⟩:=zN hm;have:=(cQ.1 d).1;exact b j O d
  rw[this]at hR;exact hR
def FZ (f:Fv)(p:Nat->Bool)(σ:Hp):Prop:=∀(x:Nat) (σ':Hp) (R:aO),bO σ σ'->(∀σ'',bO σ' σ''->R (p x) σ'')->VN Tryz.prog f [.int .i64 (x:Int)] [.one .b] σ' R
theorem Of {s:Sl}{xs:List Nat}(h:cR s 1 (ints xs) σ F)(hl:xs.length<=1000000){f:Fv}{pr:Nat->Bool}(hf:FZ f pr σ){R:aO}(hR:∀σ',bO σ σ'->R (xs.any pr) σ') :
 Wx.c s f σ R:=by
 refine Wx.o ?_;unfold Wx.v;refine WZ.o ?_;unfold WZ.v;have u:=h.jO;refine ZU (a:=bN) (λ(t:Int) y=>∃i:Nat,t=(i:Int)/\i<=xs.length/\bO σ y/\∀j x,j<i->xs[j]?=some x->pr x=false) (λt _=>xs.length-t.toNat) ⟨0,rfl,O,Ext.refl _ _,λj x p=>O⟩ ?_;rintro t y ⟨i,rfl,B,e,d⟩;refine cI (λz=>?_) λA=>?_
 ·have g:i<xs.length:=by omega
  have r:xs[i]?=some xs[i]:=cM g;refine(aH.bK h e).oH r (hf _ _ _ e λC w=>?_);cases hp:pr xs[i]
  ·refine cG rfl (cA (m:=i+1) O O ⟨⟨i+1,rfl,O,e.trans w,λj x p b=>?_⟩,O⟩);by_cases e3:j=i
   ·subst e3;rw[r]at b;cases b;exact hp
   ·exact d j x O b
  ·refine cJ rfl ?_;have:xs.any pr=true:=j9.2 ⟨_,zc g,hp⟩;show R (decide ((i:Int)≥0)) _;rw[zW O,←this];exact hR _ (e.trans w)
 ·have:xs.any pr=false:=by
   rw[np];intro x r;obtain⟨j,p⟩:=zN r;have:=(cQ.1 p).1;simp[d j x O p]
  show R (decide ((-1:Int)≥0)) _;rw[show decide ((-1:Int)≥0)=false from rfl,←this];exact hR _ e
theorem R4 (h:gG σ p q st)(k:Int){R:aN}(hR:∀σ',Ext (· = q) σ σ'->gG σ' p q (jS st k)->R (lO st k) σ'):Xi.c (aW p) k σ R:=by
 refine Xi.o ?_;unfold Xi.v;refine JS h k (λx c g i=>?_) λg=>?_
 ·subst g;have b:=UE i;refine cG rfl (PT h i ?_);cases hi:vp st x
  ·have a:lO st (x:Int)=5:=by simp[lO,b,hi]
   have d:jS st (x:Int)=st:=by simp[jS,a]
   have:=hR σ (Ext.refl _ _);rw[a,d]at this;exact cJ rfl (this h)
  ·have a:lO st (x:Int)=0:=by simp[lO,b,hi]
   have d:jS st (x:Int)=fY st (16*x) (16*x+16) 0:=by simp[jS,a]
   refine cG rfl (h.jj i 0 λσ' e j=>?_);have:=hR σ' e;rw[a,d]at this;exact this j
 ·have a:lO st k=1:=by simp[lO,g]
  have d:jS st k=st:=by simp[jS,a]
  refine cJ rfl ?_;have:=hR σ (Ext.refl _ _);rw[a,d]at this;exact this h
theorem L3 {c:Nat}{s:Sl}{fr:List Nat}{σ0:Hp}(hb:bX σ0 c [.slice s.a s.len s.cap])(hs:cR s 1 (ints fr) σ0 F)(hl:fr.length<=1000):FZ ⟨269,#[],#[.pointer (some ⟨c,0,none⟩)]⟩ (λx=>!fr.contains x) σ0:=by
 intro x σ' R e hR;refine GF (all := #[.int .i64 (x:Int),.pointer (some ⟨c,0,none⟩)]) (by kernel_rfl) aA ?_;refine YG.o ?_;unfold YG.v;refine(e.bZ hb id).xU rfl ?_;exact Nd (aH.bK hs e) O x (hR _ (Ext.refl _ _))
theorem A4 (h:gG σ p q st)(a m:Int)(v:Nat){s:Sl}{fr:List Nat}(hs:cR s 1 (ints fr) σ F)(hl:fr.length<=1000){R:aN}(hR:∀σ',Ext (· = q) σ σ'->gG σ' p q (VQ st a m v fr)->R (GX st a m fr) σ') :
 Xu.c (aW p) a m v s σ R:=by
 refine Xu.o ?_;unfold Xu.v;have n2:=h.n2;have Q:=h.lt.2;refine nw (cs:=[.slice s.a s.len s.cap]) λv1 S r K=>?_;have g:=h.bK r;have b:¬(0<=a/\1<=m/\m<=st.length-a)->R 1 v1:=λN=>by
  have d:Zf st.length a m=false:=by simp only[Zf,←uX];exact zh N
  have e:GX st a m fr=1:=by simp[GX,d]
  have j:VQ st a m v fr=st:=by simp[VQ,e]
  have:=hR v1 r.to;rw[e,j]at this;exact this g
 refine He g (cG rfl (bY.intro ?_));refine cI (λJ=>bY.intro (cJ rfl (bY.intro (cJ rfl (cJ rfl (b O)))))) λJ=>?_;refine bY.intro (cI (λG=>bY.intro (cJ rfl (cJ rfl (b O)))) λG=>?_);refine aG (g.rS λcap B=>bY.intro (cI (λD=>cJ rfl (b (by simp only at *;omega))) λD=>?_));simp only at D;refine aG (g.rS λcap B=>ar aC aC (cI (λC=>b (by simp only at *;omega)) λC=>?_));simp only at C;obtain⟨x,rfl⟩:=zk (show 0<=a by omega);obtain⟨y,rfl⟩:=zk (show 0<=m by omega);have u:x+y<=st.length:=by omega
 have d:Zf st.length (x:Int) (y:Int)=true:=by simp only[Zf,zF,zT];omega
 refine aG (g.rS λcap B=>cA (m:=x+y) O O (jc O aC aC ?_));rw[zA aC];simp only[zf,add_lit,oy,zG];have E:x+y-x=y:=by omega
 rw[E];have M:=g.part (s:=⟨some ⟨q,x,none⟩,y,cap-x⟩) (n:=y) rfl rfl u;refine Of M aE (L3 (s:=s) K (aH.bK hs r) hl) λH j=>?_;have A:=g.bK j;have i:((st.drop x).take y).any (λz=>!fr.contains z) = !uF st x y fr:=by
  rw[uF,List.all_eq_not_any_not,Bool.not_not]
 rw[i];cases hA:uF st x y fr
 ·have e:GX st (x:Int) (y:Int) fr=5:=by simp[GX,d,hA]
  have w:VQ st (x:Int) (y:Int) v fr=st:=by simp[VQ,e]
  have:=hR H (r.to.trans j.to);rw[e,w]at this;exact cJ rfl (this A)
 ·have e:GX st (x:Int) (y:Int) fr=0:=by simp[GX,d,hA]
  have w:VQ st (x:Int) (y:Int) v fr=fY st x (x+y) v:=by simp[VQ,e]
  refine cG rfl (A.jj u v λv3 P L=>?_);have:=hR v3 (r.to.trans (j.to.trans P));rw[e,w]at this;exact this L
theorem wa {h:Hp}{b:Nat}{xs:List Nat}{n c:Nat}(hb:bX h b (ints xs))(hn:n=xs.length):cR ⟨some ⟨b,0,none⟩,n,c⟩ 1 (ints xs) h (· = b):=
 hb.gp (o:=0) rfl (by rw[QH];simp[hn]) λj _=>by rw[zG]
theorem Oe (h:gG σ p q st)(a m:Int){R:aN}(hR:∀σ',Ext (· = q) σ σ'->gG σ' p q (VQ st a m 1 [2,3])->R (GX st a m [2,3]) σ'):XN.c (aW p) a m σ R:=by
 refine XN.o ?_;unfold XN.v;refine nw (cs:=ints [2,3]) λv i e g=>?_;exact A4 (h.bK e) a m 1 (wa g rfl) aA λσ' d b=>hR σ' (e.to.trans d) b
theorem Ξ (h:gG σ p q st)(a m:Int){R:aN}(hR:∀σ',Ext (· = q) σ σ'->gG σ' p q (VQ st a m 2 [1])->R (GX st a m [1]) σ'):XE.c (aW p) a m σ R:=by
 refine XE.o ?_;unfold XE.v;refine nw (cs:=ints [1]) λv i e g=>?_;exact A4 (h.bK e) a m 2 (wa g rfl) aA λσ' d b=>hR σ' (e.to.trans d) b
theorem OX (h:gG σ p q st)(a m:Int){R:aN}(hR:∀σ',Ext (· = q) σ σ'->gG σ' p q (VQ st a m 3 [2])->R (GX st a m [2]) σ'):W8.c (aW p) a m σ R:=by
 refine W8.o ?_;unfold W8.v;refine nw (cs:=ints [2]) λv i e g=>?_;exact A4 (h.bK e) a m 3 (wa g rfl) aA λσ' d b=>hR σ' (e.to.trans d) b
def Aj (st:List Nat)(x:Int):Int:=if 0<=x/\x<st.length then((st.getD x.toNat 0:Nat):Int)else -1
theorem Tv (h:gG σ p q st)(x:Int){R:aN}(hR:R (Aj st x) σ):X9.c (aW p) x σ R:=by
 refine X9.o ?_;unfold X9.v;have n2:=h.n2;unfold Aj at hR;refine He h (bY.intro (cG rfl (bY.intro (cI (λg=>cJ rfl ?_) λg=>aG (h.rS λcap i=>cI (λb=>?_) λb=>?_)))))
 ·rw[zA O]at hR;exact hR
 ·simp only at b;rw[zA O]at hR;exact hR
 ·simp only at b;rw[zB O]at hR;obtain⟨y,rfl⟩:=zk (show 0<=x by omega);refine aG (h.rS λcap i=>?_);have d:=h.part (s:=⟨some ⟨q,0,none⟩,st.length,cap⟩) (a:=0) (n:=st.length) rfl rfl O;rw[List.drop_zero,zn]at d;have e:y<st.length:=by omega
  refine d.oH (cM e) ?_;simpa[zL,cM e]using hR
theorem Hr {s:Sl}{vs:List Value}(h:cR s 1 vs σ F)(h1:∀v∈vs,dN v=true)(hl:s.len<=1000000){R:Sl->Hp->Prop}
 (hR:∀s' σ',s'.len=s.len->bO σ σ'->bR s' 1 vs σ' (λb=>σ.size<=b)->R s' σ'):WF.c s σ R:=by
 refine WF.o ?_;unfold WF.v;exact G8 h aB rfl h1 aB hl hR
theorem H5 (n:Nat)(P:Nat->Bool):(List.range (n+1)).filter P=(List.range n).filter P++(if P n then[n]else[]):=by
 rw[j7,uI]
 congr 1
 cases h:P n<;>simp[h]
theorem Nh (h:gG σ p q st)(k:Nat){R:Sl->Hp->Prop}(hR:∀s σ',bO σ σ'->bR s 1 (ints (Kf st k)) σ' (λb=>σ.size<=b)->R s σ'):Ya.c (aW p) (k:Int) σ R:=by
 refine Ya.o ?_;unfold Ya.v;have n2:=h.n2;refine He h (cG rfl (Dm h ?_));refine Ko (a:=.s) (bb:=bN) (λ(out:Sl) (t:Int) u=>∃i:Nat,t=(i:Int)/\i<=st.length/16/\bO σ u/\bR out 1 (ints ((List.range i).filter λh=>st.getD (16*h) 0 != 0&&KP st h==k)) u (λb=>σ.size<=b))
  (λ_ t _=>st.length/16-t.toNat) ⟨0,rfl,O,Ext.refl _ _,bR.nil _ _ _ _⟩ ?_
 rintro out t u ⟨i,rfl,M,e,d⟩;have z:=h.bK e;refine cI (λG=>?_) λF=>?_
 ·have B:16*i+16<=st.length:=by omega
  refine vC z B λc=>z.first (c:=c) B (bY.intro ?_);have D:=d.jO;have H:((List.range i).filter λh=>st.getD (16*h) 0 != 0&&KP st h==k).length<=i:=zI (nh _ _) aA;have next:∀(r:Bool),r=(st.getD (16*i) 0 != 0&&KP st i==k)->If r
   (Nw (.cells #[.int .i64 (i:Int)] 3 (0,0)) u λy J=>App out 1 8 3 [.int .i64 0] ⟨some y,1,1⟩ J λw A=>Ar .i64 ((i:Int)+1) λg=>
    (∃j:Nat,g=(j:Int)/\j<=st.length/16/\bO σ A/\bR w 1 (ints ((List.range j).filter λh=>st.getD (16*h) 0 != 0&&KP st h==k)) A (λb=>σ.size<=b))/\st.length/16-g.toNat<st.length/16-(i:Int).toNat)
   (Ar .i64 ((i:Int)+1) λg=>(∃j:Nat,g=(j:Int)/\j<=st.length/16/\bO σ u/\bR out 1 (ints ((List.range j).filter λh=>st.getD (16*h) 0 != 0&&KP st h==k)) u (λb=>σ.size<=b))/\st.length/16-g.toNat<st.length/16-(i:Int).toNat):=by
   intro r hr;have C:=H5 i λh=>st.getD (16*h) 0 != 0&&KP st h==k;rw[←hr]at C;cases r
   ·refine cG rfl (cA (m:=i+1) O O ⟨⟨i+1,rfl,O,e,?_⟩,O⟩);rw[C];simpa using d
   ·refine cJ rfl (d.push (vs:=[.int .i64 (i:Int)]) (λb L=>zI e.1 L) rfl rfl (by simp[dN]) O O λN A K E x=>?_);refine cA (m:=i+1) O O ⟨⟨i+1,rfl,O,Ext.fresh e E λ_ h=>h,?_⟩,O⟩;rw[C,Vd];exact x
  rw[CO];cases e1:(st.getD (16*i) 0 != 0)
  ·exact cG rfl (next false (by rw[e1];rfl))
  ·refine cJ rfl (BU z B ?_);rw[j3];exact next _ (by rw[e1];rfl)
 ·have:i=st.length/16:=by omega
  subst this;exact hR _ _ e d
theorem SQ (h:gG σ p q st){R:Sl->Hp->Prop}(hR:∀s σ',bO σ σ'->bR s 1 (ints (Kf st 0)) σ' (λb=>σ.size<=b)->R s σ'):YE.c (aW p) σ R:=by
 refine YE.o ?_;unfold YE.v;exact Nh h 0 hR
theorem RL {n:Nat}(h1:16<=n)(h2:n<=1024)(h3:n%16=0){R:Option Addr->Int->Hp->Prop}(hR:∀σ' p q,bO σ σ'->σ.size<=p->σ.size<=q->gG σ' p q (List.replicate n 0)->R (some ⟨p,0,none⟩) 0 σ'):Ku.c (n:Int) σ R:=by
 refine Ku.o ?_;unfold Ku.v;refine bY.intro (fG O (bY.intro (fG O (nz aB ?_))));rw[Q9 O];have:(((n:Int)%16) != 0)=false:=by
  have:((n:Int)%16)=0:=by omega
  rw[this];rfl
 rw[this];refine cG rfl (mk O O λv m e a=>nw (cs:=[.slice (some ⟨σ.size,0,none⟩) n n]) λj g d b=>?_);have i:(List.replicate n [Value.int .i64 0]).flatten=ints (List.replicate n 0):=by
  have:[Value.int .i64 0]=ints [0]:=rfl;rw[this];clear a hR
  induction n with
  | zero=>rfl
  | succ n ih=>simp[wh,ints]
 rw[i]at a;refine hR _ _ _ (e.trans d) O (zD _) ⟨⟨n,by simp,by simpa using b⟩,⟨[],by simpa using d.bZ a id⟩,O,by simpa using h1,by simpa using h2,by simpa using h3⟩
end Go.Ar
namespace Go.Proofs
open Go.Vc
set_option maxRecDepth 100000
def ZF.h:Hn:=.q .o1 (.q (.q .o3 .aJ) (.q (.cV (.tail 10 (RI.ops 10) [.op])) .l))
def ZF.v (a:R2)(b:Hp)(c:Int->Int->Hp->Prop):Prop:=aV #[.I 0,.I 0] 92 b λd e=>Yx.c a e λf g=>If (!f) (aR d 0 (.I 0) g λh=>aR d 1 (.I 0) h λi=>aQ d 0 i λj=>aQ d 1 i λk=>c j k i) (bD a 0 g λm=>bS a λn=>bM ((n.add 1).add 1) g λo=>aR d 0 (.I m) g λp=>aR d 1 (.I o) p λq=>aQ d 0 q λr=>aQ d 1 q λs=>c r s q)
theorem ZF.o {a b c}(d:ZF.v a b c):ZF.c a b c:=Wa Tryz.func138 (x:=ZF.h) (R0 d)
def XZ.h:Hn:=.q .o1 (.q (.q .o3 .aK) (.q .o6 .l))
def XZ.v (a:R2)(b:Hp)(c:aN):Prop:=Yx.c a b λd e=>If (!d) (c 0 e) (bE a 4 e λg=>c ((g.len:Nat):Int) e)
theorem XZ.o {a b c}(d:XZ.v a b c):XZ.c a b c:=Wa Tryz.func141 (x:=XZ.h) (R0 d)
def Yq.h:Hn:=.q .o2 (.q (.q .o3 .aJ) (.q .o5 (.q (.q (.cV (.hO false [] [(32,.one .b)] (.take 0 (.take 1 (.all [(2,.take 3 (.take 4 (.split 18 (.take 5 (.take 6 (.take 7 (.take 8 (.take 9 (.take 10 (.take 11 (.take 12 (.take 13 (.take 14 (.take 15 (.take 16 (.take 17 (.take 18 (.done))))))))))))))) (.take 5 (.take 6 (.take 7 (.take 8 (.take 11 (.take 12 (.take 13 (.take 14 (.all [(9,.take 10 (.all [(15,.take 16 (.take 17 (.take 18 (.done))))])),(15,.all [(9,.take 10 (.take 16 (.take 17 (.take 18 (.done)))))])]))))))))))))]))))) .aJ) (.q .o9 .l))))
def Yq.v (a:R2)(b:Int)(c:Hp)(d:Int->Int->Hp->Prop):Prop:=Yx.c a c λe f=>If (!e) (d 0 5 f) (Yu.c a 0 f λg h=>bL (b-g) λi=>Jn [.b] (λ(j:Bool) k=>If j (d 0 8 k) (bS a λl=>bM ((l.add 1).add 0) k λm=>Nz m<|bL (i.tdiv m) λn=>d n 0 k)) λo=>Yu.c a 0 h λp q=>If (b<p) (o true q) (bS a λr=>bS a λs=>(aX r 4 q λt=>bM ((s.add 1).add 0) q λu=>bL (((t.len:Nat):Int)*u) λv=>o (decide (i≥v)) q) ∧ (bM ((s.add 1).add 0) q λw=>aX r 4 q λx=>bL (((x.len:Nat):Int)*w) λy=>o (decide (i≥y)) q)))
theorem Yq.o {a b c d}(e:Yq.v a b c d):Yq.c a b c d:=Wa Tryz.func146 (x:=Yq.h) (R0 e)
def Yx.h:Hn:=.q .o1 (.q (.cV (.seq [.op,.op,.op,.dA true 6 (RI.ops 6),.op])) .l)
def Yx.v (a:R2)(b:Hp)(c:aO):Prop:=bY (λd e=>c d e) λf=>If (!a.isNone) (bE a 4 b λh=>f (decide (((h.len:Nat):Int)>0)) b) (f false b)
theorem Yx.o {a b c}(d:Yx.v a b c):Yx.c a b c:=Wa Tryz.func200 (x:=Yx.h) (R0 d)
def Yu.h:Hn:=.q .o1 (.q (.oq 14) .l)
def Yu.v (a:R2)(b:Int)(c:Hp)(d:aN):Prop:=bD a 0 c λf=>bL (f*256) λg=>bS a λh=>bM ((h.add 1).add 0) c λi=>bL (b*i) λj=>bL (g+j) λk=>d k c
theorem Yu.o {a b c d}(e:Yu.v a b c d):Yu.c a b c d:=Wa Tryz.func202 (x:=Yu.h) (R0 e)
def Kv.h:Hn:=.q .o3 (.q .o7 (.q (.q (.cV (.seq [.op,.op,.op,.dA false 2 [.op,.op],.op,.dA false 5 (RI.ops 5)])) .aJ) (.q (.cV (.held true [] (.tk [0,1,2] (.all [(3,.take 4 (.all [(5,.take 6 (.take 7 (.done)))]))])))) .l)))
def Kv.v (a b c d:Int)(e:Hp)(f:Option Addr->Int->Hp->Prop):Prop:=aV #[.I b,.I c,.I d] 31 e λg h=>aQ g 0 h λi=>aQ g 1 h λj=>aQ g 2 h λk=>Ze.c i j k h λl m n=>bY (λo p=>bY (λq r=>If q (f none 1 r) (dU r λs=>aS s g 0 λt=>aS s g 1 λu=>aS s g 2 λv=>Mk l l 8 3 [.I 0] r λw x=>And (s x) <| aV #[.I a,.I t,.I u,.I v,.slice w.a w.len w.cap,.I 0] 296 x λy z=>And (s z) <| f (some y) 0 z)) λaa=>If o (aa true p) (aQ g 1 p λab=>bL (1024-ab) λac=>aa (decide (a>ac)) p)) λad=>If (m != 0) (ad true n) (ad (decide (a<0)) n)
theorem Kv.o {a b c d e f}(g:Kv.v a b c d e f):Kv.c a b c d e f:=Wa Tryz.func256 (x:=Kv.h) (R0 g)
def ZJ.h:Hn:=.q .o1 (.q .o8 (.q (.k (.q .o3 (.c .aL (.q .o9 .aK)))) (.q .o4 .aM)))
def ZJ.v (a:R2)(b:Int)(c:Hp)(d:aN):Prop:=Yj.c a b c λe f g=>If (f != 0) (d f g) (bE a 4 g λi=>Ix i.a i.len e 1 λj=>bM j g λk=>If (k==0) (d 9 g) (aV #[.I e] 3 g λl m=>Zp.c a 0 ⟨some l,1,1⟩ m λn=>d 0 n))
theorem ZJ.o {a b c d}(e:ZJ.v a b c d):ZJ.c a b c d:=Wa Tryz.func275 (x:=ZJ.h) (R0 e)
def Zx.h:Hn:=.q .o2 (.q (.q .o3 .aJ) (.q .o6 (.q (.q .o2 .aJ) (.q .o4 (.q .o5 .l)))))
def Zx.v (a:R2)(b:Hp)(c:Int->Int->Hp->Prop):Prop:=Yx.c a b λd e=>If (!d) (c 0 5 e) (bE a 4 e λg=>WG.c g 0 e λh i=>If (h<0) (c 0 6 i) (aV #[.I h] 3 i λj k=>Zp.c a 1 ⟨some j,1,1⟩ k λl=>Yu.c a h l λm n=>c m 0 n))
theorem Zx.o {a b c}(d:Zx.v a b c):Zx.c a b c:=Wa Tryz.func277 (x:=Zx.h) (R0 d)
def YD.h:Hn:=.q .o2 (.q .o8 (.q (.q .o2 (.c (.q .o3 .l) .l)) (.q .fV .l)))
def YD.v (a:R2)(b:Int)(c:Hp)(d:Bool->Int->Hp->Prop):Prop:=Yj.c a b c λe f g=>If (f != 0) (d false f g) (bE a 4 g λi=>Ix i.a i.len e 1 λj=>bM j g λk=>d (k==1) 0 g)
theorem YD.o {a b c d}(e:YD.v a b c d):YD.c a b c d:=Wa Tryz.func285 (x:=YD.h) (R0 e)
def Yj.h:Hn:=.q .o2 (.q .o8 (.q (.q (.cV (.seq [.op,.op,.op,.dA true 5 (RI.ops 5)])) .aJ) (.q .o4 .l)))
def Yj.v (a:R2)(b:Int)(c:Hp)(d:Int->Int->Hp->Prop):Prop:=Yq.c a b c λe f g=>bY (λh i=>If h (d 0 8 i) (d e f i)) λj=>If (f==0) (Yu.c a e g λk l=>j (k != b) l) (j false g)
theorem Yj.o {a b c d}(e:Yj.v a b c d):Yj.c a b c d:=Wa Tryz.func297 (x:=Yj.h) (R0 e)
def Zp.h:Hn:=.q .o3 (.k (.loop [(10,.I)] (.q .o1 (.q (.c .l .l) (.q (.k (.q .o3 (.q (.cV (.tail 16 (RI.ops 16) [.op])) .o8))) .o2)))))
def Zp.v (a:R2)(b:Int)(c:Sl)(d:Hp)(e:aP):Prop:=W7 [bN] (λf=>f 0 d) λg (h:Int) i=>If (h<((c.len:Nat):Int)) (Ix c.a c.len h 1 λj=>bM j i λk=>bD a 5 i λm=>bE a 4 i λo=>Ix o.a o.len k 1 λp=>bM p i λq=>bL (b-q) λr=>bL (m+r) λs=>bS a λt=>aR t 5 (.I s) i λu=>bE a 4 u λw=>Ix w.a w.len k 1 λx=>dG x (.I b) u λy=>bL (h+1) λz=>g z y) (e i)
theorem Zp.o {a b c d e}(f:Zp.v a b c d e):Zp.c a b c d e:=Wa Tryz.func298 (x:=Zp.h) (R0 f)
end Go.Proofs
namespace Go.Ar
open Go Go.Vc Go.Proofs
variable {σ:Hp}{F:Rg}{p q:Nat}{c:bW}{s:cH}
def nV (tk:List Bool):List Nat:=tk.map λb=>if b then 1 else 0
theorem wc (tk:List Bool):(nV tk).length=tk.length:=by simp[nV]
theorem HW {tk:List Bool}{i:Nat}{b:Bool}(h:tk[i]?=some b):(nV tk)[i]?=some (if b then 1 else 0):=by simp[nV,h]
theorem R8 (tk:List Bool)(i:Nat)(b:Bool):nV (tk.set i b)=(nV tk).set i (if b then 1 else 0):=by simp[nV,ue]
structure ig (σ:Hp) (p q:Nat) (c:bW) (s:cH):Prop where
 hd:∃cap,c.n<=cap/\bX σ p [.int .i64 (s.st:Int),.int .i64 (c.size:Int),.int .i64 (c.aF:Int),.int .i64 (c.batch:Int),.slice (some ⟨q,0,none⟩) c.n cap,.int .i64 (s.many:Int)]
 row:∃rest,bX σ q (ints (nV s.tk)++rest)
 ne:p≠q
 len:s.tk.length=c.n
 ok:c.ok
 fit:s.st+c.aF<=1024
theorem ig.bU {σ':Hp}(h:ig σ p q c s)(e:Ext F σ σ')(hp:¬F p)(hq:¬F q):ig σ' p q c s:=
 ⟨by obtain⟨c,a,b⟩:=h.hd;exact⟨c,a,e.bZ b hp⟩,by obtain⟨r,a⟩:=h.row;exact⟨r,e.bZ a hq⟩,h.ne,h.len,h.ok,h.fit⟩
theorem ig.bK {σ':Hp}(h:ig σ p q c s)(e:bO σ σ'):ig σ' p q c s:=h.bU e id id
theorem ig.lt (h:ig σ p q c s):p<σ.size/\q<σ.size:=by
 obtain⟨_,_,b⟩:=h.hd;obtain⟨_,a⟩:=h.row;exact⟨b.lt,a.lt⟩
theorem ig.rS (h:ig σ p q c s){K:Sl->Prop}(hK:∀cap,c.n<=cap->K ⟨some ⟨q,0,none⟩,c.n,cap⟩):jn (Addr.add ⟨p,0,none⟩ 4) σ K:=by
 obtain⟨d,b,a⟩:=h.hd;exact a.rS rfl (hK d b)
theorem ig.rI (h:ig σ p q c s){i:Nat}{x:Int}(hx:∀a b:Value,([.int .i64 (s.st:Int),.int .i64 (c.size:Int),.int .i64 (c.aF:Int),.int .i64 (c.batch:Int),a,.int .i64 (s.many:Int)]:List Value)[0+i]?=some (.int .i64 x)){K:Int->Prop}(hK:K x):fJ .i64 (Addr.add ⟨p,0,none⟩ i) σ K:=by
 obtain⟨g,e,d⟩:=h.hd;exact d.rI (hx _ .nilFunc) hK
theorem ig.gD (h:ig σ p q c s){i j:Nat}{x:Int}(hx:∀a b:Value,([.int .i64 (s.st:Int),.int .i64 (c.size:Int),.int .i64 (c.aF:Int),.int .i64 (c.batch:Int),a,.int .i64 (s.many:Int)]:List Value)[0+i+j]?=some (.int .i64 x)){K:Int->Prop}(hK:K x):fJ .i64 (Addr.add (Addr.add ⟨p,0,none⟩ i) j) σ K:=by
 obtain⟨g,e,d⟩:=h.hd;exact d.gD (hx _ .nilFunc) hK
theorem ig.lz (h:ig σ p q c s)(cap:Nat):cR ⟨some ⟨q,0,none⟩,c.n,cap⟩ 1 (ints (nV s.tk)) σ (· = q):=by
 obtain⟨r,a⟩:=h.row;refine a.gp (o:=0) rfl (by rw[QH,wc,h.len];simp) λj b=>?_;rw[zG,zd b]
theorem y7 (h:ig σ p q c s){R:aO}(hR:R true σ):Yx.c (aW p) σ R:=by
 refine Yx.o ?_;unfold Yx.v;refine bY.intro (cJ rfl (aG (h.rS λcap _=>?_)));have:=h.ok.ns;rw[zW aC];exact hR
theorem JK (h:ig σ p q c s){R:aN}(hR:R (c.n:Int) σ):XZ.c (aW p) σ R:=by
 refine XZ.o ?_;unfold XZ.v;exact y7 h (cG rfl (aG (h.rS λcap _=>hR)))
theorem xM (h:ig σ p q c s)(i:Nat)(hi:i<=1000){R:aN}(hR:R ((at_ c s i:Nat):Int) σ):Yu.c (aW p) (i:Int) σ R:=by
 refine Yu.o ?_;unfold Yu.v;have a:=h.ok;unfold bW.ok at a;have:=h.fit;have b:i*c.size<=1000*512:=kL hi O;refine aG (h.rI (λ_ _=>rfl) (cA (m:=s.st*256) aA O (aG (h.gD (λ_ _=>rfl) ?_))));exact cA (m:=i*c.size) aA O (cA (m:=at_ c s i) (by simp[at_]) (by unfold at_;omega) hR)
theorem DK (h:ig σ p q c s)(x:Int)(hx2:x<=9223372036854775807){R:Int->Int->Hp->Prop}(h1:∀i,idx c s x=some i->R (i:Int) 0 σ)(h0:idx c s x=none->R 0 8 σ):Yq.c (aW p) x σ R:=by
 refine Yq.o ?_;unfold Yq.v;have A:=h.ok;unfold bW.ok at A;have z:=h.ok.jQ;have r:=h.fit;have a:=h.len;have D:c.n*c.size<=128*512:=kL z O;refine y7 h (cG rfl (xM h 0 O ?_));have w:at_ c s 0=s.st*256:=by simp[at_]
 rw[w];refine yG ?_;refine Jn.intro (xM h 0 O ?_);rw[w];refine cI (λB=>cJ rfl (h0 ?_)) λC=>?_
 ·unfold idx;rw[zB O]
 ·rw[UN O O];obtain⟨y,E⟩:=zk (show 0<=x by omega);have key:If (decide (x-((s.st*256:Nat):Int)≥((c.n*c.size:Nat):Int))) (R 0 8 σ)
   (bS (some ⟨p,0,none⟩) λe=>fJ .i64 ((e.add 1).add 0) σ λd=>Nz d<|Ar .i64 ((x-((s.st*256:Nat):Int)).tdiv d) λg=>R g 0 σ):=by
   refine cI (λj=>h0 ?_) λu=>aG (h.gD (λ_ _=>rfl) (nz O ?_))
   ·unfold idx;rw[a,zB O]
   ·have:idx c s x=some ((x-((s.st*256:Nat):Int)).toNat/c.size):=by unfold idx;rw[a,zA O]
    refine cA (m:=(x-((s.st*256:Nat):Int)).toNat/c.size) ?_ ?_ (h1 _ this)
    ·rw[YK O];have:x-((s.st*256:Nat):Int)=(((x-((s.st*256:Nat):Int)).toNat:Nat):Int):=by omega
     rw[this];simp
    ·have:=Nat.div_le_self (x-((s.st*256:Nat):Int)).toNat c.size;omega
  refine aG (aG ⟨h.rS λcap b=>h.gD (λ_ _=>rfl) (cA (m:=c.n*c.size) aA O key),h.gD (λ_ _=>rfl) (h.rS λcap b=>cA (m:=c.n*c.size) aA O key)⟩)
theorem Jb (h:ig σ p q c s)(x:Int)(hx2:x<=9223372036854775807){R:Int->Int->Hp->Prop}(h1:∀i,obj c s x=some i->i<c.n->R (i:Int) 0 σ)(h0:obj c s x=none->R 0 8 σ):Yj.c (aW p) x σ R:=by
 refine Yj.o ?_;unfold Yj.v;have g:=h.ok;unfold bW.ok at g;have j:=h.ok.jQ;refine DK h x hx2 (λi a=>bY.intro (cJ rfl ?_)) λa=>bY.intro (cG rfl (cG rfl (h0 (by unfold obj;rw[a]))));have b:=((V1 O).1 a).2.2;rw[h.len]at b;refine xM h i O (cU (λd=>h0 ?_) λd=>h1 i ?_ b)
 ·have:¬x=((at_ c s i:Nat):Int):=λe=>by rw[e]at d;simp at d
  unfold obj;rw[a];simp[this]
 ·have:x=((at_ c s i:Nat):Int):=by
   have:((at_ c s i:Nat):Int)=x:=by simpa using d
   exact this.symm
  unfold obj;rw[a];simp[this]
def cH.is (s:cH)(i:Nat):Bool:=s.tk.getD i false
theorem cH.lJ {s:cH}{i:Nat}(hi:i<s.tk.length):s.tk[i]?=some (s.is i):=by
 simp[cH.is,zL,cM hi]
theorem TT (h:ig σ p q c s)(x:Int)(hx2:x<=9223372036854775807){R:Bool->Int->Hp->Prop}(h1:∀i,obj c s x=some i->R (s.is i) 0 σ)(h0:obj c s x=none->R false 8 σ):YD.c (aW p) x σ R:=by
 refine YD.o ?_;unfold YD.v;refine Jb h x hx2 (λi b a=>cG rfl (aG (h.rS λcap d=>?_))) λb=>cJ rfl (h0 b);rw[←h.len]at a;refine(h.lz cap).oH (HW (cH.lJ a)) ?_;have:=h1 i b;cases hb:s.is i<;>rw[hb]at this<;>simpa using this
theorem xQ {s:cH}{i:Nat}(hi:i<s.tk.length)(v:Bool):((s.put i v).many:Int)=s.many+((if v then 1 else 0)-(if s.is i then 1 else 0)):=by
 have key:∀(l:List Bool) (i:Nat) (b:Bool),l[i]?=some b->(((l.set i v).count true:Nat):Int)=(l.count true:Nat)+((if v then 1 else 0)-(if b then 1 else 0)):=by
  intro l
  induction l with
  | nil=>intro i b h;simp at h
  | cons x l ih=>
   intro i b h;cases i with
   | zero=>
    simp at h;subst h;cases v<;>cases x<;>simp[List.count_cons]<;>omega
   | succ i=>
    have:=ih i b (by simpa using h);simp only[si,List.count_cons]
    push_cast
    omega
 exact key s.tk i _ (cH.lJ hi)
theorem G7 (s:cH):s.many<=s.tk.length:=vq
theorem Jx (h:ig σ p q c s){i:Nat}(hi:i<c.n)(v:Bool){sl:Sl}{G:Rg}(hs:cR sl 1 (ints [i]) σ G){R:aP}(hR:∀σ',Ext (λb=>b=p\/b=q) σ σ'->ig σ' p q c (s.put i v)->R σ') :
 Zp.c (aW p) (if v then 1 else 0) sl σ R:=by
 refine Zp.o ?_;unfold Zp.v;have J:sl.len=1:=hs.jO;have U:=h.ok.jQ;have E:=h.len;have P:=G7 s;have y:i<s.tk.length:=by omega
 have d:=xQ y v;refine ZU (a:=bN) (λ(t:Int) C=>t=0/\C=σ\/t=1/\Ext (λb=>b=p\/b=q) σ C/\ig C p q c (s.put i v)) (λt _=>1-t.toNat) (.inl ⟨rfl,rfl⟩) ?_;rintro t C (⟨rfl,rfl⟩|⟨rfl,e,K⟩)
 ·refine lU O ?_;refine hs.oH (i:=0) (x:=i) rfl (aG (h.rI (λ_ _=>rfl) (aG (h.rS λcap H=>?_))));refine(h.lz cap).oH (HW (cH.lJ y)) ?_;have M:(0:Int)<=(if v then 1 else 0)/\(if v then(1:Int)else 0)<=1:=by cases v<;>simp
  have N:(0:Int)<=((if s.is i then 1 else 0:Nat):Int)/\((if s.is i then 1 else 0:Nat):Int)<=1:=by cases s.is i<;>simp
  have j:((if s.is i then 1 else 0:Nat):Int)=(if s.is i then 1 else 0):=by cases s.is i<;>rfl
  refine ar O O (ar O O (aG ?_));obtain⟨L,D,hd⟩:=h.hd;obtain⟨r,z⟩:=h.row;refine hd.s1 aA λQ A w=>?_;have g:=Ws A z (Ne.symm h.ne);refine aG (w.rS rfl (ix O aC ?_));rw[add_lit];refine g.s0 (by simp[QH,wc];omega) λS B u=>?_;refine cA (m:=1) O O ⟨.inr ⟨rfl,?_,?_⟩,by decide⟩
  ·exact(Ext.eR (F:=λb=>b=p\/b=q) A (.inl rfl)).trans (Ext.eR B (.inr rfl))
  ·refine⟨⟨L,D,?_⟩,⟨r,?_⟩,h.ne,by simp[cH.put,h.len],h.ok,h.fit⟩
   ·have:=Ws B w h.ne;rw[d,←j];exact this
   ·have e:(ints (nV s.tk)++r).set (0+(i:Int).toNat*1) (.int .i64 (if v then 1 else 0))=ints (nV (s.put i v).tk)++r:=by
     rw[List.set_append_left _ _ (by simp[QH,wc];omega)]
     congr 1
     simp only[cH.put,R8,ints,ue];have:(0+(i:Int).toNat*1)=i:=by omega
     rw[this]
     congr 1
     cases v<;>rfl
    rw[e]at u;exact u
 ·exact fG O (hR _ e K)
theorem S7 (h:ig σ p q c s){x:Int}{i:Nat}(hx2:x<=9223372036854775807)(ho:obj c s x=some i)(ht:s.is i=true){R:aN}(hR:∀σ',Ext (λb=>b=p\/b=q) σ σ'->ig σ' p q c (s.put i false)->R 0 σ') :
 ZJ.c (aW p) x σ R:=by
 refine ZJ.o ?_;unfold ZJ.v;refine Jb h x hx2 (λj r d=>cG rfl (aG (h.rS λcap m=>?_))) λg=>by rw[ho]at g;cases g
 rw[ho]at r;cases r;have a:i<s.tk.length:=by rw[h.len];exact d
 refine(h.lz cap).oH (HW (cH.lJ a)) ?_;rw[ht];refine cG rfl (nw (cs:=ints [i]) λv A e y=>?_);have z:=h.lt;exact Jx (h.bK e) d false (wa y rfl) λσ' u w=>hR σ' (e.to.trans u) w
theorem Wli (h:ig σ p q c s){i:Nat}(hlow:low s=some i){R:Int->Int->Hp->Prop}(hR:∀σ',Ext (λb=>b=p\/b=q) σ σ'->ig σ' p q c (s.put i true)->R ((at_ c s i:Nat):Int) 0 σ') :
 Zx.c (aW p) σ R:=by
 refine Zx.o ?_;unfold Zx.v;have D:=h.ok.jQ;have d:=oO.1 hlow;obtain⟨m,C,B⟩:=d;have g:s.tk[i]=false:=by simpa using C
 refine y7 h (cG rfl (aG (h.rS λcap y=>?_)));refine JN (h.lz cap) (by simp[wc,h.len];omega) 0 (λj w a=>?_) λa=>?_
 ·have u:j<s.tk.length:=by
   have:=(cQ.1 w).1
   rwa [wc]at this
  have r:j=i:=by
   rcases qx j i with h1|h1|h1
   ·have:=B j h1;rw[HW (cM u)]at w;have:s.tk[j]=true:=by simpa using this
    simp[this]at w
   ·exact h1
   ·exact absurd (by rw[HW (cM m),g];rfl) (a i h1)
  subst r;rw[h.len]at m;refine fG O (nw (cs:=ints [j]) λv E e x=>?_);refine Jx (h.bK e) m true (wa x rfl) λσ' A z=>xM z j O (hR σ' (e.to.trans A) z)
 ·exfalso;apply a;exact zE (i:=i) (by rw[HW (cM m),g];rfl)
theorem FI (h:ig σ p q c s){R:Int->Int->Hp->Prop}(hR:∀σ',bO σ σ'->R (s.st:Int) (c.aF:Int) σ'):ZF.c (aW p) σ R:=by
 refine ZF.o ?_;unfold ZF.v;refine nw (cs:=[.int .i64 0,.int .i64 0]) λv w e r=>?_;have g:=h.bK e;refine y7 g (cG rfl (aG (g.rI (λ_ _=>rfl) (aG (g.gD (λ_ _=>rfl) ?_)))));refine r.s1 aA λu b j=>j.s1 aA λv3 d a=>?_;refine a.rI rfl (a.rI rfl (hR _ ?_));exact Ext.fresh (Ext.fresh e (Ext.eR (F:=(· = σ.size)) b rfl) λi m=>O) (Ext.eR (F:=(· = σ.size)) d rfl) λi m=>by omega
theorem ε (n:Nat):(List.replicate n [Value.int .i64 0]).flatten=ints (List.replicate n 0):=by
 induction n with
 | zero=>rfl
 | succ n ih=>simp only[wh,uU,ih];rfl
theorem T0 (hc:c.ok){st:Nat}(hf:st+c.aF<=1024){R:Option Addr->Int->Hp->Prop}(hR:∀σ' p q,bO σ σ'->σ.size<=p->σ.size<=q->ig σ' p q c ⟨st,List.replicate c.n false⟩->R (some ⟨p,0,none⟩) 0 σ') :
 Kv.c (st:Int) c.size c.aF c.batch σ R:=by
 refine Kv.o ?_;unfold Kv.v;have K:=hc;unfold bW.ok at K;have L:=hc.jQ;refine nw (cs:=[.int .i64 c.size,.int .i64 c.aF,.int .i64 c.batch]) λv S e y=>?_;refine y.rI rfl (y.rI rfl (y.rI rfl (UF _ _ _ (λg D E H F B A=>?_) λs=>?_)))
 case refine_2=>rw[(UA c).2 hc]at s;cases s
 have:g=c:=by
  obtain⟨a,b,d⟩:=c;obtain⟨P,M,N⟩:=g;simp only at E H F
  congr 1<;>omega
 subst this;have i:=A.bZ y id;refine bY.intro (cG rfl (bY.intro (fG O (i.rI rfl (cA (m:=1024-g.aF) O O (fG O ?_))))));refine⟨λx=>bX x σ.size [.int .i64 g.size,.int .i64 g.aF,.int .i64 g.batch],i,⟨_,λx u=>by rw[add_lit,u.cell];rfl,⟨_,λx u=>by rw[add_lit,u.cell];rfl,⟨_,λx u=>by rw[add_lit,u.cell];rfl,?_⟩⟩⟩⟩;refine mk O O λQ C j w=>⟨j.bZ i id,nw (cs:=[.int .i64 (st:Int),.int .i64 g.size,.int .i64 g.aF,.int .i64 g.batch,.slice (some ⟨B.size,0,none⟩) g.n g.n,.int .i64 0]) λv3 J r z=>⟨(j.trans r).bZ i id,?_⟩⟩;rw[ε]at w;have G:=A.1;refine hR _ _ _ (((e.trans A).trans j).trans r) O (show σ.size<=B.size by omega) ⟨⟨g.n,zD _,?_⟩,⟨[],?_⟩,O,by simp,hc,hf⟩
 ·have:cH.many ⟨st,List.replicate g.n false⟩=0:=by simp[cH.many,Ai]
  rw[this];exact z
 ·have:nV (List.replicate g.n false)=List.replicate g.n 0:=by simp[nV]
  rw[this,j8];exact r.bZ w id
end Go.Ar
namespace Go.Proofs
open Go.Vc
set_option maxRecDepth 100000
def X7.h:Hn:=.q .o1 (.q (.q .o3 .aK) (.q .o1 (.q (.q .o6 (.k (.loop [(3,.one .s),(14,.I)] (.q .o1 (.q (.c .l .l) (.q (.k (.q .o4 .o7)) .o2)))))) .aL)))
def X7.v (a:R2)(b:Hp)(c:Sl->Hp->Prop):Prop:=WA.c a b λd e=>If (!d) (c ⟨none,0,0⟩ e) (bE a 3 e λg=>W7 [.s,bN] (λh=>h ⟨none,0,0⟩ 0 e) λi (j:Sl) (k:Int) l=>If (k<((g.len:Nat):Int)) (Ix g.a g.len k 3 λm=>aQ m 0 l λn=>aQ m 1 l λo=>aY m 2 l λp=>aV #[.I 0,.I 0,.pointer none] 210 l λq r=>aR q 0 (.I n) r λs=>aR q 1 (.I o) s λt=>aR q 2 (.pointer p) t λu=>aY q 2 u λv=>ZF.c v u λw x y=>aV #[.I w,.I x] 92 y λz aa=>App j 2 16 92 [.I 0,.I 0] ⟨some z,1,1⟩ aa λab ac=>bL (k+1) λad=>i ab ad ac) (c j l))
theorem X7.o {a b c}(d:X7.v a b c):X7.c a b c:=Wa Tryz.func107 (x:=X7.h) (R0 d)
def Yz.h:Hn:=.q .o1 (.q (.q .o3 .aK) (.q .o1 (.q (.q .o6 (.k (.loop [(3,.I),(14,.I)] (.q .o1 (.q (.c .l .l) (.q (.k (.q .o4 (.cV (.held true [] (.tk [0,1,2,4,5,6] (.all [(3,.tk [7,8,9] (.done))])))))) .o2)))))) .aL)))
def Yz.v (a:R2)(b:Hp)(c:aN):Prop:=WA.c a b λd e=>If (!d) (c 0 e) (bE a 3 e λg=>W7 [bN,bN] (λh=>h 0 0 e) λi (j:Int) (k:Int) l=>If (k<((g.len:Nat):Int)) (Ix g.a g.len k 3 λm=>aQ m 0 l λn=>aQ m 1 l λo=>aY m 2 l λp=>aV #[.I 0,.I 0,.pointer none] 210 l λq r=>aR q 0 (.I n) r λs=>aR q 1 (.I o) s λt=>aR q 2 (.pointer p) t λu=>dU u λv=>aU v q 2 λw=>gP v bN ((q.add 0).add 0) λ(x:Int)=>XZ.c w u λy z=>And (v z) <| bL (y-x) λaa=>bL (j+aa) λab=>bL (k+1) λac=>i ab ac z) (c j l))
theorem Yz.o {a b c}(d:Yz.v a b c):Yz.c a b c:=Wa Tryz.func109 (x:=Yz.h) (R0 d)
def Yw.h:Hn:=.q .o2 (.q (.q .o3 .aJ) (.q .o4 (.q (.q .o2 .aJ) (.q (.o 11) (.q (.oq 16) .l)))))
def Yw.v (a:R2)(b:Int)(c:Hp)(d:Int->Int->Hp->Prop):Prop:=WA.c a c λe f=>If (!e) (d 0 5 f) (XR.c a b f λg h=>If g.isNone (d 0 8 h) (bF g 2 h λj=>Yq.c j b h λk l m=>bS g λn=>bM ((n.add 0).add 1) m λo=>bL (o*256) λp=>bS a λq=>bM ((q.add 0).add 0) m λr=>bL (k*r) λs=>bL (p+s) λt=>d t 0 m))
theorem Yw.o {a b c d}(e:Yw.v a b c d):Yw.c a b c d:=Wa Tryz.func115 (x:=Yw.h) (R0 e)
def WA.h:Hn:=.q .o1 (.q (.cV (.seq [.op,.op,.op,.dA true 6 (RI.ops 6),.op])) .l)
def WA.v (a:R2)(b:Hp)(c:aO):Prop:=bY (λd e=>c d e) λf=>If (!a.isNone) (bS a λg=>bM ((g.add 0).add 0) b λh=>f (decide (h>0)) b) (f false b)
theorem WA.o {a b c}(d:WA.v a b c):WA.c a b c:=Wa Tryz.func137 (x:=WA.h) (R0 d)
def XR.h:Hn:=.q .o1 (.q (.q .o6 (.k (.loop [(13,.I)] (.q .o1 (.q (.c .l .l) (.q (.k (.q .o2 (.q (.o 15) (.q .o2 (.c (.q .o7 .l) .l))))) .o2)))))) .aM)
def XR.v (a:R2)(b:Int)(c:Hp)(d:Option Addr->Hp->Prop):Prop:=bE a 3 c λf=>W7 [bN] (λg=>g 0 c) λh (i:Int) j=>If (i<((f.len:Nat):Int)) (bE a 3 j λl=>Ix l.a l.len i 3 λm=>aY m 2 j λn=>Yq.c n b j λo p q=>If (p==0) (bE a 3 q λs=>Ix s.a s.len i 3 λt=>d (some t) q) (bL (i+1) λu=>h u q)) (d none j)
theorem XR.o {a b c d}(e:XR.v a b c d):XR.c a b c d:=Wa Tryz.func145 (x:=XR.h) (R0 e)
def Qd.h:Hn:=.q .o3 (.q (.q .o7 (.q .o2 .aJ)) (.q .o5 .l))
def Qd.v (a b c:Int)(d:Hp)(e:Option Addr->Int->Hp->Prop):Prop:=aV #[.I a,.I b,.I c] 31 d λf g=>aQ f 0 g λh=>aQ f 1 g λi=>aQ f 2 g λj=>Ze.c h i j g λk l m=>If (l != 0) (e none 1 m) (aQ f 0 m λn=>aQ f 1 m λo=>aQ f 2 m λp=>aV #[.I n,.I o,.I p,.slice none 0 0] 205 m λq r=>e (some q) 0 r)
theorem Qd.o {a b c d e}(f:Qd.v a b c d e):Qd.c a b c d e:=Wa Tryz.func156 (x:=Qd.h) (R0 f)
def WW.h:Hn:=.q .o1 (.q (.q .o3 .aK) (.q .o1 (.q .fV .aL)))
def WW.v (a:R2)(b:Hp)(c:Sl->Hp->Prop):Prop:=WA.c a b λd e=>If (!d) (c ⟨none,0,0⟩ e) (aV #[.slice none 0 0] 51 e λf g=>bE a 3 g λi=>Wf.c i ⟨228,#[],#[.pointer (some f)]⟩ g λj k=>bS a λl=>aR l 3 (.slice j.a j.len j.cap) k λm=>jn f m λn=>c n m)
theorem WW.o {a b c}(d:WW.v a b c):WW.c a b c:=Wa Tryz.func190 (x:=WW.h) (R0 d)
def Xd.h:Hn:=.q .o2 (.q (.k (.q .o4 (.c .aL (.q .o3 .aJ)))) (.q .o1 (.q (.k (.loop [(6,.one .s)] (.q (.q .o4 (.c .l .l)) (.k (.q .o7 (.q (.q .o2 (.c .l .l)) .o5)))))) (.q .o3 .l))))
def Xd.v (a:R2)(b:Int)(c:Hp)(d:Sl->Int->Hp->Prop):Prop:=WA.c a c λe f=>If (!e) (d ⟨none,0,0⟩ 5 f) (If (b<0) (d ⟨none,0,0⟩ 1 f) (W7 [.s] (λg=>g ⟨none,0,0⟩ f) λh (i:Sl) j=>If (((i.len:Nat):Int)<b) (Y1.c a j λk l m=>If (!l) (d i 0 m) (aV #[.I k] 3 m λn o=>App i 1 8 3 [.I 0] ⟨some n,1,1⟩ o λp q=>h p q)) (d i 0 j)))
theorem Xd.o {a b c d}(e:Xd.v a b c d):Xd.c a b c d:=Wa Tryz.func214 (x:=Xd.h) (R0 e)
def Y8.h:Hn:=.q .o1 (.q (.q .o3 .aK) (.q (.o 11) (.q (.q .o2 .aJ) (.q (.q .o6 (.k (.loop [(31,.I)] (.q .o1 (.q (.c .l .l) (.q (.k (.q .o4 (.q (.oq 17) .aK))) .o2)))))) (.q (.o 11) (.q (.o 15) .aM))))))
def Y8.v (a:R2)(b:Int)(c:Hp)(d:aN):Prop:=WA.c a c λe f=>If (!e) (d 5 f) (bS a λg=>bM ((g.add 0).add 0) f λh=>bM ((g.add 0).add 1) f λi=>bM ((g.add 0).add 2) f λj=>Kv.c b h i j f λk l m=>If (l != 0) (d l m) (bE a 3 m λo=>W7 [bN] (λp=>p 0 m) λq (r:Int) s=>If (r<((o.len:Nat):Int)) (Ix o.a o.len r 3 λt=>aQ t 0 s λu=>aQ t 1 s λv=>aY t 2 s λw=>aV #[.I 0,.I 0,.pointer none] 210 s λx y=>aR x 0 (.I u) y λz=>aR x 1 (.I v) z λaa=>aR x 2 (.pointer w) aa λab=>bM ((x.add 0).add 1) ab λac=>bM ((x.add 0).add 1) ab λad=>bL ((if b>ac then b else ac)-(if b<ad then b else ad)) λae=>bS a λaf=>bM ((af.add 0).add 1) ab λag=>If (ae<ag) (d 9 ab) (bL (r+1) λah=>q ah ab)) (bE a 3 s λaj=>Wb.c aj b ⟨258,#[],#[]⟩ s λak al am=>bE a 3 am λao=>aV #[.I 0,.I b,.pointer k] 210 am λap aq=>Wg.c ao ak ⟨some ap,1,1⟩ aq λar au=>bS a λav=>aR av 3 (.slice ar.a ar.len ar.cap) au λaw=>d 0 aw)))
theorem Y8.o {a b c d}(e:Y8.v a b c d):Y8.c a b c d:=Wa Tryz.func216 (x:=Y8.h) (R0 e)
def Yb.h:Hn:=.q .o2 (.jD [] (.q .o4 (.c (.cV (.held true [6] (.tk [0,1,2] (.all [(3,.all [(4,.all [(5,.all [(6,.done)])])])])))) .l)) (.q .o5 .l))
def Yb.v (a b:Int)(c:R2)(d:Addr)(e:Hp)(f:aO):Prop:=aV #[.I a,.I b,.pointer c] 210 e λg h=>Jn [] (λi=>bM ((g.add 0).add 0) i λj=>f (j==0) i) λk=>bM ((g.add 0).add 0) h λl=>If (l==0) (dU h λm=>gP m .s d λ(n:Sl)=>aU m g 2 λo=>ZF.c o h λp q r=>And (m r) <| aV #[.I p,.I q] 92 r λs t=>And (m t) <| App n 2 16 92 [.I 0,.I 0] ⟨some s,1,1⟩ t λu v=>And (m v) <| dG d (.slice u.a u.len u.cap) v λw=>k w) (k h)
theorem Yb.o {a b c d e f}(g:Yb.v a b c d e f):Yb.c a b c d e f:=Wa Tryz.func228 (x:=Yb.h) (R0 g)
def Za.h:Hn:=.q .o2 (.q (.q .o3 .aJ) (.q .o1 (.q (.q .o3 (.k (.loop [(6,.one .b),(19,.I)] (.q .o1 (.q (.c .l .l) (.q (.k (.q .o5 (.q .o8 (.q (.q .o2 (.c (.q .o3 .l) .l)) (.cV (.seq [.op,.op,.dA false 2 [.op,.op],.op,.dA false 5 (RI.ops 5),.op])))))) .o2)))))) (.q (.q .o1 .aJ) (.q (.q .o3 (.k (.loop [(49,.I)] (.q .o1 (.q (.c .l .l) (.q (.k (.q .o3 (.q .o4 (.q .o6 .fV)))) .o2)))))) (.q .o4 .l))))))
def Za.v (a:R2)(b:Sl)(c:Hp)(d:Sl->Int->Hp->Prop):Prop:=WA.c a c λe f=>If (!e) (d ⟨none,0,0⟩ 5 f) (W7 [.b,bN] (λg=>g false 0 f) λh (i:Bool) (j:Int) k=>If (j<((b.len:Nat):Int)) (Ix b.a b.len j 1 λl=>bM l k λm=>W9.c a m k λn o p=>If (o != 0) (d ⟨none,0,0⟩ o p) (bY (λq r=>bY (λs t=>bL (j+1) λu=>h s u t) λv=>If q (v true r) (eX b 1 0 j (b.cap:Nat) λw=>Wo.c w m r λx y=>v x y)) λz=>If i (z true p) (z (!n) p))) (If i (d ⟨none,0,0⟩ 9 k) (W7 [bN] (λaa=>aa 0 k) λab (ac:Int) ad=>If (ac<((b.len:Nat):Int)) (Ix b.a b.len ac 1 λae=>bM ae ad λaf=>XR.c a af ad λag ah=>bF ag 2 ah λaj=>ZJ.c aj af ah λak al=>bS ag λam=>bM ((am.add 0).add 0) al λan=>bL (an-1) λao=>bS ag λap=>dG ((ap.add 0).add 0) (.I ao) al λaq=>bL (ac+1) λar=>ab ar aq) (WW.c a ad λau av=>d au 0 av))))
theorem Za.o {a b c d}(e:Za.v a b c d):Za.c a b c d:=Wa Tryz.func246 (x:=Za.h) (R0 e)
def Y1.h:Hn:=.q .o2 (.q .o1 (.q (.q .o6 (.k (.loop [(4,.one .p),(14,.I)] (.q .o1 (.q (.c .l .l) (.q (.k (.q .o2 (.q .o7 (.q (.cV (.hO true [] [(48,.one .b)] (.tk [0,1,2,3,4,5,6,7,8] (.all [(9,.take 10 (.take 11 (.split 34 (.take 12 (.take 13 (.take 14 (.split 37 (.take 15 (.take 16 (.take 17 (.take 18 (.take 19 (.take 20 (.take 21 (.take 22 (.take 23 (.take 24 (.take 25 (.done)))))))))))) (.take 15 (.take 16 (.take 17 (.take 19 (.take 20 (.take 21 (.all [(18,.all [(22,.all [(23,.take 24 (.take 25 (.done)))])]),(22,.all [(18,.all [(23,.take 24 (.take 25 (.done)))])])]))))))))))) (.take 12 (.take 13 (.take 14 (.take 15 (.take 16 (.take 17 (.take 18 (.take 19 (.take 20 (.take 21 (.take 22 (.take 23 (.take 24 (.take 25 (.done))))))))))))))))))])))) (.c .o2 .l))))) .o2)))))) (.q (.q .o2 .aJ) (.q .fV (.q .fV (.q .o3 .l))))))
def Y1.v (a:R2)(b:Hp)(c:Int->Bool->Hp->Prop):Prop:=bE a 3 b λe=>W7 [.p,bN] (λf=>f none 0 b) λg (h:R2) (i:Int) j=>If (i<((e.len:Nat):Int)) (bE a 3 j λl=>Ix l.a l.len i 3 λm=>Jn [.b] (λ(n:Bool) o=>If n (bL (i+1) λp=>g (some m) p o) (bL (i+1) λq=>g h q o)) λr=>dU j λs=>bS (some m) λt=>gP s bN ((t.add 0).add 0) λ(u:Int)=>bS (some m) λv=>aU s v 2 λw=>XZ.c w j λx y=>And (s y) <| If (u<x) (If h.isNone (r true y) (bS (some m) λz=>bS h λaa=>(bM ((z.add 0).add 0) y λab=>bM ((z.add 0).add 1) y λac=>And (s y) <| bM ((aa.add 0).add 0) y λad=>bM ((aa.add 0).add 1) y λae=>And (s y) <| W5.c ab ac ad ae y λaf ag=>And (s ag) <| r af ag) ∧ (bM ((aa.add 0).add 0) y λah=>bM ((aa.add 0).add 1) y λai=>And (s y) <| bM ((z.add 0).add 0) y λaj=>bM ((z.add 0).add 1) y λak=>And (s y) <| W5.c aj ak ah ai y λal am=>And (s am) <| r al am))) (r false y)) (If h.isNone (c 0 false j) (bF h 2 j λao=>Zx.c ao j λap aq ar=>bS h λau=>bM ((au.add 0).add 0) ar λav=>bL (av+1) λaw=>bS h λax=>dG ((ax.add 0).add 0) (.I aw) ar λay=>c ap true ay))
theorem Y1.o {a b c}(d:Y1.v a b c):Y1.c a b c:=Wa Tryz.func251 (x:=Y1.h) (R0 d)
def YS.h:Hn:=.q .o2 (.q .o6 .l)
def YS.v (a b:Int)(c:R2)(d:Int)(e:Hp)(f:aN):Prop:=aV #[.I a,.I b,.pointer c] 210 e λg h=>bM ((g.add 0).add 1) h λi=>bL (i-d) λj=>f j h
theorem YS.o {a b c d e f}(g:YS.v a b c d e f):YS.c a b c d e f:=Wa Tryz.func258 (x:=YS.h) (R0 g)
def W9.h:Hn:=.q .o2 (.q (.q .o3 .aJ) (.q .o4 (.q (.q .o2 .aJ) (.q .fV .l))))
def W9.v (a:R2)(b:Int)(c:Hp)(d:Bool->Int->Hp->Prop):Prop:=WA.c a c λe f=>If (!e) (d false 5 f) (XR.c a b f λg h=>If g.isNone (d false 8 h) (bF g 2 h λj=>YD.c j b h λk l m=>d k l m))
theorem W9.o {a b c d}(e:W9.v a b c d):W9.c a b c d:=Wa Tryz.func263 (x:=W9.h) (R0 e)
def W5.h:Hn:=.q .o3 (.q (.cV (.seq [.op,.op,.op,.op,.op,.op,.dA false 12 [.op,.op,.op,.op,.op,.op,.dA true 5 (RI.ops 5)],.op])) .l)
def W5.v (a b c d:Int)(e:Hp)(f:aO):Prop:=aV #[.I a,.I b] 207 e λg h=>aV #[.I c,.I d] 207 h λi j=>aQ g 0 j λk=>aQ i 0 j λl=>bY (λm n=>f m n) λo=>If (k>l) (o true j) (aQ g 0 j λp=>aQ i 0 j λq=>bY (λr s=>o r s) λt=>If (p==q) (aQ g 1 j λu=>aQ i 1 j λv=>t (decide (u<v)) j) (t false j))
theorem W5.o {a b c d e f}(g:W5.v a b c d e f):W5.c a b c d e f:=Wa Tryz.func276 (x:=W5.h) (R0 g)
end Go.Proofs
namespace Go.Ar
open Go Go.Vc Go.Proofs
variable {σ:Hp}{F:Rg}{p:Nat}{c:bW}{ps:List (Nat×Nat)}{ss:List cH}
def eC (ps:List (Nat×Nat)):List Nat:=ps.flatMap λx=>[x.1,x.2]
theorem HM {ps:List (Nat×Nat)}{b:Nat}:b∈eC ps↔∃x∈ps,b=x.1\/b=x.2:=by simp[eC]
def dW:List (Nat×Nat)->List cH->List Value
 | x::ps,s::ss=>.int .i64 (s.many:Int) :: .int .i64 (s.st:Int) :: .pointer (some ⟨x.1,0,none⟩)::dW ps ss
 | _,_=>[]
theorem Q5:∀{ps:List (Nat×Nat)} {ss:List cH},ps.length=ss.length->(dW ps ss).length=3*ss.length
 | [],[],_=>rfl
 | x::ps,s::ss,h=>by simp only[dW,zP]at *;rw[Q5 O];omega
theorem Qv:∀{ps:List (Nat×Nat)} {ss:List cH} {i:Nat} {x:Nat×Nat} {s:cH},ps[i]?=some x->ss[i]?=some s →
 (dW ps ss)[3*i]?=some (.int .i64 (s.many:Int))/\(dW ps ss)[3*i+1]?=some (.int .i64 (s.st:Int))/\(dW ps ss)[3*i+2]?=some (.pointer (some ⟨x.1,0,none⟩))
 | [],_,_,_,_,h,_=>by simp at h
 | _::_,[],_,_,_,_,h=>by simp at h
 | y::ps,t::ss,0,x,s,h1,h2=>by simp at h1 h2;subst h1;subst h2;simp[dW]
 | y::ps,t::ss,i+1,x,s,h1,h2=>by
  have:=Qv (ps:=ps) (ss:=ss) (i:=i) (by simpa using h1) (by simpa using h2);simp only[dW];rw[show 3*(i+1)=3*i+3 by omega];simpa using this
theorem Vk:∀{ps ps':List (Nat×Nat)} {ss ss':List cH},ps.length=ss.length->dW (ps++ps') (ss++ss')=dW ps ss++dW ps' ss'
 | [],_,[],_,_=>rfl
 | x::ps,_,s::ss,_,h=>by simp only[lQ,dW,Vk (ps:=ps) (ss:=ss) (by simpa using h)]
theorem Lj:∀{ps:List (Nat×Nat)} {ss:List cH},∀v∈dW ps ss,dN v=true
 | [],_,v,h=>by simp[dW]at h
 | _::_,[],v,h=>by simp[dW]at h
 | x::ps,s::ss,v,h=>by
  simp only[dW,zQ]at h;rcases h with rfl|rfl|rfl|h
  ·rfl
  ·rfl
  ·rfl
  ·exact Lj v h
structure fB (σ:Hp) (F:Rg) (p:Nat) (c:bW) (ps:List (Nat×Nat)) (ss:List cH):Prop where
 hd:∃sl:Sl,bX σ p [.int .i64 (c.size:Int),.int .i64 (c.aF:Int),.int .i64 (c.batch:Int),.slice sl.a sl.len sl.cap]/\bR sl 3 (dW ps ss) σ (λb=>F b/\b≠p/\b∉eC ps)
 sp:∀(i:Nat) (x:Nat×Nat) s,ps[i]?=some x->ss[i]?=some s->ig σ x.1 x.2 c s
 fp:F p
 fb:∀b∈eC ps,F b
 nd:(p::eC ps).Nodup
 len:ps.length=ss.length
 ok:c.ok
 pO:ss.Pairwise (λa b=>a.st<b.st)
theorem fB.loc:dR λσ F=>fB σ F p c ps ss:=λσ D F G h H j=>by
 obtain⟨sl,a,y⟩:=h.hd;have bU:∀b,b<σ.size->F b->D[b]?=σ[b]? := λb a d=>(j b a d).2;have z:∀{b:Nat} {cs:List Value},bX σ b cs->F b->bX D b cs:=by
  rintro b cs ⟨e,C⟩ d;exact⟨e,(bU b (bX.lt ⟨e,C⟩) d).trans C⟩
 have lt:∀b∈eC ps,b<σ.size:=by
  intro b a;obtain⟨x,m,w⟩:=HM.1 a;obtain⟨i,B⟩:=zN m;have A:=(cQ.1 B).1;have:=(h.sp i x _ B (cM (by rw[←h.len];exact A))).lt;rcases w with rfl|rfl
  ·exact this.1
  ·exact this.2
 refine⟨⟨sl,z a h.fp,bR.loc _ _ _ _ _ _ _ y H λb a d=>⟨⟨(j b a d.1).1,d.2⟩,(j b a d.1).2⟩⟩,λi x s m u=>?_,(j p a.lt h.fp).1,λb a=>(j b (lt b a) (h.fb b a)).1,h.nd,h.len,h.ok,h.pO⟩;have g:=h.sp i x s m u;have J:x.1∈eC ps:=HM.2 ⟨x,zE m,.inl rfl⟩;have L:x.2∈eC ps:=HM.2 ⟨x,zE m,.inr rfl⟩;obtain⟨K,E,hd⟩:=g.hd;obtain⟨r,y⟩:=g.row;exact⟨⟨K,E,z hd (h.fb _ J)⟩,⟨r,z y (h.fb _ L)⟩,g.ne,g.len,g.ok,g.fit⟩
theorem fB.bK {σ':Hp}(h:fB σ F p c ps ss)(e:bO σ σ'):fB σ' F p c ps ss:=dR.bK fB.loc h e
theorem fB.lr (h:fB σ F p c ps ss):ss.length<=1024:=by
 have key:∀i (hi:i<ss.length),i<=ss[i].st:=by
  intro i
  induction i with
  | zero=>intro _;omega
  | succ i ih=>
   intro hi;have e:=ih O;have d:=kj.1 h.pO i (i+1) O hi O;omega
 rcases wk ss.length with h0|h0
 ·omega
 ·have a:ss.length-1<ss.length:=by omega
  have e:=key _ a;have b:ss.length-1<ps.length:=by rw[h.len];exact a
  have d:=(h.sp _ _ _ (cM b) (cM a)).fit;have:=h.ok.2.2.2.1;omega
structure sq (σ:Hp) (F:Rg) (p:Nat) (ps:List (Nat×Nat)) (ss:List cH) (sl:Sl) (rb:Nat) (cs:List Value):Prop where
 a:sl.a=some ⟨rb,0,none⟩
 bZ:bX σ rb cs
 fr:F rb/\rb≠p/\rb∉eC ps
 get:∀{j:Nat} {v:Value},(dW ps ss)[j]?=some v->cs[j]?=some v
 CZ:3*ss.length<=cs.length
theorem fB.sl (h:fB σ F p c ps ss):∃sl:Sl,bX σ p [.int .i64 (c.size:Int),.int .i64 (c.aF:Int),.int .i64 (c.batch:Int),.slice sl.a sl.len sl.cap]/\sl.len=ss.length/\(ss≠[]->∃rb cs,sq σ F p ps ss sl rb cs):=by
 obtain⟨sl,r,g⟩:=h.hd;have m:=g.1;rw[Q5 h.len]at m;refine⟨sl,r,O,λe=>?_⟩;have i:0<ss.length:=qo.2 e;rcases g.2 with⟨h0,_⟩|⟨b,cs,hq,ha,hbb,hle,hcl,ht⟩
 ·omega
 ·refine⟨b,cs,ha,hbb,hq,λ{j v} d=>?_,?_⟩
  ·rw[←ht,zX]at d;split at d
   ·exact d
   ·cases d
  ·have:=congrArg List.length ht;rw[zO,Q5 h.len]at this;omega
theorem fB.je (h:fB σ F p c ps ss){i:Nat}(hi:i<ss.length):∃x s,ps[i]?=some x/\ss[i]?=some s/\ig σ x.1 x.2 c s:=by
 have a:i<ps.length:=by rw[h.len];exact hi
 have b:ps[i]?=some ps[i]:=cM a;exact⟨_,_,b,cM hi,h.sp i _ _ b (cM hi)⟩
theorem KX (h:fB σ F p c ps ss){R:aO}(hR:R true σ):WA.c (aW p) σ R:=by
 refine WA.o ?_;unfold WA.v;obtain⟨sl,a,e,d⟩:=h.sl;have b:=h.ok;unfold bW.ok at b;refine bY.intro (cJ rfl (aG (a.gD rfl ?_)));rw[zW O];exact hR
def iL (x:Int):Prop:=x<=9223372036854775807
theorem DE (h:fB σ F p c ps ss)(x:Int)(hx:iL x){R:Option Addr->Hp->Prop}(h0:lj c ss x=none->R none σ)
 (h1:∀(i:Nat) sl rb cs,lj c ss x=some i->i<ss.length->bX σ p [.int .i64 (c.size:Int),.int .i64 (c.aF:Int),.int .i64 (c.batch:Int),.slice sl.a sl.len sl.cap]->sq σ F p ps ss sl rb cs->R (some ⟨rb,3*i,none⟩) σ):XR.c (aW p) x σ R:=by
 refine XR.o ?_;unfold XR.v;obtain⟨sl,A,S,H⟩:=h.sl;have G:=h.lr;refine aG (A.rS rfl ?_);refine ZU (a:=bN) (λ(t:Int) D=>∃i:Nat,t=(i:Int)/\i<=ss.length/\D=σ/\∀(j:Nat) s,j<i->ss[j]?=some s->idx c s x=none) (λt _=>ss.length-t.toNat) ⟨0,rfl,O,rfl,λj s y=>O⟩ ?_;rintro t D ⟨i,rfl,Q,rfl,d⟩;refine cI (λB=>?_) λC=>?_
 ·simp only at B;have b:i<ss.length:=by omega
  obtain⟨P,s,K,z,M⟩:=h.je b;obtain⟨rb,cs,E⟩:=H (by rintro rfl;simp at b);have N:=Qv K z;refine aG (A.rS rfl ?_);rw[E.a];refine ix O O ?_;rw[add_lit];refine E.bZ.rP (x:=some ⟨P.1,0,none⟩) ?_ ?_
  ·have:=E.get N.2.2;rw[show 0+(i:Int).toNat*3+2=3*i+2 by omega];exact this
  have u:∀r,idx c s x=some r->lj c ss x=some i:=by
   intro r g;refine oO.2 ⟨b,?_,λj y=>?_⟩
   ·have:ss[i]=s:=by rw[cM b]at z;simpa using z
    rw[this,g];rfl
   ·rw[d j _ y (cM O)];simp
  refine DK M x hx (λr g=>cJ rfl (aG (A.rS rfl ?_))) λJ=>cG rfl ?_
  ·rw[E.a];refine ix O O ?_;rw[add_lit,show 0+(i:Int).toNat*3=3*i by omega];exact h1 i sl rb cs (u r g) b A E
  ·refine cA (m:=i+1) O O ⟨⟨i+1,rfl,O,rfl,λj L y w=>?_⟩,O⟩;by_cases e:j=i
   ·subst e;rw[z]at w;cases w;exact J
   ·exact d j L O w
 ·refine h0 ?_;refine vf.2 λs z=>?_;obtain⟨j,y⟩:=zN z;have:=(cQ.1 y).1;rw[d j s (by simp only at C;omega) y];rfl
theorem VV {x:Int}{k:Nat}{s:cH}(hk:lj c ss x=some k)(hs:ss[k]?=some s):eI c ss x=(obj c s x).map s.is:=by
 unfold eI;rw[hk];simp only[hs];rfl
theorem Az {x:Int}(hk:lj c ss x=none):eI c ss x=none:=by unfold eI;rw[hk]
theorem Jt (h:fB σ F p c ps ss)(x:Int)(hx:iL x){R:Bool->Int->Hp->Prop}(h1:∀b,eI c ss x=some b->R b 0 σ)(h0:eI c ss x=none->R false 8 σ):W9.c (aW p) x σ R:=by
 refine W9.o ?_;unfold W9.v;refine KX h (cG rfl (DE h x hx (λa=>cJ rfl (h0 (Az a))) λi sl A C d m B E=>cG rfl (aG ?_)));obtain⟨z,s,r,e,y⟩:=h.je m;have w:=Qv r e;refine E.bZ.rP (x:=some ⟨z.1,0,none⟩) (E.get w.2.2) ?_;have g:=VV d e;exact TT y x hx (λj u=>h1 _ (by rw[g,u];rfl)) λa=>h0 (by rw[g,a];rfl)
theorem Gf {x:Int}{k:Nat}{s:cH}(hk:lj c ss x=some k)(hs:ss[k]?=some s):rz c ss x=(idx c s x).map (at_ c s):=by
 unfold rz;rw[hk];simp only[hs]
theorem JU {x:Int}(hk:lj c ss x=none):rz c ss x=none:=by unfold rz;rw[hk]
theorem TV {x:Int}{k:Nat}{s:cH}(hk:lj c ss x=some k)(hs:ss[k]?=some s):∃i,idx c s x=some i:=by
 obtain⟨b,a,_⟩:=oO.1 hk;have:ss[k]=s:=by rw[cM b]at hs;simpa using hs
 rw[this]at a;exact qC.1 a
theorem O4 (h:fB σ F p c ps ss)(x:Int)(hx:iL x){R:Int->Int->Hp->Prop}(h1:∀a,rz c ss x=some a->R (a:Int) 0 σ)(h0:rz c ss x=none->R 0 8 σ):Yw.c (aW p) x σ R:=by
 refine Yw.o ?_;unfold Yw.v;refine KX h (cG rfl (DE h x hx (λb=>cJ rfl (h0 (JU b))) λi sl L M e A H E=>cG rfl (aG ?_)));obtain⟨G,s,B,u,w⟩:=h.je A;have z:=Qv B u;obtain⟨r,g⟩:=TV e u;have D:=Gf e u;have C:=h.ok;unfold bW.ok at C;have j:=((V1 O).1 g).2.2;rw[w.len]at j;have b:=h.ok.jQ;have y:=w.fit;have J:r*c.size<=128*512:=kL O O;refine E.bZ.rP (x:=some ⟨G.1,0,none⟩) (E.get z.2.2) ?_;refine DK w x hx (λK d=>?_) λb=>by rw[g]at b;cases b
 rw[g]at d;cases d;refine aG (E.bZ.gD (x:=s.st) (E.get z.2.1) (cA (m:=s.st*256) aA O (aG (H.gD rfl ?_))));refine cA (m:=r*c.size) aA O (cA (m:=at_ c s r) (by simp[at_]) (by unfold at_;omega) (h1 _ (by rw[D,g];rfl)))
theorem tB {h:Hp}{rb i:Nat}{cs:List Value}{x y:Int}{z:Option Addr}{e:Nat}(hb:bX h rb cs)(h0:cs[3*i]?=some (.int .i64 x))(h1:cs[3*i+1]?=some (.int .i64 y))(h2:cs[3*i+2]?=some (.pointer z))
 {K:Int->Int->Option Addr->Prop} (hK:K x y z):fJ .i64 (Addr.add ⟨rb,3*i,none⟩ 0) h λu=>fJ .i64 (Addr.add ⟨rb,3*i,none⟩ 1) h λv=>fW (Addr.add ⟨rb,3*i,none⟩ 2) h λw=>K u v w:=
 hb.rI h0 (hb.rI h1 (hb.rP h2 hK))
theorem xV {h:Hp}{x y:Int}{z:Option Addr}{e:Nat}{K:Addr->Hp->Prop}(hK:∀h',bO h h'->bX h' h.size [.int .i64 x,.int .i64 y,.pointer z]->K ⟨h.size,0,none⟩ h') :
 Nw (.cells #[.int .i64 0,.int .i64 0,.pointer none] e (0,0)) h λn v=>dG (n.add 0) (.int .i64 x) v λv1=>dG (n.add 1) (.int .i64 y) v1 λv2=>dG (n.add 2) (.pointer z) v2 λv3=>K n v3:=by
 refine nw (cs:=[.int .i64 0,.int .i64 0,.pointer none]) λv m e j=>j.s1 aA λv1 o1 b=>b.s1 aA λv2 o2 d=>d.s1 aA λv3 o3 g=>?_;refine hK v3 ?_ g;exact Ext.fresh (Ext.fresh (Ext.fresh e o1.ext λi a=>O) o2.ext λi a=>O) o3.ext λi a=>by omega
theorem MQ (h:fB σ F p c ps ss){R:aN}(hR:∀σ',bO σ σ'->R (Kt ss:Int) σ'):Yz.c (aW p) σ R:=by
 refine Yz.o ?_;unfold Yz.v;obtain⟨sl,J,U,K⟩:=h.sl;have B:=h.lr;have N:=h.ok.jQ;refine KX h (cG rfl (aG (J.rS rfl ?_)));refine Ko (a:=bN) (bb:=bN) (λ(n t:Int) u=>∃i:Nat,t=(i:Int)/\i<=ss.length/\bO σ u/\n=(Kt (ss.take i):Int)/\Kt (ss.take i)<=128*i) (λ_ t _=>ss.length-t.toNat) ⟨0,rfl,O,Ext.refl _ _,by simp[Kt],by simp[Kt]⟩ ?_;rintro n t u ⟨i,rfl,P,e,rfl,D⟩;refine cI (λr=>?_) λx=>?_
 ·simp only at r;have g:i<ss.length:=by omega
  obtain⟨H,s,L,y,d⟩:=h.je g;obtain⟨S,Q,E⟩:=K (by rintro rfl;simp at g);have j:=Qv L y;rw[E.a];refine ix O O ?_;rw[add_lit,show 0+(i:Int).toNat*3=3*i by omega];refine tB (e:=0) (e.bZ E.bZ id) (E.get j.1) (E.get j.2.1) (E.get j.2.2) (xV λV A z=>?_);have w:=(d.bK e).bK A;refine⟨λb=>bX b u.size [.int .i64 s.many,.int .i64 s.st,.pointer (some ⟨H.1,0,none⟩)],z,⟨_,λb d=>by rw[add_lit,d.cell];rfl,⟨_,λb d=>by rw[add_lit,add_lit,d.cell];rfl,?_⟩⟩⟩;refine JK w ⟨z,?_⟩;have G:=G7 s;have M:=d.len;have C:Kt (ss.take (i+1))=Kt (ss.take i)+(c.n-s.many):=by
   rw[zg,y];simp only[Kt,tf,zr,zJ,oY,pR,zj,List.sum_nil];omega
  refine cA (m:=c.n-s.many) O O (cA (m:=Kt (ss.take (i+1))) O O (cA (m:=i+1) O O ⟨⟨i+1,rfl,O,e.trans A,rfl,O⟩,O⟩))
 ·have:i=ss.length:=by simp only at x;omega
  subst this;rw[zn]at *;exact hR _ e
def iu (c:bW)(l:List Nat):List Value:=l.flatMap λ(s:Nat)=>[.int .i64 (s:Int),.int .i64 (c.aF:Int)]
theorem Bl (c:bW)(l:List Nat):(iu c l).length=2*l.length:=by
 induction l with
 | nil=>rfl
 | cons x l ih=>simp only[iu,mS,zK,zP,ma]at *;omega
theorem RE (h:fB σ F p c ps ss){R:Sl->Hp->Prop}(hR:∀s σ',bO σ σ'->bR s 2 (iu c (ss.map (·.st))) σ' (λb=>σ.size<=b)->R s σ'):X7.c (aW p) σ R:=by
 refine X7.o ?_;unfold X7.v;obtain⟨sl,y,Y,N⟩:=h.sl;have J:=h.lr;refine KX h (cG rfl (aG (y.rS rfl ?_)));refine Ko (a:=.s) (bb:=bN) (λ(out:Sl) (t:Int) B=>∃i:Nat,t=(i:Int)/\i<=ss.length/\bO σ B/\bR out 2 (iu c ((ss.take i).map (·.st))) B (λb=>σ.size<=b)) (λ_ t _=>ss.length-t.toNat) ⟨0,rfl,O,Ext.refl _ _,bR.nil _ _ _ _⟩ ?_;rintro out t B ⟨i,rfl,W,e,g⟩;refine cI (λA=>?_) λD=>?_
 ·simp only at A;have r:i<ss.length:=by omega
  obtain⟨V,s,P,H,K⟩:=h.je r;obtain⟨X,cs,E⟩:=N (by rintro rfl;simp at r);have x:=Qv P H;rw[E.a];refine ix O O ?_;rw[add_lit,show 0+(i:Int).toNat*3=3*i by omega];refine tB (e:=0) (e.bZ E.bZ id) (E.get x.1) (E.get x.2.1) (E.get x.2.2) (xV λZ z L=>L.rP rfl ?_);have C:=(K.bK e).bK z;refine FI C λU G=>?_;have u:=(e.trans z).trans G;have d:=aI.bK (aI.bK g z) G;have j:=d.1;rw[Bl,za,zO]at j;refine d.push (vs:=[.int .i64 (s.st:Int),.int .i64 (c.aF:Int)]) (λb y=>zI u.1 y) rfl rfl (by simp[dN]) O O λs' S Q M w=>?_;refine cA (m:=i+1) O O ⟨⟨i+1,rfl,O,Ext.fresh u M λ_ h=>h,?_⟩,O⟩;rw[zg,H];simp only[iu,tf,zr,zJ,oY,C2,mS,List.flatMap_nil,j8]at *;exact w
 ·have:i=ss.length:=by simp only at D;omega
  subst this;rw[zn]at *;exact hR _ _ e g
theorem Ss (hc:c.ok){R:Option Addr->Int->Hp->Prop}(hR:∀σ' p,bO σ σ'->σ.size<=p->p<σ'.size->fB σ' (· = p) p c [] []->R (some ⟨p,0,none⟩) 0 σ'):Qd.c c.size c.aF c.batch σ R:=by
 refine Qd.o ?_;unfold Qd.v;refine nw (cs:=[.int .i64 c.size,.int .i64 c.aF,.int .i64 c.batch]) λv y e d=>?_;refine d.rI rfl (d.rI rfl (d.rI rfl (UF _ _ _ (λu r A w s z j=>?_) λb=>?_)))
 case refine_2=>rw[(UA c).2 hc]at b;cases b
 have a:=j.bZ d id;refine cG rfl (a.rI rfl (a.rI rfl (a.rI rfl (nw (cs:=[.int .i64 c.size,.int .i64 c.aF,.int .i64 c.batch,.slice none 0 0]) λx m g i=>?_))));exact hR _ _ ((e.trans j).trans g) (by have:=j.1;omega) O ⟨⟨⟨none,0,0⟩,i,bR.nil _ _ _ _⟩,by simp,rfl,by simp[eC],by simp[eC],rfl,hc,by simp⟩
theorem ξ (a b a' b':Nat){R:aO}(hR:∀σ',bO σ σ'->R (decide (a>a')||(a==a'&&decide (b<b'))) σ'):W5.c (a:Int) (b:Int) (a':Int) (b':Int) σ R:=by
 refine W5.o ?_;unfold W5.v;refine nw (cs:=[.int .i64 a,.int .i64 b]) λv s e r=>nw (cs:=[.int .i64 a',.int .i64 b']) λu p m g=>?_;have i:=m.bZ r id;have d:=hR _ (e.trans m);refine i.rI rfl (g.rI rfl (bY.intro (cI (λh=>?_) λh=>?_)))
 ·have:decide (a>a')=true:=by simpa using h
  rw[this,Bool.true_or]at d;exact d
 ·have:decide (a>a')=false:=by simpa using h
  rw[this,ym]at d;refine i.rI rfl (g.rI rfl (bY.intro ?_));rw[j3];refine cU (λj=>?_) λj=>?_
  ·rw[j,vI]at d;refine i.rI rfl (g.rI rfl ?_);have:decide ((b:Int)<(b':Int))=decide (b<b'):=by rw[decide_eq_decide];omega
   rw[this];exact d
  ·rw[j,tH]at d;exact d
theorem QV:∀{i k:Nat},Zv ss i=some k->k<i/\∃s,ss[k]?=some s/\s.many<s.tk.length
 | 0,_,h=>by simp[Zv]at h
 | i+1,k,h=>by
  have up:Zv ss i=some k->k<i+1/\∃s,ss[k]?=some s/\s.many<s.tk.length:=λh=>by
   have:=QV h;exact⟨O,this.2⟩
  simp only[Zv]at h;split at h
  ·rename_i x hx;split at h
   ·rename_i hlt;have a:i<i+1/\∃s,ss[i]?=some s/\s.many<s.tk.length:=⟨O,x,hx,hlt⟩;split at h
    ·rename_i j hj;split at h
     ·split at h
      ·cases h;exact a
      ·cases h;exact up hj
     ·cases h;exact a
    ·cases h;exact a
   ·exact up h
  ·exact up h
theorem G4 {s:cH}(h:s.many<s.tk.length):∃i,low s=some i/\i<s.tk.length/\s.is i=false:=by
 unfold low;cases hf:s.tk.findIdx? (· == false)with
 | some i=>
  obtain⟨a,d,_⟩:=oO.1 hf;refine⟨i,rfl,a,?_⟩;have:s.tk[i]=false:=by simpa using d
  simp[cH.is,zL,cM a,this]
 | none=>
  exfalso;have b:=vf.1 hf;have:s.many=s.tk.length:=by
   unfold cH.many;rw[List.count_eq_length];intro x hx;have:=b x hx;cases x
   ·simp at this
   ·rfl
  omega
theorem FP:∀{ps:List (Nat×Nat)} {ss:List cH} {k:Nat} {s s':cH},ps.length=ss.length->ss[k]?=some s->s'.st=s.st->dW ps (ss.set k s')=(dW ps ss).set (3*k) (.int .i64 (s'.many:Int))
 | [],[],_,_,_,_,h,_=>by simp at h
 | [],_::_,_,_,_,h,_,_=>by simp at h
 | _::_,[],_,_,_,_,h,_=>by simp at h
 | x::ps,t::ss,0,s,s',_,h,e=>by simp at h;subst h;simp[dW,e]
 | x::ps,t::ss,k+1,s,s',hl,h,e=>by
  simp only[si,dW];rw[FP (ps:=ps) (ss:=ss) (s:=s) (by simpa using hl) (by simpa using h) e];rw[show 3*(k+1)=3*k+1+1+1 by omega];simp
theorem Tn {h:Hp}{b:Nat}{cs cs':List Value}(h1:bX h b cs)(h2:bX h b cs'):cs=cs':=by
 obtain⟨e,d⟩:=h1;obtain⟨g,a⟩:=h2;rw[d]at a;simp only[Option.some.injEq,Obj.cells.injEq]at a;simpa using congrArg Array.toList a.1
theorem Qw {x:Nat×Nat}{i:Nat}(hx:ps[i]?=some x):x.1∈eC ps/\x.2∈eC ps:=
 ⟨HM.2 ⟨x,zE hx,.inl rfl⟩,HM.2 ⟨x,zE hx,.inr rfl⟩⟩
theorem IK:∀{ps:List (Nat×Nat)},(eC ps).Nodup->∀{i j:Nat} {x y:Nat×Nat},ps[i]?=some x->ps[j]?=some y->i≠j->∀b,(b=x.1\/b=x.2)->¬(b=y.1\/b=y.2)
 | [],_,_,_,_,_,h,_,_=>by simp at h
 | z::ps,hn,i,j,x,y,h1,h2,hij=>by
  have hn':z.1∉eC ps/\z.2∉eC ps/\z.1≠z.2/\(eC ps).Nodup:=by
   simp only[eC,mS,lQ,pU,zq,zQ,not_or]at hn;exact⟨hn.1.2,hn.2.1,hn.1.1,hn.2.2⟩
  intro b hb hb'
  match i,j,hij with
  | 0,0,h=>exact h rfl
  | 0,j+1,_=>
   simp at h1;subst h1;have:=Qw (ps:=ps) (i:=j) (by simpa using h2);rcases hb with rfl|rfl<;>rcases hb' with e|e<;>rw[e]at hn'<;>simp[this]at hn'
  | i+1,0,_=>
   simp at h2;subst h2;have:=Qw (ps:=ps) (i:=i) (by simpa using h1);rcases hb with rfl|rfl<;>rcases hb' with e|e<;>rw[←e]at hn'<;>simp[this]at hn'
  | i+1,j+1,h=>exact IK hn'.2.2.2 (by simpa using h1) (by simpa using h2) O b hb hb'
theorem fB.pt (h:fB σ F p c ps ss){k:Nat}{x:Nat×Nat}{s s':cH}(hx:ps[k]?=some x)(hs:ss[k]?=some s)(hst:s'.st=s.st){σ1:Hp}(e1:Ext (λb=>b=x.1\/b=x.2) σ σ1)(hS:ig σ1 x.1 x.2 c s')
 {sl:Sl} {rb:Nat} {cs:List Value} (hb:bX σ p [.int .i64 (c.size:Int),.int .i64 (c.aF:Int),.int .i64 (c.batch:Int),.slice sl.a sl.len sl.cap]) (E:sq σ F p ps ss sl rb cs)
 {K:aP} (hK:∀σ2,Ext F σ σ2->fB σ2 F p c ps (ss.set k s')->K σ2):dG ⟨rb,3*k,none⟩ (.int .i64 (s'.many:Int)) σ1 K:=by
 obtain⟨nC,C,S⟩:=h.hd;have J:nC=sl:=by
  have:=Tn C hb;simp at this;obtain⟨a,n,c⟩:=sl;obtain⟨V,W,U⟩:=nC;simp at this ⊢;exact this
 subst J;have g:=Qw hx;have e:=h.nd;simp only[zq]at e;have m:=(cQ.1 hs).1;have G:=(bR.loc nC 3 (dW ps ss)).bU S e1 λb hb Q=>λd=>Q.2.2 (by rcases d with rfl|rfl;exact g.1;exact g.2);have L:=e1.bZ hb λd=>e.1 (by rcases d with h|h<;>rw[h];exact g.1;exact g.2)
 refine G.st (j:=3*k) (by rw[Q5 h.len];omega) (λb w=>by rw[E.a]at w;cases w;rfl) λσ2 D A=>?_;have B:Ext F σ σ2:=(e1.sub λi H=>h.fb i (by rcases H with rfl|rfl;exact g.1;exact g.2)).trans (D.sub λi H=>H.1);refine hK σ2 B ⟨⟨nC,D.bZ L λd=>d.2.1 rfl,?_⟩,λi y t u z=>?_,h.fp,h.fb,h.nd,by simpa using h.len,h.ok,?_⟩
 ·rw[FP h.len hs hst];exact A
 ·have r:=Qw u;have P:ig σ1 y.1 y.2 c t:=by
   by_cases hik:i=k
   ·subst hik;rw[hx]at u;cases u;rw[zM m]at z;cases z;exact hS
   ·rw[zi (Ne.symm hik)]at z;have N:=IK e.2 u hx hik;exact(h.sp i y t u z).bU e1 (N _ (.inl rfl)) (N _ (.inr rfl))
  exact P.bU D (λd=>d.2.2 r.1) (λd=>d.2.2 r.2)
 ·have:(ss.set k s').map (·.st)=ss.map (·.st):=by
   apply zz;intro i;simp only[ze];by_cases hik:i=k
   ·subst hik;rw[zM m,hs];simp[hst]
   ·rw[zi (Ne.symm hik)]
  have M:=h.pO;rw[←qD (f:=cH.st) (R:=(· < ·))]at M ⊢;rw[this];exact M
theorem TR (h:fB σ F p c ps ss){R:Int->Bool->Hp->Prop}(h1:∀x ss',ji c ss=some (x,ss')->∀σ',Ext F σ σ'->fB σ' F p c ps ss'->R (x:Int) true σ')(h0:ji c ss=none->∀σ',bO σ σ'->R 0 false σ') :
 Y1.c (aW p) σ R:=by
 refine Y1.o ?_;unfold Y1.v;obtain⟨sl,U,hl,hr⟩:=h.sl;have hfew:=h.lr;have hn:=h.ok.jQ;obtain⟨d,cs,E⟩:∃d cs,ss≠[]->sq σ F p ps ss sl d cs:=by
  by_cases hne:ss=[]
  ·exact⟨0,[],λh=>absurd hne h⟩
  ·obtain⟨d,cs,E⟩:=hr hne;exact⟨d,cs,λ_=>E⟩
 refine aG (U.rS rfl ?_);refine Ko (a:=.p) (bb:=bN) (λ(m9:Option Addr) (t:Int) D=>∃i:Nat,t=(i:Int)/\i<=ss.length/\bO σ D/\m9=(Zv ss i).map λk=>⟨d,3*k,none⟩) (λ_ t _=>ss.length-t.toNat) ⟨0,rfl,O,Ext.refl _ _,rfl⟩ ?_;rintro m9 t D ⟨i,rfl,hi,e,rfl⟩;refine cI (λhlt=>?_) λhge=>?_
 ·simp only at hlt;have K:i<ss.length:=by omega
  have E:=E (by rintro rfl;simp at K);obtain⟨P,s,M,H,A⟩:=h.je K;have u:=Qv M H;have W:=A.len;refine aG ((e.bZ U id).rS rfl ?_);rw[E.a];refine ix O O ?_;rw[add_lit,show 0+(i:Int).toNat*3=3*i by omega];have Eb:=e.bZ E.bZ id;have C:Zv ss (i+1)=if s.many<s.tk.length then(match Zv ss i with
   | some j=>match ss[j]? with
    | some y=>if xI s y then some i else some j
    | none=>some i
   | none=>some i)else Zv ss i:=by
   simp only[Zv,H];rfl
  have J:∀(r:Bool) (v:Hp),bO σ v->(if r then some i else Zv ss i)=Zv ss (i+1) →
   If r (Ar .i64 ((i:Int)+1) λb=>(∃j:Nat,b=(j:Int)/\j<=ss.length/\bO σ v/\some (⟨d,3*i,none⟩:Addr)=(Zv ss j).map λk=>⟨d,3*k,none⟩)/\ss.length-b.toNat<ss.length-(i:Int).toNat)
    (Ar .i64 ((i:Int)+1) λb=>(∃j:Nat,b=(j:Int)/\j<=ss.length/\bO σ v/\((Zv ss i).map λk=>(⟨d,3*k,none⟩:Addr))=(Zv ss j).map λk=>⟨d,3*k,none⟩)/\ss.length-b.toNat<ss.length-(i:Int).toNat):=by
   intro r v ev hr';cases r
   ·refine cG rfl (cA (m:=i+1) O O ⟨⟨i+1,rfl,O,ev,?_⟩,O⟩);rw[←hr'];rfl
   ·refine cJ rfl (cA (m:=i+1) O O ⟨⟨i+1,rfl,O,ev,?_⟩,O⟩);rw[←hr'];rfl
  refine Jn.intro ⟨λG=>bX G d cs,Eb,aG ⟨_,λG A=>by rw[add_lit,add_lit,A.cell];exact E.get u.1,aG ⟨_,λG A=>by rw[add_lit,A.cell];exact E.get u.2.2,?_⟩⟩⟩;refine JK (A.bK e) ⟨Eb,?_⟩;refine cI (λhlt2=>?_) λhge2=>?_
  ·have hm:s.many<s.tk.length:=by omega
   rw[zB hm]at C;cases hbf:Zv ss i with
   | none=>
    rw[hbf]at C J;exact cJ rfl (J true D e C.symm)
   | some j=>
    rw[hbf]at C J;obtain⟨hji,y,hy,hym⟩:=QV hbf;simp only[hy]at C;have Z:j<ps.length:=by rw[h.len];omega
    have w:=Qv (cM Z) hy;have fin:W5.c (s.many:Int) (s.st:Int) (y.many:Int) (y.st:Int) D λV v3=>bX v3 d cs ∧
     If V (Ar .i64 ((i:Int)+1) λb=>(∃j:Nat,b=(j:Int)/\j<=ss.length/\bO σ v3/\some (⟨d,3*i,none⟩:Addr)=(Zv ss j).map λk=>⟨d,3*k,none⟩)/\ss.length-b.toNat<ss.length-(i:Int).toNat)
      (Ar .i64 ((i:Int)+1) λb=>(∃j':Nat,b=(j':Int)/\j'<=ss.length/\bO σ v3/\((some j).map λk=>(⟨d,3*k,none⟩:Addr))=(Zv ss j').map λk=>⟨d,3*k,none⟩)/\ss.length-b.toNat<ss.length-(i:Int).toNat):=by
     refine ξ _ _ _ _ λv3 e3=>⟨e3.bZ Eb id,J _ v3 (e.trans e3) ?_⟩;rw[C];rfl
    refine cG rfl (aG (aG ⟨?_,?_⟩))
    ·exact Eb.gD (E.get u.1) (Eb.gD (E.get u.2.1) ⟨Eb,Eb.gD (E.get w.1) (Eb.gD (E.get w.2.1) ⟨Eb,fin⟩)⟩)
    ·exact Eb.gD (E.get w.1) (Eb.gD (E.get w.2.1) ⟨Eb,Eb.gD (E.get u.1) (Eb.gD (E.get u.2.1) ⟨Eb,fin⟩)⟩)
  ·have hm:¬s.many<s.tk.length:=by omega
   rw[zA hm]at C;exact J false D e C.symm
 ·have X:i=ss.length:=by simp only at hge;omega
  subst X;cases hbf:Zv ss ss.length with
  | none=>
   refine cJ rfl (h0 ?_ _ e);simp[ji,m9,hbf]
  | some k=>
   obtain⟨hk,s,H,hsm⟩:=QV hbf;have E:=E (by rintro rfl;simp at hk);obtain⟨P,s',M,L,A⟩:=h.je hk;rw[H]at L;cases L;have u:=Qv M H;obtain⟨r,B,S,Q⟩:=G4 hsm;have D:=h.bK e;have one:ji c ss=some (at_ c s r,ss.set k (s.put r true)):=by simp[ji,m9,hbf,H,B]
   have E':sq _ F p ps ss sl d cs:=⟨E.a,e.bZ E.bZ id,E.fr,E.get,E.CZ⟩;refine cG rfl (aG (E'.bZ.rP (x:=some ⟨P.1,0,none⟩) (E.get u.2.2) ?_));refine Wli (A.bK e) B λv5 e5 hS5=>aG ?_;have N:=Qw M;have Y:¬(d=P.1\/d=P.2):=λhh=>E.fr.2.2 (by rcases hh with h|h<;>rw[h];exact N.1;exact N.2)
   have hml:=G7 s;have g:=xQ S true;rw[Q]at g;have z:(s.put r true).many=s.many+1:=by simp at g;omega
   have W:=A.len;refine(e5.bZ E'.bZ Y).gD (E.get u.1) (cA (m:=s.many+1) O O (aG ?_));rw[add_lit,add_lit,zt,zt,←z];exact D.pt (s':=s.put r true) M H rfl e5 hS5 (e.bZ U id) E' λv6 e6 h6=>h1 _ _ one v6 (e.to.trans e6) h6
theorem Mv {k:Nat}{s s':cH}(hs:ss[k]?=some s):Kt (ss.set k s')+(s.tk.length-s.many)=Kt ss+(s'.tk.length-s'.many):=by
 unfold Kt
 induction ss generalizing k with
 | nil=>simp at hs
 | cons x ss ih=>
  cases k with
  | zero=>simp at hs;subst hs;simp;omega
  | succ k=>
   have:=ih (by simpa using hs);simp only[si,zJ,zj];omega
theorem Wif {x:Nat}{ss':List cH}(h:ji c ss=some (x,ss')):Kt ss'+1=Kt ss:=by
 unfold ji at h;split at h
 ·rename_i k hk;obtain⟨_,s,j,b⟩:=QV hk;rw[j]at h;simp only at h;split at h
  ·rename_i i hi;cases h;obtain⟨r,e,a,d⟩:=G4 b;rw[hi]at e;cases e;have p:=Mv (s':=s.put i true) j;have g:=xQ a true;rw[d]at g;have m:(s.put i true).tk.length=s.tk.length:=by simp[cH.put]
   simp at g;omega
  ·cases h
 ·cases h
theorem fB.room (h:fB σ F p c ps ss):Kt ss<=131072:=by
 have key:∀l:List cH,(∀s∈l,s.tk.length<=128)->Kt l<=128*l.length:=by
  intro l
  induction l with
  | nil=>intro _;simp[Kt]
  | cons x l ih=>
   intro hl;have r:=hl x aA;have m:=ih λs d=>hl s (by simp[d]);simp only[Kt,zJ,zj,zP]at *;omega
 have:=key ss λs d=>by
  obtain⟨i,e⟩:=zN d;have b:=(cQ.1 e).1;obtain⟨x,j,_,a,g⟩:=h.je b;rw[e]at a;cases a;rw[g.len];exact h.ok.jQ
 have:=h.lr;omega
theorem HT {m:Nat}{x:Nat}{ss':List cH}(h:ji c ss=some (x,ss')):Q8 c (m+1) ss=(x::(Q8 c m ss').1,(Q8 c m ss').2):=by
 simp[Q8,h]
theorem WkV (h:fB σ F p c ps ss)(m:Int)(hm:0<=m){R:Sl->Int->Hp->Prop}
 (hR:∀s σ',Ext F σ σ'->bR s 1 (ints (Q8 c m.toNat ss).1) σ' (λb=>σ.size<=b)->fB σ' (Cut F σ) p c ps (Q8 c m.toNat ss).2->R s 0 σ'):Xd.c (aW p) m σ R:=by
 refine Xd.o ?_;unfold Xd.v;have h:=fB.loc.cut h;have H:=fB.room h;refine KX h (cG rfl (fG O ?_));refine ZU (a:=.s) (λ(out:Sl) D=>∃j d,Ext F σ D/\bR out 1 (ints j) D (λb=>σ.size<=b)/\fB D (Cut F σ) p c ps d/\j.length<=m.toNat/\j.length+Kt d=Kt ss/\Q8 c m.toNat ss=(j++(Q8 c (m.toNat-j.length) d).1,(Q8 c (m.toNat-j.length) d).2))
  (λout _=>m.toNat-out.len) ⟨[],ss,Ext.refl _ _,bR.nil _ _ _ _,h,by simp,by simp,by simp⟩ ?_
 rintro out D ⟨j,d,e,g,M,U,W,r⟩;have N:=g.jO;refine cI (λX=>?_) λZ=>?_
 ·have u:m.toNat-j.length=(m.toNat-(j.length+1))+1:=by omega
  refine TR M (λx L w v2 A J=>cG rfl ?_) λz v2 A=>cJ rfl ?_
  ·have C:Ext F σ v2:=e.trans (A.sub λi K=>K.1);have y:=aI.bU g A λb _ E P=>by have:=P.2;omega
   refine y.push (vs:=[.int .i64 (x:Int)]) (λb E=>zI C.1 E) rfl rfl (by simp[dN]) O O λs' v4 Y Q G=>?_;have S:=Wif w;refine⟨⟨j++[x],L,C.fF Q λi K=>.inr K,by rw[Vd];exact G,fB.loc.bU J Q λb _ E P=>(by have:=E.2;omega),by simp;omega,by simp;omega,?_⟩,O⟩;rw[r,u,HT w];simp
  ·have:Q8 c (m.toNat-j.length) d=([],d):=by rw[u];simp[Q8,z]
   rw[this]at r;have B:=hR out v2 (e.trans A.to);rw[r,j8]at B;exact B (aI.bK g A) (M.bK A)
 ·have V:m.toNat-j.length=0:=by omega
  rw[V]at r;have B:=hR out D e;rw[r]at B;simp only[Q8,j8]at B;exact B g M
theorem Ru (h:fB σ F p c ps ss)(m:Int)(hm:m<0){R:Sl->Int->Hp->Prop}(hR:R ⟨none,0,0⟩ 1 σ):Xd.c (aW p) m σ R:=by
 refine Xd.o ?_;unfold Xd.v;exact KX h (cG rfl (lU O hR))
def jd:List (Nat×Nat)->List cH->List (Nat×Nat)
 | x::ps,s::ss=>if s.many != 0 then x::jd ps ss else jd ps ss
 | _,_=>[]
theorem GC:∀{ps:List (Nat×Nat)} {ss:List cH},ps.length=ss.length->(jd ps ss).length=(cK ss).length
 | [],[],_=>rfl
 | x::ps,s::ss,h=>by
  have ih:=GC (ps:=ps) (ss:=ss) (by simpa using h);simp only[jd,cK,qU]at *;split<;>simp[ih]
theorem Bf:∀{ps:List (Nat×Nat)} {ss:List cH},(jd ps ss).Sublist ps
 | [],_=>by simp[jd]
 | _::_,[]=>by simp[jd]
 | x::ps,s::ss=>by
  simp only[jd];split
  ·exact Bf.cons_cons x
  ·exact Bf.cons x
theorem ER:∀{ps ps':List (Nat×Nat)} {ss ss':List cH},ps.length=ss.length->jd (ps++ps') (ss++ss')=jd ps ss++jd ps' ss'
 | [],_,[],_,_=>rfl
 | x::ps,_,s::ss,_,h=>by
  simp only[lQ,jd,ER (ps:=ps) (ss:=ss) (by simpa using h)];split<;>rfl
theorem El:∀{ps:List (Nat×Nat)} {ss:List cH} {i:Nat} {x:Nat×Nat} {s:cH},ps.length=ss.length->(jd ps ss)[i]?=some x->(cK ss)[i]?=some s->∃j:Nat,ps[j]?=some x/\ss[j]?=some s
 | [],[],_,_,_,_,h,_=>by simp[jd]at h
 | y::ps,t::ss,i,x,s,hl,h1,h2=>by
  have ih:=λi=>El (ps:=ps) (ss:=ss) (i:=i) (x:=x) (s:=s) (by simpa using hl);simp only[jd,cK,qU]at h1 h2;cases hm:(t.many != 0)
  ·rw[hm]at h1 h2;obtain⟨j,a,b⟩:=ih i h1 h2;exact⟨j+1,by simpa using a,by simpa using b⟩
  ·rw[hm]at h1 h2;cases i with
   | zero=>simp at h1 h2;exact⟨0,by simp[h1],by simp[h2]⟩
   | succ i=>
    obtain⟨j,a,b⟩:=ih i (by simpa using h1) (by simpa[cK]using h2);exact⟨j+1,by simpa using a,by simpa using b⟩
theorem SX (a b:List cH):cK (a++b)=cK a++cK b:=by simp[cK]
theorem OC (a b:List cH):Z7 (a++b)=Z7 a++Z7 b:=by simp[Z7]
theorem PW (c:bW)(a b:List Nat):iu c (a++b)=iu c a++iu c b:=by simp[iu]
theorem PH {a b:List (Nat×Nat)}(h:a.Sublist b):(eC a).Sublist (eC b):=by
 induction h with
 | slnil=>exact List.Sublist.refl _
 | cons x _ ih=>exact(ih.cons _).cons _
 | cons_cons x _ ih=>exact(ih.cons_cons _).cons_cons _
theorem E2 {h:Hp}{Q:Rg}{n3:Nat}{o:Sl}{l:List Nat}{x1 x2:Nat}{s:cH}(hb:bX h n3 [.slice o.a o.len o.cap])(hrow:bR o 2 (iu c l) h Q)(hQ:∀b,Q b->n3<b)(hl:l.length<=2000)(hS:ig h x1 x2 c s){R:aO}
 (hR:∀h' o',Ext (λb=>b=n3\/Q b) h h'->bX h' n3 [.slice (Sl.a o') o'.len o'.cap]->bR o' 2 (iu c (l++if s.many=0 then[s.st]else[])) h' (Grow Q h)->R (s.many==0) h') :
 VN Tryz.prog ⟨228,#[],#[.pointer (some ⟨n3,0,none⟩)]⟩ [.agg #[.int .i64 (s.many:Int),.int .i64 (s.st:Int),.pointer (some ⟨x1,0,none⟩)]] [.one .b] h R:=by
 refine GF (all := #[.agg #[.int .i64 (s.many:Int),.int .i64 (s.st:Int),.pointer (some ⟨x1,0,none⟩)],.pointer (some ⟨n3,0,none⟩)]) (by kernel_rfl) aA ?_;refine Yb.o ?_;unfold Yb.v;refine nw (cs:=[.int .i64 (s.many:Int),.int .i64 (s.st:Int),.pointer (some ⟨x1,0,none⟩)]) λv hz e d=>?_;have P:=hb.lt;have m:=e.bZ hb id;have hrow:=(bR.loc o 2 (iu c l)).mono hrow (G:=λb=>Q b/\b<h.size) λb hb A=>⟨A,hb⟩;refine Jn.intro (d.gD rfl ?_);rw[vo];refine cU (λE=>?_) λE=>?_
 ·have r:s.many=0:=by simpa using E
  rw[zB r]at hR;refine⟨λh'=>bX h' h.size [.int .i64 (s.many:Int),.int .i64 (s.st:Int),.pointer (some ⟨x1,0,none⟩)]/\bX h' n3 [.slice o.a o.len o.cap],⟨d,m⟩,⟨o,λh' hS=>by rw[hS.2.cell];rfl,⟨some ⟨x1,0,none⟩,λh' hS=>by rw[add_lit,hS.1.cell];rfl,?_⟩⟩⟩;refine FI (hS.bK e) λZ p=>⟨⟨p.bZ d id,p.bZ m id⟩,?_⟩;have z:=e.trans p;have g:=aI.bK hrow z;have y:=g.1;rw[Bl]at y;refine nw (cs:=[.int .i64 (s.st:Int),.int .i64 (c.aF:Int)]) λv3 X x J=>⟨⟨(p.trans x).bZ d id,(p.trans x).bZ m id⟩,?_⟩;have w:=aI.bK g x;have N:=z.1;refine w.app (ys:=[.int .i64 (s.st:Int),.int .i64 (c.aF:Int)]) rfl rfl ?_ (by simp[dN]) ?_ ?_ nA λY L V D B=>?_
  ·intro j u hu;rw[add_lit,zG,J.cell];exact hu
  ·simp only;have:(o.len+1)*16<=2001*16:=kL O O;omega
  ·simp only;omega
  ·have M:bX L h.size [.int .i64 (s.many:Int),.int .i64 (s.st:Int),.pointer (some ⟨x1,0,none⟩)]:=D.bZ ((p.trans x).bZ d id) λH=>by have:=H.2;omega
   have K:bX L n3 [.slice o.a o.len o.cap]:=D.bZ ((p.trans x).bZ m id) λH=>by have:=hQ _ H.1;omega
   refine⟨⟨M,K⟩,K.s0 aA λv5 o5 U=>(Ws o5 M O).gD rfl ?_⟩;have F:Ext (λb=>b=n3\/Q b) h v5:=(bO.to ((e.trans p).trans x)).trans (D.sub λi C=>.inr C.1)|>.trans (o5.ext.sub λi C=>.inl C);rw[vo];refine hR v5 Y F U ?_;rw[PW];have:iu c [s.st]=[.int .i64 (s.st:Int),.int .i64 (c.aF:Int)]:=rfl;rw[this];have S:=aI.mono B (G:=Grow Q h) λb _ W=>by
    rcases W with h|h
    ·exact .inl h.1
    ·exact .inr O
   exact aI.bU S o5.ext λb _ A he=>by
    rcases A with h|h
    ·have:=hQ _ h;omega
    ·omega
 ·have r:¬s.many=0:=by simpa using E
  rw[zA r,j8]at hR;refine d.gD rfl ?_;rw[vo];exact hR v o e.to m (aI.bK (aI.mono hrow λb _ A=>.inl A.1) e)
def yx (n3:Nat)(c:bW)(l:List Nat)(h:Hp):Prop:=∃o:Sl,bX h n3 [.slice o.a o.len o.cap]/\bR o 2 (iu c l) h (λb=>n3<b)
theorem CF {A D:List Value}{x y z:Value}{k:Nat}(hk:k=A.length)(hD:3<=D.length):(((A++D).set k x).set (k+1) y).set (k+2) z=A++[x,y,z]++D.drop 3:=by
 subst hk
 match D,hD with
 | d0::d1::d2::D,_=>simp[List.set_append]
theorem GB {i:Nat}{s:cH}(hs:ss[i]?=some s):Z7 (ss.take (i+1))=Z7 (ss.take i)++(if s.many=0 then[s.st]else[]):=by
 rw[zg,hs,OC]
 congr 1
 by_cases hm:s.many=0<;>simp[Z7,hm]
theorem Gs {i:Nat}{s:cH}(hs:ss[i]?=some s):cK (ss.take (i+1))=cK (ss.take i)++(if s.many=0 then[]else[s]):=by
 rw[zg,hs,SX]
 congr 1
 by_cases hm:s.many=0<;>simp[cK,hm]
theorem A8 {i:Nat}{x:Nat×Nat}{s:cH}(hl:ps.length=ss.length)(hx:ps[i]?=some x)(hs:ss[i]?=some s):jd (ps.take (i+1)) (ss.take (i+1))=jd (ps.take i) (ss.take i)++(if s.many=0 then[]else[x]):=by
 rw[zg,zg,hs,hx,ER (by simp[hl])]
 congr 1
 by_cases hm:s.many=0<;>simp[jd,hm]
theorem MH (l:List cH):(Z7 l).length<=l.length:=by unfold Z7;rw[za];exact nh _ _
theorem SZ (l:List cH):(cK l).length<=l.length:=nh _ _
theorem Wjt (h:fB σ F p c ps ss){sl:Sl}{rb n3:Nat}{cs:List Value}{σ1:Hp}(e1:bO σ σ1)(hlen:sl.len=ss.length)(hn3:σ.size<=n3)(hE:ss≠[]->sq σ F p ps ss sl rb cs/\sl.len<=sl.cap/\cs.length=sl.cap*3)(h0:yx n3 c [] σ1){R:Sl->Hp->Prop}
 (hR:∀h' nC,Ext (λb=>F b/\b≠p/\b∉eC ps\/n3<=b) σ1 h'->yx n3 c (Z7 ss) h'->(nC=sl/\Z7 ss=[]/\cK ss=ss/\jd ps ss=ps/\Ext (λb=>n3<=b) σ1 h'\/(bR nC 3 (dW (jd ps ss) (cK ss)) h' (λb=>F b/\b≠p/\b∉eC ps)))->R nC h') :
 Wf.c sl ⟨228,#[],#[.pointer (some ⟨n3,0,none⟩)]⟩ σ1 R:=by
 refine Wf.o ?_;unfold Wf.v;refine Wi.o ?_;unfold Wi.v;have hfew:=h.lr;have r:=h.len;refine ZU (a:=bN) (λ(t:Int) h'=>∃i:Nat,t=(i:Int)/\i<=ss.length/\Ext (λb=>n3<=b) σ1 h'/\yx n3 c [] h'/\Z7 (ss.take i)=[]/\cK (ss.take i)=ss.take i/\jd (ps.take i) (ss.take i)=ps.take i) (λt _=>ss.length-t.toNat) ⟨0,rfl,O,Ext.refl _ _,h0,by simp[Z7],by simp[cK],by simp[jd]⟩ ?_;rintro t h' ⟨i,rfl,hi,e,⟨o,P,Z⟩,q1,q2,q3⟩;have eo:∀{v:Hp},Ext (λb=>n3<=b) σ1 v->Ext (λb=>n3<=b) σ v:=λe=>e1.to.trans e;refine cI (λhlt=>?_) λhge=>?_
 ·have hi':i<ss.length:=by omega
  obtain⟨E,hcap,hcl⟩:=hE (by rintro rfl;simp at hi');obtain⟨xx,s,hp,L,hS⟩:=h.je hi';have eg:=Qv hp L;have hrl:=E.bZ.lt;have hSl:=hS.lt;rw[E.a];refine ix O O ?_;rw[add_lit,show 0+(i:Int).toNat*3=3*i by omega];refine tB (e:=0) ((eo e).bZ E.bZ O) (E.get eg.1) (E.get eg.2.1) (E.get eg.2.2) ?_;have hn3h:n3<h'.size:=P.lt;refine E2 P Z (λb h=>h) aA (hS.bU (eo e) O O) λh2 o2 e2 aa A=>?_;have e2:Ext (λb=>n3<=b) h' h2:=e2.sub λb g=>by omega
  have A:=aI.mono A (G:=λb=>n3<b) λb _ g=>by
   rcases g with h|h
   ·exact h
   ·omega
  refine cU (λhm=>?_) λhm=>?_
  ·-- the first that goes
   have x:s.many=0:=by simpa using hm
   rw[zB x,pU]at A;have C:((i:Int)==(-1))=false:=by rw[m8];omega
   show If ((i:Int)==(-1)) _ _;refine cG C (cA (m:=i+1) O O ?_);have q1':Z7 (ss.take (i+1))=[s.st]:=by rw[GB L,q1,zB x];rfl
   have Q:cK (ss.take (i+1))=ss.take i:=by rw[Gs L,q2,zB x,j8]
   have q3':jd (ps.take (i+1)) (ss.take (i+1))=ps.take i:=by rw[A8 r hp L,q3,zB x,j8]
   have hke:∀k,k<=ss.length->(dW (jd (ps.take k) (ss.take k)) (cK (ss.take k))).length=3*(cK (ss.take k)).length:=λk _=>Q5 (GC (by simp[r]));have Eb2:bX h2 rb cs:=(eo (e.trans e2)).bZ E.bZ O;refine Ko (a:=bN) (bb:=bN) (λ(i1 j1:Int) v=>∃j:Nat,j1=(j:Int)/\i<j/\j<=ss.length/\i1=((cK (ss.take j)).length:Int)/\(cK (ss.take j)).length<j/\Ext (λb=>b=rb\/n3<=b) σ1 v/\yx n3 c (Z7 (ss.take j)) v ∧
    bX v rb (dW (jd (ps.take j) (ss.take j)) (cK (ss.take j))++cs.drop (3*(cK (ss.take j)).length))) (λ_ j1 _=>ss.length-j1.toNat) ?_ ?_
   ·refine⟨i+1,rfl,O,O,?_,?_,(e.trans e2).sub λb g=>.inr g,?_,?_⟩
    ·rw[Q,zO];omega
    ·rw[Q,zO];omega
    ·rw[q1'];exact⟨o2,aa,A⟩
    ·rw[Q,q3',zO,qg O];have:dW (ps.take i) (ss.take i)++cs.drop (3*i)=cs:=by
      have h1:(dW (ps.take i) (ss.take i)).length=3*i:=by rw[Q5 (by simp[r]),zO];omega
      apply zz;intro k;rcases l8 k (3*i)with hk|hk
      ·rw[zd O];have h2:(dW ps ss)[k]?=(dW (ps.take i) (ss.take i))[k]? := by
        conv=>lhs;rw[←mZ i ps,←mZ i ss,Vk (by simp[r])]
        rw[zd O]
       rw[←h2];have h3:k<(dW ps ss).length:=by rw[Q5 r];omega
       rw[cM h3];exact(E.get (cM h3)).symm
      ·rw[zo O,zp,h1]
       congr 1;omega
     rw[this];exact Eb2
   ·rintro i1 j1 v ⟨j,rfl,hij,hj,rfl,hKj,ev,⟨o3,B,M⟩,z⟩;have y:=hke j hj;have evo:Ext (λb=>b=rb\/n3<=b) σ v:=e1.to.trans ev;refine cI (λhlt2=>?_) λhge2=>?_
    ·have hj':j<ss.length:=by omega
     obtain⟨yy,u,N,H,hSu⟩:=h.je hj';have S:=Qv N H;have hSul:=hSu.lt;have ab:=Qw N;refine ix O O ?_;rw[add_lit,show 0+(j:Int).toNat*3=3*j by omega];have get:∀d,d<3->∀w,(dW ps ss)[3*j+d]?=some w->(dW (jd (ps.take j) (ss.take j)) (cK (ss.take j))++cs.drop (3*(cK (ss.take j)).length))[3*j+d]?=some w:=by
      intro d hd w hw;rw[zo O,zp,y,show 3*(cK (ss.take j)).length+(3*j+d-3*(cK (ss.take j)).length)=3*j+d by omega];exact E.get hw
     refine tB (e:=0) z (get 0 O _ S.1) (get 1 O _ S.2.1) (get 2 O _ S.2.2) (xV λv5 W b5=>b5.rI rfl (b5.rI rfl (b5.rP rfl ?_)));have hn3v:n3<v.size:=B.lt;have hcut:=aI.mono M (G:=λb=>n3<b/\b<v.size) λb g hf=>⟨hf,g⟩;have J:=MH (ss.take j);rw[zO]at J;refine E2 (W.bZ B id) (aI.bK hcut W) (λb g=>g.1) O ((hSu.bU evo (λU=>by rcases U with h|h;exact E.fr.2.2 (h▸ab.1);omega) (λU=>by rcases U with h|h;exact E.fr.2.2 (h▸ab.2);omega)).bK W) λv6 o6 e6 hb6 D=>?_;have hsz5:=W.1;have D:=aI.mono D (G:=λb=>n3<b) λb _ g=>by
      rcases g with h|h
      ·exact h.1
      ·omega
     have b6:bX v6 v.size [.int .i64 (u.many:Int),.int .i64 (u.st:Int),.pointer (some ⟨yy.1,0,none⟩)]:=e6.bZ b5 λU=>by rcases U with h|h;omega;have:=h.2;omega
     have hrb:rb<σ.size:=E.bZ.lt;have K:=e6.bZ (W.bZ z id) λU=>by rcases U with h|h;omega;have:=h.1;omega
     have X:Ext (λb=>b=rb\/n3<=b) σ1 v6:=(ev.trans W.to).trans (e6.sub λb g=>by rcases g with h|h;omega;have:=h.1;omega);rw[←GB H]at D;have st:=Gs H;have kt:=A8 r N H;by_cases hum:u.many=0
     ·rw[zB hum,j8]at st kt;have:(u.many==0)=true:=by simp[hum]
      rw[this];refine cG rfl (cA (m:=j+1) O O ⟨⟨j+1,rfl,O,O,?_,?_,X,⟨o6,hb6,D⟩,?_⟩,O⟩)
      ·rw[st]
      ·rw[st];omega
      ·rw[st,kt];exact K
     ·rw[zA hum]at st kt;have:(u.many==0)=false:=by simp[hum]
      rw[this];refine cJ rfl (b6.rI rfl (b6.rI rfl (b6.rP rfl (ix O O ?_))));rw[add_lit,show 0+((cK (ss.take j)).length:Int).toNat*3=3*(cK (ss.take j)).length by omega];have hlen6:(dW (jd (ps.take j) (ss.take j)) (cK (ss.take j))++cs.drop (3*(cK (ss.take j)).length)).length=cs.length:=by
       rw[zK,y,zu];omega
      refine K.s1 O λv7 o7 b7=>b7.s1 aE λv8 o8 b8=>b8.s1 aE λv9 o9 b9=>?_;rw[zt,CF y.symm (by rw[zu];omega),List.drop_drop]at b9;have ev9:Ext (λb=>b=rb\/n3<=b) σ1 v9:=((X.trans (o7.ext.sub λb g=>.inl g)).trans (o8.ext.sub λb g=>.inl g)).trans (o9.ext.sub λb g=>.inl g);have Y:Ext (· = rb) v6 v9:=(o7.ext.trans o8.ext).trans o9.ext;refine cA (m:=(cK (ss.take j)).length+1) O O (cA (m:=j+1) O O ⟨⟨j+1,rfl,O,O,?_,?_,ev9,⟨o6,Y.bZ hb6 O,aI.bU D Y λb _ g he=>O⟩,?_⟩,O⟩)
      ·rw[st];simp
      ·rw[st];simp;omega
      ·rw[st,kt,Vk (GC (by simp[r]))];simp only[zK,zP,ma,dW];rw[show 3*((cK (ss.take j)).length+(0+1))=3*(cK (ss.take j)).length+3 by omega];exact b9
    ·have hjj:j=ss.length:=by omega
     subst hjj;rw[zn]at *;have V:ps.take ss.length=ps:=by rw[←r,zn]
     rw[V]at z y;have J:=SZ ss;refine jc O O O ?_;have hK3:3*(cK ss).length<=cs.length:=by omega
     have hlt3:(cK ss).length<ss.length:=hKj;rw[zA O];simp only[E.a,zf,add_lit,zG];refine⟨by simp[dN],?_⟩;simp only;have hz:(List.replicate (sl.len-(cK ss).length) [Value.int .i64 0,.int .i64 0,.pointer none]).flatten.length=3*(sl.len-(cK ss).length):=by
      rw[vA,sM,vJ];simp;omega
     refine V7 (o:=(cK ss).length*3) (i:=0) z (by rw[hz,zK,y,zu];omega) λv10 fV b10=>?_;refine jc (lo:=0) O O O ?_;have ev10:Ext (λb=>b=rb\/n3<=b) σ1 v10:=ev.trans (fV.ext.sub λb g=>.inl g);refine hR v10 _ (ev10.sub λb g=>?_) ⟨o3,Ws fV B (by have:=E.bZ.lt;omega),aI.bU M fV.ext λb _ g he=>by have:=E.bZ.lt;omega⟩ (.inr ?_)
     ·rcases g with rfl|h
      ·exact .inl E.fr
      ·exact .inr h
     ·refine⟨by rw[Q5 (GC r)];simp;omega,.inr ⟨rb,_,E.fr,?_,b10,?_,?_,?_⟩⟩
      ·simp only[E.a];split<;>simp[add_lit]
      ·simp only;omega
      ·simp only[zK,zO,zu,hz,y];omega
      ·rw[Q5 (GC r),zt,show(cK ss).length*3=3*(cK ss).length by omega];rw[km,qb (by rw[zO,zK,y];omega),yj,Nat.min_self];rw[qb O,mV O]
  ·have x:¬s.many=0:=by simpa using hm
   rw[zA x,j8]at A;refine cA (m:=i+1) O O ⟨⟨i+1,rfl,O,e.trans e2,⟨o2,aa,A⟩,?_,?_,?_⟩,O⟩
   ·rw[GB L,q1,zA x];rfl
   ·rw[Gs L,q2,zA x,zg,L];rfl
   ·rw[A8 r hp L,q3,zA x,zg,hp];rfl
 ·have hii:i=ss.length:=by omega
  subst hii;rw[zn]at *;have V:ps.take ss.length=ps:=by rw[←r,zn]
  rw[V]at q3;have C:((-1:Int)==(-1))=true:=rfl;refine cJ C (hR h' sl (e.sub λb g=>.inr g) ?_ (.inl ⟨rfl,q1,q2,q3,e⟩));rw[q1];exact⟨o,P,Z⟩
theorem fB.nC (h:fB σ F p c ps ss):∃sl:Sl,bX σ p [.int .i64 (c.size:Int),.int .i64 (c.aF:Int),.int .i64 (c.batch:Int),.slice sl.a sl.len sl.cap]/\sl.len=ss.length/\bR sl 3 (dW ps ss) σ (λb=>F b/\b≠p/\b∉eC ps) ∧
 ∃rb cs,(ss≠[]->sq σ F p ps ss sl rb cs/\sl.len<=sl.cap/\cs.length=sl.cap*3):=by
 obtain⟨sl,m,e⟩:=h.hd;have i:=e.1;rw[Q5 h.len]at i;refine⟨sl,m,O,e,?_⟩;rcases e.2 with⟨h0,_⟩|⟨b,cs,hq,ha,hbb,hle,hcl,ht⟩
 ·exact⟨0,[],λg=>by have:=qo.2 g;omega⟩
 ·refine⟨b,cs,λ_=>⟨⟨ha,hbb,hq,λ{j v} d=>?_,?_⟩,hle,hcl⟩⟩
  ·rw[←ht,zX]at d;split at d
   ·exact d
   ·cases d
  ·have:=congrArg List.length ht;rw[zO,Q5 h.len]at this;omega
theorem Fb (h:fB σ F p c ps ss){R:Sl->Hp->Prop}
 (hR:∀o σ',Ext F σ σ'->bR o 2 (iu c (Z7 ss)) σ' (λb=>σ.size<=b)->fB σ' (Cut F σ) p c (jd ps ss) (cK ss)->R o σ'):WW.c (aW p) σ R:=by
 refine WW.o ?_;unfold WW.v;have h:=fB.loc.cut h;obtain⟨sl,a,C,z,W,cs,Q⟩:=h.nC;refine KX h (cG rfl (nw (cs:=[.slice none 0 0]) λX S u K=>aG ((u.bZ a id).rS rfl ?_)));refine Wjt h u C (zD _) Q ⟨⟨none,0,0⟩,K,bR.nil _ _ _ _⟩ λV nC G ⟨o,B,H⟩ r=>aG ?_;have M:=a.lt;have e:=h.nd;have d:=PH (Bf (ps:=ps) (ss:=ss));simp only[zq]at e;refine(G.bZ (u.bZ a id) λE=>by rcases E with h|h;exact h.2.1 rfl;omega).s1 aA λv3 o3 J=>?_;have w:=Ws o3 B (by have:=B.lt;omega);refine w.xU rfl (hR o v3 ?_ (aI.bU (aI.mono H λb _ a=>O) o3.ext λb _ a g=>O) ?_)
 ·refine(u.to.fF G λb a=>?_).fF o3.ext λb a=>?_
  ·rcases a with h|h
   ·exact .inl h.1.1
   ·exact .inr h
  ·subst a;exact .inl h.fp.1
 ·have y:∀b,b∈eC ps->b<σ.size->¬(Cut F σ b/\b≠p/\b∉eC ps\/σ.size<=b):=λb a U E=>by
   rcases E with h|h
   ·exact h.2.2 a
   ·omega
  refine⟨⟨nC,J,?_⟩,λi x s P N=>?_,h.fp,λb a=>h.fb b (d.subset a),?_,GC h.len,h.ok,h.pO.sublist rO⟩
  ·rcases r with⟨rfl,_,q2,q3,ex⟩|hr
   ·rw[q2,q3];exact aI.bU (aI.bU (aI.bK z u) ex λb _ a g=>by have:=a.1.2;omega) o3.ext λb _ a g=>a.2.1 g
   ·exact aI.bU (aI.mono hr λb _ a=>⟨a.1,a.2.1,λm=>a.2.2 (d.subset m)⟩) o3.ext λb _ a g=>a.2.1 g
  ·obtain⟨j,A,D⟩:=El h.len P N;have L:=h.sp j x s A D;have m:=Qw A;have C:=L.lt;exact((L.bK u).bU G (y _ m.1 C.1) (y _ m.2 C.2)).bU o3.ext (λg=>e.1 (g▸m.1)) (λg=>e.1 (g▸m.2))
  ·simp only[zq];exact⟨λm=>e.1 (d.subset m),e.2.sublist d⟩
theorem T9 {x:Int}{k i:Nat}{s:cH}(hc:0<c.size)(hk:lj c ss x=some k)(hs:ss[k]?=some s)(v:Bool)(y:Int):lj c (ss.set k (s.put i v)) y=lj c ss y:=by
 have a:∀t:cH,∀j w z,idx c (t.put j w) z=idx c t z:=λt j w z=>by unfold idx cH.put;simp only[oP]
 unfold lj;have b:=(cQ.1 hs).1;have:(ss.set k (s.put i v)).map (λs=>(idx c s y).isSome)=ss.map (λs=>(idx c s y).isSome):=by
  apply zz;intro j;simp only[ze];by_cases hjk:j=k
  ·subst hjk;rw[zM b,hs];simp[a]
  ·rw[zi (Ne.symm hjk)]
 have d:∀l:List cH,l.findIdx? (λs=>(idx c s y).isSome)=(l.map λs=>(idx c s y).isSome).findIdx? id:=λl=>by rw[List.findIdx?_map];rfl
 rw[d,d,this]
def kY (c:bW)(ss:List cH)(xs:List Int):Prop:=(∀x∈xs,eI c ss x=some true)/\xs.Nodup
theorem yl {x:Int}{b:Bool}(h:eI c ss x=some b):∃k s i,lj c ss x=some k/\ss[k]?=some s/\obj c s x=some i/\s.is i=b:=by
 unfold eI at h;split at h
 ·rename_i k hk;split at h
  ·rename_i s hs;cases ho:obj c s x with
   | none=>rw[ho]at h;cases h
   | some i=>rw[ho]at h;exact⟨k,s,i,hk,hs,ho,by simpa[cH.is]using h⟩
  ·cases h
 ·cases h
theorem yB {x:Int}{k i:Nat}{s:cH}(hk:lj c ss x=some k)(hs:ss[k]?=some s)(ho:obj c s x=some i):fM c ss x=ss.set k (s.put i false):=by
 simp[fM,hk,hs,ho]
theorem ND {x y:Int}(hc:0<c.size)(hx:eI c ss x=some true)(hne:y≠x):eI c (fM c ss x) y=eI c ss y:=by
 obtain⟨k,s,i,A,d,u,_⟩:=yl hx;rw[yB A d u];have g:=(cQ.1 d).1;have a:=T9 hc A d false (i:=i) y;have r:∀t:cH,∀j w z,obj c (t.put j w) z=obj c t z:=λt j w z=>by unfold obj idx at_ cH.put;simp only[oP]
 cases hy:lj c ss y with
 | none=>rw[Az (a.trans hy),Az hy]
 | some m=>
  by_cases hmk:m=k
  ·subst hmk;rw[VV (a.trans hy) (zM g),VV hy d,r];cases hoy:obj c s y with
   | none=>rfl
   | some j=>
    simp only[zf,Option.some.injEq];have p:i≠j:=λe=>by
     subst e;exact hne (((UO hc).1 hoy).1.trans ((UO hc).1 u).1.symm)
    simp[cH.is,cH.put,zL,zi p]
  ·have b:m<ss.length:=(oO.1 hy).1;rw[VV (a.trans hy) ((zi (Ne.symm hmk)).trans (cM b)),VV hy (cM b)]
theorem kY.next {x:Int}{xs:List Int}(hc:0<c.size)(h:kY c ss (x::xs)):kY c (fM c ss x) xs:=by
 have a:=zq.1 h.2;refine⟨λy b=>?_,a.2⟩;rw[ND hc (h.1 x aA) λe=>a.1 (e▸b)];exact h.1 y (by simp[b])
theorem Fo {xs:List Int}(h:iS c ss xs=0):kY c ss xs:=by
 unfold iS at h;split at h
 ·cases h
 ·rename_i h1;split at h
  ·cases h
  ·rename_i h2;simp only[ot,not_or,rm,np,Bool.not_eq_false',zT,zZ]at h1 h2;refine⟨λx d=>?_,h2.2⟩;have a:=h1 x d;have b:=h2.1 x d;cases ht:eI c ss x with
   | none=>rw[ht]at a;simp at a
   | some v=>
    cases v
    ·rw[ht]at b;exact absurd rfl b
    ·rfl
theorem OG {sl:Sl}{xs:List Int}{X:Rg}(h:fB σ F p c ps ss)(hs:cR sl 1 (xs.map (Value.int .i64)) σ X)(hX:∀b,X b->¬F b)(hi:∀x∈xs,iL x)(hA:kY c ss xs)(hl:xs.length<=1000000){K:aP}
 (hK:∀σ',Ext F σ σ'->fB σ' F p c ps (xs.foldl (fM c) ss)->K σ') :
 W7 [bN] (λI1=>I1 0 σ) λJ3 (t49:Int) v6=>If (decide (t49<((sl.len:Nat):Int))) (Ix sl.a sl.len t49 1 λa51=>fJ .i64 a51 v6 λaddr1=>
  XR.c (aW p) addr1 v6 λvx v7=>bS vx λa57=>fW (a57.add 2) v7 λt59=>ZJ.c t59 addr1 v7 λt61 v8=>bS vx λa63=>fJ .i64 ((a63.add 0).add 0) v8 λt66=>
  Ar .i64 (t66-1) λt67=>bS vx λa68=>dG ((a68.add 0).add 0) (.int .i64 t67) v8 λv9=>Ar .i64 (t49+1) λt71=>J3 t71 v9) (K v6):=by
 have hlen:sl.len=xs.length:=by have:=hs.1;simp at this;omega
 have D:0<c.size:=by have:=h.ok.1;omega
 refine ZU (a:=bN) (λ(t:Int) L=>∃(i:Nat) (r:List cH),t=(i:Int)/\i<=xs.length/\Ext F σ L/\fB L F p c ps r/\kY c r (xs.drop i)/\(xs.drop i).foldl (fM c) r=xs.foldl (fM c) ss) (λt _=>xs.length-t.toNat) ⟨0,ss,rfl,O,Ext.refl _ _,h,by simpa using hA,by simp⟩ ?_;rintro t L ⟨i,r,rfl,hil,e,N,y,G⟩;refine cI (λhlt=>?_) λhge=>?_
 ·have w:i<xs.length:=by omega
  have hx:xs[i]?=some xs[i]:=cM w;have hd:xs.drop i=xs[i]::xs.drop (i+1):=qw w;rw[hd]at y G;refine(aH.bU hs e λb _ R hF=>hX b R hF).pK hx ?_;obtain⟨k,s,j,M,g,J,C⟩:=yl (y.1 xs[i] lf);have A:=hi xs[i] (zc w);refine DE N xs[i] A (λhn=>by rw[M]at hn;cases hn) λk' nC rb cs H U R E=>aG ?_;rw[M]at H;cases H;obtain⟨P,s',S,z,W⟩:=N.je U;rw[g]at z;cases z;have Z:=Qv S g;have hj:=((UO D).1 J).2;refine E.bZ.rP (x:=some ⟨P.1,0,none⟩) (E.get Z.2.2) ?_;refine S7 W A J C λv8 e8 Y=>aG ?_;have B:=Qw S;have V:¬(rb=P.1\/rb=P.2):=λhh=>E.fr.2.2 (by rcases hh with h|h<;>rw[h];exact B.1;exact B.2)
  have hml:=G7 s;have d:=xQ hj false;rw[C]at d;have hsl:=W.len;have hnl:=W.ok.jQ;have u:((s.put j false).many:Int)=s.many-1:=by simp at d;omega
  refine(e8.bZ E.bZ V).gD (E.get Z.1) (ar O O (aG ?_));simp only[add_lit,zt];rw[←u];refine N.pt (s':=s.put j false) S g rfl e8 Y R E λv9 e9 Q=>?_;refine cA (m:=i+1) O O ⟨⟨i+1,_,rfl,O,e.trans e9,Q,?_,?_⟩,O⟩
  ·have:=kY.next D y
   rwa [yB M g J]at this
  ·rw[lg,yB M g J]at G;exact G
 ·have:i=xs.length:=by omega
  subst this;rw[List.drop_length,List.foldl_nil]at G;subst G;exact hK L e N
theorem LO (h:fB σ F p c ps ss){sl:Sl}{xs:List Int}{X:Rg}(hs:cR sl 1 (xs.map (Value.int .i64)) σ X)(hX:∀b,X b->¬F b)(hi:∀x∈xs,iL x)(hl:xs.length<=1000000)(hcap:sl.len<=sl.cap){R:Sl->Int->Hp->Prop}
 (h0:iS c ss xs≠0->R ⟨none,0,0⟩ (iS c ss xs) σ)
 (h1:iS c ss xs=0->∀o σ',Ext F σ σ'->bR o 2 (iu c (Z7 (xs.foldl (fM c) ss))) σ' (λb=>σ.size<=b)->fB σ' (Cut F σ) p c (jd ps (xs.foldl (fM c) ss)) (cK (xs.foldl (fM c) ss))->R o 0 σ') :
 Za.c (aW p) sl σ R:=by
 refine Za.o ?_;unfold Za.v;have ae:sl.len=xs.length:=by have:=hs.1;simp at this;omega
 refine KX h (cG rfl ?_);have Z:∀i,(xs.take i).any (λx=>eI c ss x==some false)=true\/¬(xs.take i).Nodup->(∀x∈xs,(eI c ss x).isSome=true)->iS c ss xs=9:=by
  intro i d hall;unfold iS;rw[zA,zB]
  ·rcases d with d|d
   ·rw[j9]at d;obtain⟨x,u,U⟩:=d;have:xs.any (λx=>eI c ss x==some false)=true:=j9.2 ⟨x,mK u,U⟩;rw[this];rfl
   ·have:¬xs.Nodup:=λE=>d (E.sublist (DO _ _));simp[this]
  ·simp only[rm,np];intro x u;have:=hall x u;cases ht:eI c ss x
   ·rw[ht]at this;cases this
   ·simp
 refine Ko (a:=.b) (bb:=bN) (λ(Z:Bool) (t:Int) B=>∃i:Nat,t=(i:Int)/\i<=xs.length/\B=σ/\(∀x∈xs.take i,(eI c ss x).isSome=true)/\(Z=true↔(xs.take i).any (λx=>eI c ss x==some false)=true\/¬(xs.take i).Nodup)) (λ_ t _=>xs.length-t.toNat)
  ⟨0,rfl,O,rfl,by simp,by simp⟩ ?_
 rintro A t B ⟨i,rfl,hil,rfl,g,C⟩;refine cI (λhlt=>?_) λhge=>?_
 ·have D:i<xs.length:=by omega
  have u:xs[i]?=some xs[i]:=cM D;have N:=hi xs[i] (zc D);have H:xs.take (i+1)=xs.take i++[xs[i]]:=by rw[zg,u];rfl
  refine hs.pK u (Jt h xs[i] N (λb d=>cG rfl ?_) λE=>cJ rfl ?_)
  ·have w:∀x∈xs.take (i+1),(eI c ss x).isSome=true:=by
    rw[H];intro x u;rcases zR.1 u with h1|h1
    ·exact g x h1
    ·simp at h1;subst h1;rw[d];rfl
   have fin:∀J:Bool,(J=true↔(xs.take (i+1)).any (λx=>eI c ss x==some false)=true\/¬(xs.take (i+1)).Nodup)->Ar .i64 ((i:Int)+1) λs=>
    (∃j:Nat,s=(j:Int)/\j<=xs.length/\B=B/\(∀x∈xs.take j,(eI c ss x).isSome=true)/\(J=true↔(xs.take j).any (λx=>eI c ss x==some false)=true\/¬(xs.take j).Nodup))/\xs.length-s.toNat<xs.length-(i:Int).toNat:=
    λJ V=>cA (m:=i+1) O O ⟨⟨i+1,rfl,O,rfl,w,V⟩,O⟩
   have W:∀y:Int,(xs.take i++[y]).Nodup↔(xs.take i).Nodup/\y∉xs.take i:=λy=>by
    rw[og];constructor
    ·exact λh=>⟨h.1,λM=>h.2.2 y M y aA rfl⟩
    ·exact λh=>⟨h.1,by simp,λa ha z hz e=>by simp at hz;subst hz;exact h.2 (e▸ha)⟩
   have ex:(xs.take (i+1)).any (λx=>eI c ss x==some false)=true\/¬(xs.take (i+1)).Nodup↔(A=true\/b=false)\/xs[i]∈xs.take i:=by
    rw[H,W,List.any_append,C];simp only[List.any_cons,List.any_nil,Bool.or_false,ot,d];have P:((some b==some false)=true)↔b=false:=by cases b<;>simp
    rw[P];constructor
    ·rintro((h|h)|h)
     ·exact .inl (.inl (.inl h))
     ·exact .inl (.inr h)
     ·by_cases E:(xs.take i).Nodup
      ·by_cases M:xs[i]∈xs.take i
       ·exact .inr M
       ·exact absurd ⟨E,M⟩ h
      ·exact .inl (.inl (.inr E))
    ·rintro(((h|h)|h)|h)
     ·exact .inl (.inl h)
     ·exact .inr λK=>h K.1
     ·exact .inl (.inr h)
     ·exact .inr λK=>K.2 h
   have J1:∀r:Bool,(r=true↔A=true\/b=false)->bY (λJ v4=>Ar .i64 ((i:Int)+1) λs=>
    (∃j:Nat,s=(j:Int)/\j<=xs.length/\v4=B/\(∀x∈xs.take j,(eI c ss x).isSome=true)/\(J=true↔(xs.take j).any (λx=>eI c ss x==some false)=true\/¬(xs.take j).Nodup))/\xs.length-s.toNat<xs.length-(i:Int).toNat) λJ2=>
    If r (J2 true B) (eX sl 1 0 (i:Int) (sl.cap:Nat) λad=>Wo.c ad xs[i] B λac v5=>J2 ac v5):=by
    intro r hr;refine bY.intro ?_;cases r
    ·refine cG rfl ?_;refine jc (lo:=0) O O O ?_;have L:cR ⟨if sl.cap=0 then sl.a else sl.a.map (·.add (0*1)),i-0,sl.cap-0⟩ 1 ((xs.take i).map (Value.int .i64)) B X:=by
      refine⟨by simp;omega,?_⟩;rcases hs.2 with h0|⟨b',o',cs',hf',ha',hb',hc'⟩
      ·left;have:xs=[]:=by simpa using h0
       simp[this]
      ·refine .inr ⟨b',o',cs',hf',?_,hb',λj hj=>?_⟩
       ·rw[zA O,ha'];simp[add_lit]
       ·simp only[za,zO]at hj;rw[hc' j aE,List.map_take,zX,zB O]
     refine OK L aE _ (fin _ ?_);rw[ex,←hr];simp
    ·refine cJ rfl (fin true ?_);rw[ex,←hr];simp
   refine bY.intro ?_;cases A
   ·refine cG rfl (J1 _ ?_);cases b<;>simp
   ·exact cJ rfl (J1 _ aA)
  ·have:iS c ss xs=8:=by
    unfold iS;rw[zB];exact j9.2 ⟨xs[i],zc D,by rw[E];rfl⟩
   have h0:=h0 (by rw[this];decide);rw[this]at h0;exact h0
 ·have:i=xs.length:=by omega
  subst this;rw[zn]at *;cases A
  ·refine cG rfl ?_;have hE:iS c ss xs=0:=by
    unfold iS;have Q:¬(xs.any (λx=>eI c ss x==some false)=true\/¬xs.Nodup):=λK=>by have:=C.2 K;cases this
    rw[zA,zA]
    ·simp only[not_or,rm,Decidable.not_not]at Q;rw[Q.1];simp[Q.2]
    ·simp only[rm,np];intro x u;have:=g x u;cases ht:eI c ss x
     ·rw[ht]at this;cases this
     ·simp
   refine OG (fB.loc.cut h) hs (λb d hf=>hX b d hf.1) hi (Fo hE) hl λv6 e6 ab=>?_;refine Fb ab λo aa S Y G=>?_;exact h1 hE o aa ((e6.trans S).sub λb d=>d.1) (aI.mono Y λb _ d=>zI e6.1 d) (fB.loc.mono G λb _ d=>d.1)
  ·refine cJ rfl ?_;have h9:=Z xs.length (by rw[zn];exact C.1 rfl) g;have h0:=h0 (by rw[h9];decide);rw[h9]at h0;exact h0
theorem TE {x y:Sl}{a o b o':Nat}{cs ds:List Value}(hx:x.a=some ⟨a,o,none⟩)(hy:y.a=some ⟨b,o',none⟩)(ha:bX σ a cs)(hb:bX σ b ds)(hne:a≠b)(hd:ds≠[]){K:aO}(hK:K false σ) :
 sP Tryz.prog 282 [.slice x.a x.len x.cap,.slice y.a y.len y.cap] σ K:=by
 rintro w rfl;obtain⟨g,ha⟩:=ha;obtain⟨d,hb⟩:=hb;refine⟨false,w,?_,.refl _,hK⟩;rw[hx,hy,run_callFunc_extern Tryz.func282 (by kernel_rfl) (by kernel_rfl) (by kernel_rfl) (e:=Extern.SlicesOverlaps.overlaps #[203,203] #[4]) (by kernel_rfl)];have:=Lib.run_overlaps_apart (P:=Tryz.prog) w 203 4 210 Tryz.underlying203 3 Tryz.sizeOf210
  ⟨a,o,none⟩ ⟨b,o',none⟩ x.len x.cap y.len y.cap hne g d cs.length ds.length (by simp[World.shape?,ha]) (by simp[World.shape?,hb]) (by simpa using hd) (by simp[World.frozen?,ha]) (by simp[World.frozen?,ha])
 rw[this];rfl
theorem Pd {Q:Rg}{s:Sl}{xs:List Value}{i m vb:Nat}{x y z:Value}(h:bR s 3 xs σ Q)(hlen:s.len=m)(hm:m<=2000)(hi:i<=m)(hv:bX σ vb [x,y,z])(hvb:¬Q vb)(h1:∀v∈xs,dN v=true)(h2:dN x=true/\dN y=true/\dN z=true)
 {R:Sl->Hp->Prop} (hR:∀s' σ',Ext Q σ σ'->bR s' 3 (xs.take (3*i)++[x,y,z]++xs.drop (3*i)) σ' (Grow Q σ)->R s' σ') :
 Wg.c s (i:Int) ⟨some ⟨vb,0,none⟩,1,1⟩ σ R:=by
 refine Wg.o ?_;unfold Wg.v;have hxl:=h.1;have hcap:s.len<=s.cap:=by
  rcases h.2 with⟨h0,h0'⟩|⟨b,cs,_,_,_,J,_⟩
  ·omega
  ·exact J
 have hrd:Rd σ (some ⟨vb,0,none⟩) [x,y,z]:=by
  intro j u hu;rw[add_lit,zG,hv.cell];exact hu
 have Z:∀v∈[x,y,z],dN v=true:=by simp[h2]
 refine jc O O O (cG rfl (cU (λhe=>?_) λhe=>?_))
 ·have hie:i=m:=by
   have:(i:Int)=((s.len:Nat):Int):=by simpa using he
   omega
  refine h.app (ys:=[x,y,z]) rfl rfl hrd Z aD aD nA λs' h' hl' e' V=>hR s' h' e' ?_
  rw[mV O,List.drop_of_length_le O,j8];exact V
 ·have hie:i<m:=by
   have:¬(i:Int)=((s.len:Nat):Int):=by simpa using he
   omega
  obtain⟨b,cs,S,ha,G,J,M,ht⟩:∃b cs,Q b/\s.a=some ⟨b,0,none⟩/\bX σ b cs/\s.len<=s.cap/\cs.length=s.cap*3/\cs.take xs.length=xs:=by
   rcases h.2 with⟨h0,_⟩|h
   ·omega
   ·exact h
  have P:vb≠b:=λe=>hvb (e▸S);have w:∀j v,xs[j]?=some v->cs[j]?=some v:=λj v p=>by
   rw[←ht,zX]at p;split at p
   ·exact p
   ·cases p
  refine cA (m:=m+1) aD O (cI (λhgt=>?_) λhle2=>?_)
  ·-- no room: a new row
   refine jc (lo:=0) O O O (cA (m:=m+1) aD O (cA (m:=m+1-i) O O ?_))
   have C:¬s.cap=0:=by omega
   rw[zA C];simp only[ha,zf,add_lit,tC,zt,Nat.sub_zero];refine⟨O,xs.take (3*i),by rw[zO];simp only;omega,?_,by simp[dN],by simp only;omega,by simp only;omega,O,λW=>by simp only at W;omega,λ_ cc K=>?_⟩
   ·intro j v p;rw[add_lit,zG,G.cell];rw[zX]at p;split at p
    ·exact w j v p
    ·cases p
   simp only[dC]at K ⊢;have hi1:i+(m+1-i)=m+1:=by omega
   rw[hi1]at K ⊢;refine nw λv2 hz2 e2 hb2=>?_;have B:∀k,(List.replicate k [Value.int .i64 0,.int .i64 0,.pointer none]).flatten.length=3*k:=λk=>by
    rw[vA,sM,vJ];simp;omega
   have g:(xs.take (3*i)).length=3*i:=by rw[zO];omega
   refine jc aD aD aD ?_
   have X:=e2.bZ hv id;have n1:(if cc=i then(some ⟨σ.size,0,none⟩:Option Addr)else(some ⟨σ.size,0,none⟩:Option Addr).map (·.add (i*3)))=some ⟨σ.size,i*3,none⟩:=by
    have:¬cc=i:=by omega
    rw[zA this];simp[add_lit]
   rw[n1];refine⟨[x,y,z],by simp only;rw[qg O];rfl,?_,Z,?_⟩
   ·intro j u hu;rw[add_lit,zG,X.cell];exact hu
   simp only;refine V7 (o:=i*3) (i:=0) hb2 (by simp only[zK,g,B,zP,ma];omega) λv3 o3 U=>?_;refine cA (m:=i+1) aD O (jc aD aD aD (jc O O O ?_))
   have N:bX v3 b cs:=Ws o3 (e2.bZ G id) (by have:=G.lt;omega);have d:(xs.drop (3*i)).length=3*(m-i):=by rw[zu];omega
   refine⟨xs.drop (3*i),by simp only;rw[qg O,d];omega,?_,λv hv=>h1 v (qi hv),?_⟩
   ·have r:¬s.cap=i:=by omega
    rw[zA r];simp only[ha,zf,add_lit];intro j v p;rw[add_lit,N.cell];rw[zp]at p;have:=w _ _ p;rw[show 0+i*3+j=3*i+j by omega];exact this
   have hbig:(xs.take (3*i)++(List.replicate (m+1-i) [Value.int .i64 0,.int .i64 0,.pointer none]).flatten++(List.replicate (cc-(m+1)) [Value.int .i64 0,.int .i64 0,.pointer none]).flatten).length=3*cc:=by
    simp only[zK,g,B];omega
   have tk:∀L:List Value,((xs.take (3*i)++(List.replicate (m+1-i) [Value.int .i64 0,.int .i64 0,.pointer none]).flatten++(List.replicate (cc-(m+1)) [Value.int .i64 0,.int .i64 0,.pointer none]).flatten).take (3*i))=xs.take (3*i):=λ_=>by
    rw[km,qb O,mV O]
   have fin:∀v4,QC v3 v4 σ.size->bX v4 σ.size ((xs.take (3*i)++[x,y,z])++xs.drop (3*i)++((xs.take (3*i)++(List.replicate (m+1-i) [Value.int .i64 0,.int .i64 0,.pointer none]).flatten++(List.replicate (cc-(m+1)) [Value.int .i64 0,.int .i64 0,.pointer none]).flatten).drop (3*i+3)).drop (3*(m-i)))->R ⟨some ⟨σ.size,0,none⟩,m+1,cc⟩ v4:=by
    intro v4 o4 A;refine hR _ v4 ?_ ⟨?_,.inr ⟨σ.size,_,.inr (zD _),rfl,A,by simp only;omega,?_,?_⟩⟩
    ·exact((e2.to.fF o3.ext λi hi=>by subst hi;exact .inr (zD _)).fF o4.ext λi hi=>by subst hi;exact .inr (zD _))
    ·simp only[zK,g,d,zP,ma];omega
    ·simp only[zK,g,d,zP,ma,zu,B];omega
    ·rw[km (xs.take (3*i)++[x,y,z]),←km,yF];rfl
   have e3:(xs.take (3*i)++(List.replicate (m+1-i) [Value.int .i64 0,.int .i64 0,.pointer none]).flatten++(List.replicate (cc-(m+1)) [Value.int .i64 0,.int .i64 0,.pointer none]).flatten).take (i*3+0)=xs.take (3*i):=by
    rw[show i*3+0=3*i by omega];exact tk []
   rw[e3]at U;have D:(xs.take (3*i)++[x,y,z]++(xs.take (3*i)++(List.replicate (m+1-i) [Value.int .i64 0,.int .i64 0,.pointer none]).flatten++(List.replicate (cc-(m+1)) [Value.int .i64 0,.int .i64 0,.pointer none]).flatten).drop (i*3+0 + [x,y,z].length)).length=3*cc:=by
    simp only[zK,zu,g,B,zP,ma];omega
   by_cases r:cc=i+1
   ·exfalso;omega
   ·rw[zA r];simp only[zf,add_lit,zG];refine V7 (o:=(i+1)*3) (i:=0) U (by rw[D,d];omega) λv4 o4 A=>fin v4 o4 ?_;have q1:(i+1)*3+0=(xs.take (3*i)++[x,y,z]).length:=by rw[zK,g];simp;omega
    have q2:(i+1)*3+0+(xs.drop (3*i)).length=(xs.take (3*i)++[x,y,z]).length+3*(m-i):=by rw[d,q1]
    rw[q2,q1,yF,List.drop_append]at A
    ·rw[List.drop_of_length_le (show(xs.take (3*i)++[x,y,z]).length<=(xs.take (3*i)++[x,y,z]).length+3*(m-i) by omega),pU]at A;have q3:i*3+0 + [x,y,z].length=3*i+3:=by simp;omega
     rw[q3]at A;have q4:(xs.take (3*i)++[x,y,z]).length+3*(m-i)-(xs.take (3*i)++[x,y,z]).length=3*(m-i):=by omega
     rw[q4]at A;exact A
    ·rfl
  ·-- room: the rest moves
   have hle3:m+1<=s.cap:=by omega
   have C:¬s.cap=0:=by omega
   have r:¬s.cap=i:=by omega
   refine cA (m:=m+1) aD O (jc (lo:=0) O O O ?_)
   rw[zA C];simp only[ha,zf,add_lit,tC,zt,Nat.sub_zero];refine cA (m:=i+1) aD O (jc aD aD aD ?_)
   have E:cs.take (3*m)=xs:=by rw[←hlen,show 3*s.len=xs.length by omega];exact ht
   have na:∃o',(if s.cap=i+1 then(some ⟨b,0,none⟩:Option Addr)else(some ⟨b,0,none⟩:Option Addr).map (·.add ((i+1)*3)))=some ⟨b,o',none⟩:=by
    split
    ·exact⟨0,rfl⟩
    ·exact⟨_,by simp[add_lit];rfl⟩
   obtain⟨o',na⟩:=na;refine TE (x:=⟨some ⟨vb,0,none⟩,1,1⟩) (a:=vb) (o:=0) (b:=b) rfl na hv G P (λe=>by rw[e]at M;simp at M;omega) (cJ rfl ?_);refine cA (m:=i+1) aD O (jc aD aD aD (jc aD aD aD ?_))
   have H:¬s.cap=i+1:=by omega
   rw[zA H,zA r];simp only[zf,add_lit,zG];have d:(xs.drop (3*i)).length=3*(m-i):=by rw[zu];omega
   refine⟨xs.drop (3*i),by simp only;rw[Nat.min_eq_right O,d];omega,?_,λv hv=>h1 v (qi hv),?_⟩
   ·intro j v p;rw[add_lit,G.cell];rw[zp]at p;have:=w _ _ p;rw[show i*3+j=3*i+j by omega];exact this
   refine V7 (o:=(i+1)*3) (i:=0) G (by rw[d];omega) λv3 o3 U=>?_;refine jc aD aD aD ?_
   rw[zA r];simp only[zf,add_lit,zG];have Y:=Ws o3 hv P;refine⟨[x,y,z],by simp only;rw[qg O];rfl,?_,Z,?_⟩
   ·intro j u hu;rw[add_lit,zG,Y.cell];exact hu
   have hl3:(cs.take ((i+1)*3+0)++xs.drop (3*i)++cs.drop ((i+1)*3+0+(xs.drop (3*i)).length)).length=cs.length:=by
    simp only[zK,zO,zu,d];omega
   refine V7 (o:=i*3) (i:=0) U (by rw[hl3];simp;omega) λv4 o4 A=>?_;have a1:(cs.take ((i+1)*3+0)).length=3*i+3:=by rw[zO];omega
   have g:(xs.take (3*i)).length=3*i:=by rw[zO];omega
   have p1:(cs.take ((i+1)*3+0)++xs.drop (3*i)++cs.drop ((i+1)*3+0+(xs.drop (3*i)).length)).take (i*3+0)=xs.take (3*i):=by
    rw[km,qb O,yj,qg O,←E,yj,qg O]
    congr 1;omega
   have p2:(cs.take ((i+1)*3+0)++xs.drop (3*i)++cs.drop ((i+1)*3+0+(xs.drop (3*i)).length)).drop (i*3+0 + [x,y,z].length)=xs.drop (3*i)++cs.drop ((i+1)*3+0+(xs.drop (3*i)).length):=by
    rw[km,List.drop_left'];rw[a1];simp;omega
   rw[p1,p2,←km]at A;refine hR _ v4 ((Ext.eR (F:=Q) o3 S).trans (Ext.eR o4 S)) ⟨?_,.inr ⟨b,_,.inl S,rfl,A,aD,?_,?_⟩⟩
   ·simp only[zK,g,zP,ma,d];omega
   ·simp only[zK,g,zu,zP,ma,d];omega
   ·rw[yF];rfl
def Zw (ss:List cH)(st:Nat):Nat:=(ss.takeWhile (λs=>s.st<st)).length
theorem Gh (l:List cH)(P:cH->Bool):l.takeWhile P=l.take (l.takeWhile P).length/\l.dropWhile P=l.drop (l.takeWhile P).length:=by
 induction l with
 | nil=>simp
 | cons x l ih=>
  simp only[xr,Bz];cases P x
  ·simp
  ·simp only[zS,zP,sx,yb];exact⟨by rw[←ih.1],ih.2⟩
theorem vO (c:bW)(ss:List cH)(st:Nat):iy c ss st=ss.take (Zw ss st)++⟨st,List.replicate c.n false⟩::ss.drop (Zw ss st):=by
 have:=Gh ss (λs=>decide (s.st<st));unfold iy Zw;rw[this.2,←this.1]
theorem Gy (hs:ss.Pairwise (λa b=>a.st<b.st))(st:Nat):Zw ss st<=ss.length/\∀(i:Nat) s,ss[i]?=some s->(s.st<st↔i<Zw ss st):=by
 unfold Zw
 induction ss with
 | nil=>simp
 | cons x ss ih=>
  have e:=mM.1 hs;obtain⟨j,g⟩:=ih e.2;simp only[xr];by_cases hx:x.st<st
  ·simp only[hx,decide_true,zS,zP];refine⟨O,λi s d=>?_⟩;cases i with
   | zero=>simp at d;subst d;simp[hx]
   | succ i=>have:=g i s (by simpa using d);omega
  ·simp only[hx,decide_false,zb,zy,ma,Nat.zero_le,Nat.not_lt_zero,iff_false,sS];intro i s d;cases i with
   | zero=>simp at d;subst d;exact hx
   | succ i=>
    have:=e.1 s (zE (i:=i) (by simpa using d));omega
theorem Sj (h:fB σ F p c ps ss){σ1:Hp}(e1:bO σ σ1){sl:Sl}{rb:Nat}{cs:List Value}(hl:sl.len=ss.length)(hE:ss≠[]->sq σ F p ps ss sl rb cs)(st:Nat)(hst:st<=1024){R:Int->Bool->Hp->Prop}(hR:∀σ' b,bO σ1 σ'->R (Zw ss st:Int) b σ') :
 Wb.c sl (st:Int) ⟨258,#[],#[]⟩ σ1 R:=by
 refine Wb.o ?_;unfold Wb.v;have U:=h.lr;obtain⟨M,ke⟩:=Gy h.pO st;have C:∀(k:Nat) (x:Nat×Nat) s (v:Hp) (K:aN),ps[k]?=some x->ss[k]?=some s->bO σ1 v->(∀D,bO v D->K ((s.st:Int)-(st:Int)) D) →
  VN Tryz.prog ⟨258,#[],#[]⟩ [.agg #[.int .i64 (s.many:Int),.int .i64 (s.st:Int),.pointer (some ⟨x.1,0,none⟩)],.int .i64 (st:Int)] [.one bN] v K:=by
  intro k x s v K w g ev hK;refine GF (all := #[.agg #[.int .i64 (s.many:Int),.int .i64 (s.st:Int),.pointer (some ⟨x.1,0,none⟩)],.int .i64 (st:Int)]) (by kernel_rfl) aA ?_;refine YS.o ?_;unfold YS.v;have hf:=(h.sp k x s w g).fit;refine nw (cs:=[.int .i64 (s.many:Int),.int .i64 (s.st:Int),.pointer (some ⟨x.1,0,none⟩)]) λW hz e J=>J.gD rfl (ar O O (hK W e))
 refine Ko (a:=bN) (bb:=bN) (λ(i j:Int) v=>∃a b:Nat,i=(a:Int)/\j=(b:Int)/\a<=Zw ss st/\Zw ss st<=b/\b<=ss.length/\bO σ1 v) (λi j _=>j.toNat-i.toNat) ⟨0,ss.length,rfl,by rw[hl],O,M,O,Ext.refl _ _⟩ ?_;rintro i j v ⟨a,b,rfl,rfl,X,J,z,ev⟩;have B:bO σ v:=e1.trans ev;refine cI (λY=>?_) λaa=>?_
 ·have y:ss≠[]:=by rintro rfl;simp at z;omega
  have E:=hE y;refine cA (m:=a+b) O O ?_;have Z:IntKind.u64.wrap ((a+b:Nat):Int)=((a+b:Nat):Int):=by
   unfold IntKind.wrap;simp[IntKind.bits,IntKind.signed];omega
  refine yG ?_;rw[Z];refine nn O ?_;have H:min (1:Int).toNat IntKind.u64.bits=1:=by decide
  rw[H,JD];have A:(((a+b:Nat):Int)/2^1)=(((a+b)/2:Nat):Int):=by omega
  refine cA (m:=(a+b)/2) A O ?_;have d:(a+b)/2<ss.length:=by omega
  obtain⟨x,s,w,g,V⟩:=h.je d;have u:=Qv w g;rw[E.a];refine ix O O ?_;rw[add_lit,show 0+(((a+b)/2:Nat):Int).toNat*3=3*((a+b)/2) by omega];refine tB (e:=0) (B.bZ E.bZ id) (E.get u.1) (E.get u.2.1) (E.get u.2.2) (C _ x s v _ w g ev λD G=>?_);have r:=ke _ s g;show If (decide (((s.st:Int)-(st:Int))<0)) _ _;refine cI (λP=>?_) λQ=>?_
  ·exact cA (m:=(a+b)/2+1) O O ⟨⟨_,b,rfl,rfl,by have:=r.1 O;omega,J,z,ev.trans G⟩,O⟩
  ·exact⟨⟨a,_,rfl,rfl,X,by
    apply Classical.byContradiction;intro hc;have:=r.2 O;omega,O,ev.trans G⟩,O⟩
 ·have L:a=Zw ss st:=by omega
  subst L;refine bY.intro (cI (λS=>?_) λN=>hR v _ ev);have d:Zw ss st<ss.length:=by omega
  have y:ss≠[]:=by rintro rfl;simp at d
  have E:=hE y;obtain⟨x,s,w,g,V⟩:=h.je d;have u:=Qv w g;rw[E.a];refine ix O O ?_;rw[add_lit,show 0+(Zw ss st:Int).toNat*3=3*Zw ss st by omega];refine tB (e:=0) (B.bZ E.bZ id) (E.get u.1) (E.get u.2.1) (E.get u.2.2) (C _ x s v _ w g ev λD G=>hR D _ (ev.trans G))
theorem Sv (h:fB σ F p c ps ss){st:Nat}(hf:st+c.aF<=1024){R:aN}(h9:GW c ss st=9->∀σ',bO σ σ'->R 9 σ')
 (h0:GW c ss st=0->∀σ' ps',Ext F σ σ'->fB σ' (Grow F σ) p c ps' (iy c ss st)->R 0 σ'):Y8.c (aW p) (st:Int) σ R:=by
 refine Y8.o ?_;unfold Y8.v;have h:=fB.loc.cut h;obtain⟨sl,d,hl,hrow,rb,cs,hE⟩:=h.nC;have hfew:=h.lr;have hc:=h.ok;have hck:=hc;unfold bW.ok at hck;refine KX h (cG rfl (aG (d.gD rfl (d.gD rfl (d.gD rfl ?_)))));refine T0 hc hf λv1 A K e1 hpn hqn S=>cG rfl (aG ((e1.bZ d id).rS rfl ?_));have hplt:=d.lt;refine ZU (a:=bN) (λ(t:Int) v=>∃i:Nat,t=(i:Int)/\i<=ss.length/\bO v1 v/\∀(j:Nat) s,j<i->ss[j]?=some s->¬max s.st st-min s.st st<c.aF) (λt _=>ss.length-t.toNat) ⟨0,rfl,O,Ext.refl _ _,λj s z=>O⟩ ?_;rintro t v ⟨i,rfl,Y,ev,X⟩;have r:=e1.trans ev;refine cI (λhlt=>?_) λhge=>?_
 ·simp only at hlt;have hi':i<ss.length:=by omega
  obtain⟨E,hcap,hcl⟩:=hE (by rintro rfl;simp at hi');obtain⟨x,s,y,g,hS⟩:=h.je hi';have eg:=Qv y g;have hsf:=hS.fit;rw[E.a];refine ix O O ?_;rw[add_lit,show 0+(i:Int).toNat*3=3*i by omega];refine tB (e:=0) (r.bZ E.bZ id) (E.get eg.1) (E.get eg.2.1) (E.get eg.2.2) (xV λv6 e6 b6=>b6.gD rfl (b6.gD rfl ?_));have hd:(if(st:Int)>(s.st:Int)then(st:Int)else(s.st:Int))-(if(st:Int)<(s.st:Int)then(st:Int)else(s.st:Int))=((max s.st st-min s.st st:Nat):Int):=by
   split<;>split<;>omega
  refine cA (m:=max s.st st-min s.st st) hd O (aG (((r.trans e6).bZ d id).gD rfl ?_));refine cI (λhlt2=>h9 ?_ _ (r.trans e6)) λhge2=>?_
  ·unfold GW;rw[zB];exact j9.2 ⟨s,zE g,by simpa using(by omega:max s.st st-min s.st st<c.aF)⟩
  ·refine cA (m:=i+1) O O ⟨⟨i+1,rfl,O,ev.trans e6,λj s' z P=>?_⟩,O⟩;by_cases e:j=i
   ·subst e;rw[g]at P;cases P;omega
   ·exact X j s' O P
 ·have hii:i=ss.length:=by simp only at hge;omega
  subst hii;have hE0:GW c ss st=0:=by
   unfold GW;rw[zA];simp only[rm,np,zT];intro s g;obtain⟨j,z⟩:=zN g;exact X j s (cQ.1 z).1 z
  refine aG ((r.bZ d id).rS rfl ?_);refine Sj h r hl (λQ=>(hE Q).1) st O λv7 bb e7=>aG (((r.trans e7).bZ d id).rS rfl ?_);have aa:=r.trans e7;obtain⟨hp1,ke⟩:=Gy h.pO st;refine nw (cs:=[.int .i64 0,.int .i64 st,.pointer (some ⟨A,0,none⟩)]) λv8 hz8 e8 hb8=>?_;have H:=aa.trans e8;have V:=aI.bK hrow H;have hsz7:=aa.1;refine Pd V hl O hp1 hb8 (λw=>by have:=w.1.2;omega) Lj ⟨rfl,rfl,rfl⟩ λs' v9 e9 hr9=>aG ?_;have hb9:=e9.bZ (H.bZ d id) λw=>w.2.1 rfl;refine hb9.s1 aA λU fV hb10=>?_;have J:=h.len;have D:=h.nd;simp only[zq]at D;have hlt:=S.lt;have hsz1:=(ev.trans e7).trans e8 |>.1;have C:∀b∈eC ps,b<σ.size:=λb d=>(h.fb b d).2;have ab:∀{a b s'},ig v8 a b c s'->¬(Cut F σ a/\a≠p/\a∉eC ps)->¬(Cut F σ b/\b≠p/\b∉eC ps)->a≠p->b≠p->ig U a b c s':=λhS n1 n2 m1 m2=>(hS.bU e9 n1 n2).bU fV.ext m1 m2;have Z:=((S.bK ev).bK e7).bK e8;have hent:dW (ps.take (Zw ss st)++(A,K)::ps.drop (Zw ss st)) (ss.take (Zw ss st)++⟨st,List.replicate c.n false⟩::ss.drop (Zw ss st)) =
   (dW ps ss).take (3*Zw ss st)++[.int .i64 0,.int .i64 st,.pointer (some ⟨A,0,none⟩)]++(dW ps ss).drop (3*Zw ss st):=by
   rw[Vk (by simp[J])];have u:dW ps ss=dW (ps.take (Zw ss st)) (ss.take (Zw ss st))++dW (ps.drop (Zw ss st)) (ss.drop (Zw ss st)):=by
    rw[←Vk (by simp[J]),mZ,mZ]
   have h2:(dW (ps.take (Zw ss st)) (ss.take (Zw ss st))).length=3*Zw ss st:=by rw[Q5 (by simp[J]),zO];omega
   rw[u,yF h2,List.drop_left' h2,km];have:cH.many ⟨st,List.replicate c.n false⟩=0:=by simp[cH.many,Ai]
   simp[dW,this]
  refine h0 hE0 U (ps.take (Zw ss st)++(A,K)::ps.drop (Zw ss st)) ?_ ?_
  ·refine(((bO.to H).trans (e9.sub λb d=>d.1.1))).trans (fV.ext.sub λb d=>d▸h.fp.1)
  ·have B:(eC (ps.take (Zw ss st)++(A,K)::ps.drop (Zw ss st))).Perm (A::K::eC ps):=by
    have:eC ps=eC (ps.take (Zw ss st))++eC (ps.drop (Zw ss st)):=by
     conv=>lhs;rw[←mZ (Zw ss st) ps]
     simp only[eC,C2]
    rw[this];have h3:eC (ps.take (Zw ss st)++(A,K)::ps.drop (Zw ss st))=eC (ps.take (Zw ss st))++A::K::eC (ps.drop (Zw ss st)):=by simp[eC]
    rw[h3];exact List.perm_middle.trans ((List.perm_middle).cons A)
   have N:∀b,b∈eC (ps.take (Zw ss st)++(A,K)::ps.drop (Zw ss st))↔b=A\/b=K\/b∈eC ps:=by
    intro b;rw[B.mem_iff];simp
   refine⟨⟨s',hb10,?_⟩,λi x s y g=>?_,.inl h.fp.1,λb d=>?_,?_,?_,hc,?_⟩
   ·rw[vO,hent];refine aI.bU (aI.mono hr9 λb _ d=>?_) fV.ext λb _ d he=>d.2.1 he;rw[N];rcases d with d|d
    ·exact⟨.inl d.1.1,d.2.1,λw=>by
      rcases w with h|h|h
      ·have:=d.1.2;omega
      ·have:=d.1.2;omega
      ·exact d.2.2 h⟩
    ·exact⟨.inr O,O,λw=>by
      rcases w with h|h|h
      ·omega
      ·omega
      ·have:=C b h;omega⟩
   ·rw[vO]at g;have L:(ps.take (Zw ss st)).length=Zw ss st:=by rw[zO];omega
    have M:(ss.take (Zw ss st)).length=Zw ss st:=by rw[zO];omega
    have old:∀j:Nat,ps[j]?=some x->ss[j]?=some s->ig U x.1 x.2 c s:=λj u h2=>by
     have G:=Qw u;exact ab ((h.sp j x s u h2).bK H) (λw=>w.2.2 G.1) (λw=>w.2.2 G.2) (λe=>D.1 (e▸G.1)) (λe=>D.1 (e▸G.2))
    rcases qx i (Zw ss st)with hlt'|heq|hgt
    ·rw[zd O,zX,zB hlt']at y g;exact old i y g
    ·rw[zo O]at y g;rw[L,heq,pA]at y;rw[M,heq,pA]at g;simp at y g;subst y;subst g;exact ab Z (λw=>by have:=w.1.2;simp only at this;omega) (λw=>by have:=w.1.2;simp only at this;omega) aC aC
    ·rw[zo O]at y g;rw[L]at y;rw[M]at g;obtain⟨k,hk⟩:∃k,i-Zw ss st=k+1:=⟨i-Zw ss st-1,O⟩;rw[hk,Ap,zp]at y g;exact old _ y g
   ·rcases(N b).1 d with u|u|u
    ·subst u;exact .inr hpn
    ·subst u;exact .inr hqn
    ·exact .inl (h.fb b u).1
   ·simp only[zq];refine⟨λG=>?_,?_⟩
    ·rcases(N p).1 G with u|u|u
     ·omega
     ·omega
     ·exact D.1 u
    ·rw[B.nodup_iff];simp only[zq,zQ,not_or];have Q:=S.ne;exact⟨⟨Q,λG=>by have:=C _ G;omega⟩,λG=>by have:=C _ G;omega,D.2⟩
   ·rw[vO];simp[J]
   ·rw[vO];rw[pS];have W:=h.pO;refine⟨W.sublist (DO _ _),mM.2 ⟨λs g=>?_,W.sublist (C0 _ _)⟩,λa ha b d=>?_⟩
    ·obtain⟨j,z⟩:=zN g;rw[zp]at z;have u:=ke _ s z;have h2:s.st≠st:=λe=>by
      have:=X (Zw ss st+j) s (cQ.1 z).1 z;rw[e]at this;simp at this;omega
     show st<s.st;omega
    ·obtain⟨i,Y⟩:=zN ha;rw[zX]at Y;split at Y
     ·rename_i hlt';have hat:=(ke i a Y).2 hlt';rcases zQ.1 d with rfl|d
      ·exact hat
      ·obtain⟨j,z⟩:=zN d;rw[zp]at z;obtain⟨hi1,hi2⟩:=cQ.1 Y;obtain⟨hj1,hj2⟩:=cQ.1 z;have:=kj.1 W i (Zw ss st+j) hi1 hj1 O;rw[hi2,hj2]at this;exact this
     ·cases Y
end Go.Ar
namespace Go.Proofs
open Go.Vc
set_option maxRecDepth 100000
def W1.h:Hn:=.q .o1 (.q (.q .o3 .aK) (.q .o6 .l))
def W1.v (a:R2)(b:Hp)(c:Sl->Hp->Prop):Prop:=WK.c a b λd e=>If (!d) (c ⟨none,0,0⟩ e) (bE a 3 e λg=>XD.c g e λh i=>c h i)
theorem W1.o {a b c}(d:W1.v a b c):W1.c a b c:=Wa Tryz.func108 (x:=W1.h) (R0 d)
def WK.h:Hn:=.q .o1 (.q (.cV (.seq [.op,.op,.op,.dA true 5 (RI.ops 5),.op])) .l)
def WK.v (a:R2)(b:Hp)(c:aO):Prop:=bY (λd e=>c d e) λf=>If (!a.isNone) (bD a 0 b λh=>f (decide (h>0)) b) (f false b)
theorem WK.o {a b c}(d:WK.v a b c):WK.c a b c:=Wa Tryz.func139 (x:=WK.h) (R0 d)
def ZZ.h:Hn:=.q .o2 (.q (.q (.cV (.seq [.op,.op,.op,.dA false 2 [.op,.op],.op,.dA false 2 [.op,.op],.op,.dA false 2 [.op,.op]])) .aJ) (.q .o6 .l))
def ZZ.v (a b:Int)(c:Hp)(d:Option Addr->Int->Hp->Prop):Prop:=bY (λe f=>bY (λg h=>bY (λi j=>If i (d none 1 j) (aV #[.I a,.I b,.I 0,.slice none 0 0] 215 j λk l=>d (some k) 0 l)) λm=>If g (m true h) (m (decide (b>8)) h)) λn=>If e (n true f) (n (decide (b<0)) f)) λo=>If (a<1) (o true c) (o (decide (a>32)) c)
theorem ZZ.o {a b c d}(e:ZZ.v a b c d):ZZ.c a b c d:=Wa Tryz.func157 (x:=ZZ.h) (R0 e)
def Xk.h:Hn:=.q .o1 (.q .o4 .l)
def Xk.v (a:R2)(b:Hp)(c:Sl->Hp->Prop):Prop:=XL.c a ⟨245,#[],#[]⟩ b λd e=>c d e
theorem Xk.o {a b c}(d:Xk.v a b c):Xk.c a b c:=Wa Tryz.func198 (x:=Xk.h) (R0 d)
def Wz.h:Hn:=.q .o2 (.q (.k (.q .o4 (.c .aL (.q .o7 .aJ)))) (.q .o7 (.q .o8 (.q .fV (.q .fV (.q .o3 .l))))))
def Wz.v (a:R2)(b:Hp)(c:Sl->Int->Hp->Prop):Prop:=WK.c a b λd e=>If (!d) (c ⟨none,0,0⟩ 5 e) (bE a 3 e λg=>If (((g.len:Nat):Int)==0) (c ⟨none,0,0⟩ 4 e) (bE a 3 e λi=>bL (((i.len:Nat):Int)-1) λj=>bE a 3 e λl=>Ix l.a l.len j 1 λm=>jn m e λn=>bE a 3 e λp=>eX p 1 0 j (p.cap:Nat) λq=>bS a λr=>aR r 3 (.slice q.a q.len q.cap) e λs=>bD a 2 s λu=>bS a λv=>aR v 2 (.I (if j<u then j else u)) s λw=>c n 0 w))
theorem Wz.o {a b c}(d:Wz.v a b c):Wz.c a b c:=Wa Tryz.func213 (x:=Wz.h) (R0 d)
def XL.h:Hn:=.q .o2 (.q (.q .o3 .aK) (.q .o5 (.q .o8 (.q (.o 11) (.q .o9 .aL)))))
def XL.v (a:R2)(b:Fv)(c:Hp)(d:Sl->Hp->Prop):Prop:=aV #[.func (.func b.f) b.first b.captured] 325 c λe f=>WK.c a f λg h=>If (!g) (d ⟨none,0,0⟩ h) (Bm (e.add 0) h λi=>VN Tryz.prog i [.pointer a] [.I] h λj k=>bE a 3 k λm=>eX m 1 0 j j λn=>bE a 3 k λp=>eX p 1 j (p.len:Nat) (p.cap:Nat) λq=>WL.c q k λr s=>bS a λt=>aR t 3 (.slice r.a r.len r.cap) s λu=>bE a 3 u λw=>bS a λx=>aR x 2 (.I ((w.len:Nat):Int)) u λy=>d n y)
theorem XL.o {a b c d}(e:XL.v a b c d):XL.c a b c d:=Wa Tryz.func244 (x:=XL.h) (R0 e)
def XJ.h:Hn:=.q .o1 (.q .o7 .l)
def XJ.v (a:R2)(b:Hp)(c:aN):Prop:=bD a 2 b λe=>bL (e+1) λf=>Nz 2<|bL (f.tdiv 2) λg=>c g b
theorem XJ.o {a b c}(d:XJ.v a b c):XJ.c a b c:=Wa Tryz.func245 (x:=XJ.h) (R0 d)
def Xb.h:Hn:=.q .o2 (.q (.k (.q .o4 (.c .aL (.q .o8 (.c .aL (.q (.oq 11) .aJ)))))) (.q (.cV (.held true [8,11] (.tk [0,1,2,3,4,5] (.all [(6,.all [(7,.all [(8,.take 9 (.take 10 (.all [(11,.done)])))])])])))) .aL))
def Xb.v (a:R2)(b:Sl)(c:Hp)(d:Bool->Int->Hp->Prop):Prop:=WK.c a c λe f=>If (!e) (d false 5 f) (bD a 0 f λh=>If (((b.len:Nat):Int) != h) (d false 1 f) (bE a 3 f λj=>bD a 1 f λl=>If (((j.len:Nat):Int)≥l) (d false 0 f) (dU f λm=>bS a λn=>aT m n 3 λo=>WF.c b f λp q=>And (m q) <| aV #[.slice p.a p.len p.cap] 69 q λr s=>And (m s) <| App o 1 24 69 [.slice none 0 0] ⟨some r,1,1⟩ s λt u=>bS a λv=>aR v 3 (.slice t.a t.len t.cap) u λw=>d true 0 w)))
theorem Xb.o {a b c d}(e:Xb.v a b c d):Xb.c a b c d:=Wa Tryz.func264 (x:=Xb.h) (R0 e)
end Go.Proofs
namespace Go.Ar
open Go Go.Vc Go.Proofs
variable {σ:Hp}{F:Rg}{p batch room:Nat}{t:fQ}
def nG (s:Sl):Value:=.slice s.a s.len s.cap
def Wv (xs:List Int):List Value:=xs.map (Value.int .i64)
theorem Va {l:List Int}:∀v∈Wv l,dN v=true:=by
 intro v hv;simp only[Wv,zC]at hv;obtain⟨x,_,rfl⟩:=hv;rfl
theorem PK {l:List Sl}:∀v∈l.map nG,dN v=true:=by
 intro v hv;simp only[zC]at hv;obtain⟨x,_,rfl⟩:=hv;rfl
def oR (sls:List Sl)(bs:List (List Int))(σ:Hp)(D:Rg):Prop:=sls.length=bs.length/\∀(i:Nat) s xs,sls[i]?=some s->bs[i]?=some xs->cR s 1 (Wv xs) σ D/\s.len<=s.cap
theorem oR.loc (sls:List Sl)(bs:List (List Int)):dR (oR sls bs):=λσ j F G h e g=>⟨h.1,λi s a d b=>⟨cR.loc _ _ _ _ _ _ _ (h.2 i s a d b).1 e g,(h.2 i s a d b).2⟩⟩
def Dj (sls:List Sl):Prop:=sls.Pairwise λs t=>∀a a',s.a=some a->t.a=some a'->a.block≠a'.block
def lu (s:Sl)(b:Nat):Prop:=∃a,s.a=some a/\a.block=b
theorem _root_.Go.Vc.cR.yR {s:Sl}{sz:Nat}{xs:List Value}{D:Rg}(h:cR s sz xs σ D):cR s sz xs σ λb=>D b/\lu s b:=
 ⟨h.1,h.2.imp id λ⟨b,o,e,d,a,r⟩=>⟨b,o,e,⟨d,_,a,rfl⟩,a,r⟩⟩
theorem _root_.Go.Vc.cR.bZ {s:Sl}{sz:Nat}{xs:List Value}{D:Rg}(h:cR s sz xs σ D)(hx:xs≠[]){b:Nat}(hb:lu s b):D b/\b<σ.size:=by
 rcases h.2 with h0|⟨b',o,cs,hq,ha,hc,_⟩
 ·exact absurd h0 hx
 ·obtain⟨a,d,rfl⟩:=hb;rw[ha]at d;cases d;exact⟨hq,hc.lt⟩
theorem Dj.snoc {sls:List Sl}{bs:List (List Int)}{D:Rg}{z:Nat}{s':Sl}{xs:List Value}{v:Hp}(h:Dj sls)(hB:oR sls bs σ D)(hne:∀xs∈bs,xs≠[])(hz:∀b,D b->b<z)(hs:bR s' 1 xs v λb=>z<=b)(hx:xs≠[]):Dj (sls++[s']):=by
 refine pS.2 ⟨h,List.pairwise_singleton _ _,λs g u j a p x w=>?_⟩;rw[zV]at j;subst j;obtain⟨i,m⟩:=zN g;have e:=(cQ.1 m).1;have d:bs[i]?=some (bs[i]'(by rw[←hB.1];exact e)):=cM _;have r:=((hB.2 i s _ m d).1.bZ (by simp only[Wv,ne_eq,Ad];exact hne _ (zE d)) ⟨a,x,rfl⟩).1;have y:=(hs.gp.bZ hx ⟨p,w,rfl⟩).1;have:=hz _ r;omega
structure iw (σ:Hp) (F:Rg) (p batch room:Nat) (t:fQ):Prop where
 mem:∃(sl:Sl) (sls:List Sl) (D:Rg),bX σ p [.int .i64 (batch:Int),.int .i64 (room:Int),.int .i64 (t.low:Int),.slice sl.a sl.len sl.cap]/\bR sl 1 (sls.map nG) σ (λb=>F b/\b≠p/\¬D b)/\oR sls t.bs σ D/\(∀b,D b->F b/\b≠p)/\Dj sls
 fp:F p
 b1:1<=batch/\batch<=32
 r1:room<=8
 lr:t.bs.length<=room
 low:t.low<=t.bs.length
 all:∀xs∈t.bs,xs.length=batch
theorem iw.loc:dR λσ F=>iw σ F p batch room t:=λσ x F G h r d=>by
 obtain⟨sl,i,D,a,s,u,j,w⟩:=h.mem;refine⟨⟨sl,i,λb=>D b/\b<σ.size,?_,?_,?_,λb a=>⟨(d b a.2 (j b a.1).1).1,(j b a.1).2⟩,w⟩,(d p a.lt h.fp).1,h.b1,h.r1,h.lr,h.low,h.all⟩
 ·obtain⟨e,m⟩:=a;exact⟨e,(d p (bX.lt ⟨e,m⟩) h.fp).2.trans m⟩
 ·exact bR.loc _ _ _ _ _ _ _ s r λb a g=>⟨⟨(d b a g.1).1,g.2.1,λhd=>g.2.2 hd.1⟩,(d b a g.1).2⟩
 ·exact oR.loc _ _ _ _ _ _ u r λb a hd=>⟨⟨hd,a⟩,(d b a (j b hd).1).2⟩
theorem iw.bK {σ':Hp}(h:iw σ F p batch room t)(e:bO σ σ'):iw σ' F p batch room t:=dR.bK iw.loc h e
theorem Hl (h:iw σ F p batch room t){R:aO}(hR:R true σ):WK.c (aW p) σ R:=by
 refine WK.o ?_;unfold WK.v;obtain⟨sl,a,D,b,_⟩:=h.mem;have:=h.b1;refine bY.intro (cJ rfl (aG (b.rI rfl ?_)));rw[zW O];exact hR
theorem _root_.Go.Vc.cR.yP {s:Sl}{F:Rg}{sls:List Sl}(h:cR s 1 (sls.map nG) σ F){i:Nat}{x:Sl}(hx:sls[i]?=some x){K:Sl->Prop}(hK:K x):Ix s.a s.len (i:Int) 1 λa=>jn a σ K:=by
 have m:=(cQ.1 hx).1;obtain⟨b,o,d,g⟩:=h.cell (j:=i) (v:=nG x) (by simp[hx]);have e:=h.1;rw[za]at e;rw[d];refine ix O O ?_;rw[add_lit];exact oh (by simpa[nG]using g) hK
theorem NP (h1:1<=batch)(h2:batch<=32)(h3:room<=8){R:Option Addr->Int->Hp->Prop}(hR:∀σ' p,bO σ σ'->σ.size<=p->p<σ'.size->iw σ' (· = p) p batch room ⟨0,[]⟩->R (some ⟨p,0,none⟩) 0 σ'):ZZ.c batch room σ R:=by
 refine ZZ.o ?_;unfold ZZ.v;refine bY.intro (fG O (bY.intro (fG O (bY.intro (fG O (fG O ?_))))));refine nw (cs:=[.int .i64 batch,.int .i64 room,.int .i64 0,.slice none 0 0]) λv g e a=>?_;exact hR v _ e (zD _) O ⟨⟨⟨none,0,0⟩,[],λ_=>False,a,bR.nil _ _ _ _,⟨rfl,λi s d h=>by simp at h⟩,λb h=>h.elim,List.Pairwise.nil⟩,rfl,⟨h1,h2⟩,h3,by simp,by simp,by simp⟩
theorem Rm (h:iw σ F p batch room t){sl:Sl}{xs:List Int}{X:Rg}(hs:cR sl 1 (Wv xs) σ X)(hl:xs.length<=1000000){R:Bool->Int->Hp->Prop}(h1:xs.length≠batch->R false 1 σ)(h2:xs.length=batch->room<=t.bs.length->R false 0 σ)
 (h3:xs.length=batch->t.bs.length<room->∀σ',Ext F σ σ'->iw σ' (Grow F σ) p batch room {t with bs:=t.bs++[xs]}->R true 0 σ'):Xb.c (aW p) sl σ R:=by
 refine Xb.o ?_;unfold Xb.v;have h:=iw.loc.cut h;obtain⟨H,w,D,d,hr,A,M,hJ⟩:=h.mem;have r:sl.len=xs.length:=by have:=hs.1;simp[Wv]at this;omega
 have hso:H.len=t.bs.length:=by have:=hr.1;rw[za,A.1]at this;omega
 have hr8:=h.r1;have hb1:=h.b1;refine Hl h (cG rfl (aG (d.rI rfl ?_)));rw[tx];refine cU (λB=>h1 (by rw[←r];simpa using B)) λW=>?_;have g:xs.length=batch:=by rw[←r];simpa using W
 refine aG (d.rS rfl (aG (d.rI rfl (cI (λab=>h2 g (by simp only at ab;omega)) λY=>?_))));simp only at Y;refine⟨λh'=>bX h' p [.int .i64 (batch:Int),.int .i64 (room:Int),.int .i64 (t.low:Int),.slice H.a H.len H.cap],d,aG ⟨H,λh' V=>by rw[add_lit,V.cell];rfl,?_⟩⟩;refine Hr hs Va O λC v1 hl1 y x=>⟨y.bZ d id,?_⟩;refine nw (cs:=[.slice C.a C.len C.cap]) λv2 hz2 E Q=>⟨(y.trans E).bZ d id,?_⟩;have N:=aI.bK (aI.bK hr y) E;refine N.app (ys:=[nG C]) rfl rfl ?_ (by simp[dN,nG]) ?_ ?_ nA λs2 v3 hl3 U P=>aG ?_
 ·intro j u hu;rw[add_lit,zG,Q.cell];exact hu
 ·simp only;have:(H.len+1)*24<=9*24:=kL O O;omega
 ·simp only;omega
 ·have aa:=U.bZ ((y.trans E).bZ d id) λJ=>J.2.1 rfl;have hplt:=d.lt;have hs1:=y.1;refine aa.s1 aA λv4 o4 S=>h3 g O v4 ?_ ?_
  ·exact((bO.to (y.trans E)).trans (U.sub λb d=>d.1.1)).trans (o4.ext.sub λb d=>d▸h.fp.1)
  ·refine⟨⟨s2,w++[C],λb=>D b/\b<σ.size\/σ.size<=b/\b<v1.size,S,?_,⟨by simp[A.1],λi s ys z m=>?_⟩,λb d=>?_,?_⟩,.inl h.fp.1,h.b1,h.r1,by simp;omega,by have:=h.low;simp;omega,λys m=>?_⟩
   ·rw[zr];refine aI.bU (aI.mono P λb _ d=>?_) o4.ext λb _ d Z=>d.2.1 Z;rcases d with d|d
    ·exact⟨.inl d.1.1,d.2.1,λhd=>by
      rcases hd with hd|hd
      ·exact d.2.2 hd.1
      ·have:=d.1.2;omega⟩
    ·exact⟨.inr O,O,λhd=>by rcases hd with hd|hd<;>omega⟩
   ·have mv:∀{s:Sl} {ys:List Int} {G:Rg},cR s 1 (Wv ys) v2 G->(∀b,G b->b≠p/\¬(Cut F σ b/\b≠p/\¬D b))->cR s 1 (Wv ys) v4 G:=λV hn=>
     aH.bU (aH.bU V U λb _ d=>(hn b d).2) o4.ext λb _ d Z=>(hn b d).1 Z
    rcases l8 i w.length with hi'|hi'
    ·rw[zd hi']at z;rw[zd (by rw[←A.1];exact hi')]at m;obtain⟨k1,k2⟩:=A.2 i s ys z m;refine⟨aH.mono (mv (aH.bK (aH.bK (aH.mono k1 (G:=λb=>D b/\b<σ.size) λb d hd=>⟨hd,d⟩) y) E) λb hd=>⟨(M b hd.1).2,λJ=>J.2.2 hd.1⟩) λb _ hd=>.inl hd,k2⟩
    ·rw[zo hi']at z;rw[zo (by rw[←A.1];exact hi')]at m;have L:i-w.length=0:=by
      have:=(cQ.1 z).1;simp at this;omega
     rw[L]at z;rw[show i-t.bs.length=0 by rw[←A.1];exact L]at m;simp at z m;subst z;subst m;have K:C.len<=C.cap:=by
      rcases x.2 with⟨q1,q2⟩|⟨_,_,_,_,_,q,_⟩
      ·omega
      ·exact q
     refine⟨aH.mono (mv (aH.bK (aH.mono x.gp (G:=λb=>σ.size<=b/\b<v1.size) λb d hd=>⟨hd,d⟩) E) λb hd=>⟨O,λJ=>by have:=J.1.2;omega⟩) λb _ hd=>.inr hd,K⟩
   ·rcases d with hd|hd
    ·exact⟨.inl (M b hd.1).1.1,(M b hd.1).2⟩
    ·exact⟨.inr hd.1,O⟩
   ·have B:∀ys∈t.bs,ys≠[]:=λys m e=>by have:=iw.all ‹_› ys m;rw[e]at this;simp at this;omega
    exact hJ.snoc A B (λb hd=>(M b hd).1.2) x (by simp only[Wv,ne_eq,Ad];intro e;rw[e]at g;simp at g;omega)
   ·rcases zR.1 m with h|h
    ·exact iw.all ‹_› ys h
    ·simp at h;subst h;exact g
theorem NV (h:iw σ F p batch room t)(h0:t.bs=[]){R:Sl->Int->Hp->Prop}(hR:R ⟨none,0,0⟩ 4 σ):Wz.c (aW p) σ R:=by
 refine Wz.o ?_;unfold Wz.v;obtain⟨i,e,D,g,b,d,j,m⟩:=h.mem;have a:i.len=t.bs.length:=by have:=b.1;rw[za,d.1]at this;omega
 refine Hl h (cG rfl (aG (g.rS rfl (cJ ?_ hR))));simp[a,h0]
theorem Pm (h:iw σ F p batch room t)(h0:t.bs≠[]){R:Sl->Int->Hp->Prop}(hR:∀out σ',Ext F σ σ'->(∀b,lu out b->F b)->cR out 1 (Wv (t.bs.getLast?.getD [])) σ' (lu out)->out.len<=out.cap->iw σ' (λb=>F b/\¬lu out b) p batch room t.rem->R out 0 σ'):Wz.c (aW p) σ R:=by
 refine Wz.o ?_;unfold Wz.v;obtain⟨M,g,D,d,J,y,B,V⟩:=h.mem;have hso:M.len=t.bs.length:=by have:=J.1;rw[za,y.1]at this;omega
 have Y:=qo.2 h0;have hr8:=h.r1;have hfw:=h.lr;have aa:=h.low;have U:t.bs.length-1<g.length:=by rw[y.1];omega
 obtain⟨o,N⟩:∃o,g[t.bs.length-1]?=some o:=⟨_,cM U⟩;have j:t.bs[t.bs.length-1]?=some (t.bs.getLast?.getD []):=by
  rw[List.getLast?_eq_getElem?,cM O];rfl
 obtain⟨W,k2⟩:=y.2 _ o _ N j;refine Hl h (cG rfl (aG (d.rS rfl (cG ?_ ?_))))
 ·simp only[m8];omega
 refine aG (d.rS rfl (cA (m:=t.bs.length-1) aC O (aG (d.rS rfl ?_))));refine J.gp.yP N (aG (d.rS rfl ?_));have X:M.len<=M.cap:=by
  rcases J.2 with⟨q1,q2⟩|⟨_,_,_,_,_,q,_⟩
  ·omega
  ·exact q
 refine jc (lo:=0) O aD aD (aG (d.s1 aA λv1 o1 G=>aG (G.rI rfl (aG ?_))))
 refine G.s1 aA λv2 o2 u=>?_;have r:Ext (· = p) σ v2:=o1.ext.trans o2.ext;have C:(if((t.bs.length-1:Nat):Int)<(t.low:Int)then((t.bs.length-1:Nat):Int)else(t.low:Int))=((min t.low (t.bs.length-1):Nat):Int):=by split<;>omega
 rw[C]at u;have S:∀x∈t.bs,x≠[]:=λx w e=>by have Z:=h.all x w;have h2:=h.b1;rw[e]at Z;simp at Z;omega
 have z:∀b,lu o b->D b:=λb d=>(W.bZ (by simp only[Wv,ne_eq,Ad];exact S _ (zE j)) d).1;refine hR o v2 (r.sub λb d=>d▸h.fp) (λb d=>(B b (z b d)).1) (aH.mono (aH.bU W r λb _ d E=>(B b d).2 E).yR λb _ hd=>hd.2) k2 ⟨⟨_,g.dropLast,λb=>D b/\¬lu o b,u,?_,⟨by simp[y.1,fQ.rem],λi s x H w=>?_⟩,λb hd=>⟨⟨(B b hd.1).1,hd.2⟩,(B b hd.1).2⟩,List.Pairwise.sublist (List.dropLast_sublist _) V⟩,⟨h.fp,λd=>(B p (z p d)).2 rfl⟩,h.b1,h.r1,by simp[fQ.rem];omega,by simp[fQ.rem];omega,λx w=>h.all x (List.dropLast_subset _ w)⟩
 ·refine aI.bU ?_ r λb _ d E=>d.2.1 E;refine⟨by simp[y.1],?_⟩;rcases J.2 with⟨q1,q2⟩|⟨b,cs,hq,Q,hbb,hle,hcl,ht⟩
  ·omega
  ·refine .inr ⟨b,cs,⟨⟨hq.1,λd=>hq.2.2 (z b d)⟩,hq.2.1,λhd=>hq.2.2 hd.1⟩,?_,hbb,by simp only;omega,by simp only;omega,?_⟩
   ·simp only[Q];split<;>simp[add_lit]
   ·simp only[za]at ht ⊢;have hd:g.dropLast.map nG=(g.map nG).take (g.length-1):=by rw[xK,List.map_take]
    rw[hd,←ht,yj,Bp]
    congr 1;omega
 ·have A:i<t.bs.length-1:=by
   have:=(cQ.1 w).1;simpa[fQ.rem]using this
  rw[xK,zX]at H;simp only[fQ.rem,xK,zX]at w;rw[zB (by rw[y.1];exact A)]at H;rw[zB A]at w;obtain⟨m1,m2⟩:=y.2 i s x H w;refine⟨aH.mono (aH.bU m1 r λb _ d E=>(B b d).2 E).yR λb _ d=>⟨d.1,λu=>?_⟩,m2⟩;obtain⟨a,Q,e1⟩:=d.2;obtain⟨a',P,e2⟩:=u;obtain⟨L,rfl⟩:=cQ.1 H;obtain⟨K,rfl⟩:=cQ.1 N;exact kj.1 V i _ L K A a a' Q P (e1.trans e2.symm)
theorem MY {s:Sl}{vs:List Value}(h:cR s 1 vs σ F)(h1:∀v∈vs,dN v=true)(hl:s.len<=1000000){R:Sl->Hp->Prop}
 (hR:∀s' σ',s'.len=s.len->bO σ σ'->bR s' 1 vs σ' (λb=>σ.size<=b)->R s' σ'):WL.c s σ R:=by
 refine WL.o ?_;unfold WL.v;exact G8 h aB rfl h1 aB hl hR
def tJ (out:Sl)(bs:List (List Int))(σ:Hp)(G:Rg):Prop:=∃sls:List Sl,cR out 1 (sls.map nG) σ G/\oR sls bs σ G
theorem tJ.loc (out:Sl)(bs:List (List Int)):dR (tJ out bs):=λσ i F G ⟨a,g,e⟩ b d=>⟨a,cR.loc _ _ _ _ _ _ _ g b d,oR.loc _ _ _ _ _ _ e b d⟩
theorem RY (h:iw σ F p batch room t){R:Sl->Hp->Prop}(hR:∀out σ',Ext F σ σ'->tJ out t.out σ' F->iw σ' (Grow F σ) p batch room t.tick->R out σ'):Xk.c (aW p) σ R:=by
 refine Xk.o ?_;unfold Xk.v;refine XL.o ?_;unfold XL.v;have J:=h;have h:=iw.loc.cut h;obtain⟨x,d,D,e,S,z,N,hJ⟩:=h.mem;have Z:x.len=t.bs.length:=by have:=S.1;rw[za,z.1]at this;omega
 have hr8:=h.r1;have hfw:=h.lr;have hlow:=h.low;obtain⟨n,M⟩:∃n,n=(t.low+1)/2:=⟨_,rfl⟩;have hnl:n<=t.bs.length:=by omega
 refine nw (cs:=[.func (.func 245) #[] #[]]) λv1 hz1 A U=>?_;have h1:=h.bK A;have u:=A.bZ e id;refine Hl h1 (cG rfl ?_);refine⟨⟨245,#[],#[]⟩,by rw[add_lit,U.cell];rfl,?_⟩;refine GF (all := #[.pointer (some ⟨p,0,none⟩)]) (by kernel_rfl) aA ?_;refine XJ.o ?_;unfold XJ.v;refine aG (u.rI rfl (cA (m:=t.low+1) O O (nz aB (cA (m:=n) (by rw[YK O];omega) O ?_))));refine aG (u.rS rfl ?_);have hcap:x.len<=x.cap:=by
  rcases S.2 with⟨q1,q2⟩|⟨_,_,_,_,_,q,_⟩
  ·omega
  ·exact q
 have H:=aI.bK S A;have Q:=(oR.loc _ _).bK z A;refine jc (lo:=0) O O aD (aG (u.rS rfl (jc aD aD aD ?_)))
 have w:∀(s:Sl) (a m:Nat),(s.len=m)->a+m<=d.length->(m=0\/∀b,x.a=some ⟨b,0,none⟩->s.a=some ⟨b,a,none⟩)->cR s 1 (((d.drop a).take m).map nG) v1 (λb=>Cut F σ b/\b≠p/\¬D b):=by
  intro s a m hs ham hsa;refine⟨by simp;omega,?_⟩;rcases wk m with h0|h0
  ·left;subst h0;simp
  ·rcases H.gp.2 with q|⟨b,o,cs,q1,q2,q3,q4⟩
   ·have:d=[]:=by simpa using q
    subst this;simp at ham;omega
   ·rcases H.2 with⟨z1,z2⟩|⟨b',cs',w1,w2,w3,w4,w5,w6⟩
    ·rw[z.1]at ham;omega
    ·rcases hsa with hm|hsa
     ·omega
     ·refine .inr ⟨b',a,cs',w1,hsa b' w2,w3.q,λj hj=>?_⟩;simp only[za,zO,zu]at hj;have:cs'[a+j]?=(d.map nG)[a+j]? := by
       rw[←w6,zX,zB (by rw[za];omega)]
      rw[this];simp only[ze,zX,zp];rw[zB O]
 have hso2:x.len=d.length:=by rw[z.1];exact Z
 refine MY (w _ n (d.length-n) aC O ?_) PK aC λs' v3 X C E=>?_
 ·by_cases hz:x.cap=n
  ·left;omega
  ·right;intro b hbs;simp only[zA hz,hbs];simp[add_lit]
 have Y:=C.bZ u id;refine aG (Y.s1 aA λv4 o4 L=>aG (L.rS rfl (aG (L.s1 aA λv5 o5 P=>?_))));have g:Ext (· = p) v3 v5:=o4.ext.trans o5.ext;have hs1:=A.1;have hs3:=C.1;have hplt:=e.lt;have V:(d.drop 0).take n=d.take n:=by simp
 refine hR _ v5 ?_ ⟨d.take n,?_,?_⟩ ⟨⟨s',d.drop n,λb=>D b/\b<σ.size,?_,?_,?_,?_,List.Pairwise.sublist (C0 _ _) hJ⟩,.inl J.fp,h.b1,h.r1,?_,?_,?_⟩
 ·exact(bO.to (A.trans C)).trans (g.sub λb e=>e▸J.fp)
 ·have:=w ⟨if n=0 then x.a else x.a.map (·.add (0*1)),n-0,n-0⟩ 0 n aA O (by
   by_cases hz:n=0
   ·exact .inl hz
   ·right;intro b hbs;simp only[zA hz,hbs];simp[add_lit])
  rw[V]at this;exact aH.mono (aH.bU (aH.bK this C) g λb _ e B=>e.2.1 B) λb _ e=>e.1.1
 ·refine⟨by simp[z.1,fQ.out,M],λi s K y r=>?_⟩;simp only[fQ.out,←M]at r;rw[zX]at y r;split at y
  ·rename_i hin;rw[zB hin]at r;obtain⟨W,m2⟩:=Q.2 i s K y r;exact⟨aH.mono (aH.bU (aH.bK W C) g λb _ e B=>(N b e).2 B) λb _ e=>(N b e).1.1,m2⟩
  ·cases y
 ·have:((s'.len:Nat):Int)=((t.tick.low:Nat):Int):=by
   rw[X];simp only[fQ.tick,zu,←M];omega
  rw[this]at P;exact P
 ·have hh:((d.drop n).take (d.length-n))=d.drop n:=mV aA;rw[hh]at E;refine aI.bU (aI.mono E λb _ e=>?_) g λb _ e B=>e.2.1 B;exact⟨.inr O,O,λhd=>O⟩
 ·refine⟨by simp[z.1,fQ.tick,M],λi s K y r=>?_⟩;simp only[fQ.tick,←M]at r;rw[zp]at y r;obtain⟨W,m2⟩:=z.2 _ s K y r;exact⟨aH.bU (aH.bK (aH.bK (aH.mono W (G:=λb=>D b/\b<σ.size) λb e hd=>⟨hd,e⟩) A) C) g λb _ e B=>(N b e.1).2 B,m2⟩
 ·exact λb hd=>⟨.inl (N b hd.1).1.1,(N b hd.1).2⟩
 ·simp only[fQ.tick,zu];omega
 ·simp[fQ.tick]
 ·exact λK r=>h.all K (qi r)
theorem Pk {n:Nat}(hn:n<=1000000){R:Sl->Hp->Prop}(hR:∀s' σ',bO σ σ'->bR s' 1 [] σ' (λb=>σ.size<=b)->R s' σ'):XG.c ⟨none,0,0⟩ (n:Int) σ R:=by
 refine XG.o ?_;unfold XG.v;refine Jn.intro (fG O (cA (m:=0) aA O (cA (m:=n) aA O (cI (λi=>?_) λu=>hR _ _ (Ext.refl _ _) (bR.nil _ _ _ _)))));refine jc (lo:=0) (hi:=0) (mx:=0) O O aA ?_;refine⟨O,[],by simp,by simp[Rd],by simp[dN],by simp only[dC];omega,by simp only[dC];omega,O,λa=>by simp only[dC]at a;omega,λe cc p=>?_⟩;refine nw λr j s d=>?_;simp only[dC]at *;have g:n<=cc:=by omega
 refine jc (lo:=0) (hi:=0) (mx:=cc) O O aC (hR _ r s ⟨by simp,.inr ⟨σ.size,_,zD _,?_,d,by simp,?_,by simp⟩⟩)
 ·simp only;split<;>simp[add_lit]
 ·simp only[pU,zK,vA,sM,vJ,zP,ma,Nat.sub_zero];omega
theorem IB (bs:List (List Int)){i:Nat}{xs:List Int}(h:bs[i]?=some xs):(bs.take (i+1)).flatten=(bs.take i).flatten++xs:=by
 rw[zg,h];simp
theorem iw.flat (h:iw σ F p batch room t):t.bs.flatten.length<=256:=by
 have key:∀l:List (List Int),(∀a∈l,a.length=batch)->l.flatten.length=batch*l.length:=by
  intro l
  induction l with
  | nil=>intro _;simp
  | cons x l ih=>
   intro hl;rw[uU,zK,hl x aA,ih λa b=>hl a (by simp[b]),zP,Nat.mul_add];omega
 rw[key t.bs h.all];have d:=h.b1;have e:=h.lr;have g:=h.r1;have:batch*t.bs.length<=32*8:=kL d.2 O;omega
theorem Jf (bs:List (List Int))(i:Nat):(bs.take i).flatten.length<=bs.flatten.length:=by
 conv=>rhs;rw[←mZ i bs,Dl,zK]
 omega
theorem SS (h:iw σ F p batch room t){R:Sl->Hp->Prop}(hR:∀s' σ',bO σ σ'->s'.len=t.bs.flatten.length->bR s' 1 (Wv t.bs.flatten) σ' (λb=>σ.size<=b)->R s' σ'):W1.c (aW p) σ R:=by
 refine W1.o ?_;unfold W1.v;have S:=h.flat;obtain⟨N,j,D,J,K,B,hD,hJ⟩:=h.mem;have W:N.len=t.bs.length:=by have:=K.1;rw[za,B.1]at this;omega
 have ab:=h.lr;have V:=h.r1;refine Hl h (cG rfl (aG (J.rS rfl ?_)));refine XD.o ?_;unfold XD.v;refine Ko (a:=bN) (bb:=bN) (λ(n u:Int) v=>∃i:Nat,u=(i:Int)/\i<=t.bs.length/\v=σ/\n=(((t.bs.take i).flatten.length:Nat):Int)) (λ_ u _=>t.bs.length-u.toNat) ⟨0,rfl,O,rfl,by simp⟩ ?_;rintro n u v ⟨i,rfl,U,rfl,rfl⟩;refine cI (λx=>?_) λz=>?_
 ·simp only at x;have d:i<t.bs.length:=by omega
  have r:i<j.length:=by rw[B.1];exact d
  refine K.gp.yP (cM r) ?_;obtain⟨C,Z⟩:=B.2 i _ _ (cM r) (cM d);have A:j[i].len=t.bs[i].length:=by have:=C.1;simp[Wv]at this;omega
  have E:=IB t.bs (cM d);have L:=Jf t.bs (i+1);refine cA (m:=(t.bs.take (i+1)).flatten.length) (by rw[E,zK,A];omega) O (fG O (cA (m:=i+1) O O ⟨⟨i+1,rfl,O,rfl,rfl⟩,O⟩))
 ·have y:i=t.bs.length:=by simp only at z;omega
  subst y;rw[zn];refine Pk O λs1 v1 P H=>?_;refine Ko (a:=.s) (bb:=bN) (λ(s:Sl) (u:Int) w=>∃i:Nat,u=(i:Int)/\i<=t.bs.length/\bO v w/\bR s 1 (Wv (t.bs.take i).flatten) w (λb=>v.size<=b)) (λ_ u _=>t.bs.length-u.toNat) ⟨0,rfl,O,P,by simpa[Wv]using H⟩ ?_;rintro s u w ⟨i,rfl,U,e,g⟩;refine cI (λx=>?_) λz=>?_
  ·simp only at x;have d:i<t.bs.length:=by omega
   have r:i<j.length:=by rw[B.1];exact d
   refine(aI.bK K e).gp.yP (cM r) ?_;obtain⟨C,Z⟩:=B.2 i _ _ (cM r) (cM d);have A:j[i].len=t.bs[i].length:=by have:=C.1;simp[Wv]at this;omega
   have M:=h.all _ (zc d);have aa:=h.b1;have E:=IB t.bs (cM d);have L:=Jf t.bs (i+1);have Y:s.len=(t.bs.take i).flatten.length:=by have:=g.1;simp only[Wv,za]at this;omega
   rw[E,zK]at L;refine g.app (ys:=Wv t.bs[i]) rfl (by simp[Wv];omega) (aH.bK C e).rd Va ?_ O O λs' w' X Q G=>?_
   ·have:(s.len+j[i].len)*8<=512*8:=kL O O;omega
   ·refine cA (m:=i+1) O O ⟨⟨i+1,rfl,O,Ext.fresh e Q λ_ h=>h,?_⟩,O⟩;rw[E];have:Wv ((t.bs.take i).flatten++t.bs[i])=Wv (t.bs.take i).flatten++Wv t.bs[i]:=by simp[Wv]
    rw[this];exact aI.mono G λb _ J=>by
     rcases J with h|h
     ·exact h
     ·exact zI e.1 h
  ·have y:i=t.bs.length:=by simp only at z;omega
   subst y;rw[zn]at g;exact hR s w e (by have:=g.1;simp only[Wv,za]at this;omega) g
end Go.Ar
namespace Go.Ar
open Go Go.Vc Go.Proofs
open Go.Bu (Zf)
variable {σ:Hp}{F:Rg}{p:Nat}{ow:Nat->Nat}
end Go.Ar
namespace Go.Proofs
open Go.Vc
set_option maxRecDepth 100000
def XA.h:Hn:=.q .o1 (.q .o1 (.q (.q .o3 (.k (.loop [(3,.I),(7,.I)] (.q .o1 (.q (.c .l .l) (.q (.k (.q .o2 (.q .o8 (.c .o3 .l)))) .o2)))))) .aL))
def XA.v (a:R2)(b:Hp)(c:aN):Prop:=Xw.c a b λd e=>W7 [bN,bN] (λf=>f 0 0 e) λg (h:Int) (i:Int) j=>If (i<d) (bE a 0 j λl=>Ix l.a l.len i 2 λm=>aZ m 0 j λn=>If n (bL (h+1) λo=>bL (i+1) λp=>g o p j) (bL (i+1) λq=>g h q j)) (c h j)
theorem XA.o {a b c}(d:XA.v a b c):XA.c a b c:=Wa Tryz.func71 (x:=XA.h) (R0 d)
def Xv.h:Hn:=.q .o1 (.q (.q .o3 .aK) (.q .o6 .l))
def Xv.v (a:R2)(b:Hp)(c:aN):Prop:=Xs.c a b λd e=>If (!d) (c 0 e) (bI a 1 e λg=>oB .i64 .s g e λh=>c h e)
theorem Xv.o {a b c}(d:Xv.v a b c):Xv.c a b c:=Wa Tryz.func72 (x:=Xv.h) (R0 d)
def Xw.h:Hn:=.q .o1 (.q (.q .o3 .aK) (.q .o6 .l))
def Xw.v (a:R2)(b:Hp)(c:aN):Prop:=Xs.c a b λd e=>If (!d) (c 0 e) (bE a 0 e λg=>c ((g.len:Nat):Int) e)
theorem Xw.o {a b c}(d:Xw.v a b c):Xw.c a b c:=Wa Tryz.func103 (x:=Xw.h) (R0 d)
def Xs.h:Hn:=.q .o1 (.q (.cV (.seq [.op,.op,.op,.dA true 6 (RI.ops 6),.op])) .l)
def Xs.v (a:R2)(b:Hp)(c:aO):Prop:=bY (λd e=>c d e) λf=>If (!a.isNone) (bE a 0 b λh=>f (decide (((h.len:Nat):Int)>0)) b) (f false b)
theorem Xs.o {a b c}(d:Xs.v a b c):Xs.c a b c:=Wa Tryz.func104 (x:=Xs.h) (R0 d)
def X6.h:Hn:=.q .o1 (.q (.k (.q .o4 (.c .aM (.q .o3 (.c .aM (.q (.cV (.seq [.op,.op,.op,.dA false 3 (RI.ops 3),.op])) .aK)))))) (.q .fV (.q (.q (.cV (.hO true [] [(50,.one .b)] (.tk [0,1,2,3,4,5,6,7] (.split 39 (.tk [8,9,10,11,12,13,14,15,16,17,18] (.done)) (.tk [8,9,10,11,12,13,14,15,16] (.all [(17,.take 18 (.done))])))))) .aK) .aM)))
def X6.v (a:R2)(b c:Int)(d:Hp)(e:aN):Prop:=Xs.c a d λf g=>If (!f) (e 5 g) (If (c==0) (e 0 g) (bY (λh i=>If h (e 7 i) (Nz 256<|bL (b.tdiv 256) λj=>Nz 8<|bL (b.tdiv 8) λk=>bL (k+c) λl=>bL (l-1) λm=>Nz 32<|bL (m.tdiv 32) λn=>Jn [.b] (λ(o:Bool) p=>If o (e 7 p) (e 0 p)) λq=>dU i λr=>bS a λs=>aT r s 0 λt=>If (n≥((t.len:Nat):Int)) (q true i) (bS a λu=>aT r u 0 λv=>bL (n+1) λw=>eX v 2 j w (v.cap:Nat) λx=>gP r .b ((Addr.mk 0 0 none).add 0) λ(y:Bool)=>gP r .b ((Addr.mk 0 0 none).add 1) λ(z:Bool)=>Wj.c x y z i λaa ab=>And (r ab) <| q aa ab))) λac=>If (b<0) (ac true g) (Nz 8 <| ac ((b.tmod 8) != 0) g)))
theorem X6.o {a b c d e}(f:X6.v a b c d e):X6.c a b c d e:=Wa Tryz.func116 (x:=X6.h) (R0 f)
def Q0.h:Hn:=.q .o2 (.q (.q (.cV (.seq [.op,.op,.op,.dA false 2 [.op,.op]])) .aJ) (.q .o7 .l))
def Q0.v (a:Int)(b:Hp)(c:Option Addr->Int->Hp->Prop):Prop:=bY (λd e=>If d (c none 1 e) (Mk a a 2 160 [.bool false,.bool false] e λf g=>Nw (.map #[] 0) g λh i=>aV #[.slice f.a f.len f.cap,.map (some h.block),.I 0] 164 i λj k=>c (some j) 0 k)) λl=>If (a<1) (l true b) (l (decide (a>1024)) b)
theorem Q0.o {a b c}(d:Q0.v a b c):Q0.c a b c:=Wa Tryz.func124 (x:=Q0.h) (R0 d)
def YF.h:Hn:=.q .o1 (.q (.q .o4 (.q .o2 .aJ)) (.q .o5 .aM))
def YF.v (a:R2)(b c:Int)(d:Hp)(e:aN):Prop:=X6.c a b 1 d λf g=>If (f != 0) (e f g) (Nz 8<|bL (b.tdiv 8) λh=>Zk.c a h c g λi=>e 0 i)
theorem YF.o {a b c d e}(f:YF.v a b c d e):YF.c a b c d e:=Wa Tryz.func130 (x:=YF.h) (R0 f)
def Zk.h:Hn:=.q .o3 (.jD [] (.q (.oq 9) (.c (.q (.cV (.tail 7 (RI.ops 7) [.op])) (.q (.cV (.held true [6] (.tk [0,1,2,3,4] (.all [(5,.all [(6,.done)])])))) (.cV (.tail 13 (RI.ops 13) [.op])))) .l)) (.o 11))
def Zk.v (a:R2)(b c:Int)(d:Hp)(e:aP):Prop:=Nz 32<|bL (b.tdiv 32) λf=>Jn [] (λg=>bI a 1 g λi=>Lk .i64 .s i f g λj=>Nz 32 <| Ix (j.getD ⟨none,0,0⟩).a (j.getD ⟨none,0,0⟩).len (b.tmod 32) 1 λk=>dG k (.I c) g λl=>e l) λm=>bE a 0 d λo=>Ix o.a o.len f 2 λp=>aZ p 0 d λq=>aZ p 1 d λr=>ko ((Addr.mk 1 0 none).add 0) d λs=>ko ((Addr.mk 1 0 none).add 1) d λt=>If (!((q==s)&&((r==t)&&true))) (bE a 0 d λv=>ko ((Addr.mk 1 0 none).add 0) d λw=>ko ((Addr.mk 1 0 none).add 1) d λx=>Ix v.a v.len f 2 λy=>aR y 0 (.bool w) d λz=>aR y 1 (.bool x) z λaa=>dU aa λab=>bS a λac=>gP ab .m (ac.add 1) λ(ad:Option Nat)=>Mk 32 32 8 3 [.I 0] aa λae af=>And (ab af) <| kR .i64 .s ad f ae af λag=>bD a 2 ag λai=>bI a 1 ag λak=>oB .i64 .s ak ag λal=>bS a λam=>aR am 2 (.I (if al>ai then al else ai)) ag λan=>m an) (m d)
theorem Zk.o {a b c d e}(f:Zk.v a b c d e):Zk.c a b c d e:=Wa Tryz.func169 (x:=Zk.h) (R0 f)
def XH.h:Hn:=.q .o1 (.q .o6 .l)
def XH.v (a:R2)(b c:Int)(d:Hp)(e:aN):Prop:=ko ((Addr.mk 2 0 none).add 0) d λf=>ko ((Addr.mk 2 0 none).add 1) d λg=>XQ.c a b c f g d λh i=>e h i
theorem XH.o {a b c d e}(f:XH.v a b c d e):XH.c a b c d e:=Wa Tryz.func193 (x:=XH.h) (R0 f)
def YC.h:Hn:=.q .o1 (.q .o6 .l)
def YC.v (a:R2)(b c:Int)(d:Hp)(e:aN):Prop:=ko ((Addr.mk 0 0 none).add 0) d λf=>ko ((Addr.mk 0 0 none).add 1) d λg=>XQ.c a b c f g d λh i=>e h i
theorem YC.o {a b c d e}(f:YC.v a b c d e):YC.c a b c d e:=Wa Tryz.func197 (x:=YC.h) (R0 f)
def XQ.h:Hn:=.q .o2 (.q .o9 (.q (.k (.q .o3 (.c .aL (.q .o4 .aK)))) (.q .o5 .aM)))
def XQ.v (a:R2)(b c:Int)(d e:Bool)(f:Hp)(g:aN):Prop:=aV #[.bool d,.bool e] 160 f λh i=>YV.c a b c i λj k l=>If (k != 0) (g k l) (ko ((Addr.mk 0 0 none).add 0) l λm=>ko ((Addr.mk 0 0 none).add 1) l λn=>Wj.c j m n l λo p=>If o (g 7 p) (aZ h 0 p λq=>aZ h 1 p λr=>YU.c a b c q r p λs=>g 0 s))
theorem XQ.o {a b c d e f g}(h:XQ.v a b c d e f g):XQ.c a b c d e f g:=Wa Tryz.func236 (x:=XQ.h) (R0 h)
def YV.h:Hn:=.q .o2 (.q (.k (.q .o4 (.c .aL (.q (.cV (.seq [.op,.op,.op,.dA false 2 [.op,.op],.op,.dA false 7 (RI.ops 7),.op,.dA false 9 (RI.ops 9),.op])) .aJ)))) (.q (.o 11) .l))
def YV.v (a:R2)(b c:Int)(d:Hp)(e:Sl->Int->Hp->Prop):Prop:=Xs.c a d λf g=>If (!f) (e ⟨none,0,0⟩ 5 g) (bY (λh i=>bY (λj k=>bY (λl m=>If l (e ⟨none,0,0⟩ 1 m) (bE a 0 m λo=>bL (b+c) λp=>eX o 2 b p (o.cap:Nat) λq=>e q 0 m)) λr=>If j (r true k) (bE a 0 k λt=>bL (((t.len:Nat):Int)-b) λu=>r (decide (c>u)) k)) λv=>If h (v true i) (bE a 0 i λx=>v (decide (b>((x.len:Nat):Int))) i)) λy=>If (b<0) (y true g) (y (decide (c<1)) g))
theorem YV.o {a b c d e}(f:YV.v a b c d e):YV.c a b c d e:=Wa Tryz.func271 (x:=YV.h) (R0 f)
def YU.h:Hn:=.q .o1 (.q .o2 (.k (.loop [(8,.I)] (.q (.q .o5 (.c .l .l)) (.q (.k (.q (.cV (.tail 7 (RI.ops 7) [.op])) .o6)) .o3)))))
def YU.v (a:R2)(b c:Int)(d e:Bool)(f:Hp)(g:aP):Prop:=aV #[.bool d,.bool e] 160 f λh i=>W7 [bN] (λj=>j b i) λk (l:Int) m=>bL (b+c) λn=>If (l<n) (bE a 0 m λp=>aZ h 0 m λq=>aZ h 1 m λr=>Ix p.a p.len l 2 λs=>aR s 0 (.bool q) m λt=>aR s 1 (.bool r) t λu=>bI a 1 u λw=>mh .i64 .s w l u λx=>bL (l+1) λy=>k y x) (g m)
theorem YU.o {a b c d e f g}(h:YU.v a b c d e f g):YU.c a b c d e f g:=Wa Tryz.func272 (x:=YU.h) (R0 h)
def Zm.h:Hn:=.q .o1 (.q .o9 (.q (.k (.q .o3 (.c .aL (.q .o3 .aK)))) (.q .o5 .aM)))
def Zm.v (a:R2)(b c:Int)(d:Hp)(e:aN):Prop:=YV.c a b c d λf g h=>If (g != 0) (e g h) (Wh.c f ⟨301,#[],#[]⟩ h λi j=>If i (e 5 j) (ko ((Addr.mk 2 0 none).add 0) j λk=>ko ((Addr.mk 2 0 none).add 1) j λl=>YU.c a b c k l j λm=>e 0 m))
theorem Zm.o {a b c d e}(f:Zm.v a b c d e):Zm.c a b c d e:=Wa Tryz.func280 (x:=Zm.h) (R0 f)
def YM.h:Hn:=.q .o2 (.q .o4 .l)
def YM.v (a b:Bool)(c:Hp)(d:aO):Prop:=aV #[.bool a,.bool b] 160 c λe f=>aZ e 0 f λg=>aZ e 1 f λh=>ko ((Addr.mk 0 0 none).add 0) f λi=>ko ((Addr.mk 0 0 none).add 1) f λj=>d (!((g==i)&&((h==j)&&true))) f
theorem YM.o {a b c d}(e:YM.v a b c d):YM.c a b c d:=Wa Tryz.func301 (x:=YM.h) (R0 e)
end Go.Proofs
namespace Go.Ar
open Go Go.Vc Go.Proofs
open Go.Bu (Zf)
variable {σ:Hp}{F:Rg}{p q r:Nat}{sp:Sp}
structure Gl (σ:Hp):Prop where
 c0:cell σ ⟨2,0,none⟩=some (.bool true)
 c1:cell σ ⟨2,1,none⟩=some (.bool false)
 u0:cell σ ⟨0,0,none⟩=some (.bool false)
 u1:cell σ ⟨0,1,none⟩=some (.bool false)
structure Gc (σ:Hp):Prop where
 d0:cell σ ⟨1,0,none⟩=some (.bool true)
 d1:cell σ ⟨1,1,none⟩=some (.bool true)
structure Gd (σ:Hp):Prop where
 lt:1<σ.size
def iW (F:Rg):Prop:=∀b,F b->b≠2/\b≠0
theorem QQ {h:Hp}{b o:Nat}{v:Value}(hc:cell h ⟨b,o,none⟩=some v):b<h.size:=(EI hc).1
theorem Gl.bU {σ':Hp}(g:Gl σ)(e:Ext F σ σ')(hF:iW F):Gl σ':=by
 have b:¬F 2:=λh=>(hF _ h).1 rfl;have a:¬F 0:=λh=>(hF _ h).2 rfl;exact⟨(QN e (QQ g.c0) b).trans g.c0,(QN e (QQ g.c1) b).trans g.c1,(QN e (QQ g.u0) a).trans g.u0,(QN e (QQ g.u1) a).trans g.u1⟩
theorem Gc.bU {σ':Hp}(g:Gc σ)(e:Ext F σ σ')(hF:¬F 1):Gc σ':=⟨(QN e (QQ g.d0) hF).trans g.d0,(QN e (QQ g.d1) hF).trans g.d1⟩
theorem Gc.bK {σ':Hp}(g:Gc σ)(e:bO σ σ'):Gc σ':=g.bU e id
theorem Gd.bU {σ':Hp}(g:Gd σ)(e:Ext F σ σ')(hF:¬F 1):Gd σ':=⟨vL g.lt e.1⟩
theorem Gd.bK {σ':Hp}(g:Gd σ)(e:bO σ σ'):Gd σ':=g.bU e id
theorem Gc.gd (g:Gc σ):Gd σ:=⟨QQ g.d0⟩
theorem Gl.bK {σ':Hp}(g:Gl σ)(e:bO σ σ'):Gl σ':=g.bU e λ_ h=>h.elim
theorem iW.grow (hF:iW F)(g:Gl σ):iW (Grow F σ):=λb a=>by
 rcases a with h|h
 ·exact hF b h
 ·have e:=QQ g.c0;have d:=QQ g.u0;exact⟨O,O⟩
theorem iW.sub {G:Rg}(hF:iW F)(h:∀b,G b->F b):iW G:=λb a=>hF b (h b a)
def fN:Nat->Bool×Bool
 | 0=>(false,false)
 | 1=>(true,false)
 | _=>(true,true)
def ia (st:List Nat):List Value:=st.flatMap λx=>[.bool (fN x).1,.bool (fN x).2]
theorem Vi (l:List Nat):(ia l).length=2*l.length:=by
 induction l with
 | nil=>rfl
 | cons x l ih=>simp only[ia,mS,zK,zP,ma]at *;omega
theorem Ds {l:List Nat}{i x:Nat}(h:l[i]?=some x):(ia l)[2*i]?=some (.bool (fN x).1)/\(ia l)[2*i+1]?=some (.bool (fN x).2):=by
 induction l generalizing i with
 | nil=>simp at h
 | cons y l ih=>
  have e:ia (y::l)=[.bool (fN y).1,.bool (fN y).2]++ia l:=by simp[ia]
  rw[e];cases i with
  | zero=>simp at h;subst h;simp
  | succ i=>
   have:=ih (i:=i) (by simpa using h);rw[show 2*(i+1)=2*i+2 by omega];simpa using this
theorem EA {l:List Nat}{i v:Nat}(h:i<l.length)(rest:List Value):((ia l++rest).set (2*i) (.bool (fN v).1)).set (2*i+1) (.bool (fN v).2)=ia (l.set i v)++rest:=by
 induction l generalizing i with
 | nil=>simp at h
 | cons y l ih=>
  have e:∀z m,ia (z::m)=.bool (fN z).1 :: .bool (fN z).2::ia m:=λz m=>by simp[ia]
  cases i with
  | zero=>simp[e]
  | succ i=>
   have:=ih (i:=i) (by simpa using h);rw[si,e,e,show 2*(i+1)=2*i+1+1 by omega];simp only[lQ,si];rw[this]
theorem BS {x y:Nat}(hx:x<=2)(hy:y<=2):(((fN x).1==(fN y).1)&&(((fN x).2==(fN y).2)&&true))=(x==y):=by
 match x,y,hx,hy with
 | 0,0,_,_=>rfl
 | 1,1,_,_=>rfl
 | 2,2,_,_=>rfl
 | 0,1,_,_=>rfl
 | 0,2,_,_=>rfl
 | 1,0,_,_=>rfl
 | 1,2,_,_=>rfl
 | 2,0,_,_=>rfl
 | 2,1,_,_=>rfl
theorem Kh {α:Type}(x:Int×α)(l:List (Int×α))(k:Int):bV (x::l) k=if x.1=k then some x.2 else bV l k:=by
 unfold bV;rw[uZ];by_cases h:x.1=k
 ·simp[h]
 ·have:(x.1==k)=false:=by simpa using h
  rw[this,zA h]
theorem P9 {α:Type}(l:List (Int×α))(n k:Int)(v:α):bV (l.map λx=>if x.1==n then(n,v)else x) k=if k=n then(if l.any (λx=>x.1==n)then some v else none)else bV l k:=by
 induction l with
 | nil=>simp[bV]
 | cons x l ih=>
  rw[zJ,Kh,ih,Kh,List.any_cons];by_cases hx:x.1=n
  ·by_cases hk:k=n
   ·subst hk;simp[hx]
   ·have:¬n=k:=λe=>hk e.symm;simp[hx,hk,this]
  ·have a:(x.1==n)=false:=by simpa using hx
   simp only[a,zb,zy,ym];by_cases hk:k=n
   ·subst hk;simp[hx]
   ·simp[hk]
theorem PI {α:Type}(l:List (Int×α))(n k:Int)(v:α)(h:l.any (λx=>x.1==n)=false):bV (l++[(n,v)]) k=if k=n then some v else bV l k:=by
 induction l with
 | nil=>
  rw[pU,Kh];by_cases hk:k=n
  ·simp[hk]
  ·have:¬n=k:=λe=>hk e.symm;simp[hk,this,bV]
 | cons x l ih=>
  rw[List.any_cons,Bool.or_eq_false_iff]at h;rw[lQ,Kh,ih h.2,Kh];have a:¬x.1=n:=by simpa using h.1
  by_cases hk:k=n
  ·subst hk;simp[a]
  ·simp[hk]
theorem Cy {α:Type}(l:List (Int×α))(n k:Int)(v:α):bV (dF l n v) k=if k=n then some v else bV l k:=by
 unfold dF;cases h:l.any (λx=>x.1==n)
 ·rw[zA aA,PI l n k v h]
 ·rw[zB rfl,P9,h];simp
theorem I2 {α:Type}(l:List (Int×α))(n k:Int):bV (cT l n) k=if k=n then none else bV l k:=by
 unfold cT
 induction l with
 | nil=>simp[bV]
 | cons x l ih=>
  rw[qU,Kh];by_cases hx:x.1=n
  ·have:(!(x.1==n))=false:=by simp[hx]
   rw[this];simp only[zb,zy,ih];by_cases hk:k=n
   ·simp[hk]
   ·have:¬x.1=k:=λe=>hk (e.symm.trans hx);simp[hk,this]
  ·have:(!(x.1==n))=true:=by simpa using hx
   rw[this,zB rfl,Kh,ih];by_cases hk:k=n
   ·subst hk;simp[hx]
   ·simp[hk]
theorem KA {α:Type}{l:List (Int×α)}{k:Int}{v:α}(h:bV l k=some v):(k,v)∈l:=by
 unfold bV at h;cases hf:l.find? (λx=>x.1==k)with
 | none=>rw[hf]at h;cases h
 | some x=>
  rw[hf]at h;have d:=sI hf;have b:=tZ hf;have e:x.1=k:=by simpa using d
  have a:x.2=v:=by simpa using h
  rw[←e,←a];exact b
theorem Φ {α:Type}{l:List (Int×α)}{k:Int}:(bV l k).isSome=true↔k∈l.map (·.1):=by
 unfold bV;rw[Option.isSome_map,Bg];simp
def JJ (σ:Hp)(s:Sl)(b:Nat)(f:Nat->Int):Prop:=s.a=some ⟨b,0,none⟩/\s.len=32/\32<=s.cap/\∃cs,bX σ b cs/\32<=cs.length/\∀j,j<32->cs[j]?=some (.int .i64 (f j))
structure fL (σ:Hp) (F:Rg) (p q r:Nat) (l:List (Int×Sl)) (B:Nat->Nat) (sp:Sp):Prop where
 hd:∃cap,sp.st.length<=cap/\bX σ p [.slice (some ⟨q,0,none⟩) sp.st.length cap,.map (some r),.int .i64 (sp.pk:Int)]
 row:∃rest,bX σ q (ia sp.st++rest)
 map:dL σ r .i64 .s l
 keys:∀x:Int,(bV l x).isSome=true↔∃k:Nat,x=k/\sp.st[k]?=some 2
 wd:∀(k:Nat) s,bV l (k:Int)=some s->JJ σ s (B k) λj=>sp.wd (32*k+j)
 inj:∀k k':Nat,sp.st[k]?=some 2->sp.st[k']?=some 2->B k=B k'->k=k'
 out:∀k:Nat,sp.st[k]?=some 2->F (B k)/\B k≠p/\B k≠q/\B k≠r
 fs:F p/\F q/\F r/\p≠q/\p≠r/\q≠r
 zero:∀w:Nat,sp.st[w/32]?≠some 2->sp.wd w=0
 n1:1<=sp.st.length
 n2:sp.st.length<=1024
 qs:∀x∈sp.st,x<=2
 pk:sp.pk<=1024
def dE (σ:Hp)(F:Rg)(p:Nat)(sp:Sp):Prop:=∃q r l B,fL σ F p q r l B sp
theorem fL.entry {l:List (Int×Sl)}{B:Nat->Nat}(h:fL σ F p q r l B sp){k:Nat}(hk:sp.st[k]?=some 2):∃s,bV l (k:Int)=some s/\JJ σ s (B k) λj=>sp.wd (32*k+j):=by
 have:=(h.keys (k:Int)).2 ⟨k,rfl,hk⟩;obtain⟨s,a⟩:=qC.1 this;exact⟨s,a,h.wd k s a⟩
theorem fL.dK {l:List (Int×Sl)}{B:Nat->Nat}(h:fL σ F p q r l B sp){k:Nat}{s:Sl}(hs:bV l (k:Int)=some s):sp.st[k]?=some 2:=by
 obtain⟨k',e,a⟩:=(h.keys (k:Int)).1 (by rw[hs];rfl);have:k=k':=by omega
 subst this;exact a
theorem dE.loc:dR λσ F=>dE σ F p sp:=λσ M F G ⟨q,r,l,B,h⟩ N w=>by
 have d:∀{b:Nat} {i:List Value},bX σ b i->F b->bX M b i/\G b:=by
  rintro b i ⟨e,C⟩ J;have:=w b (bX.lt ⟨e,C⟩) J;exact⟨⟨e,this.2.trans C⟩,this.1⟩
 obtain⟨c,H,hd⟩:=h.hd;obtain⟨rest,a⟩:=h.row;obtain⟨L,m,z,E⟩:=h.map;have j:=w r (mF.1 z).1 h.fs.2.2.1;refine⟨q,r,l,B,⟨c,H,(d hd h.fs.1).1⟩,⟨rest,(d a h.fs.2.1).1⟩,⟨L,m,j.2.trans z,E⟩,h.keys,λk s g=>?_,h.inj,λk g=>?_,⟨(d hd h.fs.1).2,(d a h.fs.2.1).2,j.1,h.fs.2.2.2⟩,h.zero,h.n1,h.n2,h.qs,h.pk⟩
 ·obtain⟨y,x,A,i,u,D⟩:=h.wd k s g;exact⟨y,x,A,i,(d u (h.out k (h.dK g)).1).1,D⟩
 ·obtain⟨s,K,y,x,A,i,u,D⟩:=h.entry g;exact⟨(d u (h.out k g).1).2,(h.out k g).2⟩
theorem dE.bK {σ':Hp}(h:dE σ F p sp)(e:bO σ σ'):dE σ' F p sp:=dR.bK dE.loc h e
variable {l:List (Int×Sl)}{B:Nat->Nat}
theorem fL.rS (h:fL σ F p q r l B sp){K:Sl->Prop}(hK:∀cap,sp.st.length<=cap->K ⟨some ⟨q,0,none⟩,sp.st.length,cap⟩):jn (Addr.add ⟨p,0,none⟩ 0) σ K:=by
 obtain⟨c,a,hd⟩:=h.hd;exact hd.rS rfl (hK c a)
theorem fL.rM (h:fL σ F p q r l B sp){K:Option Nat->Prop}(hK:K (some r)):mQ (Addr.add ⟨p,0,none⟩ 1) σ K:=by
 obtain⟨c,a,hd⟩:=h.hd;exact hd.rM rfl hK
theorem fL.xZ (h:fL σ F p q r l B sp){i x:Nat}(hx:sp.st[i]?=some x){K:Bool->Bool->Prop}(hK:K (fN x).1 (fN x).2):ko (Addr.add ⟨q,2*i,none⟩ 0) σ λa=>ko (Addr.add ⟨q,2*i,none⟩ 1) σ λb=>K a b:=by
 obtain⟨rest,d⟩:=h.row;have g:=(cQ.1 hx).1;have e:=Ds hx;refine d.rB (x:=(fN x).1) ?_ (d.rB (x:=(fN x).2) ?_ hK)
 ·rw[zt,zd (by rw[Vi];omega)];exact e.1
 ·rw[zd (by rw[Vi];omega)];exact e.2
theorem Hg (h:dE σ F p sp){R:aO}(hR:R true σ):Xs.c (aW p) σ R:=by
 refine Xs.o ?_;unfold Xs.v;obtain⟨q,r,l,B,h⟩:=h;have:=h.n1;refine bY.intro (cJ rfl (aG (h.rS λcap _=>?_)));rw[zW aC];exact hR
theorem Be (h:dE σ F p sp){R:aN}(hR:R (sp.st.length:Int) σ):Xw.c (aW p) σ R:=by
 refine Xw.o ?_;unfold Xw.v;have a:=h;obtain⟨q,r,l,B,h⟩:=h;exact Hg a (cG rfl (aG (h.rS λcap _=>hR)))
def VK (st:List Nat):Nat:=st.countP (· != 0)
theorem F4 (h:dE σ F p sp){R:aN}(hR:R (VK sp.st:Int) σ):XA.c (aW p) σ R:=by
 refine XA.o ?_;unfold XA.v;have y:=h;obtain⟨q,r,l,B,h⟩:=h;have n2:=h.n2;refine Be y ?_;refine Ko (a:=bN) (bb:=bN) (λ(n t:Int) v=>∃i:Nat,t=(i:Int)/\i<=sp.st.length/\v=σ/\n=(VK (sp.st.take i):Int)) (λ_ t _=>sp.st.length-t.toNat) ⟨0,rfl,O,rfl,by simp[VK]⟩ ?_;rintro n t v ⟨i,rfl,C,rfl,rfl⟩;refine cI (λu=>?_) λz=>?_
 ·have d:i<sp.st.length:=by omega
  have g:sp.st[i]?=some sp.st[i]:=cM d;have w:=h.qs _ (zc d);have e:VK (sp.st.take (i+1))=VK (sp.st.take i)+if sp.st[i]=0 then 0 else 1:=by
   rw[zg,g];simp only[VK,tf,uV,qR,List.countP_nil,zG];by_cases h0:sp.st[i]=0<;>simp[h0]
  have s:VK (sp.st.take i)<=i:=zI vt aE;refine aG (h.rS λcap j=>ix O aC ?_);rw[add_lit,show 0+(i:Int).toNat*2=2*i by omega];obtain⟨rest,b⟩:=h.row;have A:=Ds g;refine b.rB (x:=(fN sp.st[i]).1) (by rw[zt,zd (by rw[Vi];omega)];exact A.1) ?_;by_cases h0:sp.st[i]=0
  ·rw[zB h0]at e;have:(fN sp.st[i]).1=false:=by rw[h0];rfl
   exact cG this (cA (m:=i+1) O O ⟨⟨i+1,rfl,O,rfl,by rw[e];rfl⟩,O⟩)
  ·rw[zA h0]at e;have:(fN sp.st[i]).1=true:=by
    match sp.st[i],h0 with
    | 0,h=>exact absurd rfl h
    | 1,_=>rfl
    | n+2,_=>rfl
   exact cJ this (cA (m:=VK (sp.st.take i)+1) O O (cA (m:=i+1) O O ⟨⟨i+1,rfl,O,rfl,by rw[e]⟩,O⟩))
 ·have:i=sp.st.length:=by omega
  subst this;rw[zn]at *;exact hR
theorem fL.se (h:fL σ F p q r l B sp):l.length=sp.st.count 2:=by
 have j:=h.map.nodup;have m:(l.map (·.1)).Perm (((List.range sp.st.length).filter λk=>sp.st[k]?==some 2).map λk=>((k:Nat):Int)):=by
  rw[wL j]
  ·intro x;rw[←Φ,h.keys];simp only[zC,zH,zU,zZ];constructor
   ·rintro⟨k,rfl,hk⟩;exact⟨k,⟨(cQ.1 hk).1,hk⟩,rfl⟩
   ·rintro⟨k,⟨_,hk⟩,rfl⟩;exact⟨k,rfl,hk⟩
  ·have g:((List.range sp.st.length).filter λk=>sp.st[k]?==some 2).Pairwise (· ≠ ·):=List.Pairwise.sublist rO xf;exact List.Pairwise.map _ (λa b (e:a≠b) d=>e (by exact_mod_cast d)) g
 have i:=m.length_eq;simp only[za]at i;rw[i,←wq];have key:∀st:List Nat,(List.range st.length).countP (λk=>st[k]?==some 2)=st.count 2:=by
  intro st
  induction st with
  | nil=>rfl
  | cons x st ih=>
   rw[zP,zv,qR,List.countP_map,List.count_cons,←ih]
   congr 1
 exact key sp.st
theorem A9 (h:dE σ F p sp){R:aN}(hR:R (sp.st.count 2:Int) σ):Xv.c (aW p) σ R:=by
 refine Xv.o ?_;unfold Xv.v;have a:=h;obtain⟨q,r,l,B,h⟩:=h;refine Hg a (cG rfl (aG (h.rM ⟨l,h.map,?_⟩)));rw[h.se];exact hR
end Go.Ar
namespace Go.Ar
open Go Go.Vc Go.Proofs
open Go.Bu (Zf)
variable {σ:Hp}{F:Rg}{p q r:Nat}{sp:Sp}{l:List (Int×Sl)}{B:Nat->Nat}
theorem RJ (l:List Nat)(n:Nat):ia (l.take n)=(ia l).take (2*n):=by
 induction l generalizing n with
 | nil=>simp[ia]
 | cons y l ih=>
  have e:∀z m,ia (z::m)=.bool (fN z).1 :: .bool (fN z).2::ia m:=λz m=>by simp[ia]
  cases n with
  | zero=>simp[ia]
  | succ n=>
   rw[sx,e,e,ih,show 2*(n+1)=2*n+1+1 by omega];simp
theorem Ml (l:List Nat)(n:Nat):ia (l.drop n)=(ia l).drop (2*n):=by
 induction l generalizing n with
 | nil=>simp[ia]
 | cons y l ih=>
  have e:∀z m,ia (z::m)=.bool (fN z).1 :: .bool (fN z).2::ia m:=λz m=>by simp[ia]
  cases n with
  | zero=>simp[ia]
  | succ n=>
   rw[yb,e,ih,show 2*(n+1)=2*n+1+1 by omega];simp
theorem SG (n v:Nat):ia (List.replicate n v)=(List.replicate n [Value.bool (fN v).1,.bool (fN v).2]).flatten:=by
 induction n with
 | zero=>rfl
 | succ n ih=>rw[wh,wh,uU,←ih];simp[ia]
theorem _root_.Go.Vc.cR.xZ {s:Sl}{l:List Nat}(h:cR s 2 (ia l) σ F){i x:Nat}(hx:l[i]?=some x){K:Bool->Bool->Prop}(hK:K (fN x).1 (fN x).2) :
 Ix s.a s.len (i:Int) 2 λa=>ko (a.add 0) σ λu=>ko (a.add 1) σ λw=>K u w:=by
 have r:=(cQ.1 hx).1;have j:=Ds hx;obtain⟨b,o,g,p⟩:=h.cell j.1;obtain⟨y,o1,d,e⟩:=h.cell j.2;rw[g]at d;cases d;have m:=h.1;rw[Vi]at m;rw[g];refine ix O O ?_;rw[add_lit];refine lI ?_ (lI ?_ hK)<;>rw[add_lit]
 ·rw[show o+(i:Int).toNat*2+0=o+2*i by omega];exact p
 ·rw[show o+(i:Int).toNat*2+1=o+(2*i+1) by omega];exact e
theorem _root_.Go.Vc.cR.wo {s:Sl}{l:List Nat}(h:cR s 2 (ia l) σ F):s.len=l.length:=by
 have:=h.1;rw[Vi]at this;omega
theorem LR {s:Sl}{xs:List Nat}(h:cR s 2 (ia xs) σ F)(hl:xs.length<=1000000)(h2:∀x∈xs,x<=2){v:Nat}(hv:v<=2){R:aN}
 (hR:∀(t:Int) σ',bO σ σ'->decide (t≥0)=xs.contains v->R t σ'):Wn.c s (fN v).1 (fN v).2 σ R:=by
 refine Wn.o ?_;unfold Wn.v;have u:=h.wo;refine nw (cs:=[.bool (fN v).1,.bool (fN v).2]) λw G e z=>?_;have h:=aH.bK h e;refine ZU (a:=bN) (λ(t:Int) y=>∃i:Nat,t=(i:Int)/\i<=xs.length/\y=w/\∀j,j<i->xs[j]?≠some v) (λt _=>xs.length-t.toNat) ⟨0,rfl,O,rfl,λj g=>O⟩ ?_;rintro t y ⟨i,rfl,E,rfl,b⟩;refine cI (λC=>?_) λD=>?_
 ·have d:i<xs.length:=by omega
  have A:xs[i]?=some xs[i]:=cM d;refine z.rB rfl (z.rB rfl (h.xZ A ?_));rw[BS hv (h2 _ (zc d))];refine cU (λr=>?_) λr=>?_
  ·have:v=xs[i]:=by simpa using r
   refine hR _ _ e ?_;have B:xs.contains v=true:=by rw[this];simp
   rw[B,zW O]
  ·have p:¬v=xs[i]:=by simpa using r
   refine cA (m:=i+1) O O ⟨⟨i+1,rfl,O,rfl,λj g=>?_⟩,O⟩;by_cases e:j=i
   ·subst e;rw[A];intro e2;cases e2;exact p rfl
   ·exact b j O
 ·refine hR _ _ e ?_;have:xs.contains v=false:=by
   simp only[sj,decide_eq_false_iff_not];intro hm;obtain⟨j,g⟩:=zN hm;have:=(cQ.1 g).1;exact b j O g
  rw[this];rfl
theorem GK {s:Sl}{xs:List Nat}(h:cR s 2 (ia xs) σ F)(hl:xs.length<=1000000)(h2:∀x∈xs,x<=2){v:Nat}(hv:v<=2){R:aO}
 (hR:∀σ',bO σ σ'->R (xs.contains v) σ'):Wj.c s (fN v).1 (fN v).2 σ R:=by
 refine Wj.o ?_;unfold Wj.v;refine nw (cs:=[.bool (fN v).1,.bool (fN v).2]) λw g e a=>a.rB rfl (a.rB rfl ?_);refine LR (aH.bK h e) hl h2 hv λt σ' b d=>?_;rw[d];exact hR σ' (Ext.trans e b)
theorem Mr (g:Gl σ){x:Nat}(hx:x<=2){R:aO}(hR:∀σ',bO σ σ'->R (x != 0) σ'):YM.c (fN x).1 (fN x).2 σ R:=by
 refine YM.o ?_;unfold YM.v;refine nw (cs:=[.bool (fN x).1,.bool (fN x).2]) λv d e a=>a.rB rfl (a.rB rfl ?_);have g:=g.bK e;refine lI (by rw[←g.u0];rfl) (lI (by rw[←g.u1];rfl) ?_);have b:(((fN x).1==false)&&(((fN x).2==false)&&true))=(x==0):=BS hx (y:=0) O;rw[b];exact hR v e
theorem Ng {s:Sl}{xs:List Nat}(h:cR s 2 (ia xs) σ F)(g:Gl σ)(hl:xs.length<=1000000)(h2:∀x∈xs,x<=2){R:aO}
 (hR:∀σ',bO σ σ'->R (xs.any (· != 0)) σ'):Wh.c s ⟨301,#[],#[]⟩ σ R:=by
 refine Wh.o ?_;unfold Wh.v;refine Wm.o ?_;unfold Wm.v;have z:=h.wo;refine ZU (a:=bN) (λ(t:Int) E=>∃i:Nat,t=(i:Int)/\i<=xs.length/\bO σ E/\∀(j x:Nat),j<i->xs[j]?=some x->x=0) (λt _=>xs.length-t.toNat) ⟨0,rfl,O,Ext.refl _ _,λj x r=>O⟩ ?_;rintro t w ⟨i,rfl,H,e,p⟩;refine cI (λC=>?_) λG=>?_
 ·have b:i<xs.length:=by omega
  have B:xs[i]?=some xs[i]:=cM b;refine(aH.bK h e).xZ B ?_;refine GF (all := #[.agg #[.bool (fN xs[i]).1,.bool (fN xs[i]).2]]) (by kernel_rfl) aA ?_;refine Mr (g.bK e) (h2 _ (zc b)) λD A=>?_;refine cU (λy=>?_) λy=>?_
  ·have:xs.any (· != 0)=true:=j9.2 ⟨_,zc b,y⟩;have:=hR D (Ext.trans e A);rw[‹xs.any (· != 0)=true›]at this;show R (decide ((i:Int)≥0)) _;rw[zW O];exact this
  ·have u:xs[i]=0:=by simpa using y
   refine cA (m:=i+1) O O ⟨⟨i+1,rfl,O,Ext.trans e A,λj x r d=>?_⟩,O⟩;by_cases e:j=i
   ·subst e;rw[B]at d;cases d;exact u
   ·exact p j x O d
 ·have:xs.any (· != 0)=false:=by
   rw[np];intro x hm;obtain⟨j,r⟩:=zN hm;have:=(cQ.1 r).1;simpa using p j x O r
  have:=hR w e;rw[‹xs.any (· != 0)=false›]at this;exact this
theorem fL.part (h:fL σ F p q r l B sp){x y c:Nat}(hl:x+y<=sp.st.length):cR ⟨some ⟨q,2*x,none⟩,y,c⟩ 2 (ia ((sp.st.drop x).take y)) σ F:=by
 obtain⟨rest,b⟩:=h.row;have a:(ia ((sp.st.drop x).take y)).length=y*2:=by rw[Vi,zO,zu];omega
 refine⟨a,.inr ⟨q,2*x,_,h.fs.2.1,rfl,b.q,λj d=>?_⟩⟩;rw[a]at d;rw[zd (by rw[Vi];omega),RJ,Ml,zX,zB O,zp]
theorem FW (h:dE σ F p sp)(a m:Int){R:Sl->Int->Hp->Prop}(h0:Zf sp.st.length a m=false->R ⟨none,0,0⟩ 1 σ)
 (h1:∀(x y:Nat) s,a=x->m=y->1<=y->x+y<=sp.st.length->cR s 2 (ia ((sp.st.drop x).take y)) σ F->R s 0 σ):YV.c (aW p) a m σ R:=by
 refine YV.o ?_;unfold YV.v;have w:=h;obtain⟨q,r,l,B,h⟩:=h;have n2:=h.n2;have b:¬(0<=a/\1<=m/\m<=sp.st.length-a)->R ⟨none,0,0⟩ 1 σ:=λg=>h0 (by simp only[Zf,←uX];exact zh g);refine Hg w (cG rfl (bY.intro (cI (λz=>bY.intro (cJ rfl (bY.intro (cJ rfl (cJ rfl (b O)))))) λz=>?_)));refine bY.intro (cI (λi=>bY.intro (cJ rfl (cJ rfl (b O)))) λi=>aG (h.rS λcap d=>?_));simp only;refine bY.intro (cI (λA=>cJ rfl (b O)) λA=>?_);refine aG (h.rS λcap d=>ar aC aC ?_);simp only;refine cI (λj=>b O) λj=>?_;obtain⟨x,rfl⟩:=zk (show 0<=a by omega);obtain⟨y,rfl⟩:=zk (show 0<=m by omega);refine aG (h.rS λcap d=>cA (m:=x+y) O O ?_);refine jc O aC (zD _) ?_;simp only;rw[zA O];refine h1 x y _ rfl rfl O O ?_;have:=h.part (x:=x) (y:=y) (c:=cap-x) O;have e:(Option.map (λ(u:Addr)=>u.add (x*2)) (some (⟨q,0,none⟩:Addr)))=some ⟨q,2*x,none⟩:=by
  simp only[zf,add_lit];congr 2;omega
 rw[e,AJ];exact this
def Sp.kb (s:Sp)(k v:Nat):Sp:={s with st:=s.st.set k v,wd:=λw=>if k*32<=w/\w<(k+1)*32 then 0 else s.wd w}
theorem II {st:List Nat}(h:∀x∈st,x<=2){k v:Nat}(hv:v<=2):∀x∈st.set k v,x<=2:=by
 intro x hx;rcases vR hx with h1|h1
 ·exact h x h1
 ·omega
theorem fL.kb (h:fL σ F p q r l B sp){k v:Nat}(hk:k<sp.st.length)(hv:v<=1){σ':Hp}(e:Ext (λb=>b=q\/b=r) σ σ'){rest:List Value}
 (hb:bX σ' q (ia (sp.st.set k v)++rest)) (hm:dL σ' r .i64 .s (cT l (k:Int))):fL σ' F p q r (cT l (k:Int)) B (sp.kb k v):=by
 have d:∀j:Nat,(sp.st.set k v)[j]?=some 2↔j≠k/\sp.st[j]?=some 2:=λj=>by
  rw[oc];by_cases hjk:k=j
  ·subst hjk;rw[zB rfl,zB hk];constructor
   ·intro h;have:v=2:=by simpa using h
    omega
   ·intro h;exact absurd rfl h.1
  ·rw[zA hjk];exact⟨λh=>⟨λe=>hjk e.symm,h⟩,λh=>h.2⟩
 obtain⟨c,E,hd⟩:=h.hd;have C:¬(p=q\/p=r):=by have:=h.fs;omega
 refine⟨⟨c,by simpa[Sp.kb]using E,by simpa[Sp.kb]using e.bZ hd C⟩,⟨rest,hb⟩,hm,λx=>?_,λj s g=>?_,λj u D m=>?_,λj a=>?_,h.fs,λw y=>?_,by simpa[Sp.kb]using h.n1,by simpa[Sp.kb]using h.n2,II h.qs O,h.pk⟩
 ·rw[I2];by_cases hx:x=(k:Int)
  ·rw[zB hx];constructor
   ·intro h;cases h
   ·rintro⟨j,rfl,a⟩;have:=(d j).1 a;omega
  ·rw[zA hx,h.keys];constructor
   ·rintro⟨j,rfl,a⟩;exact⟨j,rfl,(d j).2 ⟨O,a⟩⟩
   ·rintro⟨j,rfl,a⟩;exact⟨j,rfl,((d j).1 a).2⟩
 ·rw[I2]at g;by_cases hx:(j:Int)=(k:Int)
  ·rw[zB hx]at g;cases g
  ·rw[zA hx]at g;obtain⟨M,J,G,L,H,K,z⟩:=h.wd j s g;have N:=h.out j (h.dK g);refine⟨M,J,G,L,e.bZ H O,K,λi A=>?_⟩;rw[z i A];simp only[Sp.kb];rw[zA O]
 ·exact h.inj j u ((d j).1 D).2 ((d u).1 m).2
 ·exact h.out j ((d j).1 a).2
 ·simp only[Sp.kb]at y ⊢;by_cases hin:k*32<=w/\w<(k+1)*32
  ·rw[zB hin]
  ·rw[zA hin];refine h.zero w λm=>y ((d _).2 ⟨O,m⟩)
theorem Sp.pC (s:Sp)(a v:Nat):s.set a 0 v=s:=by
 have d:fY s.st a (a+0) v=s.st:=by
  apply zz;intro i;rw[Hm];cases s.st[i]? with
  | none=>rfl
  | some x=>simp only[zf];rw[zA O]
 have b:(λw=>if a*32<=w/\w<(a+0)*32 then 0 else s.wd w)=s.wd:=by
  funext w;rw[zA O]
 simp only[Sp.set,d,b]
theorem Sp.pd (s:Sp)(a m v:Nat)(h:a+m<s.st.length):(s.set a m v).kb (a+m) v=s.set a (m+1) v:=by
 have d:(fY s.st a (a+m) v).set (a+m) v=fY s.st a (a+(m+1)) v:=by
  apply zz;intro i;rw[oc,Hm,Hm,Qj];by_cases hi:a+m=i
  ·subst hi;rw[zB rfl,zB h,cM h,zf,zB O]
  ·rw[zA hi];cases s.st[i]? with
   | none=>rfl
   | some x=>
    simp only[zf];by_cases hin:a<=i/\i<a+m
    ·rw[zB hin,zB O]
    ·rw[zA hin,zA O]
 have b:(λw=>if(a+m)*32<=w/\w<(a+m+1)*32 then 0 else(if a*32<=w/\w<(a+m)*32 then 0 else s.wd w))=λw=>if a*32<=w/\w<(a+(m+1))*32 then 0 else s.wd w:=by
  funext w
  by_cases d:(a+m)*32<=w/\w<(a+m+1)*32
  ·rw[zB d,zB O]
  ·rw[zA d];by_cases b:a*32<=w/\w<(a+m)*32
   ·rw[zB b,zB O]
   ·rw[zA b,zA O]
 simp only[Sp.set,Sp.kb,d,b]
theorem Ik (h:dE σ F p sp){x y v:Nat}(hl:x+y<=sp.st.length)(hv:v<=1){R:aP}(hR:∀σ',Ext F σ σ'->dE σ' F p (sp.set x y v)->R σ') :
 YU.c (aW p) x y (fN v).1 (fN v).2 σ R:=by
 refine YU.o ?_;unfold YU.v;have S:sp.st.length<=1024:=by obtain⟨q,r,l,B,h⟩:=h;exact h.n2
 have z:dE σ (Cut F σ) p sp:=dR.cut dE.loc h;refine nw (cs:=[.bool (fN v).1,.bool (fN v).2]) λu Z e g=>?_;have U:=z.bK e;refine ZU (a:=bN) (λ(t:Int) w=>∃i:Nat,t=((x+i:Nat):Int)/\i<=y/\Ext (Cut F σ) u w/\bX w σ.size [.bool (fN v).1,.bool (fN v).2]/\dE w (Cut F σ) p (sp.set x i v)) (λt _=>x+y-t.toNat)
  ⟨0,rfl,O,Ext.refl _ _,g,by rw[Sp.pC];exact U⟩ ?_
 rintro t w ⟨i,rfl,hi,L,j,q,r,l,B,d⟩;refine cA (m:=x+y) O O (cI (λW=>?_) λY=>?_)
 ·have G:(sp.set x i v).st.length=sp.st.length:=Qj _ _ _ _;refine aG (d.rS λcap K=>j.rB rfl (j.rB rfl (ix O aC ?_)));rw[add_lit,show 0+((x+i:Nat):Int).toNat*2=2*(x+i) by omega];obtain⟨rest,s⟩:=d.row;have N:x+i<(sp.set x i v).st.length:=by omega
  refine s.s1 (by rw[zK,Vi];omega) λw1 o1 X=>X.s1 (by rw[oP,zK,Vi];omega) λw2 o2 M=>?_;rw[zt,EA N]at M;have D:Ext (· = q) w w2:=o1.ext.trans o2.ext;obtain⟨c,Q,hd⟩:=d.hd;have C:=D.bZ hd d.fs.2.2.2.1;refine aG (C.rM rfl ⟨l,D.gL d.map (λe=>d.fs.2.2.2.2.2 e.symm),λw3 E _ A=>?_⟩);have o3:=E r rfl;have H:Ext (λb=>b=q\/b=r) w w3:=(D.sub λb g=>.inl g).trans (o3.ext.sub λb g=>.inr g);have J:=d.kb N hv H (Ws o3 M d.fs.2.2.2.2.2) A;rw[Sp.pd _ _ _ _ O]at J;have P:Ext (Cut F σ) w w3:=H.sub λb g=>by
   rcases g with rfl|rfl
   ·exact d.fs.2.1
   ·exact d.fs.2.2.1
  refine cA (m:=x+(i+1)) O O ⟨⟨i+1,rfl,O,L.trans P,P.bZ j λV=>by have:=V.2;omega,_,_,_,_,J⟩,O⟩
 ·have:i=y:=by omega
  subst this;refine hR w (Ext.cut (e.to.trans L)) (dR.mono dE.loc ⟨q,r,l,B,d⟩ λb _ g=>g.1)
theorem RM (h:dE σ F p sp)(g:Gl σ)(hF:iW F)(a m:Int){R:aN}(hR:∀σ',Ext F σ σ'->dE σ' F p (gC sp a m)->R (fC sp a m) σ') :
 Zm.c (aW p) a m σ R:=by
 refine Zm.o ?_;unfold Zm.v;have j:(∀x∈sp.st,x<=2)/\sp.st.length<=1024:=by obtain⟨q,r,l,B,h⟩:=h;exact⟨h.qs,h.n2⟩
 refine FW h a m (λu=>?_) λx y s G H M A C=>?_
 ·have d:fC sp a m=1:=by unfold fC;rw[u];rfl
  have i:gC sp a m=sp:=by unfold gC;rw[d];rfl
  have:=hR σ (Ext.refl _ _);rw[d,i]at this;exact cJ rfl (this h)
 ·subst G;subst H;have u:Zf sp.st.length (x:Int) (y:Int)=true:=by simp only[Zf,zF,zT];omega
  refine cG rfl (Ng C g (by rw[zO,zu];omega) (λz E=>j.1 z (qi (mK E))) λL d=>?_);have e:fC sp x y=if((sp.st.drop x).take y).any (· != 0)then 5 else 0:=by unfold fC;rw[u];rfl
  refine cU (λb=>?_) λb=>?_
  ·rw[b]at e;have i:gC sp x y=sp:=by unfold gC;rw[e];rfl
   have:=hR L (bO.to d);rw[e,i]at this;exact this (h.bK d)
  ·rw[b]at e;have i:gC sp x y=sp.set x y 1:=by unfold gC;rw[e];rfl
   have w:=g.bK d;refine lI (by rw[←w.c0];rfl) (lI (by rw[←w.c1];rfl) ?_);refine Ik (v:=1) (h.bK d) A O λJ D K=>?_;have:=hR J (Ext.trans (bO.to d) D);rw[e,i]at this;exact this K
theorem Jy (h:dE σ F p sp)(g:Gl σ)(hF:iW F)(a m:Int){v:Nat}(hv:v<=1){R:aN}(hR:∀σ',Ext F σ σ'->dE σ' F p (dX sp a m v)->R (fD sp a m) σ') :
 XQ.c (aW p) a m (fN v).1 (fN v).2 σ R:=by
 refine XQ.o ?_;unfold XQ.v;have H:(∀x∈sp.st,x<=2)/\sp.st.length<=1024:=by obtain⟨q,r,l,B,h⟩:=h;exact⟨h.qs,h.n2⟩
 have D:dE σ (Cut F σ) p sp:=dR.cut dE.loc h;refine nw (cs:=[.bool (fN v).1,.bool (fN v).2]) λu M e J=>?_;have G:=D.bK e;have d:∀w s',dE w (Cut F σ) p s'->dE w F p s':=λw s' h=>dR.mono dE.loc h λb _ J=>J.1;refine FW G a m (λK=>?_) λx y s S U Y N P=>?_
 ·have j:fD sp a m=1:=by unfold fD;rw[K];rfl
  have C:dX sp a m v=sp:=by unfold dX;rw[j];rfl
  have:=hR u (bO.to e);rw[j,C]at this;exact cJ rfl (this (d _ _ G))
 ·subst S;subst U;have K:Zf sp.st.length (x:Int) (y:Int)=true:=by simp only[Zf,zF,zT];omega
  have L:=g.bK e;refine cG rfl (lI (by rw[←L.u0];rfl) (lI (by rw[←L.u1];rfl) ?_));refine GK (v:=0) P (by rw[zO,zu];omega) (λz M=>H.1 z (qi (mK M))) O λX j=>?_;have A:fD sp x y=if((sp.st.drop x).take y).contains 0 then 7 else 0:=by unfold fD;rw[K];rfl
  refine cU (λi=>?_) λi=>?_
  ·rw[i]at A;have C:dX sp x y v=sp:=by unfold dX;rw[A];rfl
   have:=hR X (bO.to (Ext.trans e j));rw[A,C]at this;exact this (d _ _ (G.bK j))
  ·rw[i]at A;have C:dX sp x y v=sp.set x y v:=by unfold dX;rw[A];rfl
   have E:=Ext.bZ j J id;refine E.rB rfl (E.rB rfl ?_);refine Ik (G.bK j) N hv λV Q W=>?_;have:=hR V (Ext.cut (Ext.trans (bO.to (Ext.trans e j)) Q));rw[A,C]at this;exact this (d _ _ W)
theorem Pq (h:dE σ F p sp)(g:Gl σ)(hF:iW F)(a m:Int){R:aN}(hR:∀σ',Ext F σ σ'->dE σ' F p (dX sp a m 0)->R (fD sp a m) σ') :
 YC.c (aW p) a m σ R:=by
 refine YC.o ?_;unfold YC.v;exact lI (n:=(fN 0).1) g.u0 (lI (n:=(fN 0).2) g.u1 (Jy (v:=0) h g hF a m O hR))
theorem PX (h:dE σ F p sp)(g:Gl σ)(hF:iW F)(a m:Int){R:aN}(hR:∀σ',Ext F σ σ'->dE σ' F p (dX sp a m 1)->R (fD sp a m) σ') :
 XH.c (aW p) a m σ R:=by
 refine XH.o ?_;unfold XH.v;exact lI (n:=(fN 1).1) g.c0 (lI (n:=(fN 1).2) g.c1 (Jy (v:=1) h g hF a m O hR))
end Go.Ar