/- Texts joined. -/
import Derived.Lib.Overlaps
import Derived.Laws.Externs
import Derived.Test.YtkabjcanamcbeaaGreatDoorW2
set_option linter.unusedVariables false
set_option linter.unusedSimpArgs false
namespace Go.Ar
open Go Go.Vc Go.Proofs
open Go.Bu (Zf)
variable {σ:Hp}{F:Rg}{p q:Nat}{st:List Nat}
structure gI (σ:Hp) (p q:Nat) (st:List Nat):Prop where
 hd:∃cap,st.length<=cap/\bX σ p [.slice (some ⟨q,0,none⟩) st.length cap]
 row:∃rest,bX σ q (ints st++rest)
 ne:p≠q
 n1:16<=st.length
 n2:st.length<=1024
 n3:st.length%16=0
theorem gI.bU {σ':Hp}(h:gI σ p q st)(e:Ext F σ σ')(hp:¬F p)(hq:¬F q):gI σ' p q st:=
 ⟨by obtain⟨c,a,b⟩:=h.hd;exact⟨c,a,e.bZ b hp⟩,by obtain⟨r,a⟩:=h.row;exact⟨r,e.bZ a hq⟩,h.ne,h.n1,h.n2,h.n3⟩
theorem gI.bK {σ':Hp}(h:gI σ p q st)(e:bO σ σ'):gI σ' p q st:=h.bU e id id
theorem gI.lt (h:gI σ p q st):p<σ.size/\q<σ.size:=by
 obtain⟨_,_,a⟩:=h.hd;obtain⟨_,b⟩:=h.row;exact⟨a.lt,b.lt⟩
theorem gI.rS (h:gI σ p q st){K:Sl->Prop}(hK:∀cap,st.length<=cap->K ⟨some ⟨q,0,none⟩,st.length,cap⟩):jk (Addr.add ⟨p,0,none⟩ 0) σ K:=by
 obtain⟨c,a,b⟩:=h.hd;exact b.rS rfl (hK c a)
theorem gI.part (h:gI σ p q st){s:Sl}{a n:Nat}(ha:s.a=some ⟨q,a,none⟩)(hn:s.len=n)(hl:a+n<=st.length):cR s 1 (ints ((st.drop a).take n)) σ (· = q):=by
 obtain⟨r,e⟩:=h.row;have b:((st.drop a).take n).length=n:=by simp;omega
 refine e.fX ha (by rw[QE,b,hn];simp) λj d=>?_;rw[QE,b]at d;rw[zd (by rw[QE];omega)];simp[ints,zY,d,zo]
theorem Rb {s:Sl}{xs:List Nat}(h:cR s 1 (ints xs) σ F)(hl:xs.length<=1000000)(v:Nat){R:aN}(hR:R ((xs.count v:Nat):Int) σ):ZK.c s v σ R:=by
 refine ZK.o ?_;unfold ZK.v;have r:=h.jU;refine Kf (a:=bN) (bb:=bN) (λ(n t:Int) p=>∃i:Nat,t=(i:Int)/\i<=xs.length/\n=(((xs.take i).count v:Nat):Int)/\p=σ) (λ_ t _=>xs.length-t.toNat) ⟨0,rfl,O,by simp,rfl⟩ ?_;rintro n t p ⟨i,rfl,y,rfl,rfl⟩;refine cI (λu=>?_) λx=>?_
 ·have g:i<xs.length:=by omega
  have j:xs[i]?=some xs[i]:=cM g;have e:(xs.take (i+1)).count v=(xs.take i).count v+if xs[i]=v then 1 else 0:=by
   rw[zg,j,tB,uI,List.count_singleton]
   congr 1
   by_cases h:xs[i]=v<;>simp[h]
  have w:(xs.take i).count v<=i:=zI vM aE;refine h.oI j (cU (λd=>?_) λd=>?_)
  ·have b:xs[i]=v:=by rw[j3]at d;simpa using d
   rw[zB b]at e;exact cA (m:=(xs.take i).count v+1) O O (cA (m:=i+1) O O ⟨⟨i+1,rfl,O,by rw[e],rfl⟩,O⟩)
  ·have b:¬xs[i]=v:=by rw[j3]at d;simpa using d
   rw[zA b,zq]at e;exact cA (m:=i+1) O O ⟨⟨i+1,rfl,O,congrArg _ e.symm,rfl⟩,O⟩
 ·have:i=xs.length:=by omega
  subst this;rw[zl]at *;exact hR
theorem jr {b o n c:Nat}{cs:List Value}(hb:bX σ b cs)(hl:o+n<=cs.length)(hn:n<=1000000)(v:Nat){R:aP}
 (hR:∀σ',QD σ σ' b->bX σ' b (cs.take o++List.replicate n (.int .i64 (v:Int))++cs.drop (o+n))->R σ'):Qm.c ⟨some ⟨b,o,none⟩,n,c⟩ v σ R:=by
 refine Qm.o ?_;unfold Qm.v;refine ZU (a:=bN) (λ(t:Int) p=>∃i:Nat,t=(i:Int)/\i<=n/\QD σ p b/\bX p b (cs.take o++List.replicate i (.int .i64 (v:Int))++cs.drop (o+i))) (λt _=>n-t.toNat) ⟨0,rfl,O,⟨rfl,λ_ _=>rfl⟩,by simpa using hb⟩ ?_;rintro t p ⟨i,rfl,x,u,g⟩;refine cI (λr=>?_) λs=>?_
 ·simp only at r;refine ix O aC ?_;rw[add_lit];refine g.s0 aE λy d j=>?_;refine cA (m:=i+1) O O ⟨⟨i+1,rfl,O,⟨d.1.trans u.1,λk w=>(d.2 k w).trans (u.2 k w)⟩,?_⟩,O⟩;have:(cs.take o++List.replicate i (Value.int .i64 (v:Int))++cs.drop (o+i)).set (o+(i:Int).toNat*1) (Value.int .i64 (v:Int))=cs.take o++List.replicate (i+1) (Value.int .i64 (v:Int))++cs.drop (o+(i+1)):=by
   rw[Ai _ _ aE];have e:o+(i:Int).toNat*1-(cs.take o++List.replicate i (Value.int .i64 (v:Int))).length=0:=by simp;omega
   rw[e,qh O,List.set_cons_zero,Dt];simp[kJ,qn]
  rw[this]at j;exact j
 ·simp only at s;have:i=n:=by omega
  subst this;exact hR p u g
theorem gI.fill (h:gI σ p q st){a n:Nat}{r:List Value}{σ':Hp}{v:Nat}(hrow:bX σ q (ints st++r))(hl:a+n<=st.length)(ho:QD σ σ' q)
 (hb:bX σ' q ((ints st++r).take a++List.replicate n (.int .i64 (v:Int))++(ints st++r).drop (a+n))):gI σ' p q (fW st a (a+n) v):=by
 obtain⟨c,d,j⟩:=h.hd;have b:=Qj st a (a+n) v;refine⟨⟨c,by rw[b];exact d,?_⟩,⟨r,?_⟩,h.ne,by rw[b];exact h.n1,by rw[b];exact h.n2,by rw[b];exact h.n3⟩
 ·rw[b];exact Ws ho j h.ne
 ·rw[WnU O hl,Vk,Vk];have e:(ints st++r).take a=ints (st.take a):=by
   rw[pd (by rw[QE];omega)];simp[ints]
  have i:(ints st++r).drop (a+n)=ints (st.drop (a+n))++r:=by
   rw[List.drop_append_of_le_length (by rw[QE];omega)];simp[ints]
  have g:ints (List.replicate (a+n-a) v)=List.replicate n (.int .i64 (v:Int)):=by
   rw[DI];simp[ints]
  rw[e,i]at hb;rw[g];simpa[kJ]using hb
theorem gI.jr (h:gI σ p q st){a n c:Nat}(hl:a+n<=st.length)(v:Nat){R:aP}(hR:∀σ',Ext (· = q) σ σ'->gI σ' p q (fW st a (a+n) v)->R σ') :
 Qm.c ⟨some ⟨q,a,none⟩,n,c⟩ v σ R:=by
 obtain⟨r,b⟩:=h.row;have:=h.n2;exact Ar.jr b (by simp[QE];omega) O v λσ' d e=>hR σ' d.ext (h.fill b hl d e)
theorem HG (h:gI σ p q st){R:aO}(hR:R true σ):WU.c (aW p) σ R:=by
 refine WU.o ?_;unfold WU.v;refine bY.intro (cK rfl (aG (h.rS λcap _=>?_)));have:=h.n1;rw[zV aC];exact hR
theorem Ds (h:gI σ p q st){R:aN}(hR:R ((st.length/16:Nat):Int) σ):XO.c (aW p) σ R:=by
 refine XO.o ?_;unfold XO.v;have:=h.n2;refine aG (h.rS λcap _=>nz aB ?_);refine cA (m:=st.length/16) ?_ O hR;rw[YN O];simp
theorem vp (h:gI σ p q st){k:Nat}(hk:16*k+16<=st.length){R:Sl->Hp->Prop}(hR:∀c,R ⟨some ⟨q,16*k,none⟩,16,c⟩ σ):Xn.c (aW p) (k:Int) σ R:=by
 refine Xn.o ?_;unfold Xn.v;have:=h.n2;refine aG (h.rS λcap a=>?_);refine cA (m:=16*k) O O (cA (m:=k+1) O O (cA (m:=16*k+16) O O ?_));refine jd O aC aC ?_;have e:16*k+16-16*k=16:=by omega
 rw[zA aC,e];simp only[zf,add_lit,ox,zG];exact hR _
theorem LC (h:gI σ p q st)(k:Int){R:Sl->Int->Hp->Prop}(h1:∀(x:Nat) c,k=(x:Int)->16*x+16<=st.length->R ⟨some ⟨q,16*x,none⟩,16,c⟩ 0 σ)(h0:sY st.length k=false->R ⟨none,0,0⟩ 1 σ) :
 XX.c (aW p) k σ R:=by
 refine XX.o ?_;unfold XX.v;have n3:=h.n3;refine HG h (cG rfl (bY.intro (cI (λa=>cK rfl (h0 ?_)) λa=>Ds h ?_)))
 ·simp[sY];omega
 ·refine cI (λd=>h0 ?_) λb=>?_
  ·simp[sY];omega
  ·obtain⟨x,rfl⟩:=zi (show 0<=k by omega);exact vp h O λc=>h1 x c rfl O
theorem UL {n x:Nat}(h:16*x+16<=n):sY n (x:Int)=true:=by simp[sY];omega
theorem gI.first (h:gI σ p q st){x c:Nat}(hx:16*x+16<=st.length){K:Int->Prop}(hK:K ((st.getD (16*x) 0:Nat):Int)) :
 Ix (some ⟨q,16*x,none⟩) 16 0 1 λa=>fF .i64 a σ K:=by
 have b:=h.part (s:=⟨some ⟨q,16*x,none⟩,16,c⟩) (n:=16) rfl rfl hx;refine b.oI (i:=0) (x:=st.getD (16*x) 0) ?_ hK;simp[zY,zo,zL];rw[cM O];simp
theorem gI.iR (h:gI σ p q st){x c v:Nat}(hx:16*x+16<=st.length){R:aN}(hR:R ((gA st (16*x) (16*x+16) v:Nat):Int) σ):ZK.c ⟨some ⟨q,16*x,none⟩,16,c⟩ v σ R:=by
 refine Rb (h.part (n:=16) rfl rfl hx) aE v ?_;have e:gA st (16*x) (16*x+16) v=((st.drop (16*x)).take 16).count v:=by simp[gA]
 rw[e]at hR;exact hR
theorem S2 (h:gI σ p q st){x c:Nat}(hx:16*x+16<=st.length){R:aO}(hR:R (vG st x) σ):Q1.c ⟨some ⟨q,16*x,none⟩,16,c⟩ σ R:=by
 refine Q1.o ?_;unfold Q1.v;refine h.first (c:=c) hx (bY.intro ?_);unfold vG at hR;rw[Bw];cases e1:(st.getD (16*x) 0 != 0)
 ·rw[e1]at hR;exact cG rfl hR
 ·rw[e1]at hR;refine cK rfl (h.iR (v:=1) hx ?_);rw[vd];exact hR
theorem AY (h:gI σ p q st){x c:Nat}(hx:16*x+16<=st.length){R:aN}(hR:R ((KP st x:Nat):Int) σ):Qy.c ⟨some ⟨q,16*x,none⟩,16,c⟩ σ R:=by
 refine Qy.o ?_;unfold Qy.v;refine h.iR (v:=1) hx (cU (λd=>?_) λd=>h.iR (v:=3) hx ?_)
 ·have a:gA st (16*x) (16*x+16) 1=0:=by simpa using d
  simpa[KP,a]using hR
 ·have a:¬gA st (16*x) (16*x+16) 1=0:=by simpa using d
  refine cI (λe=>?_) λe=>?_
  ·have b:0<gA st (16*x) (16*x+16) 3:=by omega
   simpa[KP,a,b]using hR
  ·have b:¬0<gA st (16*x) (16*x+16) 3:=by omega
   simpa[KP,a,b]using hR
theorem OV (h:gI σ p q st)(k:Int){R:aN}(hR:∀σ',Ext (· = q) σ σ'->gI σ' p q (jv st k)->R (k5 st k) σ'):Yg.c (aW p) k σ R:=by
 refine Yg.o ?_;unfold Yg.v;refine LC h k (λx c m g=>?_) λm=>?_
 ·subst m;have b:=UL g;refine cG rfl (h.first (c:=c) g (cU (λi=>?_) λi=>?_))
  ·have j:¬st.getD (16*x) 0=0:=by simpa using i
   have:k5 st (x:Int)=5:=by simp only[k5,b,dC,zT,zA j]
   have d:jv st (x:Int)=st:=by simp[jv,this]
   have:=hR σ (Ext.refl _ _);rw[d]at this;simpa[*]using this h
  ·have j:st.getD (16*x) 0=0:=by simpa using i
   have a:k5 st (x:Int)=0:=by simp only[k5,b,dC,zT,j]
   have d:jv st (x:Int)=fW st (16*x) (16*x+16) 3:=by simp[jv,a]
   refine h.jr g 3 λσ' e r=>?_;have:=hR σ' e;rw[a,d]at this;exact this r
 ·have a:k5 st k=1:=by simp[k5,m]
  have d:jv st k=st:=by simp[jv,a]
  refine cK rfl ?_;have:=hR σ (Ext.refl _ _);rw[a,d]at this;exact this h
theorem Jc {s:Sl}{xs:List Nat}(h:cR s 1 (ints xs) σ F)(hl:xs.length<=1000000)(v:Nat){R:aN}(h1:∀i:Nat,xs[i]?=some v->(∀j:Nat,j<i->xs[j]?≠some v)->R (i:Int) σ)(h0:v∉xs->R (-1) σ) :
 WG.c s (v:Int) σ R:=by
 refine WG.o ?_;unfold WG.v;have x:=h.jU;refine ZU (a:=bN) (λ(t:Int) w=>∃i:Nat,t=(i:Int)/\i<=xs.length/\w=σ/\∀j,j<i->xs[j]?≠some v) (λt _=>xs.length-t.toNat) ⟨0,rfl,O,rfl,λj d=>O⟩ ?_;rintro t w ⟨i,rfl,B,rfl,b⟩;refine cI (λy=>?_) λA=>?_
 ·have g:i<xs.length:=by omega
  have p:xs[i]?=some xs[i]:=cM g;refine h.oI p ?_;rw[j3];refine cU (λr=>?_) λr=>?_
  ·have:v=xs[i]:=by simpa using r
   exact h1 i (by rw[p,this]) b
  ·have u:¬v=xs[i]:=by simpa using r
   refine cA (m:=i+1) O O ⟨⟨i+1,rfl,O,rfl,λj d=>?_⟩,O⟩;by_cases e:j=i
   ·subst e;rw[p];intro e2;cases e2;exact u rfl
   ·exact b j O
 ·refine h0 λz=>?_;obtain⟨j,d⟩:=zN z;have:=(cQ.1 d).1;exact b j O d
theorem Τ {s:Sl}{xs:List Nat}(h:cR s 1 (ints xs) σ F)(hl:xs.length<=1000000)(v:Nat){R:aO}(hR:R (xs.contains v) σ):Wo.c s (v:Int) σ R:=by
 refine Wo.o ?_;unfold Wo.v;refine Jc h hl v (λi b _=>?_) λa=>?_
 ·have:xs.contains v=true:=by simpa using zE b
  rw[this]at hR;rw[zV O];exact hR
 ·have:xs.contains v=false:=by simpa using a
  rw[this]at hR;exact hR
theorem SF {s:Sl}{xs:List Int}(h:cR s 1 (xs.map (Value.int .i64)) σ F)(hl:xs.length<=1000000000)(v:Int){R:aO}(hR:R (xs.contains v) σ):Wo.c s v σ R:=by
 refine Wo.o ?_;unfold Wo.v;refine WG.o ?_;unfold WG.v;have x:s.len=xs.length:=by have:=h.1;simp at this;omega
 refine ZU (a:=bN) (λ(t:Int) w=>∃i:Nat,t=(i:Int)/\i<=xs.length/\w=σ/\∀j,j<i->xs[j]?≠some v) (λt _=>xs.length-t.toNat) ⟨0,rfl,O,rfl,λj d=>O⟩ ?_;rintro t w ⟨i,rfl,A,rfl,b⟩;refine cI (λy=>?_) λz=>?_
 ·have g:i<xs.length:=by omega
  have u:xs[i]?=some xs[i]:=cM g;refine h.pa u (cU (λp=>?_) λp=>?_)
  ·have e:v=xs[i]:=by simpa using p
   have:xs.contains v=true:=by rw[e];simp
   rw[this]at hR;show R (decide ((i:Int)≥0)) _;rw[zV O];exact hR
  ·have r:¬v=xs[i]:=by simpa using p
   refine cA (m:=i+1) O O ⟨⟨i+1,rfl,O,rfl,λj d=>?_⟩,O⟩;by_cases e:j=i
   ·subst e;rw[u];intro e2;cases e2;exact r rfl
   ·exact b j O
 ·have:xs.contains v=false:=by
   simp only[rQ,decide_eq_false_iff_not];intro hm;obtain⟨j,d⟩:=zN hm;have:=(cQ.1 d).1;exact b j O d
  rw[this]at hR;exact hR
def Fx (f:Fv)(p:Nat->Bool)(σ:Hp):Prop:=∀(x:Nat) (σ':Hp) (R:aO),bO σ σ'->(∀σ'',bO σ' σ''->R (p x) σ'')->VU Tryz.prog f [.int .i64 (x:Int)] [.one .b] σ' R
theorem LU {s:Sl}{xs:List Nat}(h:cR s 1 (ints xs) σ F)(hl:xs.length<=1000000){f:Fv}{pr:Nat->Bool}(hf:Fx f pr σ){R:aO}(hR:∀σ',bO σ σ'->R (xs.any pr) σ') :
 Wx.c s f σ R:=by
 refine Wx.o ?_;unfold Wx.v;refine WW.o ?_;unfold WW.v;have w:=h.jU;refine ZU (a:=bN) (λ(t:Int) u=>∃i:Nat,t=(i:Int)/\i<=xs.length/\bO σ u/\∀j x,j<i->xs[j]?=some x->pr x=false) (λt _=>xs.length-t.toNat) ⟨0,rfl,O,Ext.refl _ _,λj x p=>O⟩ ?_;rintro t u ⟨i,rfl,B,e,g⟩;refine cI (λz=>?_) λA=>?_
 ·have d:i<xs.length:=by omega
  have r:xs[i]?=some xs[i]:=cM d;refine(aH.bK h e).oI r (hf _ _ _ e λC y=>?_);cases hp:pr xs[i]
  ·refine cG rfl (cA (m:=i+1) O O ⟨⟨i+1,rfl,O,e.trans y,λj x p b=>?_⟩,O⟩);by_cases e3:j=i
   ·subst e3;rw[r]at b;cases b;exact hp
   ·exact g j x O b
  ·refine cK rfl ?_;have:xs.any pr=true:=ka.2 ⟨_,zc d,hp⟩;show R (decide ((i:Int)≥0)) _;rw[zV O,←this];exact hR _ (e.trans y)
 ·have:xs.any pr=false:=by
   rw[m7];intro x r;obtain⟨j,p⟩:=zN r;have:=(cQ.1 p).1;simp[g j x O p]
  show R (decide ((-1:Int)≥0)) _;rw[show decide ((-1:Int)≥0)=false from rfl,←this];exact hR _ e
theorem OS (h:gI σ p q st)(k:Int){R:aN}(hR:∀σ',Ext (· = q) σ σ'->gI σ' p q (jN st k)->R (lN st k) σ'):Xj.c (aW p) k σ R:=by
 refine Xj.o ?_;unfold Xj.v;refine LC h k (λx c i g=>?_) λi=>?_
 ·subst i;have b:=UL g;refine cG rfl (S2 h g ?_);cases hi:vG st x
  ·have a:lN st (x:Int)=5:=by simp[lN,b,hi]
   have d:jN st (x:Int)=st:=by simp[jN,a]
   have:=hR σ (Ext.refl _ _);rw[a,d]at this;exact cK rfl (this h)
  ·have a:lN st (x:Int)=0:=by simp[lN,b,hi]
   have d:jN st (x:Int)=fW st (16*x) (16*x+16) 0:=by simp[jN,a]
   refine cG rfl (h.jr g 0 λσ' e j=>?_);have:=hR σ' e;rw[a,d]at this;exact this j
 ·have a:lN st k=1:=by simp[lN,i]
  have d:jN st k=st:=by simp[jN,a]
  refine cK rfl ?_;have:=hR σ (Ext.refl _ _);rw[a,d]at this;exact this h
theorem RK {c:Nat}{s:Sl}{fr:List Nat}{σ0:Hp}(hb:bX σ0 c [.slice s.a s.len s.cap])(hs:cR s 1 (ints fr) σ0 F)(hl:fr.length<=1000):Fx ⟨269,#[],#[.pointer (some ⟨c,0,none⟩)]⟩ (λx=>!fr.contains x) σ0:=by
 intro x σ' R e hR;refine HR (all := #[.int .i64 (x:Int),.pointer (some ⟨c,0,none⟩)]) (by kernel_rfl) aA ?_;refine YI.o ?_;unfold YI.v;refine(e.bZ hb id).Am rfl ?_;exact Τ (aH.bK hs e) O x (hR _ (Ext.refl _ _))
theorem CL (h:gI σ p q st)(a m:Int)(v:Nat){s:Sl}{fr:List Nat}(hs:cR s 1 (ints fr) σ F)(hl:fr.length<=1000){R:aN}(hR:∀σ',Ext (· = q) σ σ'->gI σ' p q (VS st a m v fr)->R (GV st a m fr) σ') :
 Xv.c (aW p) a m v s σ R:=by
 refine Xv.o ?_;unfold Xv.v;have n2:=h.n2;have S:=h.lt.2;refine nw (cs:=[.slice s.a s.len s.cap]) λv1 Q j K=>?_;have g:=h.bK j;have d:¬(0<=a/\1<=m/\m<=st.length-a)->R 1 v1:=λL=>by
  have b:Zf st.length a m=false:=by simp only[Zf,←vO];exact zh L
  have e:GV st a m fr=1:=by simp[GV,b]
  have u:VS st a m v fr=st:=by simp[VS,e]
  have:=hR v1 j.to;rw[e,u]at this;exact this g
 refine HG g (cG rfl (bY.intro ?_));refine cI (λN=>bY.intro (cK rfl (bY.intro (cK rfl (cK rfl (d O)))))) λN=>?_;refine bY.intro (cI (λP=>bY.intro (cK rfl (cK rfl (d O)))) λP=>?_);refine aG (g.rS λcap C=>bY.intro (cI (λA=>cK rfl (d (by simp only at *;omega))) λA=>?_));simp only at A;refine aG (g.rS λcap C=>ar aC aC (cI (λD=>d (by simp only at *;omega)) λD=>?_));simp only at D;obtain⟨x,rfl⟩:=zi (show 0<=a by omega);obtain⟨y,rfl⟩:=zi (show 0<=m by omega);have i:x+y<=st.length:=by omega
 have b:Zf st.length (x:Int) (y:Int)=true:=by simp only[Zf,zF,zS];omega
 refine aG (g.rS λcap C=>cA (m:=x+y) O O (jd O aC aC ?_));rw[zA aC];simp only[zf,add_lit,ox,zG];have J:x+y-x=y:=by omega
 rw[J];have M:=g.part (s:=⟨some ⟨q,x,none⟩,y,cap-x⟩) (n:=y) rfl rfl i;refine LU M aE (RK (s:=s) K (aH.bK hs j) hl) λE u=>?_;have B:=g.bK u;have r:((st.drop x).take y).any (λz=>!fr.contains z) = !vJ st x y fr:=by
  rw[vJ,List.all_eq_not_any_not,Bool.not_not]
 rw[r];cases hA:vJ st x y fr
 ·have e:GV st (x:Int) (y:Int) fr=5:=by simp[GV,b,hA]
  have w:VS st (x:Int) (y:Int) v fr=st:=by simp[VS,e]
  have:=hR E (j.to.trans u.to);rw[e,w]at this;exact cK rfl (this B)
 ·have e:GV st (x:Int) (y:Int) fr=0:=by simp[GV,b,hA]
  have w:VS st (x:Int) (y:Int) v fr=fW st x (x+y) v:=by simp[VS,e]
  refine cG rfl (B.jr i v λv3 G H=>?_);have:=hR v3 (j.to.trans (u.to.trans G));rw[e,w]at this;exact this H
theorem xM {h:Hp}{b:Nat}{xs:List Nat}{n c:Nat}(hb:bX h b (ints xs))(hn:n=xs.length):cR ⟨some ⟨b,0,none⟩,n,c⟩ 1 (ints xs) h (· = b):=
 hb.fX (o:=0) rfl (by rw[QE];simp[hn]) λj _=>by rw[zG]
theorem Nl (h:gI σ p q st)(a m:Int){R:aN}(hR:∀σ',Ext (· = q) σ σ'->gI σ' p q (VS st a m 1 [2,3])->R (GV st a m [2,3]) σ'):XM.c (aW p) a m σ R:=by
 refine XM.o ?_;unfold XM.v;refine nw (cs:=ints [2,3]) λv i e g=>?_;exact CL (h.bK e) a m 1 (xM g rfl) aA λσ' b d=>hR σ' (e.to.trans b) d
theorem NU (h:gI σ p q st)(a m:Int){R:aN}(hR:∀σ',Ext (· = q) σ σ'->gI σ' p q (VS st a m 2 [1])->R (GV st a m [1]) σ'):XB.c (aW p) a m σ R:=by
 refine XB.o ?_;unfold XB.v;refine nw (cs:=ints [1]) λv i e g=>?_;exact CL (h.bK e) a m 2 (xM g rfl) aA λσ' b d=>hR σ' (e.to.trans b) d
theorem O2 (h:gI σ p q st)(a m:Int){R:aN}(hR:∀σ',Ext (· = q) σ σ'->gI σ' p q (VS st a m 3 [2])->R (GV st a m [2]) σ'):W9.c (aW p) a m σ R:=by
 refine W9.o ?_;unfold W9.v;refine nw (cs:=ints [2]) λv i e g=>?_;exact CL (h.bK e) a m 3 (xM g rfl) aA λσ' b d=>hR σ' (e.to.trans b) d
def yn (st:List Nat)(x:Int):Int:=if 0<=x/\x<st.length then((st.getD x.toNat 0:Nat):Int)else -1
theorem TB (h:gI σ p q st)(x:Int){R:aN}(hR:R (yn st x) σ):X2.c (aW p) x σ R:=by
 refine X2.o ?_;unfold X2.v;have n2:=h.n2;unfold yn at hR;refine HG h (bY.intro (cG rfl (bY.intro (cI (λg=>cK rfl ?_) λg=>aG (h.rS λcap i=>cI (λb=>?_) λb=>?_)))))
 ·rw[zA O]at hR;exact hR
 ·simp only at b;rw[zA O]at hR;exact hR
 ·simp only at b;rw[zB O]at hR;obtain⟨y,rfl⟩:=zi (show 0<=x by omega);refine aG (h.rS λcap i=>?_);have e:=h.part (s:=⟨some ⟨q,0,none⟩,st.length,cap⟩) (a:=0) (n:=st.length) rfl rfl O;rw[List.drop_zero,zl]at e;have d:y<st.length:=by omega
  refine e.oI (cM d) ?_;simpa[zL,cM d]using hR
theorem HL {s:Sl}{vs:List Value}(h:cR s 1 vs σ F)(h1:∀v∈vs,dN v=true)(hl:s.len<=1000000){R:Sl->Hp->Prop}
 (hR:∀s' σ',s'.len=s.len->bO σ σ'->bR s' 1 vs σ' (λb=>σ.size<=b)->R s' σ'):WH.c s σ R:=by
 refine WH.o ?_;unfold WH.v;exact G6 h aB rfl h1 aB hl hR
theorem GE (n:Nat)(P:Nat->Bool):(List.range (n+1)).filter P=(List.range n).filter P++(if P n then[n]else[]):=by
 rw[zz,uN]
 congr 1
 cases h:P n<;>simp[h]
theorem ς (h:gI σ p q st)(k:Nat){R:Sl->Hp->Prop}(hR:∀s σ',bO σ σ'->bR s 1 (ints (Kg st k)) σ' (λb=>σ.size<=b)->R s σ'):X8.c (aW p) (k:Int) σ R:=by
 refine X8.o ?_;unfold X8.v;have n2:=h.n2;refine HG h (cG rfl (Ds h ?_));refine Kf (a:=.s) (bb:=bN) (λ(out:Sl) (t:Int) u=>∃i:Nat,t=(i:Int)/\i<=st.length/16/\bO σ u/\bR out 1 (ints ((List.range i).filter λh=>st.getD (16*h) 0 != 0&&KP st h==k)) u (λb=>σ.size<=b))
  (λ_ t _=>st.length/16-t.toNat) ⟨0,rfl,O,Ext.refl _ _,bR.nil _ _ _ _⟩ ?_
 rintro out t u ⟨i,rfl,N,e,d⟩;have y:=h.bK e;refine cI (λE=>?_) λJ=>?_
 ·have B:16*i+16<=st.length:=by omega
  refine vp y B λc=>y.first (c:=c) B (bY.intro ?_);have D:=d.jU;have G:((List.range i).filter λh=>st.getD (16*h) 0 != 0&&KP st h==k).length<=i:=zI (m5 _ _) aA;have next:∀(r:Bool),r=(st.getD (16*i) 0 != 0&&KP st i==k)->If r
   (Nw (.cells #[.int .i64 (i:Int)] 3 (0,0)) u λC L=>App out 1 8 3 [.int .i64 0] ⟨some C,1,1⟩ L λw x=>Ar .i64 ((i:Int)+1) λg=>
    (∃j:Nat,g=(j:Int)/\j<=st.length/16/\bO σ x/\bR w 1 (ints ((List.range j).filter λh=>st.getD (16*h) 0 != 0&&KP st h==k)) x (λb=>σ.size<=b))/\st.length/16-g.toNat<st.length/16-(i:Int).toNat)
   (Ar .i64 ((i:Int)+1) λg=>(∃j:Nat,g=(j:Int)/\j<=st.length/16/\bO σ u/\bR out 1 (ints ((List.range j).filter λh=>st.getD (16*h) 0 != 0&&KP st h==k)) u (λb=>σ.size<=b))/\st.length/16-g.toNat<st.length/16-(i:Int).toNat):=by
   intro r hr;have z:=GE i λh=>st.getD (16*h) 0 != 0&&KP st h==k;rw[←hr]at z;cases r
   ·refine cG rfl (cA (m:=i+1) O O ⟨⟨i+1,rfl,O,e,?_⟩,O⟩);rw[z];simpa using d
   ·refine cK rfl (d.push (vs:=[.int .i64 (i:Int)]) (λb K=>zI e.1 K) rfl rfl (by simp[dN]) O O λM x F H A=>?_);refine cA (m:=i+1) O O ⟨⟨i+1,rfl,O,Ext.fresh e H λ_ h=>h,?_⟩,O⟩;rw[z,Vk];exact A
  rw[Bw];cases e1:(st.getD (16*i) 0 != 0)
  ·exact cG rfl (next false (by rw[e1];rfl))
  ·refine cK rfl (AY y B ?_);rw[j3];exact next _ (by rw[e1];rfl)
 ·have:i=st.length/16:=by omega
  subst this;exact hR _ _ e d
theorem OR (h:gI σ p q st){R:Sl->Hp->Prop}(hR:∀s σ',bO σ σ'->bR s 1 (ints (Kg st 0)) σ' (λb=>σ.size<=b)->R s σ'):Yw.c (aW p) σ R:=by
 refine Yw.o ?_;unfold Yw.v;exact ς h 0 hR
theorem SR {n:Nat}(h1:16<=n)(h2:n<=1024)(h3:n%16=0){R:Option Addr->Int->Hp->Prop}(hR:∀σ' p q,bO σ σ'->σ.size<=p->σ.size<=q->gI σ' p q (List.replicate n 0)->R (some ⟨p,0,none⟩) 0 σ'):Kx.c (n:Int) σ R:=by
 refine Kx.o ?_;unfold Kx.v;refine bY.intro (fH O (bY.intro (fH O (nz aB ?_))));rw[Q8 O];have:(((n:Int)%16) != 0)=false:=by
  have:((n:Int)%16)=0:=by omega
  rw[this];rfl
 rw[this];refine cG rfl (mk O O λv j e a=>nw (cs:=[.slice (some ⟨σ.size,0,none⟩) n n]) λm g d b=>?_);have i:(List.replicate n [Value.int .i64 0]).flatten=ints (List.replicate n 0):=by
  have:[Value.int .i64 0]=ints [0]:=rfl;rw[this];clear a hR
  induction n with
  | zero=>rfl
  | succ n ih=>simp[w9,ints]
 rw[i]at a;refine hR _ _ _ (e.trans d) O (zD _) ⟨⟨n,by simp,by simpa using b⟩,⟨[],by simpa using d.bZ a id⟩,O,by simpa using h1,by simpa using h2,by simpa using h3⟩
end Go.Ar
namespace Go.Proofs
open Go.Vc
set_option maxRecDepth 100000
def ZF.h:Hn:=.q .o1 (.q (.q .o3 .aJ) (.q (.cV (.tail 10 (RI.ops 10) [.op])) .l))
def ZF.v (a:R2)(b:Hp)(c:Int->Int->Hp->Prop):Prop:=aV #[.I 0,.I 0] 92 b λd e=>YA.c a e λf g=>If (!f) (aR d 0 (.I 0) g λh=>aR d 1 (.I 0) h λi=>aQ d 0 i λj=>aQ d 1 i λk=>c j k i) (bD a 0 g λm=>bS a λn=>bM ((n.add 1).add 1) g λo=>aR d 0 (.I m) g λp=>aR d 1 (.I o) p λq=>aQ d 0 q λr=>aQ d 1 q λs=>c r s q)
theorem ZF.o {a b c}(d:ZF.v a b c):ZF.c a b c:=Wa Tryz.func138 (x:=ZF.h) (R0 d)
def XZ.h:Hn:=.q .o1 (.q (.q .o3 .aK) (.q .o6 .l))
def XZ.v (a:R2)(b:Hp)(c:aN):Prop:=YA.c a b λd e=>If (!d) (c 0 e) (bE a 4 e λg=>c ((g.len:Nat):Int) e)
theorem XZ.o {a b c}(d:XZ.v a b c):XZ.c a b c:=Wa Tryz.func141 (x:=XZ.h) (R0 d)
def Yi.h:Hn:=.q .o2 (.q (.q .o3 .aJ) (.q .o5 (.q (.q (.cV (.iw false [] [(32,.one .b)] (.take 0 (.take 1 (.all [(2,.take 3 (.take 4 (.split 18 (.take 5 (.take 6 (.take 7 (.take 8 (.take 9 (.take 10 (.take 11 (.take 12 (.take 13 (.take 14 (.take 15 (.take 16 (.take 17 (.take 18 (.done))))))))))))))) (.take 5 (.take 6 (.take 7 (.take 8 (.take 11 (.take 12 (.take 13 (.take 14 (.all [(9,.take 10 (.all [(15,.take 16 (.take 17 (.take 18 (.done))))])),(15,.all [(9,.take 10 (.take 16 (.take 17 (.take 18 (.done)))))])]))))))))))))]))))) .aJ) (.q .o9 .l))))
def Yi.v (a:R2)(b:Int)(c:Hp)(d:Int->Int->Hp->Prop):Prop:=YA.c a c λe f=>If (!e) (d 0 5 f) (Yz.c a 0 f λg h=>bL (b-g) λi=>Jn [.b] (λ(j:Bool) k=>If j (d 0 8 k) (bS a λl=>bM ((l.add 1).add 0) k λm=>Nz m<|bL (i.tdiv m) λn=>d n 0 k)) λo=>Yz.c a 0 h λp q=>If (b<p) (o true q) (bS a λr=>bS a λs=>(aX r 4 q λt=>bM ((s.add 1).add 0) q λu=>bL (((t.len:Nat):Int)*u) λv=>o (decide (i≥v)) q) ∧ (bM ((s.add 1).add 0) q λw=>aX r 4 q λx=>bL (((x.len:Nat):Int)*w) λy=>o (decide (i≥y)) q)))
theorem Yi.o {a b c d}(e:Yi.v a b c d):Yi.c a b c d:=Wa Tryz.func146 (x:=Yi.h) (R0 e)
def YA.h:Hn:=.q .o1 (.q (.cV (.seq [.op,.op,.op,.dD true 6 (RI.ops 6),.op])) .l)
def YA.v (a:R2)(b:Hp)(c:aO):Prop:=bY (λd e=>c d e) λf=>If (!a.isNone) (bE a 4 b λh=>f (decide (((h.len:Nat):Int)>0)) b) (f false b)
theorem YA.o {a b c}(d:YA.v a b c):YA.c a b c:=Wa Tryz.func200 (x:=YA.h) (R0 d)
def Yz.h:Hn:=.q .o1 (.q (.oq 14) .l)
def Yz.v (a:R2)(b:Int)(c:Hp)(d:aN):Prop:=bD a 0 c λf=>bL (f*256) λg=>bS a λh=>bM ((h.add 1).add 0) c λi=>bL (b*i) λj=>bL (g+j) λk=>d k c
theorem Yz.o {a b c d}(e:Yz.v a b c d):Yz.c a b c d:=Wa Tryz.func202 (x:=Yz.h) (R0 e)
def Ky.h:Hn:=.q .o3 (.q .o7 (.q (.q (.cV (.seq [.op,.op,.op,.dD false 2 [.op,.op],.op,.dD false 5 (RI.ops 5)])) .aJ) (.q (.cV (.held true [] (.tk [0,1,2] (.all [(3,.take 4 (.all [(5,.take 6 (.take 7 (.done)))]))])))) .l)))
def Ky.v (a b c d:Int)(e:Hp)(f:Option Addr->Int->Hp->Prop):Prop:=aV #[.I b,.I c,.I d] 31 e λg h=>aQ g 0 h λi=>aQ g 1 h λj=>aQ g 2 h λk=>Zd.c i j k h λl m n=>bY (λo p=>bY (λq r=>If q (f none 1 r) (dT r λs=>aS s g 0 λt=>aS s g 1 λu=>aS s g 2 λv=>Mk l l 8 3 [.I 0] r λw x=>And (s x) <| aV #[.I a,.I t,.I u,.I v,.slice w.a w.len w.cap,.I 0] 296 x λy z=>And (s z) <| f (some y) 0 z)) λaa=>If o (aa true p) (aQ g 1 p λab=>bL (1024-ab) λac=>aa (decide (a>ac)) p)) λad=>If (m != 0) (ad true n) (ad (decide (a<0)) n)
theorem Ky.o {a b c d e f}(g:Ky.v a b c d e f):Ky.c a b c d e f:=Wa Tryz.func256 (x:=Ky.h) (R0 g)
def ZH.h:Hn:=.q .o1 (.q .o8 (.q (.k (.q .o3 (.c .aL (.q .o9 .aK)))) (.q .o4 .aM)))
def ZH.v (a:R2)(b:Int)(c:Hp)(d:aN):Prop:=Yt.c a b c λe f g=>If (f != 0) (d f g) (bE a 4 g λi=>Ix i.a i.len e 1 λj=>bM j g λk=>If (k==0) (d 9 g) (aV #[.I e] 3 g λl m=>Zh.c a 0 ⟨some l,1,1⟩ m λn=>d 0 n))
theorem ZH.o {a b c d}(e:ZH.v a b c d):ZH.c a b c d:=Wa Tryz.func275 (x:=ZH.h) (R0 e)
def Zx.h:Hn:=.q .o2 (.q (.q .o3 .aJ) (.q .o6 (.q (.q .o2 .aJ) (.q .o4 (.q .o5 .l)))))
def Zx.v (a:R2)(b:Hp)(c:Int->Int->Hp->Prop):Prop:=YA.c a b λd e=>If (!d) (c 0 5 e) (bE a 4 e λg=>WG.c g 0 e λh i=>If (h<0) (c 0 6 i) (aV #[.I h] 3 i λj k=>Zh.c a 1 ⟨some j,1,1⟩ k λl=>Yz.c a h l λm n=>c m 0 n))
theorem Zx.o {a b c}(d:Zx.v a b c):Zx.c a b c:=Wa Tryz.func277 (x:=Zx.h) (R0 d)
def Yy.h:Hn:=.q .o2 (.q .o8 (.q (.q .o2 (.c (.q .o3 .l) .l)) (.q .fV .l)))
def Yy.v (a:R2)(b:Int)(c:Hp)(d:Bool->Int->Hp->Prop):Prop:=Yt.c a b c λe f g=>If (f != 0) (d false f g) (bE a 4 g λi=>Ix i.a i.len e 1 λj=>bM j g λk=>d (k==1) 0 g)
theorem Yy.o {a b c d}(e:Yy.v a b c d):Yy.c a b c d:=Wa Tryz.func285 (x:=Yy.h) (R0 e)
def Yt.h:Hn:=.q .o2 (.q .o8 (.q (.q (.cV (.seq [.op,.op,.op,.dD true 5 (RI.ops 5)])) .aJ) (.q .o4 .l)))
def Yt.v (a:R2)(b:Int)(c:Hp)(d:Int->Int->Hp->Prop):Prop:=Yi.c a b c λe f g=>bY (λh i=>If h (d 0 8 i) (d e f i)) λj=>If (f==0) (Yz.c a e g λk l=>j (k != b) l) (j false g)
theorem Yt.o {a b c d}(e:Yt.v a b c d):Yt.c a b c d:=Wa Tryz.func297 (x:=Yt.h) (R0 e)
def Zh.h:Hn:=.q .o3 (.k (.loop [(10,.I)] (.q .o1 (.q (.c .l .l) (.q (.k (.q .o3 (.q (.cV (.tail 16 (RI.ops 16) [.op])) .o8))) .o2)))))
def Zh.v (a:R2)(b:Int)(c:Sl)(d:Hp)(e:aP):Prop:=W6 [bN] (λf=>f 0 d) λg (h:Int) i=>If (h<((c.len:Nat):Int)) (Ix c.a c.len h 1 λj=>bM j i λk=>bD a 5 i λm=>bE a 4 i λo=>Ix o.a o.len k 1 λp=>bM p i λq=>bL (b-q) λr=>bL (m+r) λs=>bS a λt=>aR t 5 (.I s) i λu=>bE a 4 u λw=>Ix w.a w.len k 1 λx=>dL x (.I b) u λy=>bL (h+1) λz=>g z y) (e i)
theorem Zh.o {a b c d e}(f:Zh.v a b c d e):Zh.c a b c d e:=Wa Tryz.func298 (x:=Zh.h) (R0 f)
end Go.Proofs
namespace Go.Ar
open Go Go.Vc Go.Proofs
variable {σ:Hp}{F:Rg}{p q:Nat}{c:bW}{s:cH}
def oe (tk:List Bool):List Nat:=tk.map λb=>if b then 1 else 0
theorem wM (tk:List Bool):(oe tk).length=tk.length:=by simp[oe]
theorem GB {tk:List Bool}{i:Nat}{b:Bool}(h:tk[i]?=some b):(oe tk)[i]?=some (if b then 1 else 0):=by simp[oe,h]
theorem PA (tk:List Bool)(i:Nat)(b:Bool):oe (tk.set i b)=(oe tk).set i (if b then 1 else 0):=by simp[oe,sZ]
structure im (σ:Hp) (p q:Nat) (c:bW) (s:cH):Prop where
 hd:∃cap,c.n<=cap/\bX σ p [.int .i64 (s.st:Int),.int .i64 (c.size:Int),.int .i64 (c.aF:Int),.int .i64 (c.batch:Int),.slice (some ⟨q,0,none⟩) c.n cap,.int .i64 (s.many:Int)]
 row:∃rest,bX σ q (ints (oe s.tk)++rest)
 ne:p≠q
 len:s.tk.length=c.n
 ok:c.ok
 fit:s.st+c.aF<=1024
theorem im.bU {σ':Hp}(h:im σ p q c s)(e:Ext F σ σ')(hp:¬F p)(hq:¬F q):im σ' p q c s:=
 ⟨by obtain⟨c,a,b⟩:=h.hd;exact⟨c,a,e.bZ b hp⟩,by obtain⟨r,a⟩:=h.row;exact⟨r,e.bZ a hq⟩,h.ne,h.len,h.ok,h.fit⟩
theorem im.bK {σ':Hp}(h:im σ p q c s)(e:bO σ σ'):im σ' p q c s:=h.bU e id id
theorem im.lt (h:im σ p q c s):p<σ.size/\q<σ.size:=by
 obtain⟨_,_,a⟩:=h.hd;obtain⟨_,b⟩:=h.row;exact⟨a.lt,b.lt⟩
theorem im.rS (h:im σ p q c s){K:Sl->Prop}(hK:∀cap,c.n<=cap->K ⟨some ⟨q,0,none⟩,c.n,cap⟩):jk (Addr.add ⟨p,0,none⟩ 4) σ K:=by
 obtain⟨a,b,d⟩:=h.hd;exact d.rS rfl (hK a b)
theorem im.rI (h:im σ p q c s){i:Nat}{x:Int}(hx:∀a b:Value,([.int .i64 (s.st:Int),.int .i64 (c.size:Int),.int .i64 (c.aF:Int),.int .i64 (c.batch:Int),a,.int .i64 (s.many:Int)]:List Value)[0+i]?=some (.int .i64 x)){K:Int->Prop}(hK:K x):fF .i64 (Addr.add ⟨p,0,none⟩ i) σ K:=by
 obtain⟨e,g,d⟩:=h.hd;exact d.rI (hx _ .nilFunc) hK
theorem im.gF (h:im σ p q c s){i j:Nat}{x:Int}(hx:∀a b:Value,([.int .i64 (s.st:Int),.int .i64 (c.size:Int),.int .i64 (c.aF:Int),.int .i64 (c.batch:Int),a,.int .i64 (s.many:Int)]:List Value)[0+i+j]?=some (.int .i64 x)){K:Int->Prop}(hK:K x):fF .i64 (Addr.add (Addr.add ⟨p,0,none⟩ i) j) σ K:=by
 obtain⟨e,g,d⟩:=h.hd;exact d.gF (hx _ .nilFunc) hK
theorem im.lC (h:im σ p q c s)(cap:Nat):cR ⟨some ⟨q,0,none⟩,c.n,cap⟩ 1 (ints (oe s.tk)) σ (· = q):=by
 obtain⟨r,b⟩:=h.row;refine b.fX (o:=0) rfl (by rw[QE,wM,h.len];simp) λj a=>?_;rw[zG,zd a]
theorem yW (h:im σ p q c s){R:aO}(hR:R true σ):YA.c (aW p) σ R:=by
 refine YA.o ?_;unfold YA.v;refine bY.intro (cK rfl (aG (h.rS λcap _=>?_)));have:=h.ok.lr;rw[zV aC];exact hR
theorem ER (h:im σ p q c s){R:aN}(hR:R (c.n:Int) σ):XZ.c (aW p) σ R:=by
 refine XZ.o ?_;unfold XZ.v;exact yW h (cG rfl (aG (h.rS λcap _=>hR)))
theorem xT (h:im σ p q c s)(i:Nat)(hi:i<=1000){R:aN}(hR:R ((at_ c s i:Nat):Int) σ):Yz.c (aW p) (i:Int) σ R:=by
 refine Yz.o ?_;unfold Yz.v;have a:=h.ok;unfold bW.ok at a;have:=h.fit;have b:i*c.size<=1000*512:=kO hi O;refine aG (h.rI (λ_ _=>rfl) (cA (m:=s.st*256) aA O (aG (h.gF (λ_ _=>rfl) ?_))));exact cA (m:=i*c.size) aA O (cA (m:=at_ c s i) (by simp[at_]) (by unfold at_;omega) hR)
theorem Cn (h:im σ p q c s)(x:Int)(hx2:x<=9223372036854775807){R:Int->Int->Hp->Prop}(h1:∀i,idx c s x=some i->R (i:Int) 0 σ)(h0:idx c s x=none->R 0 8 σ):Yi.c (aW p) x σ R:=by
 refine Yi.o ?_;unfold Yi.v;have B:=h.ok;unfold bW.ok at B;have z:=h.ok.jg;have j:=h.fit;have a:=h.len;have E:c.n*c.size<=128*512:=kO z O;refine yW h (cG rfl (xT h 0 O ?_));have r:at_ c s 0=s.st*256:=by simp[at_]
 rw[r];refine yu ?_;refine Jn.intro (xT h 0 O ?_);rw[r];refine cI (λA=>cK rfl (h0 ?_)) λC=>?_
 ·unfold idx;rw[zB O]
 ·rw[UM O O];obtain⟨y,D⟩:=zi (show 0<=x by omega);have key:If (decide (x-((s.st*256:Nat):Int)≥((c.n*c.size:Nat):Int))) (R 0 8 σ)
   (bS (some ⟨p,0,none⟩) λg=>fF .i64 ((g.add 1).add 0) σ λd=>Nz d<|Ar .i64 ((x-((s.st*256:Nat):Int)).tdiv d) λe=>R e 0 σ):=by
   refine cI (λu=>h0 ?_) λw=>aG (h.gF (λ_ _=>rfl) (nz O ?_))
   ·unfold idx;rw[a,zB O]
   ·have:idx c s x=some ((x-((s.st*256:Nat):Int)).toNat/c.size):=by unfold idx;rw[a,zA O]
    refine cA (m:=(x-((s.st*256:Nat):Int)).toNat/c.size) ?_ ?_ (h1 _ this)
    ·rw[YN O];have:x-((s.st*256:Nat):Int)=(((x-((s.st*256:Nat):Int)).toNat:Nat):Int):=by omega
     rw[this];simp
    ·have:=Nat.div_le_self (x-((s.st*256:Nat):Int)).toNat c.size;omega
  refine aG (aG ⟨h.rS λcap b=>h.gF (λ_ _=>rfl) (cA (m:=c.n*c.size) aA O key),h.gF (λ_ _=>rfl) (h.rS λcap b=>cA (m:=c.n*c.size) aA O key)⟩)
theorem Ib (h:im σ p q c s)(x:Int)(hx2:x<=9223372036854775807){R:Int->Int->Hp->Prop}(h1:∀i,obj c s x=some i->i<c.n->R (i:Int) 0 σ)(h0:obj c s x=none->R 0 8 σ):Yt.c (aW p) x σ R:=by
 refine Yt.o ?_;unfold Yt.v;have g:=h.ok;unfold bW.ok at g;have j:=h.ok.jg;refine Cn h x hx2 (λi b=>bY.intro (cK rfl ?_)) λb=>bY.intro (cG rfl (cG rfl (h0 (by unfold obj;rw[b]))));have a:=((V1 O).1 b).2.2;rw[h.len]at a;refine xT h i O (cU (λd=>h0 ?_) λd=>h1 i ?_ a)
 ·have:¬x=((at_ c s i:Nat):Int):=λe=>by rw[e]at d;simp at d
  unfold obj;rw[b];simp[this]
 ·have:x=((at_ c s i:Nat):Int):=by
   have:((at_ c s i:Nat):Int)=x:=by simpa using d
   exact this.symm
  unfold obj;rw[b];simp[this]
def cH.is (s:cH)(i:Nat):Bool:=s.tk.getD i false
theorem cH.lG {s:cH}{i:Nat}(hi:i<s.tk.length):s.tk[i]?=some (s.is i):=by
 simp[cH.is,zL,cM hi]
theorem Weg (h:im σ p q c s)(x:Int)(hx2:x<=9223372036854775807){R:Bool->Int->Hp->Prop}(h1:∀i,obj c s x=some i->R (s.is i) 0 σ)(h0:obj c s x=none->R false 8 σ):Yy.c (aW p) x σ R:=by
 refine Yy.o ?_;unfold Yy.v;refine Ib h x hx2 (λi b a=>cG rfl (aG (h.rS λcap d=>?_))) λb=>cK rfl (h0 b);rw[←h.len]at a;refine(h.lC cap).oI (GB (cH.lG a)) ?_;have:=h1 i b;cases hb:s.is i<;>rw[hb]at this<;>simpa using this
theorem GY {s:cH}{i:Nat}(hi:i<s.tk.length)(v:Bool):((s.put i v).many:Int)=s.many+((if v then 1 else 0)-(if s.is i then 1 else 0)):=by
 have key:∀(l:List Bool) (i:Nat) (b:Bool),l[i]?=some b->(((l.set i v).count true:Nat):Int)=(l.count true:Nat)+((if v then 1 else 0)-(if b then 1 else 0)):=by
  intro l
  induction l with
  | nil=>intro i b h;simp at h
  | cons x l ih=>
   intro i b h;cases i with
   | zero=>
    simp at h;subst h;cases v<;>cases x<;>simp[List.count_cons]<;>omega
   | succ i=>
    have:=ih i b (by simpa using h);simp only[sG,List.count_cons]
    push_cast
    omega
 exact key s.tk i _ (cH.lG hi)
theorem GX (s:cH):s.many<=s.tk.length:=vM
theorem FY (h:im σ p q c s){i:Nat}(hi:i<c.n)(v:Bool){sl:Sl}{G:Rg}(hs:cR sl 1 (ints [i]) σ G){R:aP}(hR:∀σ',Ext (λb=>b=p\/b=q) σ σ'->im σ' p q c (s.put i v)->R σ') :
 Zh.c (aW p) (if v then 1 else 0) sl σ R:=by
 refine Zh.o ?_;unfold Zh.v;have L:sl.len=1:=hs.jU;have U:=h.ok.jg;have H:=h.len;have Q:=GX s;have A:i<s.tk.length:=by omega
 have d:=GY A v;refine ZU (a:=bN) (λ(t:Int) C=>t=0/\C=σ\/t=1/\Ext (λb=>b=p\/b=q) σ C/\im C p q c (s.put i v)) (λt _=>1-t.toNat) (.inl ⟨rfl,rfl⟩) ?_;rintro t C (⟨rfl,rfl⟩|⟨rfl,e,N⟩)
 ·refine lV O ?_;refine hs.oI (i:=0) (x:=i) rfl (aG (h.rI (λ_ _=>rfl) (aG (h.rS λcap E=>?_))));refine(h.lC cap).oI (GB (cH.lG A)) ?_;have M:(0:Int)<=(if v then 1 else 0)/\(if v then(1:Int)else 0)<=1:=by cases v<;>simp
  have K:(0:Int)<=((if s.is i then 1 else 0:Nat):Int)/\((if s.is i then 1 else 0:Nat):Int)<=1:=by cases s.is i<;>simp
  have g:((if s.is i then 1 else 0:Nat):Int)=(if s.is i then 1 else 0):=by cases s.is i<;>rfl
  refine ar O O (ar O O (aG ?_));obtain⟨J,D,hd⟩:=h.hd;obtain⟨r,B⟩:=h.row;refine hd.s1 aA λP u z=>?_;have j:=Ws u B (Ne.symm h.ne);refine aG (z.rS rfl (ix O aC ?_));rw[add_lit];refine j.s0 (by simp[QE,wM];omega) λS w y=>?_;refine cA (m:=1) O O ⟨.inr ⟨rfl,?_,?_⟩,by decide⟩
  ·exact(Ext.eP (F:=λb=>b=p\/b=q) u (.inl rfl)).trans (Ext.eP w (.inr rfl))
  ·refine⟨⟨J,D,?_⟩,⟨r,?_⟩,h.ne,by simp[cH.put,h.len],h.ok,h.fit⟩
   ·have:=Ws w z h.ne;rw[d,←g];exact this
   ·have e:(ints (oe s.tk)++r).set (0+(i:Int).toNat*1) (.int .i64 (if v then 1 else 0))=ints (oe (s.put i v).tk)++r:=by
     rw[List.set_append_left _ _ (by simp[QE,wM];omega)]
     congr 1
     simp only[cH.put,PA,ints,sZ];have:(0+(i:Int).toNat*1)=i:=by omega
     rw[this]
     congr 1
     cases v<;>rfl
    rw[e]at y;exact y
 ·exact fH O (hR _ e N)
theorem Ra (h:im σ p q c s){x:Int}{i:Nat}(hx2:x<=9223372036854775807)(ho:obj c s x=some i)(ht:s.is i=true){R:aN}(hR:∀σ',Ext (λb=>b=p\/b=q) σ σ'->im σ' p q c (s.put i false)->R 0 σ') :
 ZH.c (aW p) x σ R:=by
 refine ZH.o ?_;unfold ZH.v;refine Ib h x hx2 (λj g d=>cG rfl (aG (h.rS λcap r=>?_))) λm=>by rw[ho]at m;cases m
 rw[ho]at g;cases g;have a:i<s.tk.length:=by rw[h.len];exact d
 refine(h.lC cap).oI (GB (cH.lG a)) ?_;rw[ht];refine cG rfl (nw (cs:=ints [i]) λv z e y=>?_);have A:=h.lt;exact FY (h.bK e) d false (xM y rfl) λσ' w u=>hR σ' (e.to.trans w) u
theorem ML (h:im σ p q c s){i:Nat}(hlow:low s=some i){R:Int->Int->Hp->Prop}(hR:∀σ',Ext (λb=>b=p\/b=q) σ σ'->im σ' p q c (s.put i true)->R ((at_ c s i:Nat):Int) 0 σ') :
 Zx.c (aW p) σ R:=by
 refine Zx.o ?_;unfold Zx.v;have D:=h.ok.jg;have a:=oF.1 hlow;obtain⟨m,A,C⟩:=a;have g:s.tk[i]=false:=by simpa using A
 refine yW h (cG rfl (aG (h.rS λcap y=>?_)));refine Jc (h.lC cap) (by simp[wM,h.len];omega) 0 (λj w d=>?_) λd=>?_
 ·have r:j<s.tk.length:=by
   have:=(cQ.1 w).1
   rwa [wM]at this
  have x:j=i:=by
   rcases qx j i with h1|h1|h1
   ·have:=C j h1;rw[GB (cM r)]at w;have:s.tk[j]=true:=by simpa using this
    simp[this]at w
   ·exact h1
   ·exact absurd (by rw[GB (cM m),g];rfl) (d i h1)
  subst x;rw[h.len]at m;refine fH O (nw (cs:=ints [j]) λv E e u=>?_);refine FY (h.bK e) m true (xM u rfl) λσ' B z=>xT z j O (hR σ' (e.to.trans B) z)
 ·exfalso;apply d;exact zE (i:=i) (by rw[GB (cM m),g];rfl)
theorem FD (h:im σ p q c s){R:Int->Int->Hp->Prop}(hR:∀σ',bO σ σ'->R (s.st:Int) (c.aF:Int) σ'):ZF.c (aW p) σ R:=by
 refine ZF.o ?_;unfold ZF.v;refine nw (cs:=[.int .i64 0,.int .i64 0]) λv u e m=>?_;have g:=h.bK e;refine yW g (cG rfl (aG (g.rI (λ_ _=>rfl) (aG (g.gF (λ_ _=>rfl) ?_)))));refine m.s1 aA λw b j=>j.s1 aA λv3 d a=>?_;refine a.rI rfl (a.rI rfl (hR _ ?_));exact Ext.fresh (Ext.fresh e (Ext.eP (F:=(· = σ.size)) b rfl) λi r=>O) (Ext.eP (F:=(· = σ.size)) d rfl) λi r=>by omega
theorem WgZ (n:Nat):(List.replicate n [Value.int .i64 0]).flatten=ints (List.replicate n 0):=by
 induction n with
 | zero=>rfl
 | succ n ih=>simp only[w9,vu,ih];rfl
theorem Np (hc:c.ok){st:Nat}(hf:st+c.aF<=1024){R:Option Addr->Int->Hp->Prop}(hR:∀σ' p q,bO σ σ'->σ.size<=p->σ.size<=q->im σ' p q c ⟨st,List.replicate c.n false⟩->R (some ⟨p,0,none⟩) 0 σ') :
 Ky.c (st:Int) c.size c.aF c.batch σ R:=by
 refine Ky.o ?_;unfold Ky.v;have J:=hc;unfold bW.ok at J;have L:=hc.jg;refine nw (cs:=[.int .i64 c.size,.int .i64 c.aF,.int .i64 c.batch]) λv S e y=>?_;refine y.rI rfl (y.rI rfl (y.rI rfl (UJ _ _ _ (λg G E K C B A=>?_) λu=>?_)))
 case refine_2=>rw[(Uo c).2 hc]at u;cases u
 have:g=c:=by
  obtain⟨a,b,d⟩:=c;obtain⟨M,P,Q⟩:=g;simp only at E K C
  congr 1<;>omega
 subst this;have i:=A.bZ y id;refine bY.intro (cG rfl (bY.intro (fH O (i.rI rfl (cA (m:=1024-g.aF) O O (fH O ?_))))));refine⟨λx=>bX x σ.size [.int .i64 g.size,.int .i64 g.aF,.int .i64 g.batch],i,⟨_,λx s=>by rw[add_lit,s.cell];rfl,⟨_,λx s=>by rw[add_lit,s.cell];rfl,⟨_,λx s=>by rw[add_lit,s.cell];rfl,?_⟩⟩⟩⟩;refine mk O O λN H j w=>⟨j.bZ i id,nw (cs:=[.int .i64 (st:Int),.int .i64 g.size,.int .i64 g.aF,.int .i64 g.batch,.slice (some ⟨B.size,0,none⟩) g.n g.n,.int .i64 0]) λv3 D r z=>⟨(j.trans r).bZ i id,?_⟩⟩;rw[WgZ]at w;have F:=A.1;refine hR _ _ _ (((e.trans A).trans j).trans r) O (show σ.size<=B.size by omega) ⟨⟨g.n,zD _,?_⟩,⟨[],?_⟩,O,by simp,hc,hf⟩
 ·have:cH.many ⟨st,List.replicate g.n false⟩=0:=by simp[cH.many,Ag]
  rw[this];exact z
 ·have:oe (List.replicate g.n false)=List.replicate g.n 0:=by simp[oe]
  rw[this,j9];exact r.bZ w id
end Go.Ar
namespace Go.Proofs
open Go.Vc
set_option maxRecDepth 100000
def X9.h:Hn:=.q .o1 (.q (.q .o3 .aK) (.q .o1 (.q (.q .o6 (.k (.loop [(3,.one .s),(14,.I)] (.q .o1 (.q (.c .l .l) (.q (.k (.q .o4 .o7)) .o2)))))) .aL)))
def X9.v (a:R2)(b:Hp)(c:Sl->Hp->Prop):Prop:=WC.c a b λd e=>If (!d) (c ⟨none,0,0⟩ e) (bE a 3 e λg=>W6 [.s,bN] (λh=>h ⟨none,0,0⟩ 0 e) λi (j:Sl) (k:Int) l=>If (k<((g.len:Nat):Int)) (Ix g.a g.len k 3 λm=>aQ m 0 l λn=>aQ m 1 l λo=>aY m 2 l λp=>aV #[.I 0,.I 0,.pointer none] 210 l λq r=>aR q 0 (.I n) r λs=>aR q 1 (.I o) s λt=>aR q 2 (.pointer p) t λu=>aY q 2 u λv=>ZF.c v u λw x y=>aV #[.I w,.I x] 92 y λz aa=>App j 2 16 92 [.I 0,.I 0] ⟨some z,1,1⟩ aa λab ac=>bL (k+1) λad=>i ab ad ac) (c j l))
theorem X9.o {a b c}(d:X9.v a b c):X9.c a b c:=Wa Tryz.func107 (x:=X9.h) (R0 d)
def YF.h:Hn:=.q .o1 (.q (.q .o3 .aK) (.q .o1 (.q (.q .o6 (.k (.loop [(3,.I),(14,.I)] (.q .o1 (.q (.c .l .l) (.q (.k (.q .o4 (.cV (.held true [] (.tk [0,1,2,4,5,6] (.all [(3,.tk [7,8,9] (.done))])))))) .o2)))))) .aL)))
def YF.v (a:R2)(b:Hp)(c:aN):Prop:=WC.c a b λd e=>If (!d) (c 0 e) (bE a 3 e λg=>W6 [bN,bN] (λh=>h 0 0 e) λi (j:Int) (k:Int) l=>If (k<((g.len:Nat):Int)) (Ix g.a g.len k 3 λm=>aQ m 0 l λn=>aQ m 1 l λo=>aY m 2 l λp=>aV #[.I 0,.I 0,.pointer none] 210 l λq r=>aR q 0 (.I n) r λs=>aR q 1 (.I o) s λt=>aR q 2 (.pointer p) t λu=>dT u λv=>aU v q 2 λw=>gQ v bN ((q.add 0).add 0) λ(x:Int)=>XZ.c w u λy z=>And (v z) <| bL (y-x) λaa=>bL (j+aa) λab=>bL (k+1) λac=>i ab ac z) (c j l))
theorem YF.o {a b c}(d:YF.v a b c):YF.c a b c:=Wa Tryz.func109 (x:=YF.h) (R0 d)
def YB.h:Hn:=.q .o2 (.q (.q .o3 .aJ) (.q .o4 (.q (.q .o2 .aJ) (.q (.o 11) (.q (.oq 16) .l)))))
def YB.v (a:R2)(b:Int)(c:Hp)(d:Int->Int->Hp->Prop):Prop:=WC.c a c λe f=>If (!e) (d 0 5 f) (XR.c a b f λg h=>If g.isNone (d 0 8 h) (bF g 2 h λj=>Yi.c j b h λk l m=>bS g λn=>bM ((n.add 0).add 1) m λo=>bL (o*256) λp=>bS a λq=>bM ((q.add 0).add 0) m λr=>bL (k*r) λs=>bL (p+s) λt=>d t 0 m))
theorem YB.o {a b c d}(e:YB.v a b c d):YB.c a b c d:=Wa Tryz.func115 (x:=YB.h) (R0 e)
def WC.h:Hn:=.q .o1 (.q (.cV (.seq [.op,.op,.op,.dD true 6 (RI.ops 6),.op])) .l)
def WC.v (a:R2)(b:Hp)(c:aO):Prop:=bY (λd e=>c d e) λf=>If (!a.isNone) (bS a λg=>bM ((g.add 0).add 0) b λh=>f (decide (h>0)) b) (f false b)
theorem WC.o {a b c}(d:WC.v a b c):WC.c a b c:=Wa Tryz.func137 (x:=WC.h) (R0 d)
def XR.h:Hn:=.q .o1 (.q (.q .o6 (.k (.loop [(13,.I)] (.q .o1 (.q (.c .l .l) (.q (.k (.q .o2 (.q (.o 15) (.q .o2 (.c (.q .o7 .l) .l))))) .o2)))))) .aM)
def XR.v (a:R2)(b:Int)(c:Hp)(d:Option Addr->Hp->Prop):Prop:=bE a 3 c λf=>W6 [bN] (λg=>g 0 c) λh (i:Int) j=>If (i<((f.len:Nat):Int)) (bE a 3 j λl=>Ix l.a l.len i 3 λm=>aY m 2 j λn=>Yi.c n b j λo p q=>If (p==0) (bE a 3 q λs=>Ix s.a s.len i 3 λt=>d (some t) q) (bL (i+1) λu=>h u q)) (d none j)
theorem XR.o {a b c d}(e:XR.v a b c d):XR.c a b c d:=Wa Tryz.func145 (x:=XR.h) (R0 e)
def Qh.h:Hn:=.q .o3 (.q (.q .o7 (.q .o2 .aJ)) (.q .o5 .l))
def Qh.v (a b c:Int)(d:Hp)(e:Option Addr->Int->Hp->Prop):Prop:=aV #[.I a,.I b,.I c] 31 d λf g=>aQ f 0 g λh=>aQ f 1 g λi=>aQ f 2 g λj=>Zd.c h i j g λk l m=>If (l != 0) (e none 1 m) (aQ f 0 m λn=>aQ f 1 m λo=>aQ f 2 m λp=>aV #[.I n,.I o,.I p,.slice none 0 0] 205 m λq r=>e (some q) 0 r)
theorem Qh.o {a b c d e}(f:Qh.v a b c d e):Qh.c a b c d e:=Wa Tryz.func156 (x:=Qh.h) (R0 f)
def WZ.h:Hn:=.q .o1 (.q (.q .o3 .aK) (.q .o1 (.q .fV .aL)))
def WZ.v (a:R2)(b:Hp)(c:Sl->Hp->Prop):Prop:=WC.c a b λd e=>If (!d) (c ⟨none,0,0⟩ e) (aV #[.slice none 0 0] 51 e λf g=>bE a 3 g λi=>Wf.c i ⟨228,#[],#[.pointer (some f)]⟩ g λj k=>bS a λl=>aR l 3 (.slice j.a j.len j.cap) k λm=>jk f m λn=>c n m)
theorem WZ.o {a b c}(d:WZ.v a b c):WZ.c a b c:=Wa Tryz.func190 (x:=WZ.h) (R0 d)
def Xd.h:Hn:=.q .o2 (.q (.k (.q .o4 (.c .aL (.q .o3 .aJ)))) (.q .o1 (.q (.k (.loop [(6,.one .s)] (.q (.q .o4 (.c .l .l)) (.k (.q .o7 (.q (.q .o2 (.c .l .l)) .o5)))))) (.q .o3 .l))))
def Xd.v (a:R2)(b:Int)(c:Hp)(d:Sl->Int->Hp->Prop):Prop:=WC.c a c λe f=>If (!e) (d ⟨none,0,0⟩ 5 f) (If (b<0) (d ⟨none,0,0⟩ 1 f) (W6 [.s] (λg=>g ⟨none,0,0⟩ f) λh (i:Sl) j=>If (((i.len:Nat):Int)<b) (Y8.c a j λk l m=>If (!l) (d i 0 m) (aV #[.I k] 3 m λn o=>App i 1 8 3 [.I 0] ⟨some n,1,1⟩ o λp q=>h p q)) (d i 0 j)))
theorem Xd.o {a b c d}(e:Xd.v a b c d):Xd.c a b c d:=Wa Tryz.func214 (x:=Xd.h) (R0 e)
def Y9.h:Hn:=.q .o1 (.q (.q .o3 .aK) (.q (.o 11) (.q (.q .o2 .aJ) (.q (.q .o6 (.k (.loop [(31,.I)] (.q .o1 (.q (.c .l .l) (.q (.k (.q .o4 (.q (.oq 17) .aK))) .o2)))))) (.q (.o 11) (.q (.o 15) .aM))))))
def Y9.v (a:R2)(b:Int)(c:Hp)(d:aN):Prop:=WC.c a c λe f=>If (!e) (d 5 f) (bS a λg=>bM ((g.add 0).add 0) f λh=>bM ((g.add 0).add 1) f λi=>bM ((g.add 0).add 2) f λj=>Ky.c b h i j f λk l m=>If (l != 0) (d l m) (bE a 3 m λo=>W6 [bN] (λp=>p 0 m) λq (r:Int) s=>If (r<((o.len:Nat):Int)) (Ix o.a o.len r 3 λt=>aQ t 0 s λu=>aQ t 1 s λv=>aY t 2 s λw=>aV #[.I 0,.I 0,.pointer none] 210 s λx y=>aR x 0 (.I u) y λz=>aR x 1 (.I v) z λaa=>aR x 2 (.pointer w) aa λab=>bM ((x.add 0).add 1) ab λac=>bM ((x.add 0).add 1) ab λad=>bL ((if b>ac then b else ac)-(if b<ad then b else ad)) λae=>bS a λaf=>bM ((af.add 0).add 1) ab λag=>If (ae<ag) (d 9 ab) (bL (r+1) λah=>q ah ab)) (bE a 3 s λaj=>Wb.c aj b ⟨258,#[],#[]⟩ s λak al am=>bE a 3 am λao=>aV #[.I 0,.I b,.pointer k] 210 am λap aq=>Wg.c ao ak ⟨some ap,1,1⟩ aq λar au=>bS a λav=>aR av 3 (.slice ar.a ar.len ar.cap) au λaw=>d 0 aw)))
theorem Y9.o {a b c d}(e:Y9.v a b c d):Y9.c a b c d:=Wa Tryz.func216 (x:=Y9.h) (R0 e)
def Yb.h:Hn:=.q .o2 (.jI [] (.q .o4 (.c (.cV (.held true [6] (.tk [0,1,2] (.all [(3,.all [(4,.all [(5,.all [(6,.done)])])])])))) .l)) (.q .o5 .l))
def Yb.v (a b:Int)(c:R2)(d:Addr)(e:Hp)(f:aO):Prop:=aV #[.I a,.I b,.pointer c] 210 e λg h=>Jn [] (λi=>bM ((g.add 0).add 0) i λj=>f (j==0) i) λk=>bM ((g.add 0).add 0) h λl=>If (l==0) (dT h λm=>gQ m .s d λ(n:Sl)=>aU m g 2 λo=>ZF.c o h λp q r=>And (m r) <| aV #[.I p,.I q] 92 r λs t=>And (m t) <| App n 2 16 92 [.I 0,.I 0] ⟨some s,1,1⟩ t λu v=>And (m v) <| dL d (.slice u.a u.len u.cap) v λw=>k w) (k h)
theorem Yb.o {a b c d e f}(g:Yb.v a b c d e f):Yb.c a b c d e f:=Wa Tryz.func228 (x:=Yb.h) (R0 g)
def Y4.h:Hn:=.q .o2 (.q (.q .o3 .aJ) (.q .o1 (.q (.q .o3 (.k (.loop [(6,.one .b),(19,.I)] (.q .o1 (.q (.c .l .l) (.q (.k (.q .o5 (.q .o8 (.q (.q .o2 (.c (.q .o3 .l) .l)) (.cV (.seq [.op,.op,.dD false 2 [.op,.op],.op,.dD false 5 (RI.ops 5),.op])))))) .o2)))))) (.q (.q .o1 .aJ) (.q (.q .o3 (.k (.loop [(49,.I)] (.q .o1 (.q (.c .l .l) (.q (.k (.q .o3 (.q .o4 (.q .o6 .fV)))) .o2)))))) (.q .o4 .l))))))
def Y4.v (a:R2)(b:Sl)(c:Hp)(d:Sl->Int->Hp->Prop):Prop:=WC.c a c λe f=>If (!e) (d ⟨none,0,0⟩ 5 f) (W6 [.b,bN] (λg=>g false 0 f) λh (i:Bool) (j:Int) k=>If (j<((b.len:Nat):Int)) (Ix b.a b.len j 1 λl=>bM l k λm=>W7.c a m k λn o p=>If (o != 0) (d ⟨none,0,0⟩ o p) (bY (λq r=>bY (λs t=>bL (j+1) λu=>h s u t) λv=>If q (v true r) (eW b 1 0 j (b.cap:Nat) λw=>Wo.c w m r λx y=>v x y)) λz=>If i (z true p) (z (!n) p))) (If i (d ⟨none,0,0⟩ 9 k) (W6 [bN] (λaa=>aa 0 k) λab (ac:Int) ad=>If (ac<((b.len:Nat):Int)) (Ix b.a b.len ac 1 λae=>bM ae ad λaf=>XR.c a af ad λag ah=>bF ag 2 ah λaj=>ZH.c aj af ah λak al=>bS ag λam=>bM ((am.add 0).add 0) al λan=>bL (an-1) λao=>bS ag λap=>dL ((ap.add 0).add 0) (.I ao) al λaq=>bL (ac+1) λar=>ab ar aq) (WZ.c a ad λau av=>d au 0 av))))
theorem Y4.o {a b c d}(e:Y4.v a b c d):Y4.c a b c d:=Wa Tryz.func246 (x:=Y4.h) (R0 e)
def Y8.h:Hn:=.q .o2 (.q .o1 (.q (.q .o6 (.k (.loop [(4,.one .p),(14,.I)] (.q .o1 (.q (.c .l .l) (.q (.k (.q .o2 (.q .o7 (.q (.cV (.iw true [] [(48,.one .b)] (.tk [0,1,2,3,4,5,6,7,8] (.all [(9,.take 10 (.take 11 (.split 34 (.take 12 (.take 13 (.take 14 (.split 37 (.take 15 (.take 16 (.take 17 (.take 18 (.take 19 (.take 20 (.take 21 (.take 22 (.take 23 (.take 24 (.take 25 (.done)))))))))))) (.take 15 (.take 16 (.take 17 (.take 19 (.take 20 (.take 21 (.all [(18,.all [(22,.all [(23,.take 24 (.take 25 (.done)))])]),(22,.all [(18,.all [(23,.take 24 (.take 25 (.done)))])])]))))))))))) (.take 12 (.take 13 (.take 14 (.take 15 (.take 16 (.take 17 (.take 18 (.take 19 (.take 20 (.take 21 (.take 22 (.take 23 (.take 24 (.take 25 (.done))))))))))))))))))])))) (.c .o2 .l))))) .o2)))))) (.q (.q .o2 .aJ) (.q .fV (.q .fV (.q .o3 .l))))))
def Y8.v (a:R2)(b:Hp)(c:Int->Bool->Hp->Prop):Prop:=bE a 3 b λe=>W6 [.p,bN] (λf=>f none 0 b) λg (h:R2) (i:Int) j=>If (i<((e.len:Nat):Int)) (bE a 3 j λl=>Ix l.a l.len i 3 λm=>Jn [.b] (λ(n:Bool) o=>If n (bL (i+1) λp=>g (some m) p o) (bL (i+1) λq=>g h q o)) λr=>dT j λs=>bS (some m) λt=>gQ s bN ((t.add 0).add 0) λ(u:Int)=>bS (some m) λv=>aU s v 2 λw=>XZ.c w j λx y=>And (s y) <| If (u<x) (If h.isNone (r true y) (bS (some m) λz=>bS h λaa=>(bM ((z.add 0).add 0) y λab=>bM ((z.add 0).add 1) y λac=>And (s y) <| bM ((aa.add 0).add 0) y λad=>bM ((aa.add 0).add 1) y λae=>And (s y) <| W5.c ab ac ad ae y λaf ag=>And (s ag) <| r af ag) ∧ (bM ((aa.add 0).add 0) y λah=>bM ((aa.add 0).add 1) y λai=>And (s y) <| bM ((z.add 0).add 0) y λaj=>bM ((z.add 0).add 1) y λak=>And (s y) <| W5.c aj ak ah ai y λal am=>And (s am) <| r al am))) (r false y)) (If h.isNone (c 0 false j) (bF h 2 j λao=>Zx.c ao j λap aq ar=>bS h λau=>bM ((au.add 0).add 0) ar λav=>bL (av+1) λaw=>bS h λax=>dL ((ax.add 0).add 0) (.I aw) ar λay=>c ap true ay))
theorem Y8.o {a b c}(d:Y8.v a b c):Y8.c a b c:=Wa Tryz.func251 (x:=Y8.h) (R0 d)
def YY.h:Hn:=.q .o2 (.q .o6 .l)
def YY.v (a b:Int)(c:R2)(d:Int)(e:Hp)(f:aN):Prop:=aV #[.I a,.I b,.pointer c] 210 e λg h=>bM ((g.add 0).add 1) h λi=>bL (i-d) λj=>f j h
theorem YY.o {a b c d e f}(g:YY.v a b c d e f):YY.c a b c d e f:=Wa Tryz.func258 (x:=YY.h) (R0 g)
def W7.h:Hn:=.q .o2 (.q (.q .o3 .aJ) (.q .o4 (.q (.q .o2 .aJ) (.q .fV .l))))
def W7.v (a:R2)(b:Int)(c:Hp)(d:Bool->Int->Hp->Prop):Prop:=WC.c a c λe f=>If (!e) (d false 5 f) (XR.c a b f λg h=>If g.isNone (d false 8 h) (bF g 2 h λj=>Yy.c j b h λk l m=>d k l m))
theorem W7.o {a b c d}(e:W7.v a b c d):W7.c a b c d:=Wa Tryz.func263 (x:=W7.h) (R0 e)
def W5.h:Hn:=.q .o3 (.q (.cV (.seq [.op,.op,.op,.op,.op,.op,.dD false 12 [.op,.op,.op,.op,.op,.op,.dD true 5 (RI.ops 5)],.op])) .l)
def W5.v (a b c d:Int)(e:Hp)(f:aO):Prop:=aV #[.I a,.I b] 207 e λg h=>aV #[.I c,.I d] 207 h λi j=>aQ g 0 j λk=>aQ i 0 j λl=>bY (λm n=>f m n) λo=>If (k>l) (o true j) (aQ g 0 j λp=>aQ i 0 j λq=>bY (λr s=>o r s) λt=>If (p==q) (aQ g 1 j λu=>aQ i 1 j λv=>t (decide (u<v)) j) (t false j))
theorem W5.o {a b c d e f}(g:W5.v a b c d e f):W5.c a b c d e f:=Wa Tryz.func276 (x:=W5.h) (R0 g)
end Go.Proofs
namespace Go.Ar
open Go Go.Vc Go.Proofs
variable {σ:Hp}{F:Rg}{p:Nat}{c:bW}{ps:List (Nat×Nat)}{ss:List cH}
def eB (ps:List (Nat×Nat)):List Nat:=ps.flatMap λx=>[x.1,x.2]
theorem Hc {ps:List (Nat×Nat)}{b:Nat}:b∈eB ps↔∃x∈ps,b=x.1\/b=x.2:=by simp[eB]
def dW:List (Nat×Nat)->List cH->List Value
 | x::ps,s::ss=>.int .i64 (s.many:Int) :: .int .i64 (s.st:Int) :: .pointer (some ⟨x.1,0,none⟩)::dW ps ss
 | _,_=>[]
theorem Q5:∀{ps:List (Nat×Nat)} {ss:List cH},ps.length=ss.length->(dW ps ss).length=3*ss.length
 | [],[],_=>rfl
 | x::ps,s::ss,h=>by simp only[dW,zP]at *;rw[Q5 O];omega
theorem Qw:∀{ps:List (Nat×Nat)} {ss:List cH} {i:Nat} {x:Nat×Nat} {s:cH},ps[i]?=some x->ss[i]?=some s →
 (dW ps ss)[3*i]?=some (.int .i64 (s.many:Int))/\(dW ps ss)[3*i+1]?=some (.int .i64 (s.st:Int))/\(dW ps ss)[3*i+2]?=some (.pointer (some ⟨x.1,0,none⟩))
 | [],_,_,_,_,h,_=>by simp at h
 | _::_,[],_,_,_,_,h=>by simp at h
 | y::ps,t::ss,0,x,s,h1,h2=>by simp at h1 h2;subst h1;subst h2;simp[dW]
 | y::ps,t::ss,i+1,x,s,h1,h2=>by
  have:=Qw (ps:=ps) (ss:=ss) (i:=i) (by simpa using h1) (by simpa using h2);simp only[dW];rw[show 3*(i+1)=3*i+3 by omega];simpa using this
theorem Vg:∀{ps ps':List (Nat×Nat)} {ss ss':List cH},ps.length=ss.length->dW (ps++ps') (ss++ss')=dW ps ss++dW ps' ss'
 | [],_,[],_,_=>rfl
 | x::ps,_,s::ss,_,h=>by simp only[lL,dW,Vg (ps:=ps) (ss:=ss) (by simpa using h)]
theorem I8:∀{ps:List (Nat×Nat)} {ss:List cH},∀v∈dW ps ss,dN v=true
 | [],_,v,h=>by simp[dW]at h
 | _::_,[],v,h=>by simp[dW]at h
 | x::ps,s::ss,v,h=>by
  simp only[dW,zQ]at h;rcases h with rfl|rfl|rfl|h
  ·rfl
  ·rfl
  ·rfl
  ·exact I8 v h
structure fB (σ:Hp) (F:Rg) (p:Nat) (c:bW) (ps:List (Nat×Nat)) (ss:List cH):Prop where
 hd:∃sl:Sl,bX σ p [.int .i64 (c.size:Int),.int .i64 (c.aF:Int),.int .i64 (c.batch:Int),.slice sl.a sl.len sl.cap]/\bR sl 3 (dW ps ss) σ (λb=>F b/\b≠p/\b∉eB ps)
 sp:∀(i:Nat) (x:Nat×Nat) s,ps[i]?=some x->ss[i]?=some s->im σ x.1 x.2 c s
 fp:F p
 fb:∀b∈eB ps,F b
 nd:(p::eB ps).Nodup
 len:ps.length=ss.length
 ok:c.ok
 qc:ss.Pairwise (λa b=>a.st<b.st)
theorem fB.loc:dQ λσ F=>fB σ F p c ps ss:=λσ B F G h K j=>by
 obtain⟨sl,a,A⟩:=h.hd;have bU:∀b,b<σ.size->F b->B[b]?=σ[b]? := λb a d=>(j b a d).2;have y:∀{b:Nat} {cs:List Value},bX σ b cs->F b->bX B b cs:=by
  rintro b cs ⟨e,D⟩ d;exact⟨e,(bU b (bX.lt ⟨e,D⟩) d).trans D⟩
 have lt:∀b∈eB ps,b<σ.size:=by
  intro b a;obtain⟨x,m,u⟩:=Hc.1 a;obtain⟨i,C⟩:=zN m;have w:=(cQ.1 C).1;have:=(h.sp i x _ C (cM (by rw[←h.len];exact w))).lt;rcases u with rfl|rfl
  ·exact this.1
  ·exact this.2
 refine⟨⟨sl,y a h.fp,bR.loc _ _ _ _ _ _ _ A K λb a d=>⟨⟨(j b a d.1).1,d.2⟩,(j b a d.1).2⟩⟩,λi x s m z=>?_,(j p a.lt h.fp).1,λb a=>(j b (lt b a) (h.fb b a)).1,h.nd,h.len,h.ok,h.qc⟩;have g:=h.sp i x s m z;have J:x.1∈eB ps:=Hc.2 ⟨x,zE m,.inl rfl⟩;have L:x.2∈eB ps:=Hc.2 ⟨x,zE m,.inr rfl⟩;obtain⟨E,H,hd⟩:=g.hd;obtain⟨r,A⟩:=g.row;exact⟨⟨E,H,y hd (h.fb _ J)⟩,⟨r,y A (h.fb _ L)⟩,g.ne,g.len,g.ok,g.fit⟩
theorem fB.bK {σ':Hp}(h:fB σ F p c ps ss)(e:bO σ σ'):fB σ' F p c ps ss:=dQ.bK fB.loc h e
theorem fB.ly (h:fB σ F p c ps ss):ss.length<=1024:=by
 have key:∀i (hi:i<ss.length),i<=ss[i].st:=by
  intro i
  induction i with
  | zero=>intro _;omega
  | succ i ih=>
   intro hi;have d:=ih O;have e:=kP.1 h.qc i (i+1) O hi O;omega
 rcases wR ss.length with h0|h0
 ·omega
 ·have a:ss.length-1<ss.length:=by omega
  have d:=key _ a;have b:ss.length-1<ps.length:=by rw[h.len];exact a
  have e:=(h.sp _ _ _ (cM b) (cM a)).fit;have:=h.ok.2.2.2.1;omega
structure r7 (σ:Hp) (F:Rg) (p:Nat) (ps:List (Nat×Nat)) (ss:List cH) (sl:Sl) (rb:Nat) (cs:List Value):Prop where
 a:sl.a=some ⟨rb,0,none⟩
 bZ:bX σ rb cs
 fr:F rb/\rb≠p/\rb∉eB ps
 get:∀{j:Nat} {v:Value},(dW ps ss)[j]?=some v->cs[j]?=some v
 CJ:3*ss.length<=cs.length
theorem fB.sl (h:fB σ F p c ps ss):∃sl:Sl,bX σ p [.int .i64 (c.size:Int),.int .i64 (c.aF:Int),.int .i64 (c.batch:Int),.slice sl.a sl.len sl.cap]/\sl.len=ss.length/\(ss≠[]->∃rb cs,r7 σ F p ps ss sl rb cs):=by
 obtain⟨sl,r,g⟩:=h.hd;have m:=g.1;rw[Q5 h.len]at m;refine⟨sl,r,O,λe=>?_⟩;have i:0<ss.length:=qz.2 e;rcases g.2 with⟨h0,_⟩|⟨b,cs,hq,ha,hbb,hle,hcl,ht⟩
 ·omega
 ·refine⟨b,cs,ha,hbb,hq,λ{j v} d=>?_,?_⟩
  ·rw[←ht,zY]at d;split at d
   ·exact d
   ·cases d
  ·have:=congrArg List.length ht;rw[zO,Q5 h.len]at this;omega
theorem fB.jq (h:fB σ F p c ps ss){i:Nat}(hi:i<ss.length):∃x s,ps[i]?=some x/\ss[i]?=some s/\im σ x.1 x.2 c s:=by
 have a:i<ps.length:=by rw[h.len];exact hi
 have b:ps[i]?=some ps[i]:=cM a;exact⟨_,_,b,cM hi,h.sp i _ _ b (cM hi)⟩
theorem KU (h:fB σ F p c ps ss){R:aO}(hR:R true σ):WC.c (aW p) σ R:=by
 refine WC.o ?_;unfold WC.v;obtain⟨sl,a,d,e⟩:=h.sl;have b:=h.ok;unfold bW.ok at b;refine bY.intro (cK rfl (aG (a.gF rfl ?_)));rw[zV O];exact hR
def iO (x:Int):Prop:=x<=9223372036854775807
theorem BE (h:fB σ F p c ps ss)(x:Int)(hx:iO x){R:Option Addr->Hp->Prop}(h0:ln c ss x=none->R none σ)
 (h1:∀(i:Nat) sl rb cs,ln c ss x=some i->i<ss.length->bX σ p [.int .i64 (c.size:Int),.int .i64 (c.aF:Int),.int .i64 (c.batch:Int),.slice sl.a sl.len sl.cap]->r7 σ F p ps ss sl rb cs->R (some ⟨rb,3*i,none⟩) σ):XR.c (aW p) x σ R:=by
 refine XR.o ?_;unfold XR.v;obtain⟨sl,A,S,L⟩:=h.sl;have G:=h.ly;refine aG (A.rS rfl ?_);refine ZU (a:=bN) (λ(t:Int) D=>∃i:Nat,t=(i:Int)/\i<=ss.length/\D=σ/\∀(j:Nat) s,j<i->ss[j]?=some s->idx c s x=none) (λt _=>ss.length-t.toNat) ⟨0,rfl,O,rfl,λj s z=>O⟩ ?_;rintro t D ⟨i,rfl,Q,rfl,u⟩;refine cI (λB=>?_) λC=>?_
 ·simp only at B;have b:i<ss.length:=by omega
  obtain⟨P,s,J,y,M⟩:=h.jq b;obtain⟨rb,cs,E⟩:=L (by rintro rfl;simp at b);have N:=Qw J y;refine aG (A.rS rfl ?_);rw[E.a];refine ix O O ?_;rw[add_lit];refine E.bZ.rP (x:=some ⟨P.1,0,none⟩) ?_ ?_
  ·have:=E.get N.2.2;rw[show 0+(i:Int).toNat*3+2=3*i+2 by omega];exact this
  have g:∀r,idx c s x=some r->ln c ss x=some i:=by
   intro r w;refine oF.2 ⟨b,?_,λj z=>?_⟩
   ·have:ss[i]=s:=by rw[cM b]at y;simpa using y
    rw[this,w];rfl
   ·rw[u j _ z (cM O)];simp
  refine Cn M x hx (λr w=>cK rfl (aG (A.rS rfl ?_))) λH=>cG rfl ?_
  ·rw[E.a];refine ix O O ?_;rw[add_lit,show 0+(i:Int).toNat*3=3*i by omega];exact h1 i sl rb cs (g r w) b A E
  ·refine cA (m:=i+1) O O ⟨⟨i+1,rfl,O,rfl,λj K z d=>?_⟩,O⟩;by_cases e:j=i
   ·subst e;rw[y]at d;cases d;exact H
   ·exact u j K O d
 ·refine h0 ?_;refine vB.2 λs y=>?_;obtain⟨j,z⟩:=zN y;have:=(cQ.1 z).1;rw[u j s (by simp only at C;omega) z];rfl
theorem VL {x:Int}{k:Nat}{s:cH}(hk:ln c ss x=some k)(hs:ss[k]?=some s):eD c ss x=(obj c s x).map s.is:=by
 unfold eD;rw[hk];simp only[hs];rfl
theorem CR {x:Int}(hk:ln c ss x=none):eD c ss x=none:=by unfold eD;rw[hk]
theorem Ly (h:fB σ F p c ps ss)(x:Int)(hx:iO x){R:Bool->Int->Hp->Prop}(h1:∀b,eD c ss x=some b->R b 0 σ)(h0:eD c ss x=none->R false 8 σ):W7.c (aW p) x σ R:=by
 refine W7.o ?_;unfold W7.v;refine KU h (cG rfl (BE h x hx (λa=>cK rfl (h0 (CR a))) λi sl B A d z C E=>cG rfl (aG ?_)));obtain⟨y,s,u,e,r⟩:=h.jq z;have w:=Qw u e;refine E.bZ.rP (x:=some ⟨y.1,0,none⟩) (E.get w.2.2) ?_;have g:=VL d e;exact Weg r x hx (λj m=>h1 _ (by rw[g,m];rfl)) λa=>h0 (by rw[g,a];rfl)
theorem Ga {x:Int}{k:Nat}{s:cH}(hk:ln c ss x=some k)(hs:ss[k]?=some s):q8 c ss x=(idx c s x).map (at_ c s):=by
 unfold q8;rw[hk];simp only[hs]
theorem FW {x:Int}(hk:ln c ss x=none):q8 c ss x=none:=by unfold q8;rw[hk]
theorem Wn2 {x:Int}{k:Nat}{s:cH}(hk:ln c ss x=some k)(hs:ss[k]?=some s):∃i,idx c s x=some i:=by
 obtain⟨b,a,_⟩:=oF.1 hk;have:ss[k]=s:=by rw[cM b]at hs;simpa using hs
 rw[this]at a;exact qj.1 a
theorem Wll (h:fB σ F p c ps ss)(x:Int)(hx:iO x){R:Int->Int->Hp->Prop}(h1:∀a,q8 c ss x=some a->R (a:Int) 0 σ)(h0:q8 c ss x=none->R 0 8 σ):YB.c (aW p) x σ R:=by
 refine YB.o ?_;unfold YB.v;refine KU h (cG rfl (BE h x hx (λb=>cK rfl (h0 (FW b))) λi sl M L d B G E=>cG rfl (aG ?_)));obtain⟨D,s,A,u,w⟩:=h.jq B;have z:=Qw A u;obtain⟨r,g⟩:=Wn2 d u;have H:=Ga d u;have C:=h.ok;unfold bW.ok at C;have j:=((V1 O).1 g).2.2;rw[w.len]at j;have b:=h.ok.jg;have y:=w.fit;have K:r*c.size<=128*512:=kO O O;refine E.bZ.rP (x:=some ⟨D.1,0,none⟩) (E.get z.2.2) ?_;refine Cn w x hx (λJ e=>?_) λb=>by rw[g]at b;cases b
 rw[g]at e;cases e;refine aG (E.bZ.gF (x:=s.st) (E.get z.2.1) (cA (m:=s.st*256) aA O (aG (G.gF rfl ?_))));refine cA (m:=r*c.size) aA O (cA (m:=at_ c s r) (by simp[at_]) (by unfold at_;omega) (h1 _ (by rw[H,g];rfl)))
theorem ud {h:Hp}{rb i:Nat}{cs:List Value}{x y:Int}{z:Option Addr}{e:Nat}(hb:bX h rb cs)(h0:cs[3*i]?=some (.int .i64 x))(h1:cs[3*i+1]?=some (.int .i64 y))(h2:cs[3*i+2]?=some (.pointer z))
 {K:Int->Int->Option Addr->Prop} (hK:K x y z):fF .i64 (Addr.add ⟨rb,3*i,none⟩ 0) h λu=>fF .i64 (Addr.add ⟨rb,3*i,none⟩ 1) h λv=>fZ (Addr.add ⟨rb,3*i,none⟩ 2) h λw=>K u v w:=
 hb.rI h0 (hb.rI h1 (hb.rP h2 hK))
theorem yE {h:Hp}{x y:Int}{z:Option Addr}{e:Nat}{K:Addr->Hp->Prop}(hK:∀h',bO h h'->bX h' h.size [.int .i64 x,.int .i64 y,.pointer z]->K ⟨h.size,0,none⟩ h') :
 Nw (.cells #[.int .i64 0,.int .i64 0,.pointer none] e (0,0)) h λn v=>dL (n.add 0) (.int .i64 x) v λv1=>dL (n.add 1) (.int .i64 y) v1 λv2=>dL (n.add 2) (.pointer z) v2 λv3=>K n v3:=by
 refine nw (cs:=[.int .i64 0,.int .i64 0,.pointer none]) λv m e g=>g.s1 aA λv1 o1 b=>b.s1 aA λv2 o2 j=>j.s1 aA λv3 o3 d=>?_;refine hK v3 ?_ d;exact Ext.fresh (Ext.fresh (Ext.fresh e o1.ext λi a=>O) o2.ext λi a=>O) o3.ext λi a=>by omega
theorem SW (h:fB σ F p c ps ss){R:aN}(hR:∀σ',bO σ σ'->R (Kv ss:Int) σ'):YF.c (aW p) σ R:=by
 refine YF.o ?_;unfold YF.v;obtain⟨sl,D,P,K⟩:=h.sl;have z:=h.ly;have U:=h.ok.jg;refine KU h (cG rfl (aG (D.rS rfl ?_)));refine Kf (a:=bN) (bb:=bN) (λ(n t:Int) r=>∃i:Nat,t=(i:Int)/\i<=ss.length/\bO σ r/\n=(Kv (ss.take i):Int)/\Kv (ss.take i)<=128*i) (λ_ t _=>ss.length-t.toNat) ⟨0,rfl,O,Ext.refl _ _,by simp[Kv],by simp[Kv]⟩ ?_;rintro n t r ⟨i,rfl,N,e,rfl,J⟩;refine cI (λj=>?_) λx=>?_
 ·simp only at j;have g:i<ss.length:=by omega
  obtain⟨L,s,G,y,d⟩:=h.jq g;obtain⟨Q,V,E⟩:=K (by rintro rfl;simp at g);have w:=Qw G y;rw[E.a];refine ix O O ?_;rw[add_lit,show 0+(i:Int).toNat*3=3*i by omega];refine ud (e:=0) (e.bZ E.bZ id) (E.get w.1) (E.get w.2.1) (E.get w.2.2) (yE λS A B=>?_);have u:=(d.bK e).bK A;refine⟨λb=>bX b r.size [.int .i64 s.many,.int .i64 s.st,.pointer (some ⟨L.1,0,none⟩)],B,⟨_,λb d=>by rw[add_lit,d.cell];rfl,⟨_,λb d=>by rw[add_lit,add_lit,d.cell];rfl,?_⟩⟩⟩;refine ER u ⟨B,?_⟩;have H:=GX s;have M:=d.len;have C:Kv (ss.take (i+1))=Kv (ss.take i)+(c.n-s.many):=by
   rw[zg,y];simp only[Kv,tB,zu,zJ,pI,qo,zm,List.sum_nil];omega
  refine cA (m:=c.n-s.many) O O (cA (m:=Kv (ss.take (i+1))) O O (cA (m:=i+1) O O ⟨⟨i+1,rfl,O,e.trans A,rfl,O⟩,O⟩))
 ·have:i=ss.length:=by simp only at x;omega
  subst this;rw[zl]at *;exact hR _ e
def iz (c:bW)(l:List Nat):List Value:=l.flatMap λ(s:Nat)=>[.int .i64 (s:Int),.int .i64 (c.aF:Int)]
theorem Dp (c:bW)(l:List Nat):(iz c l).length=2*l.length:=by
 induction l with
 | nil=>rfl
 | cons x l ih=>simp only[iz,mO,zK,zP,mh]at *;omega
theorem Tn (h:fB σ F p c ps ss){R:Sl->Hp->Prop}(hR:∀s σ',bO σ σ'->bR s 2 (iz c (ss.map (·.st))) σ' (λb=>σ.size<=b)->R s σ'):X9.c (aW p) σ R:=by
 refine X9.o ?_;unfold X9.v;obtain⟨sl,z,W,N⟩:=h.sl;have H:=h.ly;refine KU h (cG rfl (aG (z.rS rfl ?_)));refine Kf (a:=.s) (bb:=bN) (λ(out:Sl) (t:Int) y=>∃i:Nat,t=(i:Int)/\i<=ss.length/\bO σ y/\bR out 2 (iz c ((ss.take i).map (·.st))) y (λb=>σ.size<=b)) (λ_ t _=>ss.length-t.toNat) ⟨0,rfl,O,Ext.refl _ _,bR.nil _ _ _ _⟩ ?_;rintro out t y ⟨i,rfl,U,e,g⟩;refine cI (λw=>?_) λD=>?_
 ·simp only at w;have j:i<ss.length:=by omega
  obtain⟨xx,s,L,G,P⟩:=h.jq j;obtain⟨X,cs,E⟩:=N (by rintro rfl;simp at j);have C:=Qw L G;rw[E.a];refine ix O O ?_;rw[add_lit,show 0+(i:Int).toNat*3=3*i by omega];refine ud (e:=0) (e.bZ E.bZ id) (E.get C.1) (E.get C.2.1) (E.get C.2.2) (yE λY B K=>K.rP rfl ?_);have A:=(P.bK e).bK B;refine FD A λZ J=>?_;have r:=(e.trans B).trans J;have d:=aI.bK (aI.bK g B) J;have u:=d.1;rw[Dp,za,zO]at u;refine d.push (vs:=[.int .i64 (s.st:Int),.int .i64 (c.aF:Int)]) (λb z=>zI r.1 z) rfl rfl (by simp[dN]) O O λV S M Q x=>?_;refine cA (m:=i+1) O O ⟨⟨i+1,rfl,O,Ext.fresh r Q λ_ h=>h,?_⟩,O⟩;rw[zg,G];simp only[iz,tB,zu,zJ,pI,Av,mO,List.flatMap_nil,j9]at *;exact x
 ·have:i=ss.length:=by simp only at D;omega
  subst this;rw[zl]at *;exact hR _ _ e g
theorem Wnr (hc:c.ok){R:Option Addr->Int->Hp->Prop}(hR:∀σ' p,bO σ σ'->σ.size<=p->p<σ'.size->fB σ' (· = p) p c [] []->R (some ⟨p,0,none⟩) 0 σ'):Qh.c c.size c.aF c.batch σ R:=by
 refine Qh.o ?_;unfold Qh.v;refine nw (cs:=[.int .i64 c.size,.int .i64 c.aF,.int .i64 c.batch]) λv s e d=>?_;refine d.rI rfl (d.rI rfl (d.rI rfl (UJ _ _ _ (λu m x A z y i=>?_) λb=>?_)))
 case refine_2=>rw[(Uo c).2 hc]at b;cases b
 have a:=i.bZ d id;refine cG rfl (a.rI rfl (a.rI rfl (a.rI rfl (nw (cs:=[.int .i64 c.size,.int .i64 c.aF,.int .i64 c.batch,.slice none 0 0]) λw r g j=>?_))));exact hR _ _ ((e.trans i).trans g) (by have:=i.1;omega) O ⟨⟨⟨none,0,0⟩,j,bR.nil _ _ _ _⟩,by simp,rfl,by simp[eB],by simp[eB],rfl,hc,by simp⟩
theorem P4 (a b a' b':Nat){R:aO}(hR:∀σ',bO σ σ'->R (decide (a>a')||(a==a'&&decide (b<b'))) σ'):W5.c (a:Int) (b:Int) (a':Int) (b':Int) σ R:=by
 refine W5.o ?_;unfold W5.v;refine nw (cs:=[.int .i64 a,.int .i64 b]) λv s e r=>nw (cs:=[.int .i64 a',.int .i64 b']) λu p m g=>?_;have i:=m.bZ r id;have d:=hR _ (e.trans m);refine i.rI rfl (g.rI rfl (bY.intro (cI (λh=>?_) λh=>?_)))
 ·have:decide (a>a')=true:=by simpa using h
  rw[this,Bool.true_or]at d;exact d
 ·have:decide (a>a')=false:=by simpa using h
  rw[this,yN]at d;refine i.rI rfl (g.rI rfl (bY.intro ?_));rw[j3];refine cU (λj=>?_) λj=>?_
  ·rw[j,vL]at d;refine i.rI rfl (g.rI rfl ?_);have:decide ((b:Int)<(b':Int))=decide (b<b'):=by rw[decide_eq_decide];omega
   rw[this];exact d
  ·rw[j,uD]at d;exact d
theorem QQ:∀{i k:Nat},Zv ss i=some k->k<i/\∃s,ss[k]?=some s/\s.many<s.tk.length
 | 0,_,h=>by simp[Zv]at h
 | i+1,k,h=>by
  have up:Zv ss i=some k->k<i+1/\∃s,ss[k]?=some s/\s.many<s.tk.length:=λh=>by
   have:=QQ h;exact⟨O,this.2⟩
  simp only[Zv]at h;split at h
  ·rename_i x hx;split at h
   ·rename_i hlt;have a:i<i+1/\∃s,ss[i]?=some s/\s.many<s.tk.length:=⟨O,x,hx,hlt⟩;split at h
    ·rename_i j hj;split at h
     ·split at h
      ·cases h;exact a
      ·cases h;exact up hj
     ·cases h;exact a
    ·cases h;exact a
   ·exact up h
  ·exact up h
theorem G8 {s:cH}(h:s.many<s.tk.length):∃i,low s=some i/\i<s.tk.length/\s.is i=false:=by
 unfold low;cases hf:s.tk.findIdx? (· == false)with
 | some i=>
  obtain⟨a,d,_⟩:=oF.1 hf;refine⟨i,rfl,a,?_⟩;have:s.tk[i]=false:=by simpa using d
  simp[cH.is,zL,cM a,this]
 | none=>
  exfalso;have b:=vB.1 hf;have:s.many=s.tk.length:=by
   unfold cH.many;rw[List.count_eq_length];intro x hx;have:=b x hx;cases x
   ·simp at this
   ·rfl
  omega
theorem E1:∀{ps:List (Nat×Nat)} {ss:List cH} {k:Nat} {s s':cH},ps.length=ss.length->ss[k]?=some s->s'.st=s.st->dW ps (ss.set k s')=(dW ps ss).set (3*k) (.int .i64 (s'.many:Int))
 | [],[],_,_,_,_,h,_=>by simp at h
 | [],_::_,_,_,_,h,_,_=>by simp at h
 | _::_,[],_,_,_,_,h,_=>by simp at h
 | x::ps,t::ss,0,s,s',_,h,e=>by simp at h;subst h;simp[dW,e]
 | x::ps,t::ss,k+1,s,s',hl,h,e=>by
  simp only[sG,dW];rw[E1 (ps:=ps) (ss:=ss) (s:=s) (by simpa using hl) (by simpa using h) e];rw[show 3*(k+1)=3*k+1+1+1 by omega];simp
theorem M3 {h:Hp}{b:Nat}{cs cs':List Value}(h1:bX h b cs)(h2:bX h b cs'):cs=cs':=by
 obtain⟨e,d⟩:=h1;obtain⟨g,a⟩:=h2;rw[d]at a;simp only[Option.some.injEq,Obj.cells.injEq]at a;simpa using congrArg Array.toList a.1
theorem Qu {x:Nat×Nat}{i:Nat}(hx:ps[i]?=some x):x.1∈eB ps/\x.2∈eB ps:=
 ⟨Hc.2 ⟨x,zE hx,.inl rfl⟩,Hc.2 ⟨x,zE hx,.inr rfl⟩⟩
theorem EV:∀{ps:List (Nat×Nat)},(eB ps).Nodup->∀{i j:Nat} {x y:Nat×Nat},ps[i]?=some x->ps[j]?=some y->i≠j->∀b,(b=x.1\/b=x.2)->¬(b=y.1\/b=y.2)
 | [],_,_,_,_,_,h,_,_=>by simp at h
 | z::ps,hn,i,j,x,y,h1,h2,hij=>by
  have hn':z.1∉eB ps/\z.2∉eB ps/\z.1≠z.2/\(eB ps).Nodup:=by
   simp only[eB,mO,lL,oZ,zp,zQ,not_or]at hn;exact⟨hn.1.2,hn.2.1,hn.1.1,hn.2.2⟩
  intro b hb hb'
  match i,j,hij with
  | 0,0,h=>exact h rfl
  | 0,j+1,_=>
   simp at h1;subst h1;have:=Qu (ps:=ps) (i:=j) (by simpa using h2);rcases hb with rfl|rfl<;>rcases hb' with e|e<;>rw[e]at hn'<;>simp[this]at hn'
  | i+1,0,_=>
   simp at h2;subst h2;have:=Qu (ps:=ps) (i:=i) (by simpa using h1);rcases hb with rfl|rfl<;>rcases hb' with e|e<;>rw[←e]at hn'<;>simp[this]at hn'
  | i+1,j+1,h=>exact EV hn'.2.2.2 (by simpa using h1) (by simpa using h2) O b hb hb'
theorem fB.pZ (h:fB σ F p c ps ss){k:Nat}{x:Nat×Nat}{s s':cH}(hx:ps[k]?=some x)(hs:ss[k]?=some s)(hst:s'.st=s.st){σ1:Hp}(e1:Ext (λb=>b=x.1\/b=x.2) σ σ1)(hS:im σ1 x.1 x.2 c s')
 {sl:Sl} {rb:Nat} {cs:List Value} (hb:bX σ p [.int .i64 (c.size:Int),.int .i64 (c.aF:Int),.int .i64 (c.batch:Int),.slice sl.a sl.len sl.cap]) (E:r7 σ F p ps ss sl rb cs)
 {K:aP} (hK:∀σ2,Ext F σ σ2->fB σ2 F p c ps (ss.set k s')->K σ2):dL ⟨rb,3*k,none⟩ (.int .i64 (s'.many:Int)) σ1 K:=by
 obtain⟨nJ,G,S⟩:=h.hd;have J:nJ=sl:=by
  have:=M3 G hb;simp at this;obtain⟨a,n,c⟩:=sl;obtain⟨W,V,U⟩:=nJ;simp at this ⊢;exact this
 subst J;have g:=Qu hx;have e:=h.nd;simp only[zp]at e;have u:=(cQ.1 hs).1;have A:=(bR.loc nJ 3 (dW ps ss)).bU S e1 λb hb P=>λd=>P.2.2 (by rcases d with rfl|rfl;exact g.1;exact g.2);have D:=e1.bZ hb λd=>e.1 (by rcases d with h|h<;>rw[h];exact g.1;exact g.2)
 refine A.st (j:=3*k) (by rw[Q5 h.len];omega) (λb r=>by rw[E.a]at r;cases r;rfl) λσ2 L H=>?_;have C:Ext F σ σ2:=(e1.sub λi B=>h.fb i (by rcases B with rfl|rfl;exact g.1;exact g.2)).trans (L.sub λi B=>B.1);refine hK σ2 C ⟨⟨nJ,L.bZ D λd=>d.2.1 rfl,?_⟩,λi y t m z=>?_,h.fp,h.fb,h.nd,by simpa using h.len,h.ok,?_⟩
 ·rw[E1 h.len hs hst];exact H
 ·have w:=Qu m;have Q:im σ1 y.1 y.2 c t:=by
   by_cases hik:i=k
   ·subst hik;rw[hx]at m;cases m;rw[zM u]at z;cases z;exact hS
   ·rw[zj (Ne.symm hik)]at z;have N:=EV e.2 m hx hik;exact(h.sp i y t m z).bU e1 (N _ (.inl rfl)) (N _ (.inr rfl))
  exact Q.bU L (λd=>d.2.2 w.1) (λd=>d.2.2 w.2)
 ·have:(ss.set k s').map (·.st)=ss.map (·.st):=by
   apply zy;intro i;simp only[ze];by_cases hik:i=k
   ·subst hik;rw[zM u,hs];simp[hst]
   ·rw[zj (Ne.symm hik)]
  have M:=h.qc;rw[←qL (f:=cH.st) (R:=(· < ·))]at M ⊢;rw[this];exact M
theorem Sb (h:fB σ F p c ps ss){R:Int->Bool->Hp->Prop}(h1:∀x ss',ju c ss=some (x,ss')->∀σ',Ext F σ σ'->fB σ' F p c ps ss'->R (x:Int) true σ')(h0:ju c ss=none->∀σ',bO σ σ'->R 0 false σ') :
 Y8.c (aW p) σ R:=by
 refine Y8.o ?_;unfold Y8.v;obtain⟨sl,Z,hl,hr⟩:=h.sl;have hfew:=h.ly;have hn:=h.ok.jg;obtain⟨d,cs,E⟩:∃d cs,ss≠[]->r7 σ F p ps ss sl d cs:=by
  by_cases hne:ss=[]
  ·exact⟨0,[],λh=>absurd hne h⟩
  ·obtain⟨d,cs,E⟩:=hr hne;exact⟨d,cs,λ_=>E⟩
 refine aG (Z.rS rfl ?_);refine Kf (a:=.p) (bb:=bN) (λ(nf:Option Addr) (t:Int) D=>∃i:Nat,t=(i:Int)/\i<=ss.length/\bO σ D/\nf=(Zv ss i).map λk=>⟨d,3*k,none⟩) (λ_ t _=>ss.length-t.toNat) ⟨0,rfl,O,Ext.refl _ _,rfl⟩ ?_;rintro nf t D ⟨i,rfl,hi,e,rfl⟩;refine cI (λS=>?_) λad=>?_
 ·simp only at S;have K:i<ss.length:=by omega
  have E:=E (by rintro rfl;simp at K);obtain⟨P,s,L,H,A⟩:=h.jq K;have z:=Qw L H;have ae:=A.len;refine aG ((e.bZ Z id).rS rfl ?_);rw[E.a];refine ix O O ?_;rw[add_lit,show 0+(i:Int).toNat*3=3*i by omega];have Eb:=e.bZ E.bZ id;have B:Zv ss (i+1)=if s.many<s.tk.length then(match Zv ss i with
   | some j=>match ss[j]? with
    | some y=>if wh s y then some i else some j
    | none=>some i
   | none=>some i)else Zv ss i:=by
   simp only[Zv,H];rfl
  have J:∀(r:Bool) (v:Hp),bO σ v->(if r then some i else Zv ss i)=Zv ss (i+1) →
   If r (Ar .i64 ((i:Int)+1) λb=>(∃j:Nat,b=(j:Int)/\j<=ss.length/\bO σ v/\some (⟨d,3*i,none⟩:Addr)=(Zv ss j).map λk=>⟨d,3*k,none⟩)/\ss.length-b.toNat<ss.length-(i:Int).toNat)
    (Ar .i64 ((i:Int)+1) λb=>(∃j:Nat,b=(j:Int)/\j<=ss.length/\bO σ v/\((Zv ss i).map λk=>(⟨d,3*k,none⟩:Addr))=(Zv ss j).map λk=>⟨d,3*k,none⟩)/\ss.length-b.toNat<ss.length-(i:Int).toNat):=by
   intro r v ev hr';cases r
   ·refine cG rfl (cA (m:=i+1) O O ⟨⟨i+1,rfl,O,ev,?_⟩,O⟩);rw[←hr'];rfl
   ·refine cK rfl (cA (m:=i+1) O O ⟨⟨i+1,rfl,O,ev,?_⟩,O⟩);rw[←hr'];rfl
  refine Jn.intro ⟨λG=>bX G d cs,Eb,aG ⟨_,λG A=>by rw[add_lit,add_lit,A.cell];exact E.get z.1,aG ⟨_,λG A=>by rw[add_lit,A.cell];exact E.get z.2.2,?_⟩⟩⟩;refine ER (A.bK e) ⟨Eb,?_⟩;refine cI (λhlt2=>?_) λhge2=>?_
  ·have X:s.many<s.tk.length:=by omega
   rw[zB X]at B;cases hbf:Zv ss i with
   | none=>
    rw[hbf]at B J;exact cK rfl (J true D e B.symm)
   | some j=>
    rw[hbf]at B J;obtain⟨hji,y,hy,hym⟩:=QQ hbf;simp only[hy]at B;have V:j<ps.length:=by rw[h.len];omega
    have w:=Qw (cM V) hy;have fin:W5.c (s.many:Int) (s.st:Int) (y.many:Int) (y.st:Int) D λU v3=>bX v3 d cs ∧
     If U (Ar .i64 ((i:Int)+1) λb=>(∃j:Nat,b=(j:Int)/\j<=ss.length/\bO σ v3/\some (⟨d,3*i,none⟩:Addr)=(Zv ss j).map λk=>⟨d,3*k,none⟩)/\ss.length-b.toNat<ss.length-(i:Int).toNat)
      (Ar .i64 ((i:Int)+1) λb=>(∃j':Nat,b=(j':Int)/\j'<=ss.length/\bO σ v3/\((some j).map λk=>(⟨d,3*k,none⟩:Addr))=(Zv ss j').map λk=>⟨d,3*k,none⟩)/\ss.length-b.toNat<ss.length-(i:Int).toNat):=by
     refine P4 _ _ _ _ λv3 e3=>⟨e3.bZ Eb id,J _ v3 (e.trans e3) ?_⟩;rw[B];rfl
    refine cG rfl (aG (aG ⟨?_,?_⟩))
    ·exact Eb.gF (E.get z.1) (Eb.gF (E.get z.2.1) ⟨Eb,Eb.gF (E.get w.1) (Eb.gF (E.get w.2.1) ⟨Eb,fin⟩)⟩)
    ·exact Eb.gF (E.get w.1) (Eb.gF (E.get w.2.1) ⟨Eb,Eb.gF (E.get z.1) (Eb.gF (E.get z.2.1) ⟨Eb,fin⟩)⟩)
  ·have X:¬s.many<s.tk.length:=by omega
   rw[zA X]at B;exact J false D e B.symm
 ·have ac:i=ss.length:=by simp only at ad;omega
  subst ac;cases hbf:Zv ss ss.length with
  | none=>
   refine cK rfl (h0 ?_ _ e);simp[ju,nf,hbf]
  | some k=>
   obtain⟨hk,s,H,Y⟩:=QQ hbf;have E:=E (by rintro rfl;simp at hk);obtain⟨P,s',L,M,A⟩:=h.jq hk;rw[H]at M;cases M;have z:=Qw L H;obtain⟨r,C,Q,W⟩:=G8 Y;have D:=h.bK e;have one:ju c ss=some (at_ c s r,ss.set k (s.put r true)):=by simp[ju,nf,hbf,H,C]
   have E':r7 _ F p ps ss sl d cs:=⟨E.a,e.bZ E.bZ id,E.fr,E.get,E.CJ⟩;refine cG rfl (aG (E'.bZ.rP (x:=some ⟨P.1,0,none⟩) (E.get z.2.2) ?_));refine ML (A.bK e) C λv5 e5 ab=>aG ?_;have N:=Qu L;have aa:¬(d=P.1\/d=P.2):=λhh=>E.fr.2.2 (by rcases hh with h|h<;>rw[h];exact N.1;exact N.2)
   have hml:=GX s;have g:=GY Q true;rw[W]at g;have u:(s.put r true).many=s.many+1:=by simp at g;omega
   have ae:=A.len;refine(e5.bZ E'.bZ aa).gF (E.get z.1) (cA (m:=s.many+1) O O (aG ?_));rw[add_lit,add_lit,zq,zq,←u];exact D.pZ (s':=s.put r true) L H rfl e5 ab (e.bZ Z id) E' λv6 e6 h6=>h1 _ _ one v6 (e.to.trans e6) h6
theorem MX {k:Nat}{s s':cH}(hs:ss[k]?=some s):Kv (ss.set k s')+(s.tk.length-s.many)=Kv ss+(s'.tk.length-s'.many):=by
 unfold Kv
 induction ss generalizing k with
 | nil=>simp at hs
 | cons x ss ih=>
  cases k with
  | zero=>simp at hs;subst hs;simp;omega
  | succ k=>
   have:=ih (by simpa using hs);simp only[sG,zJ,zm];omega
theorem RN {x:Nat}{ss':List cH}(h:ju c ss=some (x,ss')):Kv ss'+1=Kv ss:=by
 unfold ju at h;split at h
 ·rename_i k hk;obtain⟨_,s,g,a⟩:=QQ hk;rw[g]at h;simp only at h;split at h
  ·rename_i i hi;cases h;obtain⟨r,e,b,d⟩:=G8 a;rw[hi]at e;cases e;have p:=MX (s':=s.put i true) g;have j:=GY b true;rw[d]at j;have m:(s.put i true).tk.length=s.tk.length:=by simp[cH.put]
   simp at j;omega
  ·cases h
 ·cases h
theorem fB.room (h:fB σ F p c ps ss):Kv ss<=131072:=by
 have key:∀l:List cH,(∀s∈l,s.tk.length<=128)->Kv l<=128*l.length:=by
  intro l
  induction l with
  | nil=>intro _;simp[Kv]
  | cons x l ih=>
   intro hl;have j:=hl x aA;have r:=ih λs d=>hl s (by simp[d]);simp only[Kv,zJ,zm,zP]at *;omega
 have:=key ss λs d=>by
  obtain⟨i,e⟩:=zN d;have b:=(cQ.1 e).1;obtain⟨x,m,_,a,g⟩:=h.jq b;rw[e]at a;cases a;rw[g.len];exact h.ok.jg
 have:=h.ly;omega
theorem GF {m:Nat}{x:Nat}{ss':List cH}(h:ju c ss=some (x,ss')):Q7 c (m+1) ss=(x::(Q7 c m ss').1,(Q7 c m ss').2):=by
 simp[Q7,h]
theorem NA (h:fB σ F p c ps ss)(m:Int)(hm:0<=m){R:Sl->Int->Hp->Prop}
 (hR:∀s σ',Ext F σ σ'->bR s 1 (ints (Q7 c m.toNat ss).1) σ' (λb=>σ.size<=b)->fB σ' (Cut F σ) p c ps (Q7 c m.toNat ss).2->R s 0 σ'):Xd.c (aW p) m σ R:=by
 refine Xd.o ?_;unfold Xd.v;have h:=fB.loc.cut h;have M:=fB.room h;refine KU h (cG rfl (fH O ?_));refine ZU (a:=.s) (λ(out:Sl) C=>∃j d,Ext F σ C/\bR out 1 (ints j) C (λb=>σ.size<=b)/\fB C (Cut F σ) p c ps d/\j.length<=m.toNat/\j.length+Kv d=Kv ss/\Q7 c m.toNat ss=(j++(Q7 c (m.toNat-j.length) d).1,(Q7 c (m.toNat-j.length) d).2))
  (λout _=>m.toNat-out.len) ⟨[],ss,Ext.refl _ _,bR.nil _ _ _ _,h,by simp,by simp,by simp⟩ ?_
 rintro out C ⟨j,d,e,g,H,V,X,r⟩;have Q:=g.jU;refine cI (λS=>?_) λY=>?_
 ·have u:m.toNat-j.length=(m.toNat-(j.length+1))+1:=by omega
  refine Sb H (λx L w v2 A K=>cG rfl ?_) λy v2 A=>cK rfl ?_
  ·have D:Ext F σ v2:=e.trans (A.sub λi G=>G.1);have z:=aI.bU g A λb _ E N=>by have:=N.2;omega
   refine z.push (vs:=[.int .i64 (x:Int)]) (λb E=>zI D.1 E) rfl rfl (by simp[dN]) O O λs' v4 U P J=>?_;have Z:=RN w;refine⟨⟨j++[x],L,D.fC P λi G=>.inr G,by rw[Vk];exact J,fB.loc.bU K P λb _ E N=>(by have:=E.2;omega),by simp;omega,by simp;omega,?_⟩,O⟩;rw[r,u,GF w];simp
  ·have:Q7 c (m.toNat-j.length) d=([],d):=by rw[u];simp[Q7,y]
   rw[this]at r;have B:=hR out v2 (e.trans A.to);rw[r,j9]at B;exact B (aI.bK g A) (H.bK A)
 ·have W:m.toNat-j.length=0:=by omega
  rw[W]at r;have B:=hR out C e;rw[r]at B;simp only[Q7,j9]at B;exact B g H
theorem LZ (h:fB σ F p c ps ss)(m:Int)(hm:m<0){R:Sl->Int->Hp->Prop}(hR:R ⟨none,0,0⟩ 1 σ):Xd.c (aW p) m σ R:=by
 refine Xd.o ?_;unfold Xd.v;exact KU h (cG rfl (lV O hR))
def jf:List (Nat×Nat)->List cH->List (Nat×Nat)
 | x::ps,s::ss=>if s.many != 0 then x::jf ps ss else jf ps ss
 | _,_=>[]
theorem Gb:∀{ps:List (Nat×Nat)} {ss:List cH},ps.length=ss.length->(jf ps ss).length=(cJ ss).length
 | [],[],_=>rfl
 | x::ps,s::ss,h=>by
  have ih:=Gb (ps:=ps) (ss:=ss) (by simpa using h);simp only[jf,cJ,rK]at *;split<;>simp[ih]
theorem Bx:∀{ps:List (Nat×Nat)} {ss:List cH},(jf ps ss).Sublist ps
 | [],_=>by simp[jf]
 | _::_,[]=>by simp[jf]
 | x::ps,s::ss=>by
  simp only[jf];split
  ·exact Bx.cons_cons x
  ·exact Bx.cons x
theorem Jd:∀{ps ps':List (Nat×Nat)} {ss ss':List cH},ps.length=ss.length->jf (ps++ps') (ss++ss')=jf ps ss++jf ps' ss'
 | [],_,[],_,_=>rfl
 | x::ps,_,s::ss,_,h=>by
  simp only[lL,jf,Jd (ps:=ps) (ss:=ss) (by simpa using h)];split<;>rfl
theorem LH:∀{ps:List (Nat×Nat)} {ss:List cH} {i:Nat} {x:Nat×Nat} {s:cH},ps.length=ss.length->(jf ps ss)[i]?=some x->(cJ ss)[i]?=some s->∃j:Nat,ps[j]?=some x/\ss[j]?=some s
 | [],[],_,_,_,_,h,_=>by simp[jf]at h
 | y::ps,t::ss,i,x,s,hl,h1,h2=>by
  have ih:=λi=>LH (ps:=ps) (ss:=ss) (i:=i) (x:=x) (s:=s) (by simpa using hl);simp only[jf,cJ,rK]at h1 h2;cases hm:(t.many != 0)
  ·rw[hm]at h1 h2;obtain⟨j,b,a⟩:=ih i h1 h2;exact⟨j+1,by simpa using b,by simpa using a⟩
  ·rw[hm]at h1 h2;cases i with
   | zero=>simp at h1 h2;exact⟨0,by simp[h1],by simp[h2]⟩
   | succ i=>
    obtain⟨j,b,a⟩:=ih i (by simpa using h1) (by simpa[cJ]using h2);exact⟨j+1,by simpa using b,by simpa using a⟩
theorem Υ (a b:List cH):cJ (a++b)=cJ a++cJ b:=by simp[cJ]
theorem SB (a b:List cH):Z8 (a++b)=Z8 a++Z8 b:=by simp[Z8]
theorem PE (c:bW)(a b:List Nat):iz c (a++b)=iz c a++iz c b:=by simp[iz]
theorem T2 {a b:List (Nat×Nat)}(h:a.Sublist b):(eB a).Sublist (eB b):=by
 induction h with
 | slnil=>exact List.Sublist.refl _
 | cons x _ ih=>exact(ih.cons _).cons _
 | cons_cons x _ ih=>exact(ih.cons_cons _).cons_cons _
theorem Iz {h:Hp}{Q:Rg}{n3:Nat}{o:Sl}{l:List Nat}{x1 x2:Nat}{s:cH}(hb:bX h n3 [.slice o.a o.len o.cap])(hrow:bR o 2 (iz c l) h Q)(hQ:∀b,Q b->n3<b)(hl:l.length<=2000)(hS:im h x1 x2 c s){R:aO}
 (hR:∀h' o',Ext (λb=>b=n3\/Q b) h h'->bX h' n3 [.slice (Sl.a o') o'.len o'.cap]->bR o' 2 (iz c (l++if s.many=0 then[s.st]else[])) h' (Grow Q h)->R (s.many==0) h') :
 VU Tryz.prog ⟨228,#[],#[.pointer (some ⟨n3,0,none⟩)]⟩ [.agg #[.int .i64 (s.many:Int),.int .i64 (s.st:Int),.pointer (some ⟨x1,0,none⟩)]] [.one .b] h R:=by
 refine HR (all := #[.agg #[.int .i64 (s.many:Int),.int .i64 (s.st:Int),.pointer (some ⟨x1,0,none⟩)],.pointer (some ⟨n3,0,none⟩)]) (by kernel_rfl) aA ?_;refine Yb.o ?_;unfold Yb.v;refine nw (cs:=[.int .i64 (s.many:Int),.int .i64 (s.st:Int),.pointer (some ⟨x1,0,none⟩)]) λv hz e d=>?_;have W:=hb.lt;have g:=e.bZ hb id;have hrow:=(bR.loc o 2 (iz c l)).mono hrow (G:=λb=>Q b/\b<h.size) λb hb y=>⟨y,hb⟩;refine Jn.intro (d.gF rfl ?_);rw[vd];refine cU (λE=>?_) λE=>?_
 ·have w:s.many=0:=by simpa using E
  rw[zB w]at hR;refine⟨λh'=>bX h' h.size [.int .i64 (s.many:Int),.int .i64 (s.st:Int),.pointer (some ⟨x1,0,none⟩)]/\bX h' n3 [.slice o.a o.len o.cap],⟨d,g⟩,⟨o,λh' hS=>by rw[hS.2.cell];rfl,⟨some ⟨x1,0,none⟩,λh' hS=>by rw[add_lit,hS.1.cell];rfl,?_⟩⟩⟩;refine FD (hS.bK e) λZ p=>⟨⟨p.bZ d id,p.bZ g id⟩,?_⟩;have z:=e.trans p;have m:=aI.bK hrow z;have A:=m.1;rw[Dp]at A;refine nw (cs:=[.int .i64 (s.st:Int),.int .i64 (c.aF:Int)]) λv3 Y x J=>⟨⟨(p.trans x).bZ d id,(p.trans x).bZ g id⟩,?_⟩;have r:=aI.bK m x;have X:=z.1;refine r.app (ys:=[.int .i64 (s.st:Int),.int .i64 (c.aF:Int)]) rfl rfl ?_ (by simp[dN]) ?_ ?_ nA λS K V C B=>?_
  ·intro j u hu;rw[add_lit,zG,J.cell];exact hu
  ·simp only;have:(o.len+1)*16<=2001*16:=kO O O;omega
  ·simp only;omega
  ·have L:bX K h.size [.int .i64 (s.many:Int),.int .i64 (s.st:Int),.pointer (some ⟨x1,0,none⟩)]:=C.bZ ((p.trans x).bZ d id) λF=>by have:=F.2;omega
   have M:bX K n3 [.slice o.a o.len o.cap]:=C.bZ ((p.trans x).bZ g id) λF=>by have:=hQ _ F.1;omega
   refine⟨⟨L,M⟩,M.s0 aA λv5 o5 U=>(Ws o5 L O).gF rfl ?_⟩;have H:Ext (λb=>b=n3\/Q b) h v5:=(bO.to ((e.trans p).trans x)).trans (C.sub λi D=>.inr D.1)|>.trans (o5.ext.sub λi D=>.inl D);rw[vd];refine hR v5 S H U ?_;rw[PE];have:iz c [s.st]=[.int .i64 (s.st:Int),.int .i64 (c.aF:Int)]:=rfl;rw[this];have N:=aI.mono B (G:=Grow Q h) λb _ P=>by
    rcases P with h|h
    ·exact .inl h.1
    ·exact .inr O
   exact aI.bU N o5.ext λb _ y he=>by
    rcases y with h|h
    ·have:=hQ _ h;omega
    ·omega
 ·have w:¬s.many=0:=by simpa using E
  rw[zA w,j9]at hR;refine d.gF rfl ?_;rw[vd];exact hR v o e.to g (aI.bK (aI.mono hrow λb _ y=>.inl y.1) e)
def Ap (n3:Nat)(c:bW)(l:List Nat)(h:Hp):Prop:=∃o:Sl,bX h n3 [.slice o.a o.len o.cap]/\bR o 2 (iz c l) h (λb=>n3<b)
theorem Az {A D:List Value}{x y z:Value}{k:Nat}(hk:k=A.length)(hD:3<=D.length):(((A++D).set k x).set (k+1) y).set (k+2) z=A++[x,y,z]++D.drop 3:=by
 subst hk
 match D,hD with
 | d0::d1::d2::D,_=>simp[List.set_append]
theorem Gu {i:Nat}{s:cH}(hs:ss[i]?=some s):Z8 (ss.take (i+1))=Z8 (ss.take i)++(if s.many=0 then[s.st]else[]):=by
 rw[zg,hs,SB]
 congr 1
 by_cases hm:s.many=0<;>simp[Z8,hm]
theorem HX {i:Nat}{s:cH}(hs:ss[i]?=some s):cJ (ss.take (i+1))=cJ (ss.take i)++(if s.many=0 then[]else[s]):=by
 rw[zg,hs,Υ]
 congr 1
 by_cases hm:s.many=0<;>simp[cJ,hm]
theorem Dx {i:Nat}{x:Nat×Nat}{s:cH}(hl:ps.length=ss.length)(hx:ps[i]?=some x)(hs:ss[i]?=some s):jf (ps.take (i+1)) (ss.take (i+1))=jf (ps.take i) (ss.take i)++(if s.many=0 then[]else[x]):=by
 rw[zg,zg,hs,hx,Jd (by simp[hl])]
 congr 1
 by_cases hm:s.many=0<;>simp[jf,hm]
theorem N9 (l:List cH):(Z8 l).length<=l.length:=by unfold Z8;rw[za];exact m5 _ _
theorem Pk (l:List cH):(cJ l).length<=l.length:=m5 _ _
theorem Tr (h:fB σ F p c ps ss){sl:Sl}{rb n3:Nat}{cs:List Value}{σ1:Hp}(e1:bO σ σ1)(hlen:sl.len=ss.length)(hn3:σ.size<=n3)(hE:ss≠[]->r7 σ F p ps ss sl rb cs/\sl.len<=sl.cap/\cs.length=sl.cap*3)(h0:Ap n3 c [] σ1){R:Sl->Hp->Prop}
 (hR:∀h' nJ,Ext (λb=>F b/\b≠p/\b∉eB ps\/n3<=b) σ1 h'->Ap n3 c (Z8 ss) h'->(nJ=sl/\Z8 ss=[]/\cJ ss=ss/\jf ps ss=ps/\Ext (λb=>n3<=b) σ1 h'\/(bR nJ 3 (dW (jf ps ss) (cJ ss)) h' (λb=>F b/\b≠p/\b∉eB ps)))->R nJ h') :
 Wf.c sl ⟨228,#[],#[.pointer (some ⟨n3,0,none⟩)]⟩ σ1 R:=by
 refine Wf.o ?_;unfold Wf.v;refine Wi.o ?_;unfold Wi.v;have hfew:=h.ly;have r:=h.len;refine ZU (a:=bN) (λ(t:Int) h'=>∃i:Nat,t=(i:Int)/\i<=ss.length/\Ext (λb=>n3<=b) σ1 h'/\Ap n3 c [] h'/\Z8 (ss.take i)=[]/\cJ (ss.take i)=ss.take i/\jf (ps.take i) (ss.take i)=ps.take i) (λt _=>ss.length-t.toNat) ⟨0,rfl,O,Ext.refl _ _,h0,by simp[Z8],by simp[cJ],by simp[jf]⟩ ?_;rintro t h' ⟨i,rfl,hi,e,⟨o,S,aa⟩,q1,q2,q3⟩;have eo:∀{v:Hp},Ext (λb=>n3<=b) σ1 v->Ext (λb=>n3<=b) σ v:=λe=>e1.to.trans e;refine cI (λhlt=>?_) λhge=>?_
 ·have af:i<ss.length:=by omega
  obtain⟨E,hcap,hcl⟩:=hE (by rintro rfl;simp at af);obtain⟨xx,s,hp,L,hS⟩:=h.jq af;have eg:=Qw hp L;have hrl:=E.bZ.lt;have hSl:=hS.lt;rw[E.a];refine ix O O ?_;rw[add_lit,show 0+(i:Int).toNat*3=3*i by omega];refine ud (e:=0) ((eo e).bZ E.bZ O) (E.get eg.1) (E.get eg.2.1) (E.get eg.2.2) ?_;have hn3h:n3<h'.size:=S.lt;refine Iz S aa (λb h=>h) aA (hS.bU (eo e) O O) λh2 o2 e2 Z A=>?_;have e2:Ext (λb=>n3<=b) h' h2:=e2.sub λb g=>by omega
  have A:=aI.mono A (G:=λb=>n3<b) λb _ g=>by
   rcases g with h|h
   ·exact h
   ·omega
  refine cU (λhm=>?_) λhm=>?_
  ·-- the first that goes
   have x:s.many=0:=by simpa using hm
   rw[zB x,oZ]at A;have B:((i:Int)==(-1))=false:=by rw[m0];omega
   show If ((i:Int)==(-1)) _ _;refine cG B (cA (m:=i+1) O O ?_);have q1':Z8 (ss.take (i+1))=[s.st]:=by rw[Gu L,q1,zB x];rfl
   have P:cJ (ss.take (i+1))=ss.take i:=by rw[HX L,q2,zB x,j9]
   have q3':jf (ps.take (i+1)) (ss.take (i+1))=ps.take i:=by rw[Dx r hp L,q3,zB x,j9]
   have hke:∀k,k<=ss.length->(dW (jf (ps.take k) (ss.take k)) (cJ (ss.take k))).length=3*(cJ (ss.take k)).length:=λk _=>Q5 (Gb (by simp[r]));have Eb2:bX h2 rb cs:=(eo (e.trans e2)).bZ E.bZ O;refine Kf (a:=bN) (bb:=bN) (λ(i1 j1:Int) v=>∃j:Nat,j1=(j:Int)/\i<j/\j<=ss.length/\i1=((cJ (ss.take j)).length:Int)/\(cJ (ss.take j)).length<j/\Ext (λb=>b=rb\/n3<=b) σ1 v/\Ap n3 c (Z8 (ss.take j)) v ∧
    bX v rb (dW (jf (ps.take j) (ss.take j)) (cJ (ss.take j))++cs.drop (3*(cJ (ss.take j)).length))) (λ_ j1 _=>ss.length-j1.toNat) ?_ ?_
   ·refine⟨i+1,rfl,O,O,?_,?_,(e.trans e2).sub λb g=>.inr g,?_,?_⟩
    ·rw[P,zO];omega
    ·rw[P,zO];omega
    ·rw[q1'];exact⟨o2,Z,A⟩
    ·rw[P,q3',zO,qB O];have:dW (ps.take i) (ss.take i)++cs.drop (3*i)=cs:=by
      have h1:(dW (ps.take i) (ss.take i)).length=3*i:=by rw[Q5 (by simp[r]),zO];omega
      apply zy;intro k;rcases ma k (3*i)with hk|hk
      ·rw[zd O];have h2:(dW ps ss)[k]?=(dW (ps.take i) (ss.take i))[k]? := by
        conv=>lhs;rw[←nu i ps,←nu i ss,Vg (by simp[r])]
        rw[zd O]
       rw[←h2];have h3:k<(dW ps ss).length:=by rw[Q5 r];omega
       rw[cM h3];exact(E.get (cM h3)).symm
      ·rw[zn O,zo,h1]
       congr 1;omega
     rw[this];exact Eb2
   ·rintro i1 j1 v ⟨j,rfl,hij,hj,rfl,hKj,ev,⟨o3,D,K⟩,z⟩;have y:=hke j hj;have evo:Ext (λb=>b=rb\/n3<=b) σ v:=e1.to.trans ev;refine cI (λhlt2=>?_) λhge2=>?_
    ·have hj':j<ss.length:=by omega
     obtain⟨yy,u,U,H,X⟩:=h.jq hj';have V:=Qw U H;have hSul:=X.lt;have ad:=Qu U;refine ix O O ?_;rw[add_lit,show 0+(j:Int).toNat*3=3*j by omega];have get:∀d,d<3->∀w,(dW ps ss)[3*j+d]?=some w->(dW (jf (ps.take j) (ss.take j)) (cJ (ss.take j))++cs.drop (3*(cJ (ss.take j)).length))[3*j+d]?=some w:=by
      intro d hd w hw;rw[zn O,zo,y,show 3*(cJ (ss.take j)).length+(3*j+d-3*(cJ (ss.take j)).length)=3*j+d by omega];exact E.get hw
     refine ud (e:=0) z (get 0 O _ V.1) (get 1 O _ V.2.1) (get 2 O _ V.2.2) (yE λv5 W b5=>b5.rI rfl (b5.rI rfl (b5.rP rfl ?_)));have hn3v:n3<v.size:=D.lt;have ab:=aI.mono K (G:=λb=>n3<b/\b<v.size) λb g hf=>⟨hf,g⟩;have M:=N9 (ss.take j);rw[zO]at M;refine Iz (W.bZ D id) (aI.bK ab W) (λb g=>g.1) O ((X.bU evo (λN=>by rcases N with h|h;exact E.fr.2.2 (h▸ad.1);omega) (λN=>by rcases N with h|h;exact E.fr.2.2 (h▸ad.2);omega)).bK W) λv6 o6 e6 ac C=>?_;have hsz5:=W.1;have C:=aI.mono C (G:=λb=>n3<b) λb _ g=>by
      rcases g with h|h
      ·exact h.1
      ·omega
     have b6:bX v6 v.size [.int .i64 (u.many:Int),.int .i64 (u.st:Int),.pointer (some ⟨yy.1,0,none⟩)]:=e6.bZ b5 λN=>by rcases N with h|h;omega;have:=h.2;omega
     have hrb:rb<σ.size:=E.bZ.lt;have J:=e6.bZ (W.bZ z id) λN=>by rcases N with h|h;omega;have:=h.1;omega
     have ae:Ext (λb=>b=rb\/n3<=b) σ1 v6:=(ev.trans W.to).trans (e6.sub λb g=>by rcases g with h|h;omega;have:=h.1;omega);rw[←Gu H]at C;have st:=HX H;have kt:=Dx r U H;by_cases hum:u.many=0
     ·rw[zB hum,j9]at st kt;have:(u.many==0)=true:=by simp[hum]
      rw[this];refine cG rfl (cA (m:=j+1) O O ⟨⟨j+1,rfl,O,O,?_,?_,ae,⟨o6,ac,C⟩,?_⟩,O⟩)
      ·rw[st]
      ·rw[st];omega
      ·rw[st,kt];exact J
     ·rw[zA hum]at st kt;have:(u.many==0)=false:=by simp[hum]
      rw[this];refine cK rfl (b6.rI rfl (b6.rI rfl (b6.rP rfl (ix O O ?_))));rw[add_lit,show 0+((cJ (ss.take j)).length:Int).toNat*3=3*(cJ (ss.take j)).length by omega];have hlen6:(dW (jf (ps.take j) (ss.take j)) (cJ (ss.take j))++cs.drop (3*(cJ (ss.take j)).length)).length=cs.length:=by
       rw[zK,y,zr];omega
      refine J.s1 O λv7 o7 b7=>b7.s1 aE λv8 o8 b8=>b8.s1 aE λv9 o9 b9=>?_;rw[zq,Az y.symm (by rw[zr];omega),List.drop_drop]at b9;have ev9:Ext (λb=>b=rb\/n3<=b) σ1 v9:=((ae.trans (o7.ext.sub λb g=>.inl g)).trans (o8.ext.sub λb g=>.inl g)).trans (o9.ext.sub λb g=>.inl g);have Y:Ext (· = rb) v6 v9:=(o7.ext.trans o8.ext).trans o9.ext;refine cA (m:=(cJ (ss.take j)).length+1) O O (cA (m:=j+1) O O ⟨⟨j+1,rfl,O,O,?_,?_,ev9,⟨o6,Y.bZ ac O,aI.bU C Y λb _ g he=>O⟩,?_⟩,O⟩)
      ·rw[st];simp
      ·rw[st];simp;omega
      ·rw[st,kt,Vg (Gb (by simp[r]))];simp only[zK,zP,mh,dW];rw[show 3*((cJ (ss.take j)).length+(0+1))=3*(cJ (ss.take j)).length+3 by omega];exact b9
    ·have hjj:j=ss.length:=by omega
     subst hjj;rw[zl]at *;have Q:ps.take ss.length=ps:=by rw[←r,zl]
     rw[Q]at z y;have M:=Pk ss;refine jd O O O ?_;have hK3:3*(cJ ss).length<=cs.length:=by omega
     have hlt3:(cJ ss).length<ss.length:=hKj;rw[zA O];simp only[E.a,zf,add_lit,zG];refine⟨by simp[dN],?_⟩;simp only;have hz:(List.replicate (sl.len-(cJ ss).length) [Value.int .i64 0,.int .i64 0,.pointer none]).flatten.length=3*(sl.len-(cJ ss).length):=by
      rw[vC,tJ,vf];simp;omega
     refine Ub (o:=(cJ ss).length*3) (i:=0) z (by rw[hz,zK,y,zr];omega) λv10 fV b10=>?_;refine jd (lo:=0) O O O ?_;have ag:Ext (λb=>b=rb\/n3<=b) σ1 v10:=ev.trans (fV.ext.sub λb g=>.inl g);refine hR v10 _ (ag.sub λb g=>?_) ⟨o3,Ws fV D (by have:=E.bZ.lt;omega),aI.bU K fV.ext λb _ g he=>by have:=E.bZ.lt;omega⟩ (.inr ?_)
     ·rcases g with rfl|h
      ·exact .inl E.fr
      ·exact .inr h
     ·refine⟨by rw[Q5 (Gb r)];simp;omega,.inr ⟨rb,_,E.fr,?_,b10,?_,?_,?_⟩⟩
      ·simp only[E.a];split<;>simp[add_lit]
      ·simp only;omega
      ·simp only[zK,zO,zr,hz,y];omega
      ·rw[Q5 (Gb r),zq,show(cJ ss).length*3=3*(cJ ss).length by omega];rw[kJ,pd (by rw[zO,zK,y];omega),xY,Nat.min_self];rw[pd O,ng O]
  ·have x:¬s.many=0:=by simpa using hm
   rw[zA x,j9]at A;refine cA (m:=i+1) O O ⟨⟨i+1,rfl,O,e.trans e2,⟨o2,Z,A⟩,?_,?_,?_⟩,O⟩
   ·rw[Gu L,q1,zA x];rfl
   ·rw[HX L,q2,zA x,zg,L];rfl
   ·rw[Dx r hp L,q3,zA x,zg,hp];rfl
 ·have hii:i=ss.length:=by omega
  subst hii;rw[zl]at *;have Q:ps.take ss.length=ps:=by rw[←r,zl]
  rw[Q]at q3;have B:((-1:Int)==(-1))=true:=rfl;refine cK B (hR h' sl (e.sub λb g=>.inr g) ?_ (.inl ⟨rfl,q1,q2,q3,e⟩));rw[q1];exact⟨o,S,aa⟩
theorem fB.nJ (h:fB σ F p c ps ss):∃sl:Sl,bX σ p [.int .i64 (c.size:Int),.int .i64 (c.aF:Int),.int .i64 (c.batch:Int),.slice sl.a sl.len sl.cap]/\sl.len=ss.length/\bR sl 3 (dW ps ss) σ (λb=>F b/\b≠p/\b∉eB ps) ∧
 ∃rb cs,(ss≠[]->r7 σ F p ps ss sl rb cs/\sl.len<=sl.cap/\cs.length=sl.cap*3):=by
 obtain⟨sl,m,e⟩:=h.hd;have i:=e.1;rw[Q5 h.len]at i;refine⟨sl,m,O,e,?_⟩;rcases e.2 with⟨h0,_⟩|⟨b,cs,hq,ha,hbb,hle,hcl,ht⟩
 ·exact⟨0,[],λg=>by have:=qz.2 g;omega⟩
 ·refine⟨b,cs,λ_=>⟨⟨ha,hbb,hq,λ{j v} d=>?_,?_⟩,hle,hcl⟩⟩
  ·rw[←ht,zY]at d;split at d
   ·exact d
   ·cases d
  ·have:=congrArg List.length ht;rw[zO,Q5 h.len]at this;omega
theorem Jy (h:fB σ F p c ps ss){R:Sl->Hp->Prop}
 (hR:∀o σ',Ext F σ σ'->bR o 2 (iz c (Z8 ss)) σ' (λb=>σ.size<=b)->fB σ' (Cut F σ) p c (jf ps ss) (cJ ss)->R o σ'):WZ.c (aW p) σ R:=by
 refine WZ.o ?_;unfold WZ.v;have h:=fB.loc.cut h;obtain⟨sl,a,C,B,X,cs,U⟩:=h.nJ;refine KU h (cG rfl (nw (cs:=[.slice none 0 0]) λW S u G=>aG ((u.bZ a id).rS rfl ?_)));refine Tr h u C (zD _) U ⟨⟨none,0,0⟩,G,bR.nil _ _ _ _⟩ λV nJ K ⟨o,y,H⟩ r=>aG ?_;have M:=a.lt;have e:=h.nd;have d:=T2 (Bx (ps:=ps) (ss:=ss));simp only[zp]at e;refine(K.bZ (u.bZ a id) λD=>by rcases D with h|h;exact h.2.1 rfl;omega).s1 aA λv3 o3 E=>?_;have z:=Ws o3 y (by have:=y.lt;omega);refine z.Am rfl (hR o v3 ?_ (aI.bU (aI.mono H λb _ a=>O) o3.ext λb _ a g=>O) ?_)
 ·refine(u.to.fC K λb a=>?_).fC o3.ext λb a=>?_
  ·rcases a with h|h
   ·exact .inl h.1.1
   ·exact .inr h
  ·subst a;exact .inl h.fp.1
 ·have A:∀b,b∈eB ps->b<σ.size->¬(Cut F σ b/\b≠p/\b∉eB ps\/σ.size<=b):=λb a N D=>by
   rcases D with h|h
   ·exact h.2.2 a
   ·omega
  refine⟨⟨nJ,E,?_⟩,λi x s Q P=>?_,h.fp,λb a=>h.fb b (d.subset a),?_,Gb h.len,h.ok,h.qc.sublist sq⟩
  ·rcases r with⟨rfl,_,q2,q3,ex⟩|hr
   ·rw[q2,q3];exact aI.bU (aI.bU (aI.bK B u) ex λb _ a g=>by have:=a.1.2;omega) o3.ext λb _ a g=>a.2.1 g
   ·exact aI.bU (aI.mono hr λb _ a=>⟨a.1,a.2.1,λm=>a.2.2 (d.subset m)⟩) o3.ext λb _ a g=>a.2.1 g
  ·obtain⟨j,w,J⟩:=LH h.len Q P;have L:=h.sp j x s w J;have m:=Qu w;have C:=L.lt;exact((L.bK u).bU K (A _ m.1 C.1) (A _ m.2 C.2)).bU o3.ext (λg=>e.1 (g▸m.1)) (λg=>e.1 (g▸m.2))
  ·simp only[zp];exact⟨λm=>e.1 (d.subset m),e.2.sublist d⟩
theorem Ru {x:Int}{k i:Nat}{s:cH}(hc:0<c.size)(hk:ln c ss x=some k)(hs:ss[k]?=some s)(v:Bool)(y:Int):ln c (ss.set k (s.put i v)) y=ln c ss y:=by
 have b:∀t:cH,∀j w z,idx c (t.put j w) z=idx c t z:=λt j w z=>by unfold idx cH.put;simp only[oR]
 unfold ln;have a:=(cQ.1 hs).1;have:(ss.set k (s.put i v)).map (λs=>(idx c s y).isSome)=ss.map (λs=>(idx c s y).isSome):=by
  apply zy;intro j;simp only[ze];by_cases hjk:j=k
  ·subst hjk;rw[zM a,hs];simp[b]
  ·rw[zj (Ne.symm hjk)]
 have d:∀l:List cH,l.findIdx? (λs=>(idx c s y).isSome)=(l.map λs=>(idx c s y).isSome).findIdx? id:=λl=>by rw[List.findIdx?_map];rfl
 rw[d,d,this]
def kQ (c:bW)(ss:List cH)(xs:List Int):Prop:=(∀x∈xs,eD c ss x=some true)/\xs.Nodup
theorem yR {x:Int}{b:Bool}(h:eD c ss x=some b):∃k s i,ln c ss x=some k/\ss[k]?=some s/\obj c s x=some i/\s.is i=b:=by
 unfold eD at h;split at h
 ·rename_i k hk;split at h
  ·rename_i s hs;cases ho:obj c s x with
   | none=>rw[ho]at h;cases h
   | some i=>rw[ho]at h;exact⟨k,s,i,hk,hs,ho,by simpa[cH.is]using h⟩
  ·cases h
 ·cases h
theorem yS {x:Int}{k i:Nat}{s:cH}(hk:ln c ss x=some k)(hs:ss[k]?=some s)(ho:obj c s x=some i):fK c ss x=ss.set k (s.put i false):=by
 simp[fK,hk,hs,ho]
theorem TU {x y:Int}(hc:0<c.size)(hx:eD c ss x=some true)(hne:y≠x):eD c (fK c ss x) y=eD c ss y:=by
 obtain⟨k,s,i,A,d,u,_⟩:=yR hx;rw[yS A d u];have r:=(cQ.1 d).1;have a:=Ru hc A d false (i:=i) y;have g:∀t:cH,∀j w z,obj c (t.put j w) z=obj c t z:=λt j w z=>by unfold obj idx at_ cH.put;simp only[oR]
 cases hy:ln c ss y with
 | none=>rw[CR (a.trans hy),CR hy]
 | some m=>
  by_cases hmk:m=k
  ·subst hmk;rw[VL (a.trans hy) (zM r),VL hy d,g];cases hoy:obj c s y with
   | none=>rfl
   | some j=>
    simp only[zf,Option.some.injEq];have p:i≠j:=λe=>by
     subst e;exact hne (((UF hc).1 hoy).1.trans ((UF hc).1 u).1.symm)
    simp[cH.is,cH.put,zL,zj p]
  ·have b:m<ss.length:=(oF.1 hy).1;rw[VL (a.trans hy) ((zj (Ne.symm hmk)).trans (cM b)),VL hy (cM b)]
theorem kQ.next {x:Int}{xs:List Int}(hc:0<c.size)(h:kQ c ss (x::xs)):kQ c (fK c ss x) xs:=by
 have b:=zp.1 h.2;refine⟨λy a=>?_,b.2⟩;rw[TU hc (h.1 x aA) λe=>b.1 (e▸a)];exact h.1 y (by simp[a])
theorem Ig {xs:List Int}(h:iV c ss xs=0):kQ c ss xs:=by
 unfold iV at h;split at h
 ·cases h
 ·rename_i h1;split at h
  ·cases h
  ·rename_i h2;simp only[nV,not_or,qR,m7,Bool.not_eq_false',zS,zX]at h1 h2;refine⟨λx d=>?_,h2.2⟩;have a:=h1 x d;have b:=h2.1 x d;cases ht:eD c ss x with
   | none=>rw[ht]at a;simp at a
   | some v=>
    cases v
    ·rw[ht]at b;exact absurd rfl b
    ·rfl
theorem WgF {sl:Sl}{xs:List Int}{X:Rg}(h:fB σ F p c ps ss)(hs:cR sl 1 (xs.map (Value.int .i64)) σ X)(hX:∀b,X b->¬F b)(hi:∀x∈xs,iO x)(hA:kQ c ss xs)(hl:xs.length<=1000000){K:aP}
 (hK:∀σ',Ext F σ σ'->fB σ' F p c ps (xs.foldl (fK c) ss)->K σ') :
 W6 [bN] (λI1=>I1 0 σ) λJ3 (t49:Int) v6=>If (decide (t49<((sl.len:Nat):Int))) (Ix sl.a sl.len t49 1 λa51=>fF .i64 a51 v6 λaddr1=>
  XR.c (aW p) addr1 v6 λvx v7=>bS vx λa57=>fZ (a57.add 2) v7 λt59=>ZH.c t59 addr1 v7 λt61 v8=>bS vx λa63=>fF .i64 ((a63.add 0).add 0) v8 λt66=>
  Ar .i64 (t66-1) λt67=>bS vx λa68=>dL ((a68.add 0).add 0) (.int .i64 t67) v8 λv9=>Ar .i64 (t49+1) λt71=>J3 t71 v9) (K v6):=by
 have hlen:sl.len=xs.length:=by have:=hs.1;simp at this;omega
 have H:0<c.size:=by have:=h.ok.1;omega
 refine ZU (a:=bN) (λ(t:Int) L=>∃(i:Nat) (u:List cH),t=(i:Int)/\i<=xs.length/\Ext F σ L/\fB L F p c ps u/\kQ c u (xs.drop i)/\(xs.drop i).foldl (fK c) u=xs.foldl (fK c) ss) (λt _=>xs.length-t.toNat) ⟨0,ss,rfl,O,Ext.refl _ _,h,by simpa using hA,by simp⟩ ?_;rintro t L ⟨i,u,rfl,hil,e,J,y,A⟩;refine cI (λhlt=>?_) λhge=>?_
 ·have w:i<xs.length:=by omega
  have hx:xs[i]?=some xs[i]:=cM w;have hd:xs.drop i=xs[i]::xs.drop (i+1):=qh w;rw[hd]at y A;refine(aH.bU hs e λb _ U hF=>hX b U hF).pa hx ?_;obtain⟨k,s,j,N,d,M,D⟩:=yR (y.1 xs[i] kX);have z:=hi xs[i] (zc w);refine BE J xs[i] z (λhn=>by rw[N]at hn;cases hn) λk' nJ rb cs B P U E=>aG ?_;rw[N]at B;cases B;obtain⟨Q,s',S,C,Y⟩:=J.jq P;rw[d]at C;cases C;have eg:=Qw S d;have hj:=((UF H).1 M).2;refine E.bZ.rP (x:=some ⟨Q.1,0,none⟩) (E.get eg.2.2) ?_;refine Ra Y z M D λv8 Z W=>aG ?_;have G:=Qu S;have V:¬(rb=Q.1\/rb=Q.2):=λhh=>E.fr.2.2 (by rcases hh with h|h<;>rw[h];exact G.1;exact G.2)
  have hml:=GX s;have g:=GY hj false;rw[D]at g;have hsl:=Y.len;have hnl:=Y.ok.jg;have r:((s.put j false).many:Int)=s.many-1:=by simp at g;omega
  refine(Z.bZ E.bZ V).gF (E.get eg.1) (ar O O (aG ?_));simp only[add_lit,zq];rw[←r];refine J.pZ (s':=s.put j false) S d rfl Z W U E λv9 e9 R=>?_;refine cA (m:=i+1) O O ⟨⟨i+1,_,rfl,O,e.trans e9,R,?_,?_⟩,O⟩
  ·have:=kQ.next H y
   rwa [yS N d M]at this
  ·rw[lp,yS N d M]at A;exact A
 ·have:i=xs.length:=by omega
  subst this;rw[List.drop_length,List.foldl_nil]at A;subst A;exact hK L e J
theorem Wn5 (h:fB σ F p c ps ss){sl:Sl}{xs:List Int}{X:Rg}(hs:cR sl 1 (xs.map (Value.int .i64)) σ X)(hX:∀b,X b->¬F b)(hi:∀x∈xs,iO x)(hl:xs.length<=1000000)(hcap:sl.len<=sl.cap){R:Sl->Int->Hp->Prop}
 (h0:iV c ss xs≠0->R ⟨none,0,0⟩ (iV c ss xs) σ)
 (h1:iV c ss xs=0->∀o σ',Ext F σ σ'->bR o 2 (iz c (Z8 (xs.foldl (fK c) ss))) σ' (λb=>σ.size<=b)->fB σ' (Cut F σ) p c (jf ps (xs.foldl (fK c) ss)) (cJ (xs.foldl (fK c) ss))->R o 0 σ') :
 Y4.c (aW p) sl σ R:=by
 refine Y4.o ?_;unfold Y4.v;have hlen:sl.len=xs.length:=by have:=hs.1;simp at this;omega
 refine KU h (cG rfl ?_);have tw:∀i,(xs.take i).any (λx=>eD c ss x==some false)=true\/¬(xs.take i).Nodup->(∀x∈xs,(eD c ss x).isSome=true)->iV c ss xs=9:=by
  intro i d hall;unfold iV;rw[zA,zB]
  ·rcases d with d|d
   ·rw[ka]at d;obtain⟨x,u,ab⟩:=d;have:xs.any (λx=>eD c ss x==some false)=true:=ka.2 ⟨x,mc u,ab⟩;rw[this];rfl
   ·have:¬xs.Nodup:=λE=>d (E.sublist (Ch _ _));simp[this]
  ·simp only[qR,m7];intro x u;have:=hall x u;cases ht:eD c ss x
   ·rw[ht]at this;cases this
   ·simp
 refine Kf (a:=.b) (bb:=bN) (λ(tw:Bool) (t:Int) B=>∃i:Nat,t=(i:Int)/\i<=xs.length/\B=σ/\(∀x∈xs.take i,(eD c ss x).isSome=true)/\(tw=true↔(xs.take i).any (λx=>eD c ss x==some false)=true\/¬(xs.take i).Nodup)) (λ_ t _=>xs.length-t.toNat)
  ⟨0,rfl,O,rfl,by simp,by simp⟩ ?_
 rintro w t B ⟨i,rfl,hil,rfl,g,C⟩;refine cI (λhlt=>?_) λhge=>?_
 ·have D:i<xs.length:=by omega
  have u:xs[i]?=some xs[i]:=cM D;have S:=hi xs[i] (zc D);have G:xs.take (i+1)=xs.take i++[xs[i]]:=by rw[zg,u];rfl
  refine hs.pa u (Ly h xs[i] S (λb d=>cG rfl ?_) λE=>cK rfl ?_)
  ·have A:∀x∈xs.take (i+1),(eD c ss x).isSome=true:=by
    rw[G];intro x u;rcases zR.1 u with h1|h1
    ·exact g x h1
    ·simp at h1;subst h1;rw[d];rfl
   have fin:∀L:Bool,(L=true↔(xs.take (i+1)).any (λx=>eD c ss x==some false)=true\/¬(xs.take (i+1)).Nodup)->Ar .i64 ((i:Int)+1) λs=>
    (∃j:Nat,s=(j:Int)/\j<=xs.length/\B=B/\(∀x∈xs.take j,(eD c ss x).isSome=true)/\(L=true↔(xs.take j).any (λx=>eD c ss x==some false)=true\/¬(xs.take j).Nodup))/\xs.length-s.toNat<xs.length-(i:Int).toNat:=
    λL P=>cA (m:=i+1) O O ⟨⟨i+1,rfl,O,rfl,A,P⟩,O⟩
   have W:∀y:Int,(xs.take i++[y]).Nodup↔(xs.take i).Nodup/\y∉xs.take i:=λy=>by
    rw[oD];constructor
    ·exact λh=>⟨h.1,λM=>h.2.2 y M y aA rfl⟩
    ·exact λh=>⟨h.1,by simp,λa ha z hz e=>by simp at hz;subst hz;exact h.2 (e▸ha)⟩
   have ex:(xs.take (i+1)).any (λx=>eD c ss x==some false)=true\/¬(xs.take (i+1)).Nodup↔(w=true\/b=false)\/xs[i]∈xs.take i:=by
    rw[G,W,List.any_append,C];simp only[List.any_cons,List.any_nil,Bool.or_false,nV,d];have N:((some b==some false)=true)↔b=false:=by cases b<;>simp
    rw[N];constructor
    ·rintro((h|h)|h)
     ·exact .inl (.inl (.inl h))
     ·exact .inl (.inr h)
     ·by_cases E:(xs.take i).Nodup
      ·by_cases M:xs[i]∈xs.take i
       ·exact .inr M
       ·exact absurd ⟨E,M⟩ h
      ·exact .inl (.inl (.inr E))
    ·rintro(((h|h)|h)|h)
     ·exact .inl (.inl h)
     ·exact .inr λJ=>h J.1
     ·exact .inl (.inr h)
     ·exact .inr λJ=>J.2 h
   have J1:∀r:Bool,(r=true↔w=true\/b=false)->bY (λL v4=>Ar .i64 ((i:Int)+1) λs=>
    (∃j:Nat,s=(j:Int)/\j<=xs.length/\v4=B/\(∀x∈xs.take j,(eD c ss x).isSome=true)/\(L=true↔(xs.take j).any (λx=>eD c ss x==some false)=true\/¬(xs.take j).Nodup))/\xs.length-s.toNat<xs.length-(i:Int).toNat) λJ2=>
    If r (J2 true B) (eW sl 1 0 (i:Int) (sl.cap:Nat) λZ=>Wo.c Z xs[i] B λY v5=>J2 Y v5):=by
    intro r hr;refine bY.intro ?_;cases r
    ·refine cG rfl ?_;refine jd (lo:=0) O O O ?_;have H:cR ⟨if sl.cap=0 then sl.a else sl.a.map (·.add (0*1)),i-0,sl.cap-0⟩ 1 ((xs.take i).map (Value.int .i64)) B X:=by
      refine⟨by simp;omega,?_⟩;rcases hs.2 with h0|⟨b',o',cs',hf',ha',hb',hc'⟩
      ·left;have:xs=[]:=by simpa using h0
       simp[this]
      ·refine .inr ⟨b',o',cs',hf',?_,hb',λj hj=>?_⟩
       ·rw[zA O,ha'];simp[add_lit]
       ·simp only[za,zO]at hj;rw[hc' j aE,List.map_take,zY,zB O]
     refine SF H aE _ (fin _ ?_);rw[ex,←hr];simp
    ·refine cK rfl (fin true ?_);rw[ex,←hr];simp
   refine bY.intro ?_;cases w
   ·refine cG rfl (J1 _ ?_);cases b<;>simp
   ·exact cK rfl (J1 _ aA)
  ·have:iV c ss xs=8:=by
    unfold iV;rw[zB];exact ka.2 ⟨xs[i],zc D,by rw[E];rfl⟩
   have h0:=h0 (by rw[this];decide);rw[this]at h0;exact h0
 ·have:i=xs.length:=by omega
  subst this;rw[zl]at *;cases w
  ·refine cG rfl ?_;have hE:iV c ss xs=0:=by
    unfold iV;have V:¬(xs.any (λx=>eD c ss x==some false)=true\/¬xs.Nodup):=λJ=>by have:=C.2 J;cases this
    rw[zA,zA]
    ·simp only[not_or,qR,Decidable.not_not]at V;rw[V.1];simp[V.2]
    ·simp only[qR,m7];intro x u;have:=g x u;cases ht:eD c ss x
     ·rw[ht]at this;cases this
     ·simp
   refine WgF (fB.loc.cut h) hs (λb d hf=>hX b d hf.1) hi (Ig hE) hl λv6 e6 U=>?_;refine Jy U λo Q aa ac K=>?_;exact h1 hE o Q ((e6.trans aa).sub λb d=>d.1) (aI.mono ac λb _ d=>zI e6.1 d) (fB.loc.mono K λb _ d=>d.1)
  ·refine cK rfl ?_;have h9:=tw xs.length (by rw[zl];exact C.1 rfl) g;have h0:=h0 (by rw[h9];decide);rw[h9]at h0;exact h0
theorem T6 {x y:Sl}{a o b o':Nat}{cs ds:List Value}(hx:x.a=some ⟨a,o,none⟩)(hy:y.a=some ⟨b,o',none⟩)(ha:bX σ a cs)(hb:bX σ b ds)(hne:a≠b)(hd:ds≠[]){K:aO}(hK:K false σ) :
 sW Tryz.prog 282 [.slice x.a x.len x.cap,.slice y.a y.len y.cap] σ K:=by
 rintro w rfl;obtain⟨g,ha⟩:=ha;obtain⟨d,hb⟩:=hb;refine⟨false,w,?_,.refl _,hK⟩;rw[hx,hy,run_callFunc_extern Tryz.func282 (by kernel_rfl) (by kernel_rfl) (by kernel_rfl) (e:=Extern.SlicesOverlaps.overlaps #[203,203] #[4]) (by kernel_rfl)];have:=Lib.run_overlaps_apart (P:=Tryz.prog) w 203 4 210 Tryz.underlying203 3 Tryz.sizeOf210
  ⟨a,o,none⟩ ⟨b,o',none⟩ x.len x.cap y.len y.cap hne g d cs.length ds.length (by simp[World.shape?,ha]) (by simp[World.shape?,hb]) (by simpa using hd) (by simp[World.frozen?,ha]) (by simp[World.frozen?,ha])
 rw[this];rfl
theorem RB {Q:Rg}{s:Sl}{xs:List Value}{i m vb:Nat}{x y z:Value}(h:bR s 3 xs σ Q)(hlen:s.len=m)(hm:m<=2000)(hi:i<=m)(hv:bX σ vb [x,y,z])(hvb:¬Q vb)(h1:∀v∈xs,dN v=true)(h2:dN x=true/\dN y=true/\dN z=true)
 {R:Sl->Hp->Prop} (hR:∀s' σ',Ext Q σ σ'->bR s' 3 (xs.take (3*i)++[x,y,z]++xs.drop (3*i)) σ' (Grow Q σ)->R s' σ') :
 Wg.c s (i:Int) ⟨some ⟨vb,0,none⟩,1,1⟩ σ R:=by
 refine Wg.o ?_;unfold Wg.v;have hxl:=h.1;have hcap:s.len<=s.cap:=by
  rcases h.2 with⟨h0,h0'⟩|⟨b,cs,_,_,_,K,_⟩
  ·omega
  ·exact K
 have hrd:Rd σ (some ⟨vb,0,none⟩) [x,y,z]:=by
  intro j u hu;rw[add_lit,zG,hv.cell];exact hu
 have Z:∀v∈[x,y,z],dN v=true:=by simp[h2]
 refine jd O O O (cG rfl (cU (λW=>?_) λW=>?_))
 ·have hie:i=m:=by
   have:(i:Int)=((s.len:Nat):Int):=by simpa using W
   omega
  refine h.app (ys:=[x,y,z]) rfl rfl hrd Z aD aD nA λs' h' hl' e' V=>hR s' h' e' ?_
  rw[ng O,List.drop_of_length_le O,j9];exact V
 ·have hie:i<m:=by
   have:¬(i:Int)=((s.len:Nat):Int):=by simpa using W
   omega
  obtain⟨b,cs,S,ha,G,K,N,ht⟩:∃b cs,Q b/\s.a=some ⟨b,0,none⟩/\bX σ b cs/\s.len<=s.cap/\cs.length=s.cap*3/\cs.take xs.length=xs:=by
   rcases h.2 with⟨h0,_⟩|h
   ·omega
   ·exact h
  have H:vb≠b:=λe=>hvb (e▸S);have w:∀j v,xs[j]?=some v->cs[j]?=some v:=λj v p=>by
   rw[←ht,zY]at p;split at p
   ·exact p
   ·cases p
  refine cA (m:=m+1) aD O (cI (λhgt=>?_) λhle2=>?_)
  ·-- no room: a new row
   refine jd (lo:=0) O O O (cA (m:=m+1) aD O (cA (m:=m+1-i) O O ?_))
   have E:¬s.cap=0:=by omega
   rw[zA E];simp only[ha,zf,add_lit,tz,zq,Nat.sub_zero];refine⟨O,xs.take (3*i),by rw[zO];simp only;omega,?_,by simp[dN],by simp only;omega,by simp only;omega,O,λhin=>by simp only at hin;omega,λ_ cc M=>?_⟩
   ·intro j v p;rw[add_lit,zG,G.cell];rw[zY]at p;split at p
    ·exact w j v p
    ·cases p
   simp only[dC]at M ⊢;have Y:i+(m+1-i)=m+1:=by omega
   rw[Y]at M ⊢;refine nw λv2 hz2 e2 X=>?_;have B:∀k,(List.replicate k [Value.int .i64 0,.int .i64 0,.pointer none]).flatten.length=3*k:=λk=>by
    rw[vC,tJ,vf];simp;omega
   have g:(xs.take (3*i)).length=3*i:=by rw[zO];omega
   refine jd aD aD aD ?_
   have hv2:=e2.bZ hv id;have n1:(if cc=i then(some ⟨σ.size,0,none⟩:Option Addr)else(some ⟨σ.size,0,none⟩:Option Addr).map (·.add (i*3)))=some ⟨σ.size,i*3,none⟩:=by
    have:¬cc=i:=by omega
    rw[zA this];simp[add_lit]
   rw[n1];refine⟨[x,y,z],by simp only;rw[qB O];rfl,?_,Z,?_⟩
   ·intro j u hu;rw[add_lit,zG,hv2.cell];exact hu
   simp only;refine Ub (o:=i*3) (i:=0) X (by simp only[zK,g,B,zP,mh];omega) λv3 o3 U=>?_;refine cA (m:=i+1) aD O (jd aD aD aD (jd O O O ?_))
   have P:bX v3 b cs:=Ws o3 (e2.bZ G id) (by have:=G.lt;omega);have d:(xs.drop (3*i)).length=3*(m-i):=by rw[zr];omega
   refine⟨xs.drop (3*i),by simp only;rw[qB O,d];omega,?_,λv hv=>h1 v (qQ hv),?_⟩
   ·have r:¬s.cap=i:=by omega
    rw[zA r];simp only[ha,zf,add_lit];intro j v p;rw[add_lit,P.cell];rw[zo]at p;have:=w _ _ p;rw[show 0+i*3+j=3*i+j by omega];exact this
   have hbig:(xs.take (3*i)++(List.replicate (m+1-i) [Value.int .i64 0,.int .i64 0,.pointer none]).flatten++(List.replicate (cc-(m+1)) [Value.int .i64 0,.int .i64 0,.pointer none]).flatten).length=3*cc:=by
    simp only[zK,g,B];omega
   have tk:∀L:List Value,((xs.take (3*i)++(List.replicate (m+1-i) [Value.int .i64 0,.int .i64 0,.pointer none]).flatten++(List.replicate (cc-(m+1)) [Value.int .i64 0,.int .i64 0,.pointer none]).flatten).take (3*i))=xs.take (3*i):=λ_=>by
    rw[kJ,pd O,ng O]
   have fin:∀v4,QD v3 v4 σ.size->bX v4 σ.size ((xs.take (3*i)++[x,y,z])++xs.drop (3*i)++((xs.take (3*i)++(List.replicate (m+1-i) [Value.int .i64 0,.int .i64 0,.pointer none]).flatten++(List.replicate (cc-(m+1)) [Value.int .i64 0,.int .i64 0,.pointer none]).flatten).drop (3*i+3)).drop (3*(m-i)))->R ⟨some ⟨σ.size,0,none⟩,m+1,cc⟩ v4:=by
    intro v4 o4 A;refine hR _ v4 ?_ ⟨?_,.inr ⟨σ.size,_,.inr (zD _),rfl,A,by simp only;omega,?_,?_⟩⟩
    ·exact((e2.to.fC o3.ext λi hi=>by subst hi;exact .inr (zD _)).fC o4.ext λi hi=>by subst hi;exact .inr (zD _))
    ·simp only[zK,g,d,zP,mh];omega
    ·simp only[zK,g,d,zP,mh,zr,B];omega
    ·rw[kJ (xs.take (3*i)++[x,y,z]),←kJ,yz];rfl
   have e3:(xs.take (3*i)++(List.replicate (m+1-i) [Value.int .i64 0,.int .i64 0,.pointer none]).flatten++(List.replicate (cc-(m+1)) [Value.int .i64 0,.int .i64 0,.pointer none]).flatten).take (i*3+0)=xs.take (3*i):=by
    rw[show i*3+0=3*i by omega];exact tk []
   rw[e3]at U;have C:(xs.take (3*i)++[x,y,z]++(xs.take (3*i)++(List.replicate (m+1-i) [Value.int .i64 0,.int .i64 0,.pointer none]).flatten++(List.replicate (cc-(m+1)) [Value.int .i64 0,.int .i64 0,.pointer none]).flatten).drop (i*3+0 + [x,y,z].length)).length=3*cc:=by
    simp only[zK,zr,g,B,zP,mh];omega
   by_cases r:cc=i+1
   ·exfalso;omega
   ·rw[zA r];simp only[zf,add_lit,zG];refine Ub (o:=(i+1)*3) (i:=0) U (by rw[C,d];omega) λv4 o4 A=>fin v4 o4 ?_;have q1:(i+1)*3+0=(xs.take (3*i)++[x,y,z]).length:=by rw[zK,g];simp;omega
    have q2:(i+1)*3+0+(xs.drop (3*i)).length=(xs.take (3*i)++[x,y,z]).length+3*(m-i):=by rw[d,q1]
    rw[q2,q1,yz,List.drop_append]at A
    ·rw[List.drop_of_length_le (show(xs.take (3*i)++[x,y,z]).length<=(xs.take (3*i)++[x,y,z]).length+3*(m-i) by omega),oZ]at A;have q3:i*3+0 + [x,y,z].length=3*i+3:=by simp;omega
     rw[q3]at A;have q4:(xs.take (3*i)++[x,y,z]).length+3*(m-i)-(xs.take (3*i)++[x,y,z]).length=3*(m-i):=by omega
     rw[q4]at A;exact A
    ·rfl
  ·-- room: the rest moves
   have hle3:m+1<=s.cap:=by omega
   have E:¬s.cap=0:=by omega
   have r:¬s.cap=i:=by omega
   refine cA (m:=m+1) aD O (jd (lo:=0) O O O ?_)
   rw[zA E];simp only[ha,zf,add_lit,tz,zq,Nat.sub_zero];refine cA (m:=i+1) aD O (jd aD aD aD ?_)
   have D:cs.take (3*m)=xs:=by rw[←hlen,show 3*s.len=xs.length by omega];exact ht
   have na:∃o',(if s.cap=i+1 then(some ⟨b,0,none⟩:Option Addr)else(some ⟨b,0,none⟩:Option Addr).map (·.add ((i+1)*3)))=some ⟨b,o',none⟩:=by
    split
    ·exact⟨0,rfl⟩
    ·exact⟨_,by simp[add_lit];rfl⟩
   obtain⟨o',na⟩:=na;refine T6 (x:=⟨some ⟨vb,0,none⟩,1,1⟩) (a:=vb) (o:=0) (b:=b) rfl na hv G H (λe=>by rw[e]at N;simp at N;omega) (cK rfl ?_);refine cA (m:=i+1) aD O (jd aD aD aD (jd aD aD aD ?_))
   have J:¬s.cap=i+1:=by omega
   rw[zA J,zA r];simp only[zf,add_lit,zG];have d:(xs.drop (3*i)).length=3*(m-i):=by rw[zr];omega
   refine⟨xs.drop (3*i),by simp only;rw[Nat.min_eq_right O,d];omega,?_,λv hv=>h1 v (qQ hv),?_⟩
   ·intro j v p;rw[add_lit,G.cell];rw[zo]at p;have:=w _ _ p;rw[show i*3+j=3*i+j by omega];exact this
   refine Ub (o:=(i+1)*3) (i:=0) G (by rw[d];omega) λv3 o3 U=>?_;refine jd aD aD aD ?_
   rw[zA r];simp only[zf,add_lit,zG];have hv3:=Ws o3 hv H;refine⟨[x,y,z],by simp only;rw[qB O];rfl,?_,Z,?_⟩
   ·intro j u hu;rw[add_lit,zG,hv3.cell];exact hu
   have hl3:(cs.take ((i+1)*3+0)++xs.drop (3*i)++cs.drop ((i+1)*3+0+(xs.drop (3*i)).length)).length=cs.length:=by
    simp only[zK,zO,zr,d];omega
   refine Ub (o:=i*3) (i:=0) U (by rw[hl3];simp;omega) λv4 o4 A=>?_;have a1:(cs.take ((i+1)*3+0)).length=3*i+3:=by rw[zO];omega
   have g:(xs.take (3*i)).length=3*i:=by rw[zO];omega
   have p1:(cs.take ((i+1)*3+0)++xs.drop (3*i)++cs.drop ((i+1)*3+0+(xs.drop (3*i)).length)).take (i*3+0)=xs.take (3*i):=by
    rw[kJ,pd O,xY,qB O,←D,xY,qB O]
    congr 1;omega
   have p2:(cs.take ((i+1)*3+0)++xs.drop (3*i)++cs.drop ((i+1)*3+0+(xs.drop (3*i)).length)).drop (i*3+0 + [x,y,z].length)=xs.drop (3*i)++cs.drop ((i+1)*3+0+(xs.drop (3*i)).length):=by
    rw[kJ,List.drop_left'];rw[a1];simp;omega
   rw[p1,p2,←kJ]at A;refine hR _ v4 ((Ext.eP (F:=Q) o3 S).trans (Ext.eP o4 S)) ⟨?_,.inr ⟨b,_,.inl S,rfl,A,aD,?_,?_⟩⟩
   ·simp only[zK,g,zP,mh,d];omega
   ·simp only[zK,g,zr,zP,mh,d];omega
   ·rw[yz];rfl
def Zw (ss:List cH)(st:Nat):Nat:=(ss.takeWhile (λs=>s.st<st)).length
theorem HW (l:List cH)(P:cH->Bool):l.takeWhile P=l.take (l.takeWhile P).length/\l.dropWhile P=l.drop (l.takeWhile P).length:=by
 induction l with
 | nil=>simp
 | cons x l ih=>
  simp only[xE,D7];cases P x
  ·simp
  ·simp only[zT,zP,sy,yw];exact⟨by rw[←ih.1],ih.2⟩
theorem wP (c:bW)(ss:List cH)(st:Nat):iy c ss st=ss.take (Zw ss st)++⟨st,List.replicate c.n false⟩::ss.drop (Zw ss st):=by
 have:=HW ss (λs=>decide (s.st<st));unfold iy Zw;rw[this.2,←this.1]
theorem Gx (hs:ss.Pairwise (λa b=>a.st<b.st))(st:Nat):Zw ss st<=ss.length/\∀(i:Nat) s,ss[i]?=some s->(s.st<st↔i<Zw ss st):=by
 unfold Zw
 induction ss with
 | nil=>simp
 | cons x ss ih=>
  have e:=mR.1 hs;obtain⟨j,g⟩:=ih e.2;simp only[xE];by_cases hx:x.st<st
  ·simp only[hx,decide_true,zT,zP];refine⟨O,λi s d=>?_⟩;cases i with
   | zero=>simp at d;subst d;simp[hx]
   | succ i=>have:=g i s (by simpa using d);omega
  ·simp only[hx,decide_false,zb,zw,mh,Nat.zero_le,Nat.not_lt_zero,iff_false,td];intro i s d;cases i with
   | zero=>simp at d;subst d;exact hx
   | succ i=>
    have:=e.1 s (zE (i:=i) (by simpa using d));omega
theorem SS (h:fB σ F p c ps ss){σ1:Hp}(e1:bO σ σ1){sl:Sl}{rb:Nat}{cs:List Value}(hl:sl.len=ss.length)(hE:ss≠[]->r7 σ F p ps ss sl rb cs)(st:Nat)(hst:st<=1024){R:Int->Bool->Hp->Prop}(hR:∀σ' b,bO σ1 σ'->R (Zw ss st:Int) b σ') :
 Wb.c sl (st:Int) ⟨258,#[],#[]⟩ σ1 R:=by
 refine Wb.o ?_;unfold Wb.v;have N:=h.ly;obtain⟨L,kB⟩:=Gx h.qc st;have A:∀(k:Nat) (x:Nat×Nat) s (v:Hp) (K:aN),ps[k]?=some x->ss[k]?=some s->bO σ1 v->(∀D,bO v D->K ((s.st:Int)-(st:Int)) D) →
  VU Tryz.prog ⟨258,#[],#[]⟩ [.agg #[.int .i64 (s.many:Int),.int .i64 (s.st:Int),.pointer (some ⟨x.1,0,none⟩)],.int .i64 (st:Int)] [.one bN] v K:=by
  intro k x s v K u r ev hK;refine HR (all := #[.agg #[.int .i64 (s.many:Int),.int .i64 (s.st:Int),.pointer (some ⟨x.1,0,none⟩)],.int .i64 (st:Int)]) (by kernel_rfl) aA ?_;refine YY.o ?_;unfold YY.v;have hf:=(h.sp k x s u r).fit;refine nw (cs:=[.int .i64 (s.many:Int),.int .i64 (s.st:Int),.pointer (some ⟨x.1,0,none⟩)]) λX hz e J=>J.gF rfl (ar O O (hK X e))
 refine Kf (a:=bN) (bb:=bN) (λ(i j:Int) v=>∃a b:Nat,i=(a:Int)/\j=(b:Int)/\a<=Zw ss st/\Zw ss st<=b/\b<=ss.length/\bO σ1 v) (λi j _=>j.toNat-i.toNat) ⟨0,ss.length,rfl,by rw[hl],O,L,O,Ext.refl _ _⟩ ?_;rintro i j v ⟨a,b,rfl,rfl,Y,J,B,ev⟩;have z:bO σ v:=e1.trans ev;refine cI (λW=>?_) λaa=>?_
 ·have w:ss≠[]:=by rintro rfl;simp at B;omega
  have E:=hE w;refine cA (m:=a+b) O O ?_;have V:IntKind.u64.wrap ((a+b:Nat):Int)=((a+b:Nat):Int):=by
   unfold IntKind.wrap;simp[IntKind.bits,IntKind.signed];omega
  refine yu ?_;rw[V];refine nn O ?_;have M:min (1:Int).toNat IntKind.u64.bits=1:=by decide
  rw[M,IP];have C:(((a+b:Nat):Int)/2^1)=(((a+b)/2:Nat):Int):=by omega
  refine cA (m:=(a+b)/2) C O ?_;have d:(a+b)/2<ss.length:=by omega
  obtain⟨x,s,u,r,Z⟩:=h.jq d;have y:=Qw u r;rw[E.a];refine ix O O ?_;rw[add_lit,show 0+(((a+b)/2:Nat):Int).toNat*3=3*((a+b)/2) by omega];refine ud (e:=0) (z.bZ E.bZ id) (E.get y.1) (E.get y.2.1) (E.get y.2.2) (A _ x s v _ u r ev λD G=>?_);have g:=kB _ s r;show If (decide (((s.st:Int)-(st:Int))<0)) _ _;refine cI (λU=>?_) λQ=>?_
  ·exact cA (m:=(a+b)/2+1) O O ⟨⟨_,b,rfl,rfl,by have:=g.1 O;omega,J,B,ev.trans G⟩,O⟩
  ·exact⟨⟨a,_,rfl,rfl,Y,by
    apply Classical.byContradiction;intro hc;have:=g.2 O;omega,O,ev.trans G⟩,O⟩
 ·have H:a=Zw ss st:=by omega
  subst H;refine bY.intro (cI (λP=>?_) λS=>hR v _ ev);have d:Zw ss st<ss.length:=by omega
  have w:ss≠[]:=by rintro rfl;simp at d
  have E:=hE w;obtain⟨x,s,u,r,Z⟩:=h.jq d;have y:=Qw u r;rw[E.a];refine ix O O ?_;rw[add_lit,show 0+(Zw ss st:Int).toNat*3=3*Zw ss st by omega];refine ud (e:=0) (z.bZ E.bZ id) (E.get y.1) (E.get y.2.1) (E.get y.2.2) (A _ x s v _ u r ev λD G=>hR D _ (ev.trans G))
theorem OA (h:fB σ F p c ps ss){st:Nat}(hf:st+c.aF<=1024){R:aN}(h9:GT c ss st=9->∀σ',bO σ σ'->R 9 σ')
 (h0:GT c ss st=0->∀σ' ps',Ext F σ σ'->fB σ' (Grow F σ) p c ps' (iy c ss st)->R 0 σ'):Y9.c (aW p) (st:Int) σ R:=by
 refine Y9.o ?_;unfold Y9.v;have h:=fB.loc.cut h;obtain⟨sl,d,hl,ab,rb,cs,hE⟩:=h.nJ;have hfew:=h.ly;have hc:=h.ok;have hck:=hc;unfold bW.ok at hck;refine KU h (cG rfl (aG (d.gF rfl (d.gF rfl (d.gF rfl ?_)))));refine Np hc hf λv1 D L e1 hpn hqn W=>cG rfl (aG ((e1.bZ d id).rS rfl ?_));have hplt:=d.lt;refine ZU (a:=bN) (λ(t:Int) v=>∃i:Nat,t=(i:Int)/\i<=ss.length/\bO v1 v/\∀(j:Nat) s,j<i->ss[j]?=some s->¬max s.st st-min s.st st<c.aF) (λt _=>ss.length-t.toNat) ⟨0,rfl,O,Ext.refl _ _,λj s y=>O⟩ ?_;rintro t v ⟨i,rfl,Y,ev,X⟩;have r:=e1.trans ev;refine cI (λhlt=>?_) λhge=>?_
 ·simp only at hlt;have hi':i<ss.length:=by omega
  obtain⟨E,hcap,hcl⟩:=hE (by rintro rfl;simp at hi');obtain⟨x,s,z,g,hS⟩:=h.jq hi';have eg:=Qw z g;have hsf:=hS.fit;rw[E.a];refine ix O O ?_;rw[add_lit,show 0+(i:Int).toNat*3=3*i by omega];refine ud (e:=0) (r.bZ E.bZ id) (E.get eg.1) (E.get eg.2.1) (E.get eg.2.2) (yE λv6 e6 b6=>b6.gF rfl (b6.gF rfl ?_));have hd:(if(st:Int)>(s.st:Int)then(st:Int)else(s.st:Int))-(if(st:Int)<(s.st:Int)then(st:Int)else(s.st:Int))=((max s.st st-min s.st st:Nat):Int):=by
   split<;>split<;>omega
  refine cA (m:=max s.st st-min s.st st) hd O (aG (((r.trans e6).bZ d id).gF rfl ?_));refine cI (λhlt2=>h9 ?_ _ (r.trans e6)) λhge2=>?_
  ·unfold GT;rw[zB];exact ka.2 ⟨s,zE g,by simpa using(by omega:max s.st st-min s.st st<c.aF)⟩
  ·refine cA (m:=i+1) O O ⟨⟨i+1,rfl,O,ev.trans e6,λj s' y N=>?_⟩,O⟩;by_cases e:j=i
   ·subst e;rw[g]at N;cases N;omega
   ·exact X j s' O N
 ·have hii:i=ss.length:=by simp only at hge;omega
  subst hii;have hE0:GT c ss st=0:=by
   unfold GT;rw[zA];simp only[qR,m7,zS];intro s g;obtain⟨j,y⟩:=zN g;exact X j s (cQ.1 y).1 y
  refine aG ((r.bZ d id).rS rfl ?_);refine SS h r hl (λS=>(hE S).1) st O λv7 bb e7=>aG (((r.trans e7).bZ d id).rS rfl ?_);have e07:=r.trans e7;obtain⟨hp1,kB⟩:=Gx h.qc st;refine nw (cs:=[.int .i64 0,.int .i64 st,.pointer (some ⟨D,0,none⟩)]) λv8 hz8 e8 hb8=>?_;have J:=e07.trans e8;have U:=aI.bK ab J;have hsz7:=e07.1;refine RB U hl O hp1 hb8 (λw=>by have:=w.1.2;omega) I8 ⟨rfl,rfl,rfl⟩ λs' v9 e9 hr9=>aG ?_;have hb9:=e9.bZ (J.bZ d id) λw=>w.2.1 rfl;refine hb9.s1 aA λP fV hb10=>?_;have H:=h.len;have C:=h.nd;simp only[zp]at C;have hlt:=W.lt;have hsz1:=(ev.trans e7).trans e8 |>.1;have A:∀b∈eB ps,b<σ.size:=λb d=>(h.fb b d).2;have aa:∀{a b s'},im v8 a b c s'->¬(Cut F σ a/\a≠p/\a∉eB ps)->¬(Cut F σ b/\b≠p/\b∉eB ps)->a≠p->b≠p->im P a b c s':=λhS n1 n2 m1 m2=>(hS.bU e9 n1 n2).bU fV.ext m1 m2;have hnew:=((W.bK ev).bK e7).bK e8;have hent:dW (ps.take (Zw ss st)++(D,L)::ps.drop (Zw ss st)) (ss.take (Zw ss st)++⟨st,List.replicate c.n false⟩::ss.drop (Zw ss st)) =
   (dW ps ss).take (3*Zw ss st)++[.int .i64 0,.int .i64 st,.pointer (some ⟨D,0,none⟩)]++(dW ps ss).drop (3*Zw ss st):=by
   rw[Vg (by simp[H])];have u:dW ps ss=dW (ps.take (Zw ss st)) (ss.take (Zw ss st))++dW (ps.drop (Zw ss st)) (ss.drop (Zw ss st)):=by
    rw[←Vg (by simp[H]),nu,nu]
   have h2:(dW (ps.take (Zw ss st)) (ss.take (Zw ss st))).length=3*Zw ss st:=by rw[Q5 (by simp[H]),zO];omega
   rw[u,yz h2,List.drop_left' h2,kJ];have:cH.many ⟨st,List.replicate c.n false⟩=0:=by simp[cH.many,Ag]
   simp[dW,this]
  refine h0 hE0 P (ps.take (Zw ss st)++(D,L)::ps.drop (Zw ss st)) ?_ ?_
  ·refine(((bO.to J).trans (e9.sub λb d=>d.1.1))).trans (fV.ext.sub λb d=>d▸h.fp.1)
  ·have B:(eB (ps.take (Zw ss st)++(D,L)::ps.drop (Zw ss st))).Perm (D::L::eB ps):=by
    have:eB ps=eB (ps.take (Zw ss st))++eB (ps.drop (Zw ss st)):=by
     conv=>lhs;rw[←nu (Zw ss st) ps]
     simp only[eB,Av]
    rw[this];have h3:eB (ps.take (Zw ss st)++(D,L)::ps.drop (Zw ss st))=eB (ps.take (Zw ss st))++D::L::eB (ps.drop (Zw ss st)):=by simp[eB]
    rw[h3];exact List.perm_middle.trans ((List.perm_middle).cons D)
   have Q:∀b,b∈eB (ps.take (Zw ss st)++(D,L)::ps.drop (Zw ss st))↔b=D\/b=L\/b∈eB ps:=by
    intro b;rw[B.mem_iff];simp
   refine⟨⟨s',hb10,?_⟩,λi x s z g=>?_,.inl h.fp.1,λb d=>?_,?_,?_,hc,?_⟩
   ·rw[wP,hent];refine aI.bU (aI.mono hr9 λb _ d=>?_) fV.ext λb _ d he=>d.2.1 he;rw[Q];rcases d with d|d
    ·exact⟨.inl d.1.1,d.2.1,λw=>by
      rcases w with h|h|h
      ·have:=d.1.2;omega
      ·have:=d.1.2;omega
      ·exact d.2.2 h⟩
    ·exact⟨.inr O,O,λw=>by
      rcases w with h|h|h
      ·omega
      ·omega
      ·have:=A b h;omega⟩
   ·rw[wP]at g;have K:(ps.take (Zw ss st)).length=Zw ss st:=by rw[zO];omega
    have M:(ss.take (Zw ss st)).length=Zw ss st:=by rw[zO];omega
    have Z:∀j:Nat,ps[j]?=some x->ss[j]?=some s->im P x.1 x.2 c s:=λj u h2=>by
     have G:=Qu u;exact aa ((h.sp j x s u h2).bK J) (λw=>w.2.2 G.1) (λw=>w.2.2 G.2) (λe=>C.1 (e▸G.1)) (λe=>C.1 (e▸G.2))
    rcases qx i (Zw ss st)with hlt'|heq|hgt
    ·rw[zd O,zY,zB hlt']at z g;exact Z i z g
    ·rw[zn O]at z g;rw[K,heq,pW]at z;rw[M,heq,pW]at g;simp at z g;subst z;subst g;exact aa hnew (λw=>by have:=w.1.2;simp only at this;omega) (λw=>by have:=w.1.2;simp only at this;omega) aC aC
    ·rw[zn O]at z g;rw[K]at z;rw[M]at g;obtain⟨k,hk⟩:∃k,i-Zw ss st=k+1:=⟨i-Zw ss st-1,O⟩;rw[hk,yJ,zo]at z g;exact Z _ z g
   ·rcases(Q b).1 d with u|u|u
    ·subst u;exact .inr hpn
    ·subst u;exact .inr hqn
    ·exact .inl (h.fb b u).1
   ·simp only[zp];refine⟨λG=>?_,?_⟩
    ·rcases(Q p).1 G with u|u|u
     ·omega
     ·omega
     ·exact C.1 u
    ·rw[B.nodup_iff];simp only[zp,zQ,not_or];have S:=W.ne;exact⟨⟨S,λG=>by have:=A _ G;omega⟩,λG=>by have:=A _ G;omega,C.2⟩
   ·rw[wP];simp[H]
   ·rw[wP];rw[pq];have V:=h.qc;refine⟨V.sublist (Ch _ _),mR.2 ⟨λs g=>?_,V.sublist (DS _ _)⟩,λa ha b d=>?_⟩
    ·obtain⟨j,y⟩:=zN g;rw[zo]at y;have u:=kB _ s y;have h2:s.st≠st:=λe=>by
      have:=X (Zw ss st+j) s (cQ.1 y).1 y;rw[e]at this;simp at this;omega
     show st<s.st;omega
    ·obtain⟨i,Y⟩:=zN ha;rw[zY]at Y;split at Y
     ·rename_i hlt';have hat:=(kB i a Y).2 hlt';rcases zQ.1 d with rfl|d
      ·exact hat
      ·obtain⟨j,y⟩:=zN d;rw[zo]at y;obtain⟨hi1,hi2⟩:=cQ.1 Y;obtain⟨hj1,hj2⟩:=cQ.1 y;have:=kP.1 V i (Zw ss st+j) hi1 hj1 O;rw[hi2,hj2]at this;exact this
     ·cases Y
end Go.Ar
namespace Go.Proofs
open Go.Vc
set_option maxRecDepth 100000
def W3.h:Hn:=.q .o1 (.q (.q .o3 .aK) (.q .o6 .l))
def W3.v (a:R2)(b:Hp)(c:Sl->Hp->Prop):Prop:=WL.c a b λd e=>If (!d) (c ⟨none,0,0⟩ e) (bE a 3 e λg=>XA.c g e λh i=>c h i)
theorem W3.o {a b c}(d:W3.v a b c):W3.c a b c:=Wa Tryz.func108 (x:=W3.h) (R0 d)
def WL.h:Hn:=.q .o1 (.q (.cV (.seq [.op,.op,.op,.dD true 5 (RI.ops 5),.op])) .l)
def WL.v (a:R2)(b:Hp)(c:aO):Prop:=bY (λd e=>c d e) λf=>If (!a.isNone) (bD a 0 b λh=>f (decide (h>0)) b) (f false b)
theorem WL.o {a b c}(d:WL.v a b c):WL.c a b c:=Wa Tryz.func139 (x:=WL.h) (R0 d)
def ZZ.h:Hn:=.q .o2 (.q (.q (.cV (.seq [.op,.op,.op,.dD false 2 [.op,.op],.op,.dD false 2 [.op,.op],.op,.dD false 2 [.op,.op]])) .aJ) (.q .o6 .l))
def ZZ.v (a b:Int)(c:Hp)(d:Option Addr->Int->Hp->Prop):Prop:=bY (λe f=>bY (λg h=>bY (λi j=>If i (d none 1 j) (aV #[.I a,.I b,.I 0,.slice none 0 0] 215 j λk l=>d (some k) 0 l)) λm=>If g (m true h) (m (decide (b>8)) h)) λn=>If e (n true f) (n (decide (b<0)) f)) λo=>If (a<1) (o true c) (o (decide (a>32)) c)
theorem ZZ.o {a b c d}(e:ZZ.v a b c d):ZZ.c a b c d:=Wa Tryz.func157 (x:=ZZ.h) (R0 e)
def Xm.h:Hn:=.q .o1 (.q .o4 .l)
def Xm.v (a:R2)(b:Hp)(c:Sl->Hp->Prop):Prop:=XK.c a ⟨245,#[],#[]⟩ b λd e=>c d e
theorem Xm.o {a b c}(d:Xm.v a b c):Xm.c a b c:=Wa Tryz.func198 (x:=Xm.h) (R0 d)
def Wz.h:Hn:=.q .o2 (.q (.k (.q .o4 (.c .aL (.q .o7 .aJ)))) (.q .o7 (.q .o8 (.q .fV (.q .fV (.q .o3 .l))))))
def Wz.v (a:R2)(b:Hp)(c:Sl->Int->Hp->Prop):Prop:=WL.c a b λd e=>If (!d) (c ⟨none,0,0⟩ 5 e) (bE a 3 e λg=>If (((g.len:Nat):Int)==0) (c ⟨none,0,0⟩ 4 e) (bE a 3 e λi=>bL (((i.len:Nat):Int)-1) λj=>bE a 3 e λl=>Ix l.a l.len j 1 λm=>jk m e λn=>bE a 3 e λp=>eW p 1 0 j (p.cap:Nat) λq=>bS a λr=>aR r 3 (.slice q.a q.len q.cap) e λs=>bD a 2 s λu=>bS a λv=>aR v 2 (.I (if j<u then j else u)) s λw=>c n 0 w))
theorem Wz.o {a b c}(d:Wz.v a b c):Wz.c a b c:=Wa Tryz.func213 (x:=Wz.h) (R0 d)
def XK.h:Hn:=.q .o2 (.q (.q .o3 .aK) (.q .o5 (.q .o8 (.q (.o 11) (.q .o9 .aL)))))
def XK.v (a:R2)(b:Fv)(c:Hp)(d:Sl->Hp->Prop):Prop:=aV #[.func (.func b.f) b.first b.captured] 325 c λe f=>WL.c a f λg h=>If (!g) (d ⟨none,0,0⟩ h) (Be (e.add 0) h λi=>VU Tryz.prog i [.pointer a] [.I] h λj k=>bE a 3 k λm=>eW m 1 0 j j λn=>bE a 3 k λp=>eW p 1 j (p.len:Nat) (p.cap:Nat) λq=>WQ.c q k λr s=>bS a λt=>aR t 3 (.slice r.a r.len r.cap) s λu=>bE a 3 u λw=>bS a λx=>aR x 2 (.I ((w.len:Nat):Int)) u λy=>d n y)
theorem XK.o {a b c d}(e:XK.v a b c d):XK.c a b c d:=Wa Tryz.func244 (x:=XK.h) (R0 e)
def XJ.h:Hn:=.q .o1 (.q .o7 .l)
def XJ.v (a:R2)(b:Hp)(c:aN):Prop:=bD a 2 b λe=>bL (e+1) λf=>Nz 2<|bL (f.tdiv 2) λg=>c g b
theorem XJ.o {a b c}(d:XJ.v a b c):XJ.c a b c:=Wa Tryz.func245 (x:=XJ.h) (R0 d)
def Xa.h:Hn:=.q .o2 (.q (.k (.q .o4 (.c .aL (.q .o8 (.c .aL (.q (.oq 11) .aJ)))))) (.q (.cV (.held true [8,11] (.tk [0,1,2,3,4,5] (.all [(6,.all [(7,.all [(8,.take 9 (.take 10 (.all [(11,.done)])))])])])))) .aL))
def Xa.v (a:R2)(b:Sl)(c:Hp)(d:Bool->Int->Hp->Prop):Prop:=WL.c a c λe f=>If (!e) (d false 5 f) (bD a 0 f λh=>If (((b.len:Nat):Int) != h) (d false 1 f) (bE a 3 f λj=>bD a 1 f λl=>If (((j.len:Nat):Int)≥l) (d false 0 f) (dT f λm=>bS a λn=>aT m n 3 λo=>WH.c b f λp q=>And (m q) <| aV #[.slice p.a p.len p.cap] 69 q λr s=>And (m s) <| App o 1 24 69 [.slice none 0 0] ⟨some r,1,1⟩ s λt u=>bS a λv=>aR v 3 (.slice t.a t.len t.cap) u λw=>d true 0 w)))
theorem Xa.o {a b c d}(e:Xa.v a b c d):Xa.c a b c d:=Wa Tryz.func264 (x:=Xa.h) (R0 e)
end Go.Proofs
namespace Go.Ar
open Go Go.Vc Go.Proofs
variable {σ:Hp}{F:Rg}{p batch room:Nat}{t:fP}
def nQ (s:Sl):Value:=.slice s.a s.len s.cap
def Wv (xs:List Int):List Value:=xs.map (Value.int .i64)
theorem Va {l:List Int}:∀v∈Wv l,dN v=true:=by
 intro v hv;simp only[Wv,zC]at hv;obtain⟨x,_,rfl⟩:=hv;rfl
theorem TH {l:List Sl}:∀v∈l.map nQ,dN v=true:=by
 intro v hv;simp only[zC]at hv;obtain⟨x,_,rfl⟩:=hv;rfl
def oP (sls:List Sl)(bs:List (List Int))(σ:Hp)(D:Rg):Prop:=sls.length=bs.length/\∀(i:Nat) s xs,sls[i]?=some s->bs[i]?=some xs->cR s 1 (Wv xs) σ D/\s.len<=s.cap
theorem oP.loc (sls:List Sl)(bs:List (List Int)):dQ (oP sls bs):=λσ j F G h e g=>⟨h.1,λi s b a d=>⟨cR.loc _ _ _ _ _ _ _ (h.2 i s b a d).1 e g,(h.2 i s b a d).2⟩⟩
def Dj (sls:List Sl):Prop:=sls.Pairwise λs t=>∀a a',s.a=some a->t.a=some a'->a.block≠a'.block
def lq (s:Sl)(b:Nat):Prop:=∃a,s.a=some a/\a.block=b
theorem _root_.Go.Vc.cR.ym {s:Sl}{sz:Nat}{xs:List Value}{D:Rg}(h:cR s sz xs σ D):cR s sz xs σ λb=>D b/\lq s b:=
 ⟨h.1,h.2.imp id λ⟨b,o,d,e,a,r⟩=>⟨b,o,d,⟨e,_,a,rfl⟩,a,r⟩⟩
theorem _root_.Go.Vc.cR.bZ {s:Sl}{sz:Nat}{xs:List Value}{D:Rg}(h:cR s sz xs σ D)(hx:xs≠[]){b:Nat}(hb:lq s b):D b/\b<σ.size:=by
 rcases h.2 with h0|⟨b',o,cs,hq,ha,hc,_⟩
 ·exact absurd h0 hx
 ·obtain⟨a,d,rfl⟩:=hb;rw[ha]at d;cases d;exact⟨hq,hc.lt⟩
theorem Dj.snoc {sls:List Sl}{bs:List (List Int)}{D:Rg}{z:Nat}{s':Sl}{xs:List Value}{v:Hp}(h:Dj sls)(hB:oP sls bs σ D)(hne:∀xs∈bs,xs≠[])(hz:∀b,D b->b<z)(hs:bR s' 1 xs v λb=>z<=b)(hx:xs≠[]):Dj (sls++[s']):=by
 refine pq.2 ⟨h,List.pairwise_singleton _ _,λs e u j a p r x=>?_⟩;rw[zW]at j;subst j;obtain⟨i,m⟩:=zN e;have g:=(cQ.1 m).1;have d:bs[i]?=some (bs[i]'(by rw[←hB.1];exact g)):=cM _;have w:=((hB.2 i s _ m d).1.bZ (by simp only[Wv,ne_eq,y7];exact hne _ (zE d)) ⟨a,r,rfl⟩).1;have y:=(hs.fX.bZ hx ⟨p,x,rfl⟩).1;have:=hz _ w;omega
structure iD (σ:Hp) (F:Rg) (p batch room:Nat) (t:fP):Prop where
 mem:∃(sl:Sl) (sls:List Sl) (D:Rg),bX σ p [.int .i64 (batch:Int),.int .i64 (room:Int),.int .i64 (t.low:Int),.slice sl.a sl.len sl.cap]/\bR sl 1 (sls.map nQ) σ (λb=>F b/\b≠p/\¬D b)/\oP sls t.bs σ D/\(∀b,D b->F b/\b≠p)/\Dj sls
 fp:F p
 b1:1<=batch/\batch<=32
 r1:room<=8
 ly:t.bs.length<=room
 low:t.low<=t.bs.length
 all:∀xs∈t.bs,xs.length=batch
theorem iD.loc:dQ λσ F=>iD σ F p batch room t:=λσ x F G h m d=>by
 obtain⟨sl,i,D,a,u,s,j,w⟩:=h.mem;refine⟨⟨sl,i,λb=>D b/\b<σ.size,?_,?_,?_,λb a=>⟨(d b a.2 (j b a.1).1).1,(j b a.1).2⟩,w⟩,(d p a.lt h.fp).1,h.b1,h.r1,h.ly,h.low,h.all⟩
 ·obtain⟨e,r⟩:=a;exact⟨e,(d p (bX.lt ⟨e,r⟩) h.fp).2.trans r⟩
 ·exact bR.loc _ _ _ _ _ _ _ u m λb a g=>⟨⟨(d b a g.1).1,g.2.1,λhd=>g.2.2 hd.1⟩,(d b a g.1).2⟩
 ·exact oP.loc _ _ _ _ _ _ s m λb a hd=>⟨⟨hd,a⟩,(d b a (j b hd).1).2⟩
theorem iD.bK {σ':Hp}(h:iD σ F p batch room t)(e:bO σ σ'):iD σ' F p batch room t:=dQ.bK iD.loc h e
theorem Ht (h:iD σ F p batch room t){R:aO}(hR:R true σ):WL.c (aW p) σ R:=by
 refine WL.o ?_;unfold WL.v;obtain⟨sl,b,D,a,_⟩:=h.mem;have:=h.b1;refine bY.intro (cK rfl (aG (a.rI rfl ?_)));rw[zV O];exact hR
theorem _root_.Go.Vc.cR.yj {s:Sl}{F:Rg}{sls:List Sl}(h:cR s 1 (sls.map nQ) σ F){i:Nat}{x:Sl}(hx:sls[i]?=some x){K:Sl->Prop}(hK:K x):Ix s.a s.len (i:Int) 1 λa=>jk a σ K:=by
 have m:=(cQ.1 hx).1;obtain⟨b,o,g,e⟩:=h.cell (j:=i) (v:=nQ x) (by simp[hx]);have d:=h.1;rw[za]at d;rw[g];refine ix O O ?_;rw[add_lit];exact oA (by simpa[nQ]using e) hK
theorem Tl (h1:1<=batch)(h2:batch<=32)(h3:room<=8){R:Option Addr->Int->Hp->Prop}(hR:∀σ' p,bO σ σ'->σ.size<=p->p<σ'.size->iD σ' (· = p) p batch room ⟨0,[]⟩->R (some ⟨p,0,none⟩) 0 σ'):ZZ.c batch room σ R:=by
 refine ZZ.o ?_;unfold ZZ.v;refine bY.intro (fH O (bY.intro (fH O (bY.intro (fH O (fH O ?_))))));refine nw (cs:=[.int .i64 batch,.int .i64 room,.int .i64 0,.slice none 0 0]) λv d e a=>?_;exact hR v _ e (zD _) O ⟨⟨⟨none,0,0⟩,[],λ_=>False,a,bR.nil _ _ _ _,⟨rfl,λi s g h=>by simp at h⟩,λb h=>h.elim,List.Pairwise.nil⟩,rfl,⟨h1,h2⟩,h3,by simp,by simp,by simp⟩
theorem R8 (h:iD σ F p batch room t){sl:Sl}{xs:List Int}{X:Rg}(hs:cR sl 1 (Wv xs) σ X)(hl:xs.length<=1000000){R:Bool->Int->Hp->Prop}(h1:xs.length≠batch->R false 1 σ)(h2:xs.length=batch->room<=t.bs.length->R false 0 σ)
 (h3:xs.length=batch->t.bs.length<room->∀σ',Ext F σ σ'->iD σ' (Grow F σ) p batch room {t with bs:=t.bs++[xs]}->R true 0 σ'):Xa.c (aW p) sl σ R:=by
 refine Xa.o ?_;unfold Xa.v;have h:=iD.loc.cut h;obtain⟨E,B,D,d,hr,w,M,hJ⟩:=h.mem;have r:sl.len=xs.length:=by have:=hs.1;simp[Wv]at this;omega
 have hso:E.len=t.bs.length:=by have:=hr.1;rw[za,w.1]at this;omega
 have hr8:=h.r1;have hb1:=h.b1;refine Ht h (cG rfl (aG (d.rI rfl ?_)));rw[uC];refine cU (λA=>h1 (by rw[←r];simpa using A)) λY=>?_;have g:xs.length=batch:=by rw[←r];simpa using Y
 refine aG (d.rS rfl (aG (d.rI rfl (cI (λaa=>h2 g (by simp only at aa;omega)) λN=>?_))));simp only at N;refine⟨λh'=>bX h' p [.int .i64 (batch:Int),.int .i64 (room:Int),.int .i64 (t.low:Int),.slice E.a E.len E.cap],d,aG ⟨E,λh' Z=>by rw[add_lit,Z.cell];rfl,?_⟩⟩;refine HL hs Va O λz v1 hl1 C x=>⟨C.bZ d id,?_⟩;refine nw (cs:=[.slice z.a z.len z.cap]) λv2 hz2 H Q=>⟨(C.trans H).bZ d id,?_⟩;have ab:=aI.bK (aI.bK hr C) H;refine ab.app (ys:=[nQ z]) rfl rfl ?_ (by simp[dN,nQ]) ?_ ?_ nA λs2 v3 hl3 W U=>aG ?_
 ·intro j u hu;rw[add_lit,zG,Q.cell];exact hu
 ·simp only;have:(E.len+1)*24<=9*24:=kO O O;omega
 ·simp only;omega
 ·have S:=W.bZ ((C.trans H).bZ d id) λJ=>J.2.1 rfl;have hplt:=d.lt;have hs1:=C.1;refine S.s1 aA λv4 o4 V=>h3 g O v4 ?_ ?_
  ·exact((bO.to (C.trans H)).trans (W.sub λb d=>d.1.1)).trans (o4.ext.sub λb d=>d▸h.fp.1)
  ·refine⟨⟨s2,B++[z],λb=>D b/\b<σ.size\/σ.size<=b/\b<v1.size,V,?_,⟨by simp[w.1],λi s ys y m=>?_⟩,λb d=>?_,?_⟩,.inl h.fp.1,h.b1,h.r1,by simp;omega,by have:=h.low;simp;omega,λys m=>?_⟩
   ·rw[zu];refine aI.bU (aI.mono U λb _ d=>?_) o4.ext λb _ d P=>d.2.1 P;rcases d with d|d
    ·exact⟨.inl d.1.1,d.2.1,λhd=>by
      rcases hd with hd|hd
      ·exact d.2.2 hd.1
      ·have:=d.1.2;omega⟩
    ·exact⟨.inr O,O,λhd=>by rcases hd with hd|hd<;>omega⟩
   ·have mv:∀{s:Sl} {ys:List Int} {G:Rg},cR s 1 (Wv ys) v2 G->(∀b,G b->b≠p/\¬(Cut F σ b/\b≠p/\¬D b))->cR s 1 (Wv ys) v4 G:=λZ hn=>
     aH.bU (aH.bU Z W λb _ d=>(hn b d).2) o4.ext λb _ d P=>(hn b d).1 P
    rcases ma i B.length with hi'|hi'
    ·rw[zd hi']at y;rw[zd (by rw[←w.1];exact hi')]at m;obtain⟨k1,k2⟩:=w.2 i s ys y m;refine⟨aH.mono (mv (aH.bK (aH.bK (aH.mono k1 (G:=λb=>D b/\b<σ.size) λb d hd=>⟨hd,d⟩) C) H) λb hd=>⟨(M b hd.1).2,λJ=>J.2.2 hd.1⟩) λb _ hd=>.inl hd,k2⟩
    ·rw[zn hi']at y;rw[zn (by rw[←w.1];exact hi')]at m;have K:i-B.length=0:=by
      have:=(cQ.1 y).1;simp at this;omega
     rw[K]at y;rw[show i-t.bs.length=0 by rw[←w.1];exact K]at m;simp at y m;subst y;subst m;have L:z.len<=z.cap:=by
      rcases x.2 with⟨q1,q2⟩|⟨_,_,_,_,_,q,_⟩
      ·omega
      ·exact q
     refine⟨aH.mono (mv (aH.bK (aH.mono x.fX (G:=λb=>σ.size<=b/\b<v1.size) λb d hd=>⟨hd,d⟩) H) λb hd=>⟨O,λJ=>by have:=J.1.2;omega⟩) λb _ hd=>.inr hd,L⟩
   ·rcases d with hd|hd
    ·exact⟨.inl (M b hd.1).1.1,(M b hd.1).2⟩
    ·exact⟨.inr hd.1,O⟩
   ·have A:∀ys∈t.bs,ys≠[]:=λys m e=>by have:=iD.all ‹_› ys m;rw[e]at this;simp at this;omega
    exact hJ.snoc w A (λb hd=>(M b hd).1.2) x (by simp only[Wv,ne_eq,y7];intro e;rw[e]at g;simp at g;omega)
   ·rcases zR.1 m with h|h
    ·exact iD.all ‹_› ys h
    ·simp at h;subst h;exact g
theorem PV (h:iD σ F p batch room t)(h0:t.bs=[]){R:Sl->Int->Hp->Prop}(hR:R ⟨none,0,0⟩ 4 σ):Wz.c (aW p) σ R:=by
 refine Wz.o ?_;unfold Wz.v;obtain⟨i,g,D,e,b,d,m,j⟩:=h.mem;have a:i.len=t.bs.length:=by have:=b.1;rw[za,d.1]at this;omega
 refine Ht h (cG rfl (aG (e.rS rfl (cK ?_ hR))));simp[a,h0]
theorem M4 (h:iD σ F p batch room t)(h0:t.bs≠[]){R:Sl->Int->Hp->Prop}(hR:∀out σ',Ext F σ σ'->(∀b,lq out b->F b)->cR out 1 (Wv (t.bs.getLast?.getD [])) σ' (lq out)->out.len<=out.cap->iD σ' (λb=>F b/\¬lq out b) p batch room t.rem->R out 0 σ'):Wz.c (aW p) σ R:=by
 refine Wz.o ?_;unfold Wz.v;obtain⟨K,g,D,d,J,x,B,X⟩:=h.mem;have hso:K.len=t.bs.length:=by have:=J.1;rw[za,x.1]at this;omega
 have Y:=qz.2 h0;have hr8:=h.r1;have hfw:=h.ly;have W:=h.low;have U:t.bs.length-1<g.length:=by rw[x.1];omega
 obtain⟨o,S⟩:∃o,g[t.bs.length-1]?=some o:=⟨_,cM U⟩;have j:t.bs[t.bs.length-1]?=some (t.bs.getLast?.getD []):=by
  rw[List.getLast?_eq_getElem?,cM O];rfl
 obtain⟨V,k2⟩:=x.2 _ o _ S j;refine Ht h (cG rfl (aG (d.rS rfl (cG ?_ ?_))))
 ·simp only[m0];omega
 refine aG (d.rS rfl (cA (m:=t.bs.length-1) aC O (aG (d.rS rfl ?_))));refine J.fX.yj S (aG (d.rS rfl ?_));have Z:K.len<=K.cap:=by
  rcases J.2 with⟨q1,q2⟩|⟨_,_,_,_,_,q,_⟩
  ·omega
  ·exact q
 refine jd (lo:=0) O aD aD (aG (d.s1 aA λv1 o1 G=>aG (G.rI rfl (aG ?_))))
 refine G.s1 aA λv2 o2 u=>?_;have r:Ext (· = p) σ v2:=o1.ext.trans o2.ext;have C:(if((t.bs.length-1:Nat):Int)<(t.low:Int)then((t.bs.length-1:Nat):Int)else(t.low:Int))=((min t.low (t.bs.length-1):Nat):Int):=by split<;>omega
 rw[C]at u;have L:∀y∈t.bs,y≠[]:=λy w e=>by have h1:=h.all y w;have h2:=h.b1;rw[e]at h1;simp at h1;omega
 have A:∀b,lq o b->D b:=λb d=>(V.bZ (by simp only[Wv,ne_eq,y7];exact L _ (zE j)) d).1;refine hR o v2 (r.sub λb d=>d▸h.fp) (λb d=>(B b (A b d)).1) (aH.mono (aH.bU V r λb _ d E=>(B b d).2 E).ym λb _ hd=>hd.2) k2 ⟨⟨_,g.dropLast,λb=>D b/\¬lq o b,u,?_,⟨by simp[x.1,fP.rem],λi s y H w=>?_⟩,λb hd=>⟨⟨(B b hd.1).1,hd.2⟩,(B b hd.1).2⟩,List.Pairwise.sublist (List.dropLast_sublist _) X⟩,⟨h.fp,λd=>(B p (A p d)).2 rfl⟩,h.b1,h.r1,by simp[fP.rem];omega,by simp[fP.rem];omega,λy w=>h.all y (List.dropLast_subset _ w)⟩
 ·refine aI.bU ?_ r λb _ d E=>d.2.1 E;refine⟨by simp[x.1],?_⟩;rcases J.2 with⟨q1,q2⟩|⟨b,cs,hq,M,hbb,hle,hcl,ht⟩
  ·omega
  ·refine .inr ⟨b,cs,⟨⟨hq.1,λd=>hq.2.2 (A b d)⟩,hq.2.1,λhd=>hq.2.2 hd.1⟩,?_,hbb,by simp only;omega,by simp only;omega,?_⟩
   ·simp only[M];split<;>simp[add_lit]
   ·simp only[za]at ht ⊢;have hd:g.dropLast.map nQ=(g.map nQ).take (g.length-1):=by rw[Ah,List.map_take]
    rw[hd,←ht,xY,Dm]
    congr 1;omega
 ·have z:i<t.bs.length-1:=by
   have:=(cQ.1 w).1;simpa[fP.rem]using this
  rw[Ah,zY]at H;simp only[fP.rem,Ah,zY]at w;rw[zB (by rw[x.1];exact z)]at H;rw[zB z]at w;obtain⟨m1,m2⟩:=x.2 i s y H w;refine⟨aH.mono (aH.bU m1 r λb _ d E=>(B b d).2 E).ym λb _ d=>⟨d.1,λu=>?_⟩,m2⟩;obtain⟨a,M,e1⟩:=d.2;obtain⟨a',Q,e2⟩:=u;obtain⟨N,rfl⟩:=cQ.1 H;obtain⟨P,rfl⟩:=cQ.1 S;exact kP.1 X i _ N P z a a' M Q (e1.trans e2.symm)
theorem Pf {s:Sl}{vs:List Value}(h:cR s 1 vs σ F)(h1:∀v∈vs,dN v=true)(hl:s.len<=1000000){R:Sl->Hp->Prop}
 (hR:∀s' σ',s'.len=s.len->bO σ σ'->bR s' 1 vs σ' (λb=>σ.size<=b)->R s' σ'):WQ.c s σ R:=by
 refine WQ.o ?_;unfold WQ.v;exact G6 h aB rfl h1 aB hl hR
def ux (out:Sl)(bs:List (List Int))(σ:Hp)(G:Rg):Prop:=∃sls:List Sl,cR out 1 (sls.map nQ) σ G/\oP sls bs σ G
theorem ux.loc (out:Sl)(bs:List (List Int)):dQ (ux out bs):=λσ i F G ⟨a,e,g⟩ b d=>⟨a,cR.loc _ _ _ _ _ _ _ e b d,oP.loc _ _ _ _ _ _ g b d⟩
theorem Rr (h:iD σ F p batch room t){R:Sl->Hp->Prop}(hR:∀out σ',Ext F σ σ'->ux out t.out σ' F->iD σ' (Grow F σ) p batch room t.tick->R out σ'):Xm.c (aW p) σ R:=by
 refine Xm.o ?_;unfold Xm.v;refine XK.o ?_;unfold XK.v;have H:=h;have h:=iD.loc.cut h;obtain⟨w,d,D,e,V,A,K,hJ⟩:=h.mem;have U:w.len=t.bs.length:=by have:=V.1;rw[za,A.1]at this;omega
 have hr8:=h.r1;have hfw:=h.ly;have hlow:=h.low;obtain⟨n,P⟩:∃n,n=(t.low+1)/2:=⟨_,rfl⟩;have hnl:n<=t.bs.length:=by omega
 refine nw (cs:=[.func (.func 245) #[] #[]]) λv1 hz1 z aa=>?_;have h1:=h.bK z;have u:=z.bZ e id;refine Ht h1 (cG rfl ?_);refine⟨⟨245,#[],#[]⟩,by rw[add_lit,aa.cell];rfl,?_⟩;refine HR (all := #[.pointer (some ⟨p,0,none⟩)]) (by kernel_rfl) aA ?_;refine XJ.o ?_;unfold XJ.v;refine aG (u.rI rfl (cA (m:=t.low+1) O O (nz aB (cA (m:=n) (by rw[YN O];omega) O ?_))));refine aG (u.rS rfl ?_);have hcap:w.len<=w.cap:=by
  rcases V.2 with⟨q1,q2⟩|⟨_,_,_,_,_,q,_⟩
  ·omega
  ·exact q
 have E:=aI.bK V z;have S:=(oP.loc _ _).bK A z;refine jd (lo:=0) O O aD (aG (u.rS rfl (jd aD aD aD ?_)))
 have x:∀(s:Sl) (a m:Nat),(s.len=m)->a+m<=d.length->(m=0\/∀b,w.a=some ⟨b,0,none⟩->s.a=some ⟨b,a,none⟩)->cR s 1 (((d.drop a).take m).map nQ) v1 (λb=>Cut F σ b/\b≠p/\¬D b):=by
  intro s a m hs ham hsa;refine⟨by simp;omega,?_⟩;rcases wR m with h0|h0
  ·left;subst h0;simp
  ·rcases E.fX.2 with q|⟨b,o,cs,q1,q2,q3,q4⟩
   ·have:d=[]:=by simpa using q
    subst this;simp at ham;omega
   ·rcases E.2 with⟨z1,z2⟩|⟨b',cs',w1,w2,w3,w4,w5,w6⟩
    ·rw[A.1]at ham;omega
    ·rcases hsa with hm|hsa
     ·omega
     ·refine .inr ⟨b',a,cs',w1,hsa b' w2,w3.q,λj hj=>?_⟩;simp only[za,zO,zr]at hj;have:cs'[a+j]?=(d.map nQ)[a+j]? := by
       rw[←w6,zY,zB (by rw[za];omega)]
      rw[this];simp only[ze,zY,zo];rw[zB O]
 have hso2:w.len=d.length:=by rw[A.1];exact U
 refine Pf (x _ n (d.length-n) aC O ?_) TH aC λs' v3 Z C N=>?_
 ·by_cases hz:w.cap=n
  ·left;omega
  ·right;intro b hbs;simp only[zA hz,hbs];simp[add_lit]
 have Y:=C.bZ u id;refine aG (Y.s1 aA λv4 o4 J=>aG (J.rS rfl (aG (J.s1 aA λv5 o5 L=>?_))));have g:Ext (· = p) v3 v5:=o4.ext.trans o5.ext;have hs1:=z.1;have hs3:=C.1;have hplt:=e.lt;have X:(d.drop 0).take n=d.take n:=by simp
 refine hR _ v5 ?_ ⟨d.take n,?_,?_⟩ ⟨⟨s',d.drop n,λb=>D b/\b<σ.size,?_,?_,?_,?_,List.Pairwise.sublist (DS _ _) hJ⟩,.inl H.fp,h.b1,h.r1,?_,?_,?_⟩
 ·exact(bO.to (z.trans C)).trans (g.sub λb e=>e▸H.fp)
 ·have:=x ⟨if n=0 then w.a else w.a.map (·.add (0*1)),n-0,n-0⟩ 0 n aA O (by
   by_cases hz:n=0
   ·exact .inl hz
   ·right;intro b hbs;simp only[zA hz,hbs];simp[add_lit])
  rw[X]at this;exact aH.mono (aH.bU (aH.bK this C) g λb _ e y=>e.2.1 y) λb _ e=>e.1.1
 ·refine⟨by simp[A.1,fP.out,P],λi s M B r=>?_⟩;simp only[fP.out,←P]at r;rw[zY]at B r;split at B
  ·rename_i hin;rw[zB hin]at r;obtain⟨Q,W⟩:=S.2 i s M B r;exact⟨aH.mono (aH.bU (aH.bK Q C) g λb _ e y=>(K b e).2 y) λb _ e=>(K b e).1.1,W⟩
  ·cases B
 ·have:((s'.len:Nat):Int)=((t.tick.low:Nat):Int):=by
   rw[Z];simp only[fP.tick,zr,←P];omega
  rw[this]at L;exact L
 ·have hh:((d.drop n).take (d.length-n))=d.drop n:=ng aA;rw[hh]at N;refine aI.bU (aI.mono N λb _ e=>?_) g λb _ e y=>e.2.1 y;exact⟨.inr O,O,λhd=>O⟩
 ·refine⟨by simp[A.1,fP.tick,P],λi s M B r=>?_⟩;simp only[fP.tick,←P]at r;rw[zo]at B r;obtain⟨Q,W⟩:=A.2 _ s M B r;exact⟨aH.bU (aH.bK (aH.bK (aH.mono Q (G:=λb=>D b/\b<σ.size) λb e hd=>⟨hd,e⟩) z) C) g λb _ e y=>(K b e.1).2 y,W⟩
 ·exact λb hd=>⟨.inl (K b hd.1).1.1,(K b hd.1).2⟩
 ·simp only[fP.tick,zr];omega
 ·simp[fP.tick]
 ·exact λM r=>h.all M (qQ r)
theorem Wnw {n:Nat}(hn:n<=1000000){R:Sl->Hp->Prop}(hR:∀s' σ',bO σ σ'->bR s' 1 [] σ' (λb=>σ.size<=b)->R s' σ'):XH.c ⟨none,0,0⟩ (n:Int) σ R:=by
 refine XH.o ?_;unfold XH.v;refine Jn.intro (fH O (cA (m:=0) aA O (cA (m:=n) aA O (cI (λi=>?_) λu=>hR _ _ (Ext.refl _ _) (bR.nil _ _ _ _)))));refine jd (lo:=0) (hi:=0) (mx:=0) O O aA ?_;refine⟨O,[],by simp,by simp[Rd],by simp[dN],by simp only[dC];omega,by simp only[dC];omega,O,λa=>by simp only[dC]at a;omega,λg cc s=>?_⟩;refine nw λp r j d=>?_;simp only[dC]at *;have e:n<=cc:=by omega
 refine jd (lo:=0) (hi:=0) (mx:=cc) O O aC (hR _ p j ⟨by simp,.inr ⟨σ.size,_,zD _,?_,d,by simp,?_,by simp⟩⟩)
 ·simp only;split<;>simp[add_lit]
 ·simp only[oZ,zK,vC,tJ,vf,zP,mh,Nat.sub_zero];omega
theorem IN (bs:List (List Int)){i:Nat}{xs:List Int}(h:bs[i]?=some xs):(bs.take (i+1)).flatten=(bs.take i).flatten++xs:=by
 rw[zg,h];simp
theorem iD.flat (h:iD σ F p batch room t):t.bs.flatten.length<=256:=by
 have key:∀l:List (List Int),(∀a∈l,a.length=batch)->l.flatten.length=batch*l.length:=by
  intro l
  induction l with
  | nil=>intro _;simp
  | cons x l ih=>
   intro hl;rw[vu,zK,hl x aA,ih λa b=>hl a (by simp[b]),zP,Nat.mul_add];omega
 rw[key t.bs h.all];have d:=h.b1;have g:=h.ly;have e:=h.r1;have:batch*t.bs.length<=32*8:=kO d.2 O;omega
theorem Fk (bs:List (List Int))(i:Nat):(bs.take i).flatten.length<=bs.flatten.length:=by
 conv=>rhs;rw[←nu i bs,AX,zK]
 omega
theorem Rw (h:iD σ F p batch room t){R:Sl->Hp->Prop}(hR:∀s' σ',bO σ σ'->s'.len=t.bs.flatten.length->bR s' 1 (Wv t.bs.flatten) σ' (λb=>σ.size<=b)->R s' σ'):W3.c (aW p) σ R:=by
 refine W3.o ?_;unfold W3.v;have Z:=h.flat;obtain⟨S,r,D,J,K,A,hD,hJ⟩:=h.mem;have V:S.len=t.bs.length:=by have:=K.1;rw[za,A.1]at this;omega
 have N:=h.ly;have P:=h.r1;refine Ht h (cG rfl (aG (J.rS rfl ?_)));refine XA.o ?_;unfold XA.v;refine Kf (a:=bN) (bb:=bN) (λ(n u:Int) v=>∃i:Nat,u=(i:Int)/\i<=t.bs.length/\v=σ/\n=(((t.bs.take i).flatten.length:Nat):Int)) (λ_ u _=>t.bs.length-u.toNat) ⟨0,rfl,O,rfl,by simp⟩ ?_;rintro n u v ⟨i,rfl,Q,rfl,rfl⟩;refine cI (λx=>?_) λz=>?_
 ·simp only at x;have d:i<t.bs.length:=by omega
  have j:i<r.length:=by rw[A.1];exact d
  refine K.fX.yj (cM j) ?_;obtain⟨C,X⟩:=A.2 i _ _ (cM j) (cM d);have B:r[i].len=t.bs[i].length:=by have:=C.1;simp[Wv]at this;omega
  have E:=IN t.bs (cM d);have L:=Fk t.bs (i+1);refine cA (m:=(t.bs.take (i+1)).flatten.length) (by rw[E,zK,B];omega) O (fH O (cA (m:=i+1) O O ⟨⟨i+1,rfl,O,rfl,rfl⟩,O⟩))
 ·have y:i=t.bs.length:=by simp only at z;omega
  subst y;rw[zl];refine Wnw O λs1 v1 Y G=>?_;refine Kf (a:=.s) (bb:=bN) (λ(s:Sl) (u:Int) w=>∃i:Nat,u=(i:Int)/\i<=t.bs.length/\bO v w/\bR s 1 (Wv (t.bs.take i).flatten) w (λb=>v.size<=b)) (λ_ u _=>t.bs.length-u.toNat) ⟨0,rfl,O,Y,by simpa[Wv]using G⟩ ?_;rintro s u w ⟨i,rfl,Q,e,g⟩;refine cI (λx=>?_) λz=>?_
  ·simp only at x;have d:i<t.bs.length:=by omega
   have j:i<r.length:=by rw[A.1];exact d
   refine(aI.bK K e).fX.yj (cM j) ?_;obtain⟨C,X⟩:=A.2 i _ _ (cM j) (cM d);have B:r[i].len=t.bs[i].length:=by have:=C.1;simp[Wv]at this;omega
   have M:=h.all _ (zc d);have U:=h.b1;have E:=IN t.bs (cM d);have L:=Fk t.bs (i+1);have hsl:s.len=(t.bs.take i).flatten.length:=by have:=g.1;simp only[Wv,za]at this;omega
   rw[E,zK]at L;refine g.app (ys:=Wv t.bs[i]) rfl (by simp[Wv];omega) (aH.bK C e).rd Va ?_ O O λs' w' W e' H=>?_
   ·have:(s.len+r[i].len)*8<=512*8:=kO O O;omega
   ·refine cA (m:=i+1) O O ⟨⟨i+1,rfl,O,Ext.fresh e e' λ_ h=>h,?_⟩,O⟩;rw[E];have:Wv ((t.bs.take i).flatten++t.bs[i])=Wv (t.bs.take i).flatten++Wv t.bs[i]:=by simp[Wv]
    rw[this];exact aI.mono H λb _ J=>by
     rcases J with h|h
     ·exact h
     ·exact zI e.1 h
  ·have y:i=t.bs.length:=by simp only at z;omega
   subst y;rw[zl]at g;exact hR s w e (by have:=g.1;simp only[Wv,za]at this;omega) g
end Go.Ar
namespace Go.Ar
open Go Go.Vc Go.Proofs
open Go.Bu (Zf)
variable {σ:Hp}{F:Rg}{p:Nat}{ow:Nat->Nat}
end Go.Ar
namespace Go.Proofs
open Go.Vc
set_option maxRecDepth 100000
def Xz.h:Hn:=.q .o1 (.q .o1 (.q (.q .o3 (.k (.loop [(3,.I),(7,.I)] (.q .o1 (.q (.c .l .l) (.q (.k (.q .o2 (.q .o8 (.c .o3 .l)))) .o2)))))) .aL))
def Xz.v (a:R2)(b:Hp)(c:aN):Prop:=Xq.c a b λd e=>W6 [bN,bN] (λf=>f 0 0 e) λg (h:Int) (i:Int) j=>If (i<d) (bE a 0 j λl=>Ix l.a l.len i 2 λm=>aZ m 0 j λn=>If n (bL (h+1) λo=>bL (i+1) λp=>g o p j) (bL (i+1) λq=>g h q j)) (c h j)
theorem Xz.o {a b c}(d:Xz.v a b c):Xz.c a b c:=Wa Tryz.func71 (x:=Xz.h) (R0 d)
def Xr.h:Hn:=.q .o1 (.q (.q .o3 .aK) (.q .o6 .l))
def Xr.v (a:R2)(b:Hp)(c:aN):Prop:=Xt.c a b λd e=>If (!d) (c 0 e) (bI a 1 e λg=>nZ .i64 .s g e λh=>c h e)
theorem Xr.o {a b c}(d:Xr.v a b c):Xr.c a b c:=Wa Tryz.func72 (x:=Xr.h) (R0 d)
def Xq.h:Hn:=.q .o1 (.q (.q .o3 .aK) (.q .o6 .l))
def Xq.v (a:R2)(b:Hp)(c:aN):Prop:=Xt.c a b λd e=>If (!d) (c 0 e) (bE a 0 e λg=>c ((g.len:Nat):Int) e)
theorem Xq.o {a b c}(d:Xq.v a b c):Xq.c a b c:=Wa Tryz.func103 (x:=Xq.h) (R0 d)
def Xt.h:Hn:=.q .o1 (.q (.cV (.seq [.op,.op,.op,.dD true 6 (RI.ops 6),.op])) .l)
def Xt.v (a:R2)(b:Hp)(c:aO):Prop:=bY (λd e=>c d e) λf=>If (!a.isNone) (bE a 0 b λh=>f (decide (((h.len:Nat):Int)>0)) b) (f false b)
theorem Xt.o {a b c}(d:Xt.v a b c):Xt.c a b c:=Wa Tryz.func104 (x:=Xt.h) (R0 d)
def X1.h:Hn:=.q .o1 (.q (.k (.q .o4 (.c .aM (.q .o3 (.c .aM (.q (.cV (.seq [.op,.op,.op,.dD false 3 (RI.ops 3),.op])) .aK)))))) (.q .fV (.q (.q (.cV (.iw true [] [(50,.one .b)] (.tk [0,1,2,3,4,5,6,7] (.split 39 (.tk [8,9,10,11,12,13,14,15,16,17,18] (.done)) (.tk [8,9,10,11,12,13,14,15,16] (.all [(17,.take 18 (.done))])))))) .aK) .aM)))
def X1.v (a:R2)(b c:Int)(d:Hp)(e:aN):Prop:=Xt.c a d λf g=>If (!f) (e 5 g) (If (c==0) (e 0 g) (bY (λh i=>If h (e 7 i) (Nz 256<|bL (b.tdiv 256) λj=>Nz 8<|bL (b.tdiv 8) λk=>bL (k+c) λl=>bL (l-1) λm=>Nz 32<|bL (m.tdiv 32) λn=>Jn [.b] (λ(o:Bool) p=>If o (e 7 p) (e 0 p)) λq=>dT i λr=>bS a λs=>aT r s 0 λt=>If (n≥((t.len:Nat):Int)) (q true i) (bS a λu=>aT r u 0 λv=>bL (n+1) λw=>eW v 2 j w (v.cap:Nat) λx=>gQ r .b ((Addr.mk 0 0 none).add 0) λ(y:Bool)=>gQ r .b ((Addr.mk 0 0 none).add 1) λ(z:Bool)=>Wj.c x y z i λaa ab=>And (r ab) <| q aa ab))) λac=>If (b<0) (ac true g) (Nz 8 <| ac ((b.tmod 8) != 0) g)))
theorem X1.o {a b c d e}(f:X1.v a b c d e):X1.c a b c d e:=Wa Tryz.func116 (x:=X1.h) (R0 f)
def Q2.h:Hn:=.q .o2 (.q (.q (.cV (.seq [.op,.op,.op,.dD false 2 [.op,.op]])) .aJ) (.q .o7 .l))
def Q2.v (a:Int)(b:Hp)(c:Option Addr->Int->Hp->Prop):Prop:=bY (λd e=>If d (c none 1 e) (Mk a a 2 160 [.bool false,.bool false] e λf g=>Nw (.map #[] 0) g λh i=>aV #[.slice f.a f.len f.cap,.map (some h.block),.I 0] 164 i λj k=>c (some j) 0 k)) λl=>If (a<1) (l true b) (l (decide (a>1024)) b)
theorem Q2.o {a b c}(d:Q2.v a b c):Q2.c a b c:=Wa Tryz.func124 (x:=Q2.h) (R0 d)
def YC.h:Hn:=.q .o1 (.q (.q .o4 (.q .o2 .aJ)) (.q .o5 .aM))
def YC.v (a:R2)(b c:Int)(d:Hp)(e:aN):Prop:=X1.c a b 1 d λf g=>If (f != 0) (e f g) (Nz 8<|bL (b.tdiv 8) λh=>Zn.c a h c g λi=>e 0 i)
theorem YC.o {a b c d e}(f:YC.v a b c d e):YC.c a b c d e:=Wa Tryz.func130 (x:=YC.h) (R0 f)
def Zn.h:Hn:=.q .o3 (.jI [] (.q (.oq 9) (.c (.q (.cV (.tail 7 (RI.ops 7) [.op])) (.q (.cV (.held true [6] (.tk [0,1,2,3,4] (.all [(5,.all [(6,.done)])])))) (.cV (.tail 13 (RI.ops 13) [.op])))) .l)) (.o 11))
def Zn.v (a:R2)(b c:Int)(d:Hp)(e:aP):Prop:=Nz 32<|bL (b.tdiv 32) λf=>Jn [] (λg=>bI a 1 g λi=>Lk .i64 .s i f g λj=>Nz 32 <| Ix (j.getD ⟨none,0,0⟩).a (j.getD ⟨none,0,0⟩).len (b.tmod 32) 1 λk=>dL k (.I c) g λl=>e l) λm=>bE a 0 d λo=>Ix o.a o.len f 2 λp=>aZ p 0 d λq=>aZ p 1 d λr=>kF ((Addr.mk 1 0 none).add 0) d λs=>kF ((Addr.mk 1 0 none).add 1) d λt=>If (!((q==s)&&((r==t)&&true))) (bE a 0 d λv=>kF ((Addr.mk 1 0 none).add 0) d λw=>kF ((Addr.mk 1 0 none).add 1) d λx=>Ix v.a v.len f 2 λy=>aR y 0 (.bool w) d λz=>aR y 1 (.bool x) z λaa=>dT aa λab=>bS a λac=>gQ ab .m (ac.add 1) λ(ad:Option Nat)=>Mk 32 32 8 3 [.I 0] aa λae af=>And (ab af) <| k6 .i64 .s ad f ae af λag=>bD a 2 ag λai=>bI a 1 ag λak=>nZ .i64 .s ak ag λal=>bS a λam=>aR am 2 (.I (if al>ai then al else ai)) ag λan=>m an) (m d)
theorem Zn.o {a b c d e}(f:Zn.v a b c d e):Zn.c a b c d e:=Wa Tryz.func169 (x:=Zn.h) (R0 f)
def XF.h:Hn:=.q .o1 (.q .o6 .l)
def XF.v (a:R2)(b c:Int)(d:Hp)(e:aN):Prop:=kF ((Addr.mk 2 0 none).add 0) d λf=>kF ((Addr.mk 2 0 none).add 1) d λg=>XV.c a b c f g d λh i=>e h i
theorem XF.o {a b c d e}(f:XF.v a b c d e):XF.c a b c d e:=Wa Tryz.func193 (x:=XF.h) (R0 f)
def YE.h:Hn:=.q .o1 (.q .o6 .l)
def YE.v (a:R2)(b c:Int)(d:Hp)(e:aN):Prop:=kF ((Addr.mk 0 0 none).add 0) d λf=>kF ((Addr.mk 0 0 none).add 1) d λg=>XV.c a b c f g d λh i=>e h i
theorem YE.o {a b c d e}(f:YE.v a b c d e):YE.c a b c d e:=Wa Tryz.func197 (x:=YE.h) (R0 f)
def XV.h:Hn:=.q .o2 (.q .o9 (.q (.k (.q .o3 (.c .aL (.q .o4 .aK)))) (.q .o5 .aM)))
def XV.v (a:R2)(b c:Int)(d e:Bool)(f:Hp)(g:aN):Prop:=aV #[.bool d,.bool e] 160 f λh i=>YX.c a b c i λj k l=>If (k != 0) (g k l) (kF ((Addr.mk 0 0 none).add 0) l λm=>kF ((Addr.mk 0 0 none).add 1) l λn=>Wj.c j m n l λo p=>If o (g 7 p) (aZ h 0 p λq=>aZ h 1 p λr=>YV.c a b c q r p λs=>g 0 s))
theorem XV.o {a b c d e f g}(h:XV.v a b c d e f g):XV.c a b c d e f g:=Wa Tryz.func236 (x:=XV.h) (R0 h)
def YX.h:Hn:=.q .o2 (.q (.k (.q .o4 (.c .aL (.q (.cV (.seq [.op,.op,.op,.dD false 2 [.op,.op],.op,.dD false 7 (RI.ops 7),.op,.dD false 9 (RI.ops 9),.op])) .aJ)))) (.q (.o 11) .l))
def YX.v (a:R2)(b c:Int)(d:Hp)(e:Sl->Int->Hp->Prop):Prop:=Xt.c a d λf g=>If (!f) (e ⟨none,0,0⟩ 5 g) (bY (λh i=>bY (λj k=>bY (λl m=>If l (e ⟨none,0,0⟩ 1 m) (bE a 0 m λo=>bL (b+c) λp=>eW o 2 b p (o.cap:Nat) λq=>e q 0 m)) λr=>If j (r true k) (bE a 0 k λt=>bL (((t.len:Nat):Int)-b) λu=>r (decide (c>u)) k)) λv=>If h (v true i) (bE a 0 i λx=>v (decide (b>((x.len:Nat):Int))) i)) λy=>If (b<0) (y true g) (y (decide (c<1)) g))
theorem YX.o {a b c d e}(f:YX.v a b c d e):YX.c a b c d e:=Wa Tryz.func271 (x:=YX.h) (R0 f)
def YV.h:Hn:=.q .o1 (.q .o2 (.k (.loop [(8,.I)] (.q (.q .o5 (.c .l .l)) (.q (.k (.q (.cV (.tail 7 (RI.ops 7) [.op])) .o6)) .o3)))))
def YV.v (a:R2)(b c:Int)(d e:Bool)(f:Hp)(g:aP):Prop:=aV #[.bool d,.bool e] 160 f λh i=>W6 [bN] (λj=>j b i) λk (l:Int) m=>bL (b+c) λn=>If (l<n) (bE a 0 m λp=>aZ h 0 m λq=>aZ h 1 m λr=>Ix p.a p.len l 2 λs=>aR s 0 (.bool q) m λt=>aR s 1 (.bool r) t λu=>bI a 1 u λw=>mK .i64 .s w l u λx=>bL (l+1) λy=>k y x) (g m)
theorem YV.o {a b c d e f g}(h:YV.v a b c d e f g):YV.c a b c d e f g:=Wa Tryz.func272 (x:=YV.h) (R0 h)
def Zo.h:Hn:=.q .o1 (.q .o9 (.q (.k (.q .o3 (.c .aL (.q .o3 .aK)))) (.q .o5 .aM)))
def Zo.v (a:R2)(b c:Int)(d:Hp)(e:aN):Prop:=YX.c a b c d λf g h=>If (g != 0) (e g h) (Wh.c f ⟨301,#[],#[]⟩ h λi j=>If i (e 5 j) (kF ((Addr.mk 2 0 none).add 0) j λk=>kF ((Addr.mk 2 0 none).add 1) j λl=>YV.c a b c k l j λm=>e 0 m))
theorem Zo.o {a b c d e}(f:Zo.v a b c d e):Zo.c a b c d e:=Wa Tryz.func280 (x:=Zo.h) (R0 f)
def YO.h:Hn:=.q .o2 (.q .o4 .l)
def YO.v (a b:Bool)(c:Hp)(d:aO):Prop:=aV #[.bool a,.bool b] 160 c λe f=>aZ e 0 f λg=>aZ e 1 f λh=>kF ((Addr.mk 0 0 none).add 0) f λi=>kF ((Addr.mk 0 0 none).add 1) f λj=>d (!((g==i)&&((h==j)&&true))) f
theorem YO.o {a b c d}(e:YO.v a b c d):YO.c a b c d:=Wa Tryz.func301 (x:=YO.h) (R0 e)
end Go.Proofs
namespace Go.Ar
open Go Go.Vc Go.Proofs
open Go.Bu (Zf)
variable {σ:Hp}{F:Rg}{p q r:Nat}{sp:Sp}
structure Gl (σ:Hp):Prop where
 c0:cell σ ⟨2,0,none⟩=some (.bool true)
 c1:cell σ ⟨2,1,none⟩=some (.bool false)
 u0:cell σ ⟨0,0,none⟩=some (.bool false)
 u1:cell σ ⟨0,1,none⟩=some (.bool false)
structure Gc (σ:Hp):Prop where
 d0:cell σ ⟨1,0,none⟩=some (.bool true)
 d1:cell σ ⟨1,1,none⟩=some (.bool true)
structure Gd (σ:Hp):Prop where
 lt:1<σ.size
def iY (F:Rg):Prop:=∀b,F b->b≠2/\b≠0
theorem QH {h:Hp}{b o:Nat}{v:Value}(hc:cell h ⟨b,o,none⟩=some v):b<h.size:=(JK hc).1
theorem Gl.bU {σ':Hp}(g:Gl σ)(e:Ext F σ σ')(hF:iY F):Gl σ':=by
 have a:¬F 2:=λh=>(hF _ h).1 rfl;have b:¬F 0:=λh=>(hF _ h).2 rfl;exact⟨(QI e (QH g.c0) a).trans g.c0,(QI e (QH g.c1) a).trans g.c1,(QI e (QH g.u0) b).trans g.u0,(QI e (QH g.u1) b).trans g.u1⟩
theorem Gc.bU {σ':Hp}(g:Gc σ)(e:Ext F σ σ')(hF:¬F 1):Gc σ':=⟨(QI e (QH g.d0) hF).trans g.d0,(QI e (QH g.d1) hF).trans g.d1⟩
theorem Gc.bK {σ':Hp}(g:Gc σ)(e:bO σ σ'):Gc σ':=g.bU e id
theorem Gd.bU {σ':Hp}(g:Gd σ)(e:Ext F σ σ')(hF:¬F 1):Gd σ':=⟨vn g.lt e.1⟩
theorem Gd.bK {σ':Hp}(g:Gd σ)(e:bO σ σ'):Gd σ':=g.bU e id
theorem Gc.gd (g:Gc σ):Gd σ:=⟨QH g.d0⟩
theorem Gl.bK {σ':Hp}(g:Gl σ)(e:bO σ σ'):Gl σ':=g.bU e λ_ h=>h.elim
theorem iY.grow (hF:iY F)(g:Gl σ):iY (Grow F σ):=λb a=>by
 rcases a with h|h
 ·exact hF b h
 ·have d:=QH g.c0;have e:=QH g.u0;exact⟨O,O⟩
theorem iY.sub {G:Rg}(hF:iY F)(h:∀b,G b->F b):iY G:=λb a=>hF b (h b a)
def fM:Nat->Bool×Bool
 | 0=>(false,false)
 | 1=>(true,false)
 | _=>(true,true)
def ic (st:List Nat):List Value:=st.flatMap λx=>[.bool (fM x).1,.bool (fM x).2]
theorem Vo (l:List Nat):(ic l).length=2*l.length:=by
 induction l with
 | nil=>rfl
 | cons x l ih=>simp only[ic,mO,zK,zP,mh]at *;omega
theorem BJ {l:List Nat}{i x:Nat}(h:l[i]?=some x):(ic l)[2*i]?=some (.bool (fM x).1)/\(ic l)[2*i+1]?=some (.bool (fM x).2):=by
 induction l generalizing i with
 | nil=>simp at h
 | cons y l ih=>
  have e:ic (y::l)=[.bool (fM y).1,.bool (fM y).2]++ic l:=by simp[ic]
  rw[e];cases i with
  | zero=>simp at h;subst h;simp
  | succ i=>
   have:=ih (i:=i) (by simpa using h);rw[show 2*(i+1)=2*i+2 by omega];simpa using this
theorem JP {l:List Nat}{i v:Nat}(h:i<l.length)(rest:List Value):((ic l++rest).set (2*i) (.bool (fM v).1)).set (2*i+1) (.bool (fM v).2)=ic (l.set i v)++rest:=by
 induction l generalizing i with
 | nil=>simp at h
 | cons y l ih=>
  have e:∀z m,ic (z::m)=.bool (fM z).1 :: .bool (fM z).2::ic m:=λz m=>by simp[ic]
  cases i with
  | zero=>simp[e]
  | succ i=>
   have:=ih (i:=i) (by simpa using h);rw[sG,e,e,show 2*(i+1)=2*i+1+1 by omega];simp only[lL,sG];rw[this]
theorem A0 {x y:Nat}(hx:x<=2)(hy:y<=2):(((fM x).1==(fM y).1)&&(((fM x).2==(fM y).2)&&true))=(x==y):=by
 match x,y,hx,hy with
 | 0,0,_,_=>rfl
 | 1,1,_,_=>rfl
 | 2,2,_,_=>rfl
 | 0,1,_,_=>rfl
 | 0,2,_,_=>rfl
 | 1,0,_,_=>rfl
 | 1,2,_,_=>rfl
 | 2,0,_,_=>rfl
 | 2,1,_,_=>rfl
theorem Kl {α:Type}(x:Int×α)(l:List (Int×α))(k:Int):bV (x::l) k=if x.1=k then some x.2 else bV l k:=by
 unfold bV;rw[uY];by_cases h:x.1=k
 ·simp[h]
 ·have:(x.1==k)=false:=by simpa using h
  rw[this,zA h]
theorem Px {α:Type}(l:List (Int×α))(n k:Int)(v:α):bV (l.map λx=>if x.1==n then(n,v)else x) k=if k=n then(if l.any (λx=>x.1==n)then some v else none)else bV l k:=by
 induction l with
 | nil=>simp[bV]
 | cons x l ih=>
  rw[zJ,Kl,ih,Kl,List.any_cons];by_cases hx:x.1=n
  ·by_cases hk:k=n
   ·subst hk;simp[hx]
   ·have:¬n=k:=λe=>hk e.symm;simp[hx,hk,this]
  ·have a:(x.1==n)=false:=by simpa using hx
   simp only[a,zb,zw,yN];by_cases hk:k=n
   ·subst hk;simp[hx]
   ·simp[hk]
theorem TG {α:Type}(l:List (Int×α))(n k:Int)(v:α)(h:l.any (λx=>x.1==n)=false):bV (l++[(n,v)]) k=if k=n then some v else bV l k:=by
 induction l with
 | nil=>
  rw[oZ,Kl];by_cases hk:k=n
  ·simp[hk]
  ·have:¬n=k:=λe=>hk e.symm;simp[hk,this,bV]
 | cons x l ih=>
  rw[List.any_cons,Bool.or_eq_false_iff]at h;rw[lL,Kl,ih h.2,Kl];have a:¬x.1=n:=by simpa using h.1
  by_cases hk:k=n
  ·subst hk;simp[a]
  ·simp[hk]
theorem Br {α:Type}(l:List (Int×α))(n k:Int)(v:α):bV (dF l n v) k=if k=n then some v else bV l k:=by
 unfold dF;cases h:l.any (λx=>x.1==n)
 ·rw[zA aA,TG l n k v h]
 ·rw[zB rfl,Px,h];simp
theorem ED {α:Type}(l:List (Int×α))(n k:Int):bV (cT l n) k=if k=n then none else bV l k:=by
 unfold cT
 induction l with
 | nil=>simp[bV]
 | cons x l ih=>
  rw[rK,Kl];by_cases hx:x.1=n
  ·have:(!(x.1==n))=false:=by simp[hx]
   rw[this];simp only[zb,zw,ih];by_cases hk:k=n
   ·simp[hk]
   ·have:¬x.1=k:=λe=>hk (e.symm.trans hx);simp[hk,this]
  ·have:(!(x.1==n))=true:=by simpa using hx
   rw[this,zB rfl,Kl,ih];by_cases hk:k=n
   ·subst hk;simp[hx]
   ·simp[hk]
theorem KX {α:Type}{l:List (Int×α)}{k:Int}{v:α}(h:bV l k=some v):(k,v)∈l:=by
 unfold bV at h;cases hf:l.find? (λx=>x.1==k)with
 | none=>rw[hf]at h;cases h
 | some x=>
  rw[hf]at h;have b:=ue hf;have e:=tQ hf;have a:x.1=k:=by simpa using b
  have d:x.2=v:=by simpa using h
  rw[←a,←d];exact e
theorem PK {α:Type}{l:List (Int×α)}{k:Int}:(bV l k).isSome=true↔k∈l.map (·.1):=by
 unfold bV;rw[Option.isSome_map,CZ];simp
def LG (σ:Hp)(s:Sl)(b:Nat)(f:Nat->Int):Prop:=s.a=some ⟨b,0,none⟩/\s.len=32/\32<=s.cap/\∃cs,bX σ b cs/\32<=cs.length/\∀j,j<32->cs[j]?=some (.int .i64 (f j))
structure fL (σ:Hp) (F:Rg) (p q r:Nat) (l:List (Int×Sl)) (B:Nat->Nat) (sp:Sp):Prop where
 hd:∃cap,sp.st.length<=cap/\bX σ p [.slice (some ⟨q,0,none⟩) sp.st.length cap,.map (some r),.int .i64 (sp.pk:Int)]
 row:∃rest,bX σ q (ic sp.st++rest)
 map:dK σ r .i64 .s l
 keys:∀x:Int,(bV l x).isSome=true↔∃k:Nat,x=k/\sp.st[k]?=some 2
 wd:∀(k:Nat) s,bV l (k:Int)=some s->LG σ s (B k) λj=>sp.wd (32*k+j)
 inj:∀k k':Nat,sp.st[k]?=some 2->sp.st[k']?=some 2->B k=B k'->k=k'
 out:∀k:Nat,sp.st[k]?=some 2->F (B k)/\B k≠p/\B k≠q/\B k≠r
 fs:F p/\F q/\F r/\p≠q/\p≠r/\q≠r
 zero:∀w:Nat,sp.st[w/32]?≠some 2->sp.wd w=0
 n1:1<=sp.st.length
 n2:sp.st.length<=1024
 qs:∀x∈sp.st,x<=2
 pk:sp.pk<=1024
def dE (σ:Hp)(F:Rg)(p:Nat)(sp:Sp):Prop:=∃q r l B,fL σ F p q r l B sp
theorem fL.entry {l:List (Int×Sl)}{B:Nat->Nat}(h:fL σ F p q r l B sp){k:Nat}(hk:sp.st[k]?=some 2):∃s,bV l (k:Int)=some s/\LG σ s (B k) λj=>sp.wd (32*k+j):=by
 have:=(h.keys (k:Int)).2 ⟨k,rfl,hk⟩;obtain⟨s,a⟩:=qj.1 this;exact⟨s,a,h.wd k s a⟩
theorem fL.dJ {l:List (Int×Sl)}{B:Nat->Nat}(h:fL σ F p q r l B sp){k:Nat}{s:Sl}(hs:bV l (k:Int)=some s):sp.st[k]?=some 2:=by
 obtain⟨k',e,a⟩:=(h.keys (k:Int)).1 (by rw[hs];rfl);have:k=k':=by omega
 subst this;exact a
theorem dE.loc:dQ λσ F=>dE σ F p sp:=λσ E F G ⟨q,r,l,B,h⟩ N w=>by
 have d:∀{b:Nat} {g:List Value},bX σ b g->F b->bX E b g/\G b:=by
  rintro b g ⟨e,y⟩ H;have:=w b (bX.lt ⟨e,y⟩) H;exact⟨⟨e,this.2.trans y⟩,this.1⟩
 obtain⟨c,K,hd⟩:=h.hd;obtain⟨rest,a⟩:=h.row;obtain⟨L,u,C,J⟩:=h.map;have j:=w r (mA.1 C).1 h.fs.2.2.1;refine⟨q,r,l,B,⟨c,K,(d hd h.fs.1).1⟩,⟨rest,(d a h.fs.2.1).1⟩,⟨L,u,j.2.trans C,J⟩,h.keys,λk s i=>?_,h.inj,λk i=>?_,⟨(d hd h.fs.1).2,(d a h.fs.2.1).2,j.1,h.fs.2.2.2⟩,h.zero,h.n1,h.n2,h.qs,h.pk⟩
 ·obtain⟨x,z,D,g,m,A⟩:=h.wd k s i;exact⟨x,z,D,g,(d m (h.out k (h.dJ i)).1).1,A⟩
 ·obtain⟨s,M,x,z,D,g,m,A⟩:=h.entry i;exact⟨(d m (h.out k i).1).2,(h.out k i).2⟩
theorem dE.bK {σ':Hp}(h:dE σ F p sp)(e:bO σ σ'):dE σ' F p sp:=dQ.bK dE.loc h e
variable {l:List (Int×Sl)}{B:Nat->Nat}
theorem fL.rS (h:fL σ F p q r l B sp){K:Sl->Prop}(hK:∀cap,sp.st.length<=cap->K ⟨some ⟨q,0,none⟩,sp.st.length,cap⟩):jk (Addr.add ⟨p,0,none⟩ 0) σ K:=by
 obtain⟨c,a,hd⟩:=h.hd;exact hd.rS rfl (hK c a)
theorem fL.rM (h:fL σ F p q r l B sp){K:Option Nat->Prop}(hK:K (some r)):mQ (Addr.add ⟨p,0,none⟩ 1) σ K:=by
 obtain⟨c,a,hd⟩:=h.hd;exact hd.rM rfl hK
theorem fL.yA (h:fL σ F p q r l B sp){i x:Nat}(hx:sp.st[i]?=some x){K:Bool->Bool->Prop}(hK:K (fM x).1 (fM x).2):kF (Addr.add ⟨q,2*i,none⟩ 0) σ λa=>kF (Addr.add ⟨q,2*i,none⟩ 1) σ λb=>K a b:=by
 obtain⟨rest,d⟩:=h.row;have g:=(cQ.1 hx).1;have e:=BJ hx;refine d.rB (x:=(fM x).1) ?_ (d.rB (x:=(fM x).2) ?_ hK)
 ·rw[zq,zd (by rw[Vo];omega)];exact e.1
 ·rw[zd (by rw[Vo];omega)];exact e.2
theorem Hk (h:dE σ F p sp){R:aO}(hR:R true σ):Xt.c (aW p) σ R:=by
 refine Xt.o ?_;unfold Xt.v;obtain⟨q,r,l,B,h⟩:=h;have:=h.n1;refine bY.intro (cK rfl (aG (h.rS λcap _=>?_)));rw[zV aC];exact hR
theorem AS (h:dE σ F p sp){R:aN}(hR:R (sp.st.length:Int) σ):Xq.c (aW p) σ R:=by
 refine Xq.o ?_;unfold Xq.v;have a:=h;obtain⟨q,r,l,B,h⟩:=h;exact Hk a (cG rfl (aG (h.rS λcap _=>hR)))
def VI (st:List Nat):Nat:=st.countP (· != 0)
theorem I7 (h:dE σ F p sp){R:aN}(hR:R (VI sp.st:Int) σ):Xz.c (aW p) σ R:=by
 refine Xz.o ?_;unfold Xz.v;have y:=h;obtain⟨q,r,l,B,h⟩:=h;have n2:=h.n2;refine AS y ?_;refine Kf (a:=bN) (bb:=bN) (λ(n t:Int) v=>∃i:Nat,t=(i:Int)/\i<=sp.st.length/\v=σ/\n=(VI (sp.st.take i):Int)) (λ_ t _=>sp.st.length-t.toNat) ⟨0,rfl,O,rfl,by simp[VI]⟩ ?_;rintro n t v ⟨i,rfl,C,rfl,rfl⟩;refine cI (λs=>?_) λA=>?_
 ·have b:i<sp.st.length:=by omega
  have g:sp.st[i]?=some sp.st[i]:=cM b;have w:=h.qs _ (zc b);have e:VI (sp.st.take (i+1))=VI (sp.st.take i)+if sp.st[i]=0 then 0 else 1:=by
   rw[zg,g];simp only[VI,tB,vH,qD,List.countP_nil,zG];by_cases h0:sp.st[i]=0<;>simp[h0]
  have u:VI (sp.st.take i)<=i:=zI vj aE;refine aG (h.rS λcap z=>ix O aC ?_);rw[add_lit,show 0+(i:Int).toNat*2=2*i by omega];obtain⟨rest,d⟩:=h.row;have j:=BJ g;refine d.rB (x:=(fM sp.st[i]).1) (by rw[zq,zd (by rw[Vo];omega)];exact j.1) ?_;by_cases h0:sp.st[i]=0
  ·rw[zB h0]at e;have:(fM sp.st[i]).1=false:=by rw[h0];rfl
   exact cG this (cA (m:=i+1) O O ⟨⟨i+1,rfl,O,rfl,by rw[e];rfl⟩,O⟩)
  ·rw[zA h0]at e;have:(fM sp.st[i]).1=true:=by
    match sp.st[i],h0 with
    | 0,h=>exact absurd rfl h
    | 1,_=>rfl
    | n+2,_=>rfl
   exact cK this (cA (m:=VI (sp.st.take i)+1) O O (cA (m:=i+1) O O ⟨⟨i+1,rfl,O,rfl,by rw[e]⟩,O⟩))
 ·have:i=sp.st.length:=by omega
  subst this;rw[zl]at *;exact hR
theorem fL.rX (h:fL σ F p q r l B sp):l.length=sp.st.count 2:=by
 have j:=h.map.nodup;have m:(l.map (·.1)).Perm (((List.range sp.st.length).filter λk=>sp.st[k]?==some 2).map λk=>((k:Nat):Int)):=by
  rw[xp j]
  ·intro x;rw[←PK,h.keys];simp only[zC,zH,zU,zX];constructor
   ·rintro⟨k,rfl,hk⟩;exact⟨k,⟨(cQ.1 hk).1,hk⟩,rfl⟩
   ·rintro⟨k,⟨_,hk⟩,rfl⟩;exact⟨k,rfl,hk⟩
  ·have d:((List.range sp.st.length).filter λk=>sp.st[k]?==some 2).Pairwise (· ≠ ·):=List.Pairwise.sublist sq xB;exact List.Pairwise.map _ (λa b (g:a≠b) e=>g (by exact_mod_cast e)) d
 have i:=m.length_eq;simp only[za]at i;rw[i,←xP];have key:∀st:List Nat,(List.range st.length).countP (λk=>st[k]?==some 2)=st.count 2:=by
  intro st
  induction st with
  | nil=>rfl
  | cons x st ih=>
   rw[zP,Ab,qD,List.countP_map,List.count_cons,←ih]
   congr 1
 exact key sp.st
theorem Bh (h:dE σ F p sp){R:aN}(hR:R (sp.st.count 2:Int) σ):Xr.c (aW p) σ R:=by
 refine Xr.o ?_;unfold Xr.v;have a:=h;obtain⟨q,r,l,B,h⟩:=h;refine Hk a (cG rfl (aG (h.rM ⟨l,h.map,?_⟩)));rw[h.rX];exact hR
end Go.Ar
namespace Go.Ar
open Go Go.Vc Go.Proofs
open Go.Bu (Zf)
variable {σ:Hp}{F:Rg}{p q r:Nat}{sp:Sp}{l:List (Int×Sl)}{B:Nat->Nat}
theorem MD (l:List Nat)(n:Nat):ic (l.take n)=(ic l).take (2*n):=by
 induction l generalizing n with
 | nil=>simp[ic]
 | cons y l ih=>
  have e:∀z m,ic (z::m)=.bool (fM z).1 :: .bool (fM z).2::ic m:=λz m=>by simp[ic]
  cases n with
  | zero=>simp[ic]
  | succ n=>
   rw[sy,e,e,ih,show 2*(n+1)=2*n+1+1 by omega];simp
theorem Nr (l:List Nat)(n:Nat):ic (l.drop n)=(ic l).drop (2*n):=by
 induction l generalizing n with
 | nil=>simp[ic]
 | cons y l ih=>
  have e:∀z m,ic (z::m)=.bool (fM z).1 :: .bool (fM z).2::ic m:=λz m=>by simp[ic]
  cases n with
  | zero=>simp[ic]
  | succ n=>
   rw[yw,e,ih,show 2*(n+1)=2*n+1+1 by omega];simp
theorem SU (n v:Nat):ic (List.replicate n v)=(List.replicate n [Value.bool (fM v).1,.bool (fM v).2]).flatten:=by
 induction n with
 | zero=>rfl
 | succ n ih=>rw[w9,w9,vu,←ih];simp[ic]
theorem _root_.Go.Vc.cR.yA {s:Sl}{l:List Nat}(h:cR s 2 (ic l) σ F){i x:Nat}(hx:l[i]?=some x){K:Bool->Bool->Prop}(hK:K (fM x).1 (fM x).2) :
 Ix s.a s.len (i:Int) 2 λa=>kF (a.add 0) σ λu=>kF (a.add 1) σ λw=>K u w:=by
 have y:=(cQ.1 hx).1;have g:=BJ hx;obtain⟨b,o,j,p⟩:=h.cell g.1;obtain⟨r,o1,d,e⟩:=h.cell g.2;rw[j]at d;cases d;have m:=h.1;rw[Vo]at m;rw[j];refine ix O O ?_;rw[add_lit];refine lO ?_ (lO ?_ hK)<;>rw[add_lit]
 ·rw[show o+(i:Int).toNat*2+0=o+2*i by omega];exact p
 ·rw[show o+(i:Int).toNat*2+1=o+(2*i+1) by omega];exact e
theorem _root_.Go.Vc.cR.we {s:Sl}{l:List Nat}(h:cR s 2 (ic l) σ F):s.len=l.length:=by
 have:=h.1;rw[Vo]at this;omega
theorem Mw {s:Sl}{xs:List Nat}(h:cR s 2 (ic xs) σ F)(hl:xs.length<=1000000)(h2:∀x∈xs,x<=2){v:Nat}(hv:v<=2){R:aN}
 (hR:∀(t:Int) σ',bO σ σ'->decide (t≥0)=xs.contains v->R t σ'):Wn.c s (fM v).1 (fM v).2 σ R:=by
 refine Wn.o ?_;unfold Wn.v;have A:=h.we;refine nw (cs:=[.bool (fM v).1,.bool (fM v).2]) λw G e z=>?_;have h:=aH.bK h e;refine ZU (a:=bN) (λ(t:Int) y=>∃i:Nat,t=(i:Int)/\i<=xs.length/\y=w/\∀j,j<i->xs[j]?≠some v) (λt _=>xs.length-t.toNat) ⟨0,rfl,O,rfl,λj g=>O⟩ ?_;rintro t y ⟨i,rfl,E,rfl,d⟩;refine cI (λB=>?_) λD=>?_
 ·have b:i<xs.length:=by omega
  have u:xs[i]?=some xs[i]:=cM b;refine z.rB rfl (z.rB rfl (h.yA u ?_));rw[A0 hv (h2 _ (zc b))];refine cU (λp=>?_) λp=>?_
  ·have:v=xs[i]:=by simpa using p
   refine hR _ _ e ?_;have C:xs.contains v=true:=by rw[this];simp
   rw[C,zV O]
  ·have r:¬v=xs[i]:=by simpa using p
   refine cA (m:=i+1) O O ⟨⟨i+1,rfl,O,rfl,λj g=>?_⟩,O⟩;by_cases e:j=i
   ·subst e;rw[u];intro e2;cases e2;exact r rfl
   ·exact d j O
 ·refine hR _ _ e ?_;have:xs.contains v=false:=by
   simp only[rQ,decide_eq_false_iff_not];intro hm;obtain⟨j,g⟩:=zN hm;have:=(cQ.1 g).1;exact d j O g
  rw[this];rfl
theorem GO {s:Sl}{xs:List Nat}(h:cR s 2 (ic xs) σ F)(hl:xs.length<=1000000)(h2:∀x∈xs,x<=2){v:Nat}(hv:v<=2){R:aO}
 (hR:∀σ',bO σ σ'->R (xs.contains v) σ'):Wj.c s (fM v).1 (fM v).2 σ R:=by
 refine Wj.o ?_;unfold Wj.v;refine nw (cs:=[.bool (fM v).1,.bool (fM v).2]) λw g e a=>a.rB rfl (a.rB rfl ?_);refine Mw (aH.bK h e) hl h2 hv λt σ' d b=>?_;rw[b];exact hR σ' (Ext.trans e d)
theorem N8 (g:Gl σ){x:Nat}(hx:x<=2){R:aO}(hR:∀σ',bO σ σ'->R (x != 0) σ'):YO.c (fM x).1 (fM x).2 σ R:=by
 refine YO.o ?_;unfold YO.v;refine nw (cs:=[.bool (fM x).1,.bool (fM x).2]) λv d e a=>a.rB rfl (a.rB rfl ?_);have g:=g.bK e;refine lO (by rw[←g.u0];rfl) (lO (by rw[←g.u1];rfl) ?_);have b:(((fM x).1==false)&&(((fM x).2==false)&&true))=(x==0):=A0 hx (y:=0) O;rw[b];exact hR v e
theorem Nx {s:Sl}{xs:List Nat}(h:cR s 2 (ic xs) σ F)(g:Gl σ)(hl:xs.length<=1000000)(h2:∀x∈xs,x<=2){R:aO}
 (hR:∀σ',bO σ σ'->R (xs.any (· != 0)) σ'):Wh.c s ⟨301,#[],#[]⟩ σ R:=by
 refine Wh.o ?_;unfold Wh.v;refine Wm.o ?_;unfold Wm.v;have B:=h.we;refine ZU (a:=bN) (λ(t:Int) E=>∃i:Nat,t=(i:Int)/\i<=xs.length/\bO σ E/\∀(j x:Nat),j<i->xs[j]?=some x->x=0) (λt _=>xs.length-t.toNat) ⟨0,rfl,O,Ext.refl _ _,λj x r=>O⟩ ?_;rintro t w ⟨i,rfl,H,e,p⟩;refine cI (λD=>?_) λG=>?_
 ·have d:i<xs.length:=by omega
  have z:xs[i]?=some xs[i]:=cM d;refine(aH.bK h e).yA z ?_;refine HR (all := #[.agg #[.bool (fM xs[i]).1,.bool (fM xs[i]).2]]) (by kernel_rfl) aA ?_;refine N8 (g.bK e) (h2 _ (zc d)) λC A=>?_;refine cU (λu=>?_) λu=>?_
  ·have:xs.any (· != 0)=true:=ka.2 ⟨_,zc d,u⟩;have:=hR C (Ext.trans e A);rw[‹xs.any (· != 0)=true›]at this;show R (decide ((i:Int)≥0)) _;rw[zV O];exact this
  ·have y:xs[i]=0:=by simpa using u
   refine cA (m:=i+1) O O ⟨⟨i+1,rfl,O,Ext.trans e A,λj x r b=>?_⟩,O⟩;by_cases e:j=i
   ·subst e;rw[z]at b;cases b;exact y
   ·exact p j x O b
 ·have:xs.any (· != 0)=false:=by
   rw[m7];intro x hm;obtain⟨j,r⟩:=zN hm;have:=(cQ.1 r).1;simpa using p j x O r
  have:=hR w e;rw[‹xs.any (· != 0)=false›]at this;exact this
theorem fL.part (h:fL σ F p q r l B sp){x y c:Nat}(hl:x+y<=sp.st.length):cR ⟨some ⟨q,2*x,none⟩,y,c⟩ 2 (ic ((sp.st.drop x).take y)) σ F:=by
 obtain⟨rest,b⟩:=h.row;have a:(ic ((sp.st.drop x).take y)).length=y*2:=by rw[Vo,zO,zr];omega
 refine⟨a,.inr ⟨q,2*x,_,h.fs.2.1,rfl,b.q,λj d=>?_⟩⟩;rw[a]at d;rw[zd (by rw[Vo];omega),MD,Nr,zY,zB O,zo]
theorem JH (h:dE σ F p sp)(a m:Int){R:Sl->Int->Hp->Prop}(h0:Zf sp.st.length a m=false->R ⟨none,0,0⟩ 1 σ)
 (h1:∀(x y:Nat) s,a=x->m=y->1<=y->x+y<=sp.st.length->cR s 2 (ic ((sp.st.drop x).take y)) σ F->R s 0 σ):YX.c (aW p) a m σ R:=by
 refine YX.o ?_;unfold YX.v;have z:=h;obtain⟨q,r,l,B,h⟩:=h;have n2:=h.n2;have b:¬(0<=a/\1<=m/\m<=sp.st.length-a)->R ⟨none,0,0⟩ 1 σ:=λg=>h0 (by simp only[Zf,←vO];exact zh g);refine Hk z (cG rfl (bY.intro (cI (λj=>bY.intro (cK rfl (bY.intro (cK rfl (cK rfl (b O)))))) λj=>?_)));refine bY.intro (cI (λA=>bY.intro (cK rfl (cK rfl (b O)))) λA=>aG (h.rS λcap d=>?_));simp only;refine bY.intro (cI (λi=>cK rfl (b O)) λi=>?_);refine aG (h.rS λcap d=>ar aC aC ?_);simp only;refine cI (λw=>b O) λw=>?_;obtain⟨x,rfl⟩:=zi (show 0<=a by omega);obtain⟨y,rfl⟩:=zi (show 0<=m by omega);refine aG (h.rS λcap d=>cA (m:=x+y) O O ?_);refine jd O aC (zD _) ?_;simp only;rw[zA O];refine h1 x y _ rfl rfl O O ?_;have:=h.part (x:=x) (y:=y) (c:=cap-x) O;have e:(Option.map (λ(u:Addr)=>u.add (x*2)) (some (⟨q,0,none⟩:Addr)))=some ⟨q,2*x,none⟩:=by
  simp only[zf,add_lit];congr 2;omega
 rw[e,DI];exact this
def Sp.kz (s:Sp)(k v:Nat):Sp:={s with st:=s.st.set k v,wd:=λw=>if k*32<=w/\w<(k+1)*32 then 0 else s.wd w}
theorem EU {st:List Nat}(h:∀x∈st,x<=2){k v:Nat}(hv:v<=2):∀x∈st.set k v,x<=2:=by
 intro x hx;rcases xj hx with h1|h1
 ·exact h x h1
 ·omega
theorem fL.kz (h:fL σ F p q r l B sp){k v:Nat}(hk:k<sp.st.length)(hv:v<=1){σ':Hp}(e:Ext (λb=>b=q\/b=r) σ σ'){rest:List Value}
 (hb:bX σ' q (ic (sp.st.set k v)++rest)) (hm:dK σ' r .i64 .s (cT l (k:Int))):fL σ' F p q r (cT l (k:Int)) B (sp.kz k v):=by
 have a:∀j:Nat,(sp.st.set k v)[j]?=some 2↔j≠k/\sp.st[j]?=some 2:=λj=>by
  rw[ov];by_cases hjk:k=j
  ·subst hjk;rw[zB rfl,zB hk];constructor
   ·intro h;have:v=2:=by simpa using h
    omega
   ·intro h;exact absurd rfl h.1
  ·rw[zA hjk];exact⟨λh=>⟨λe=>hjk e.symm,h⟩,λh=>h.2⟩
 obtain⟨c,K,hd⟩:=h.hd;have z:¬(p=q\/p=r):=by have:=h.fs;omega
 refine⟨⟨c,by simpa[Sp.kz]using K,by simpa[Sp.kz]using e.bZ hd z⟩,⟨rest,hb⟩,hm,λx=>?_,λj s g=>?_,λj y L m=>?_,λj d=>?_,h.fs,λw u=>?_,by simpa[Sp.kz]using h.n1,by simpa[Sp.kz]using h.n2,EU h.qs O,h.pk⟩
 ·rw[ED];by_cases hx:x=(k:Int)
  ·rw[zB hx];constructor
   ·intro h;cases h
   ·rintro⟨j,rfl,d⟩;have:=(a j).1 d;omega
  ·rw[zA hx,h.keys];constructor
   ·rintro⟨j,rfl,d⟩;exact⟨j,rfl,(a j).2 ⟨O,d⟩⟩
   ·rintro⟨j,rfl,d⟩;exact⟨j,rfl,((a j).1 d).2⟩
 ·rw[ED]at g;by_cases hx:(j:Int)=(k:Int)
  ·rw[zB hx]at g;cases g
  ·rw[zA hx]at g;obtain⟨H,C,M,J,A,D,E⟩:=h.wd j s g;have N:=h.out j (h.dJ g);refine⟨H,C,M,J,e.bZ A O,D,λi G=>?_⟩;rw[E i G];simp only[Sp.kz];rw[zA O]
 ·exact h.inj j y ((a j).1 L).2 ((a y).1 m).2
 ·exact h.out j ((a j).1 d).2
 ·simp only[Sp.kz]at u ⊢;by_cases hin:k*32<=w/\w<(k+1)*32
  ·rw[zB hin]
  ·rw[zA hin];refine h.zero w λm=>u ((a _).2 ⟨O,m⟩)
theorem Sp.pL (s:Sp)(a v:Nat):s.set a 0 v=s:=by
 have b:fW s.st a (a+0) v=s.st:=by
  apply zy;intro i;rw[HF];cases s.st[i]? with
  | none=>rfl
  | some x=>simp only[zf];rw[zA O]
 have d:(λw=>if a*32<=w/\w<(a+0)*32 then 0 else s.wd w)=s.wd:=by
  funext w;rw[zA O]
 simp only[Sp.set,b,d]
theorem Sp.pY (s:Sp)(a m v:Nat)(h:a+m<s.st.length):(s.set a m v).kz (a+m) v=s.set a (m+1) v:=by
 have b:(fW s.st a (a+m) v).set (a+m) v=fW s.st a (a+(m+1)) v:=by
  apply zy;intro i;rw[ov,HF,HF,Qj];by_cases hi:a+m=i
  ·subst hi;rw[zB rfl,zB h,cM h,zf,zB O]
  ·rw[zA hi];cases s.st[i]? with
   | none=>rfl
   | some x=>
    simp only[zf];by_cases hin:a<=i/\i<a+m
    ·rw[zB hin,zB O]
    ·rw[zA hin,zA O]
 have d:(λw=>if(a+m)*32<=w/\w<(a+m+1)*32 then 0 else(if a*32<=w/\w<(a+m)*32 then 0 else s.wd w))=λw=>if a*32<=w/\w<(a+(m+1))*32 then 0 else s.wd w:=by
  funext w
  by_cases b:(a+m)*32<=w/\w<(a+m+1)*32
  ·rw[zB b,zB O]
  ·rw[zA b];by_cases d:a*32<=w/\w<(a+m)*32
   ·rw[zB d,zB O]
   ·rw[zA d,zA O]
 simp only[Sp.set,Sp.kz,b,d]
theorem EB (h:dE σ F p sp){x y v:Nat}(hl:x+y<=sp.st.length)(hv:v<=1){R:aP}(hR:∀σ',Ext F σ σ'->dE σ' F p (sp.set x y v)->R σ') :
 YV.c (aW p) x y (fM v).1 (fM v).2 σ R:=by
 refine YV.o ?_;unfold YV.v;have X:sp.st.length<=1024:=by obtain⟨q,r,l,B,h⟩:=h;exact h.n2
 have s:dE σ (Cut F σ) p sp:=dQ.cut dE.loc h;refine nw (cs:=[.bool (fM v).1,.bool (fM v).2]) λu hz e g=>?_;have V:=s.bK e;refine ZU (a:=bN) (λ(t:Int) w=>∃i:Nat,t=((x+i:Nat):Int)/\i<=y/\Ext (Cut F σ) u w/\bX w σ.size [.bool (fM v).1,.bool (fM v).2]/\dE w (Cut F σ) p (sp.set x i v)) (λt _=>x+y-t.toNat)
  ⟨0,rfl,O,Ext.refl _ _,g,by rw[Sp.pL];exact V⟩ ?_
 rintro t w ⟨i,rfl,Z,N,j,q,r,l,B,d⟩;refine cA (m:=x+y) O O (cI (λQ=>?_) λY=>?_)
 ·have P:(sp.set x i v).st.length=sp.st.length:=Qj _ _ _ _;refine aG (d.rS λcap L=>j.rB rfl (j.rB rfl (ix O aC ?_)));rw[add_lit,show 0+((x+i:Nat):Int).toNat*2=2*(x+i) by omega];obtain⟨rest,z⟩:=d.row;have J:x+i<(sp.set x i v).st.length:=by omega
  refine z.s1 (by rw[zK,Vo];omega) λw1 o1 U=>U.s1 (by rw[oR,zK,Vo];omega) λw2 o2 K=>?_;rw[zq,JP J]at K;have E:Ext (· = q) w w2:=o1.ext.trans o2.ext;obtain⟨c,W,hd⟩:=d.hd;have D:=E.bZ hd d.fs.2.2.2.1;refine aG (D.rM rfl ⟨l,E.gL d.map (λe=>d.fs.2.2.2.2.2 e.symm),λw3 A _ C=>?_⟩);have o3:=A r rfl;have M:Ext (λb=>b=q\/b=r) w w3:=(E.sub λb g=>.inl g).trans (o3.ext.sub λb g=>.inr g);have H:=d.kz J hv M (Ws o3 K d.fs.2.2.2.2.2) C;rw[Sp.pY _ _ _ _ O]at H;have G:Ext (Cut F σ) w w3:=M.sub λb g=>by
   rcases g with rfl|rfl
   ·exact d.fs.2.1
   ·exact d.fs.2.2.1
  refine cA (m:=x+(i+1)) O O ⟨⟨i+1,rfl,O,N.trans G,G.bZ j λS=>by have:=S.2;omega,_,_,_,_,H⟩,O⟩
 ·have:i=y:=by omega
  subst this;refine hR w (Ext.cut (e.to.trans N)) (dQ.mono dE.loc ⟨q,r,l,B,d⟩ λb _ g=>g.1)
theorem S6 (h:dE σ F p sp)(g:Gl σ)(hF:iY F)(a m:Int){R:aN}(hR:∀σ',Ext F σ σ'->dE σ' F p (gD sp a m)->R (fD sp a m) σ') :
 Zo.c (aW p) a m σ R:=by
 refine Zo.o ?_;unfold Zo.v;have j:(∀x∈sp.st,x<=2)/\sp.st.length<=1024:=by obtain⟨q,r,l,B,h⟩:=h;exact⟨h.qs,h.n2⟩
 refine JH h a m (λu=>?_) λx y s E A M D C=>?_
 ·have d:fD sp a m=1:=by unfold fD;rw[u];rfl
  have i:gD sp a m=sp:=by unfold gD;rw[d];rfl
  have:=hR σ (Ext.refl _ _);rw[d,i]at this;exact cK rfl (this h)
 ·subst E;subst A;have u:Zf sp.st.length (x:Int) (y:Int)=true:=by simp only[Zf,zF,zS];omega
  refine cG rfl (Nx C g (by rw[zO,zr];omega) (λz K=>j.1 z (qQ (mc K))) λH d=>?_);have e:fD sp x y=if((sp.st.drop x).take y).any (· != 0)then 5 else 0:=by unfold fD;rw[u];rfl
  refine cU (λb=>?_) λb=>?_
  ·rw[b]at e;have i:gD sp x y=sp:=by unfold gD;rw[e];rfl
   have:=hR H (bO.to d);rw[e,i]at this;exact this (h.bK d)
  ·rw[b]at e;have i:gD sp x y=sp.set x y 1:=by unfold gD;rw[e];rfl
   have w:=g.bK d;refine lO (by rw[←w.c0];rfl) (lO (by rw[←w.c1];rfl) ?_);refine EB (v:=1) (h.bK d) D O λL J G=>?_;have:=hR L (Ext.trans (bO.to d) J);rw[e,i]at this;exact this G
theorem Jb (h:dE σ F p sp)(g:Gl σ)(hF:iY F)(a m:Int){v:Nat}(hv:v<=1){R:aN}(hR:∀σ',Ext F σ σ'->dE σ' F p (dX sp a m v)->R (fI sp a m) σ') :
 XV.c (aW p) a m (fM v).1 (fM v).2 σ R:=by
 refine XV.o ?_;unfold XV.v;have J:(∀x∈sp.st,x<=2)/\sp.st.length<=1024:=by obtain⟨q,r,l,B,h⟩:=h;exact⟨h.qs,h.n2⟩
 have C:dE σ (Cut F σ) p sp:=dQ.cut dE.loc h;refine nw (cs:=[.bool (fM v).1,.bool (fM v).2]) λu M e H=>?_;have G:=C.bK e;have i:∀w s',dE w (Cut F σ) p s'->dE w F p s':=λw s' h=>dQ.mono dE.loc h λb _ H=>H.1;refine JH G a m (λK=>?_) λx y s S N Y Q P=>?_
 ·have j:fI sp a m=1:=by unfold fI;rw[K];rfl
  have E:dX sp a m v=sp:=by unfold dX;rw[j];rfl
  have:=hR u (bO.to e);rw[j,E]at this;exact cK rfl (this (i _ _ G))
 ·subst S;subst N;have K:Zf sp.st.length (x:Int) (y:Int)=true:=by simp only[Zf,zF,zS];omega
  have L:=g.bK e;refine cG rfl (lO (by rw[←L.u0];rfl) (lO (by rw[←L.u1];rfl) ?_));refine GO (v:=0) P (by rw[zO,zr];omega) (λz M=>J.1 z (qQ (mc M))) O λV j=>?_;have A:fI sp x y=if((sp.st.drop x).take y).contains 0 then 7 else 0:=by unfold fI;rw[K];rfl
  refine cU (λd=>?_) λd=>?_
  ·rw[d]at A;have E:dX sp x y v=sp:=by unfold dX;rw[A];rfl
   have:=hR V (bO.to (Ext.trans e j));rw[A,E]at this;exact this (i _ _ (G.bK j))
  ·rw[d]at A;have E:dX sp x y v=sp.set x y v:=by unfold dX;rw[A];rfl
   have D:=Ext.bZ j H id;refine D.rB rfl (D.rB rfl ?_);refine EB (G.bK j) Q hv λX W U=>?_;have:=hR X (Ext.cut (Ext.trans (bO.to (Ext.trans e j)) W));rw[A,E]at this;exact this (i _ _ U)
theorem M8 (h:dE σ F p sp)(g:Gl σ)(hF:iY F)(a m:Int){R:aN}(hR:∀σ',Ext F σ σ'->dE σ' F p (dX sp a m 0)->R (fI sp a m) σ') :
 YE.c (aW p) a m σ R:=by
 refine YE.o ?_;unfold YE.v;exact lO (n:=(fM 0).1) g.u0 (lO (n:=(fM 0).2) g.u1 (Jb (v:=0) h g hF a m O hR))
theorem Tj (h:dE σ F p sp)(g:Gl σ)(hF:iY F)(a m:Int){R:aN}(hR:∀σ',Ext F σ σ'->dE σ' F p (dX sp a m 1)->R (fI sp a m) σ') :
 XF.c (aW p) a m σ R:=by
 refine XF.o ?_;unfold XF.v;exact lO (n:=(fM 1).1) g.c0 (lO (n:=(fM 1).2) g.c1 (Jb (v:=1) h g hF a m O hR))
end Go.Ar