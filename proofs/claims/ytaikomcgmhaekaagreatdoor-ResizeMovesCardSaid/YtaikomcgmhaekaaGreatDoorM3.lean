/- Texts joined. -/
import Derived.Lib.Overlaps
import Derived.Laws.Externs
import Derived.Test.YtaikomcgmhaekaaGreatDoorM2
set_option linter.unusedVariables false
set_option linter.unusedSimpArgs false
namespace Go.Ar
open Go Go.Vc Go.Proofs
open Go.Bu (YS)
variable {U:Hp}{F:Rg}{p q:Nat}{st:List Nat}
structure gG (U:Hp) (p q:Nat) (st:List Nat):Prop where
 hd:∃cap,st.length<=cap/\bY U p [.slice (some ⟨q,0,none⟩) st.length cap]
 row:∃rest,bY U q (ints st++rest)
 ne:p≠q
 n1:16<=st.length
 n2:st.length<=1024
 n3:st.length%16=0
theorem gG.bV {σ':Hp}(h:gG U p q st)(e:Ext F U σ')(hp:¬F p)(hq:¬F q):gG σ' p q st:=
 ⟨by obtain⟨c,a,b⟩:=h.hd;exact⟨c,a,e.bX b hp⟩,by obtain⟨r,a⟩:=h.row;exact⟨r,e.bX a hq⟩,h.ne,h.n1,h.n2,h.n3⟩
theorem gG.aF {σ':Hp}(h:gG U p q st)(e:aG U σ'):gG σ' p q st:=h.bV e id id
theorem gG.lt (h:gG U p q st):p<U.size/\q<U.size:=by
 obtain⟨_,_,b⟩:=h.hd;obtain⟨_,a⟩:=h.row;exact⟨b.lt,a.lt⟩
theorem gG.rS (h:gG U p q st){K:Sl->Prop}(hK:∀cap,st.length<=cap->K ⟨some ⟨q,0,none⟩,st.length,cap⟩):ji (Addr.add ⟨p,0,none⟩ 0) U K:=by
 obtain⟨c,b,a⟩:=h.hd;exact a.rS rfl (hK c b)
theorem gG.part (h:gG U p q st){s:Sl}{a n:Nat}(ha:s.a=some ⟨q,a,none⟩)(hn:s.len=n)(hl:a+n<=st.length):cS s 1 (ints ((st.drop a).take n)) U (· = q):=by
 obtain⟨r,e⟩:=h.row;have b:((st.drop a).take n).length=n:=by simp;omega
 refine e.fM ha (by rw[QZ,b,hn];simp) λj d=>?_;rw[QZ,b]at d;rw[zQ (by rw[QZ];omega)];simp[ints,zY,d,zn]
theorem Ri {s:Sl}{xs:List Nat}(h:cS s 1 (ints xs) U F)(hl:xs.length<=1000000)(v:Nat){R:aN}(hR:R ((xs.count v:Nat):Int) U):ZO.c s v U R:=by
 refine ZO.o ?_;unfold ZO.v;have p:=h.jV;refine Vu (a:=bN) (bb:=bN) (λ(n t:Int) j=>∃i:Nat,t=(i:Int)/\i<=xs.length/\n=(((xs.take i).count v:Nat):Int)/\j=U) (λ_ t _=>xs.length-t.toNat) ⟨0,rfl,O,by simp,rfl⟩ ?_;rintro n t j ⟨i,rfl,y,rfl,rfl⟩;refine cL (λw=>?_) λu=>?_
 ·have g:i<xs.length:=by omega
  have r:xs[i]?=some xs[i]:=cQ g;have e:(xs.take (i+1)).count v=(xs.take i).count v+if xs[i]=v then 1 else 0:=by
   rw[zj,r,xm,u9,List.count_singleton]
   congr 1
   by_cases h:xs[i]=v<;>simp[h]
  have x:(xs.take i).count v<=i:=zP yh aE;refine h.oO r (cU (λd=>?_) λd=>?_)
  ·have b:xs[i]=v:=by rw[jg]at d;simpa using d
   rw[zB b]at e;exact cC (m:=(xs.take i).count v+1) O O (cC (m:=i+1) O O ⟨⟨i+1,rfl,O,by rw[e],rfl⟩,O⟩)
  ·have b:¬xs[i]=v:=by rw[jg]at d;simpa using d
   rw[zA b,zw]at e;exact cC (m:=i+1) O O ⟨⟨i+1,rfl,O,congrArg _ e.symm,rfl⟩,O⟩
 ·have:i=xs.length:=by omega
  subst this;rw[zy]at *;exact hR
theorem jn {b o n c:Nat}{cs:List Value}(hb:bY U b cs)(hl:o+n<=cs.length)(hn:n<=1000000)(v:Nat){R:aP}
 (hR:∀σ',QT U σ' b->bY σ' b (cs.take o++List.replicate n (.int .i64 (v:Int))++cs.drop (o+n))->R σ'):QI.c ⟨some ⟨b,o,none⟩,n,c⟩ v U R:=by
 refine QI.o ?_;unfold QI.v;refine Zw (a:=bN) (λ(t:Int) p=>∃i:Nat,t=(i:Int)/\i<=n/\QT U p b/\bY p b (cs.take o++List.replicate i (.int .i64 (v:Int))++cs.drop (o+i))) (λt _=>n-t.toNat) ⟨0,rfl,O,⟨rfl,λ_ _=>rfl⟩,by simpa using hb⟩ ?_;rintro t p ⟨i,rfl,x,s,j⟩;refine cL (λu=>?_) λr=>?_
 ·simp only at u;refine ix O aC ?_;rw[add_lit];refine j.s0 aE λy d g=>?_;refine cC (m:=i+1) O O ⟨⟨i+1,rfl,O,⟨d.1.trans s.1,λk w=>(d.2 k w).trans (s.2 k w)⟩,?_⟩,O⟩;have:(cs.take o++List.replicate i (Value.int .i64 (v:Int))++cs.drop (o+i)).set (o+(i:Int).toNat*1) (Value.int .i64 (v:Int))=cs.take o++List.replicate (i+1) (Value.int .i64 (v:Int))++cs.drop (o+(i+1)):=by
   rw[vL _ _ aE];have e:o+(i:Int).toNat*1-(cs.take o++List.replicate i (Value.int .i64 (v:Int))).length=0:=by simp;omega
   rw[e,qG O,List.set_cons_zero,Ds];simp[zm,qu]
  rw[this]at g;exact g
 ·simp only at r;have:i=n:=by omega
  subst this;exact hR p s j
theorem gG.fill (h:gG U p q st){a n:Nat}{r:List Value}{σ':Hp}{v:Nat}(hrow:bY U q (ints st++r))(hl:a+n<=st.length)(ho:QT U σ' q)
 (hb:bY σ' q ((ints st++r).take a++List.replicate n (.int .i64 (v:Int))++(ints st++r).drop (a+n))):gG σ' p q (fY st a (a+n) v):=by
 obtain⟨c,d,e⟩:=h.hd;have b:=QH st a (a+n) v;refine⟨⟨c,by rw[b];exact d,?_⟩,⟨r,?_⟩,h.ne,by rw[b];exact h.n1,by rw[b];exact h.n2,by rw[b];exact h.n3⟩
 ·rw[b];exact Wm ho e h.ne
 ·rw[Mx O hl,VJ,VJ];have e1:(ints st++r).take a=ints (st.take a):=by
   rw[qb (by rw[QZ];omega)];simp[ints]
  have e2:(ints st++r).drop (a+n)=ints (st.drop (a+n))++r:=by
   rw[List.drop_append_of_le_length (by rw[QZ];omega)];simp[ints]
  have g:ints (List.replicate (a+n-a) v)=List.replicate n (.int .i64 (v:Int)):=by
   rw[Bq];simp[ints]
  rw[e1,e2]at hb;rw[g];simpa[zm]using hb
theorem gG.jn (h:gG U p q st){a n c:Nat}(hl:a+n<=st.length)(v:Nat){R:aP}(hR:∀σ',Ext (· = q) U σ'->gG σ' p q (fY st a (a+n) v)->R σ') :
 QI.c ⟨some ⟨q,a,none⟩,n,c⟩ v U R:=by
 obtain⟨r,b⟩:=h.row;have:=h.n2;exact Ar.jn b (by simp[QZ];omega) O v λσ' d e=>hR σ' d.ext (h.fill b hl d e)
theorem Hk (h:gG U p q st){R:aO}(hR:R true U):WN.c (aW p) U R:=by
 refine WN.o ?_;unfold WN.v;refine bW.intro (cJ rfl (bO (h.rS λcap _=>?_)));have:=h.n1;rw[zI aC];exact hR
theorem Bj (h:gG U p q st){R:aN}(hR:R ((st.length/16:Nat):Int) U):XN.c (aW p) U R:=by
 refine XN.o ?_;unfold XN.v;have:=h.n2;refine bO (h.rS λcap _=>nz aB ?_);refine cC (m:=st.length/16) ?_ O hR;rw[Xq O];simp
theorem vf (h:gG U p q st){k:Nat}(hk:16*k+16<=st.length){R:Sl->Hp->Prop}(hR:∀c,R ⟨some ⟨q,16*k,none⟩,16,c⟩ U):Xk.c (aW p) (k:Int) U R:=by
 refine Xk.o ?_;unfold Xk.v;have:=h.n2;refine bO (h.rS λcap a=>?_);refine cC (m:=16*k) O O (cC (m:=k+1) O O (cC (m:=16*k+16) O O ?_));refine jI O aC aC ?_;have e:16*k+16-16*k=16:=by omega
 rw[zA aC,e];simp only[zh,add_lit,nY,zG];exact hR _
theorem JR (h:gG U p q st)(k:Int){R:Sl->Int->Hp->Prop}(h1:∀(x:Nat) c,k=(x:Int)->16*x+16<=st.length->R ⟨some ⟨q,16*x,none⟩,16,c⟩ 0 U)(h0:tn st.length k=false->R ⟨none,0,0⟩ 1 U) :
 XY.c (aW p) k U R:=by
 refine XY.o ?_;unfold XY.v;have n3:=h.n3;refine Hk h (bZ rfl (bW.intro (cL (λa=>cJ rfl (h0 ?_)) λa=>Bj h ?_)))
 ·simp[tn];omega
 ·refine cL (λb=>h0 ?_) λd=>?_
  ·simp[tn];omega
  ·obtain⟨x,rfl⟩:=zf (show 0<=k by omega);exact vf h O λc=>h1 x c rfl O
theorem Hc {n x:Nat}(h:16*x+16<=n):tn n (x:Int)=true:=by simp[tn];omega
theorem gG.first (h:gG U p q st){x c:Nat}(hx:16*x+16<=st.length){K:Int->Prop}(hK:K ((st.getD (16*x) 0:Nat):Int)) :
 Ix (some ⟨q,16*x,none⟩) 16 0 1 λa=>gO .i64 a U K:=by
 have hp:=h.part (s:=⟨some ⟨q,16*x,none⟩,16,c⟩) (n:=16) rfl rfl hx;refine hp.oO (i:=0) (x:=st.getD (16*x) 0) ?_ hK;simp[zY,zn,zM];rw[cQ O];simp
theorem gG.uY (h:gG U p q st){x c v:Nat}(hx:16*x+16<=st.length){R:aN}(hR:R ((gB st (16*x) (16*x+16) v:Nat):Int) U):ZO.c ⟨some ⟨q,16*x,none⟩,16,c⟩ v U R:=by
 refine Ri (h.part (n:=16) rfl rfl hx) aE v ?_;have e:gB st (16*x) (16*x+16) v=((st.drop (16*x)).take 16).count v:=by simp[gB]
 rw[e]at hR;exact hR
theorem Ο (h:gG U p q st){x c:Nat}(hx:16*x+16<=st.length){R:aO}(hR:R (uw st x) U):Ks.c ⟨some ⟨q,16*x,none⟩,16,c⟩ U R:=by
 refine Ks.o ?_;unfold Ks.v;refine h.first (c:=c) hx (bW.intro ?_);unfold uw at hR;rw[A6];cases e1:(st.getD (16*x) 0 != 0)
 ·rw[e1]at hR;exact bZ rfl hR
 ·rw[e1]at hR;refine cJ rfl (h.uY (v:=1) hx ?_);rw[sT];exact hR
theorem Di (h:gG U p q st){x c:Nat}(hx:16*x+16<=st.length){R:aN}(hR:R ((Vt st x:Nat):Int) U):QR.c ⟨some ⟨q,16*x,none⟩,16,c⟩ U R:=by
 refine QR.o ?_;unfold QR.v;refine h.uY (v:=1) hx (cU (λa=>?_) λa=>h.uY (v:=3) hx ?_)
 ·have e1:gB st (16*x) (16*x+16) 1=0:=by simpa using a
  simpa[Vt,e1]using hR
 ·have e1:¬gB st (16*x) (16*x+16) 1=0:=by simpa using a
  refine cL (λb=>?_) λb=>?_
  ·have e2:0<gB st (16*x) (16*x+16) 3:=by omega
   simpa[Vt,e1,e2]using hR
  ·have e2:¬0<gB st (16*x) (16*x+16) 3:=by omega
   simpa[Vt,e1,e2]using hR
theorem γ (h:gG U p q st)(k:Int){R:aN}(hR:∀σ',Ext (· = q) U σ'->gG σ' p q (jo st k)->R (kU st k) σ'):Yw.c (aW p) k U R:=by
 refine Yw.o ?_;unfold Yw.v;refine JR h k (λx c d i=>?_) λd=>?_
 ·subst d;have a:=Hc i;refine bZ rfl (h.first (c:=c) i (cU (λg=>?_) λg=>?_))
  ·have e1:¬st.getD (16*x) 0=0:=by simpa using g
   have:kU st (x:Int)=5:=by simp only[kU,a,dE,zT,zA e1]
   have e2:jo st (x:Int)=st:=by simp[jo,this]
   have:=hR U (Ext.refl _ _);rw[e2]at this;simpa[*]using this h
  ·have e1:st.getD (16*x) 0=0:=by simpa using g
   have b:kU st (x:Int)=0:=by simp only[kU,a,dE,zT,e1]
   have e2:jo st (x:Int)=fY st (16*x) (16*x+16) 3:=by simp[jo,b]
   refine h.jn i 3 λσ' e j=>?_;have:=hR σ' e;rw[b,e2]at this;exact this j
 ·have b:kU st k=1:=by simp[kU,d]
  have e2:jo st k=st:=by simp[jo,b]
  refine cJ rfl ?_;have:=hR U (Ext.refl _ _);rw[b,e2]at this;exact this h
theorem DY {s:Sl}{xs:List Nat}(h:cS s 1 (ints xs) U F)(hl:xs.length<=1000000)(v:Nat){R:aN}(h1:∀i:Nat,xs[i]?=some v->(∀j:Nat,j<i->xs[j]?≠some v)->R (i:Int) U)(h0:v∉xs->R (-1) U) :
 WH.c s (v:Int) U R:=by
 refine WH.o ?_;unfold WH.v;have x:=h.jV;refine Zw (a:=bN) (λ(t:Int) w=>∃i:Nat,t=(i:Int)/\i<=xs.length/\w=U/\∀j,j<i->xs[j]?≠some v) (λt _=>xs.length-t.toNat) ⟨0,rfl,O,rfl,λj d=>O⟩ ?_;rintro t w ⟨i,rfl,B,rfl,b⟩;refine cL (λA=>?_) λy=>?_
 ·have g:i<xs.length:=by omega
  have u:xs[i]?=some xs[i]:=cQ g;refine h.oO u ?_;rw[jg];refine cU (λr=>?_) λr=>?_
  ·have:v=xs[i]:=by simpa using r
   exact h1 i (by rw[u,this]) b
  ·have p:¬v=xs[i]:=by simpa using r
   refine cC (m:=i+1) O O ⟨⟨i+1,rfl,O,rfl,λj d=>?_⟩,O⟩;by_cases e:j=i
   ·subst e;rw[u];intro e2;cases e2;exact p rfl
   ·exact b j O
 ·refine h0 λz=>?_;obtain⟨j,d⟩:=zN z;have:=(cV.1 d).1;exact b j O d
theorem Sz {s:Sl}{xs:List Nat}(h:cS s 1 (ints xs) U F)(hl:xs.length<=1000000)(v:Nat){R:aO}(hR:R (xs.contains v) U):Wq.c s (v:Int) U R:=by
 refine Wq.o ?_;unfold Wq.v;refine DY h hl v (λi b _=>?_) λa=>?_
 ·have:xs.contains v=true:=by simpa using zE b
  rw[this]at hR;rw[zI O];exact hR
 ·have:xs.contains v=false:=by simpa using a
  rw[this]at hR;exact hR
theorem NF {s:Sl}{xs:List Int}(h:cS s 1 (xs.map (Value.int .i64)) U F)(hl:xs.length<=1000000000)(v:Int){R:aO}(hR:R (xs.contains v) U):Wq.c s v U R:=by
 refine Wq.o ?_;unfold Wq.v;refine WH.o ?_;unfold WH.v;have w:s.len=xs.length:=by have:=h.1;simp at this;omega
 refine Zw (a:=bN) (λ(t:Int) u=>∃i:Nat,t=(i:Int)/\i<=xs.length/\u=U/\∀j,j<i->xs[j]?≠some v) (λt _=>xs.length-t.toNat) ⟨0,rfl,O,rfl,λj d=>O⟩ ?_;rintro t u ⟨i,rfl,A,rfl,b⟩;refine cL (λz=>?_) λy=>?_
 ·have g:i<xs.length:=by omega
  have x:xs[i]?=some xs[i]:=cQ g;refine h.nK x (cU (λr=>?_) λr=>?_)
  ·have e:v=xs[i]:=by simpa using r
   have:xs.contains v=true:=by rw[e];simp
   rw[this]at hR;show R (decide ((i:Int)≥0)) _;rw[zI O];exact hR
  ·have p:¬v=xs[i]:=by simpa using r
   refine cC (m:=i+1) O O ⟨⟨i+1,rfl,O,rfl,λj d=>?_⟩,O⟩;by_cases e:j=i
   ·subst e;rw[x];intro e2;cases e2;exact p rfl
   ·exact b j O
 ·have:xs.contains v=false:=by
   simp only[sN,decide_eq_false_iff_not];intro hm;obtain⟨j,d⟩:=zN hm;have:=(cV.1 d).1;exact b j O d
  rw[this]at hR;exact hR
def Is (f:Fv)(p:Nat->Bool)(U:Hp):Prop:=∀(x:Nat) (σ':Hp) (R:aO),aG U σ'->(∀σ'',aG σ' σ''->R (p x) σ'')->UE Tryz.prog f [.int .i64 (x:Int)] [.one .b] σ' R
theorem Mt {s:Sl}{xs:List Nat}(h:cS s 1 (ints xs) U F)(hl:xs.length<=1000000){f:Fv}{pr:Nat->Bool}(hf:Is f pr U){R:aO}(hR:∀σ',aG U σ'->R (xs.any pr) σ') :
 Wy.c s f U R:=by
 refine Wy.o ?_;unfold Wy.v;refine W1.o ?_;unfold W1.v;have w:=h.jV;refine Zw (a:=bN) (λ(t:Int) u=>∃i:Nat,t=(i:Int)/\i<=xs.length/\aG U u/\∀j x,j<i->xs[j]?=some x->pr x=false) (λt _=>xs.length-t.toNat) ⟨0,rfl,O,Ext.refl _ _,λj x p=>O⟩ ?_;rintro t u ⟨i,rfl,A,e,g⟩;refine cL (λz=>?_) λy=>?_
 ·have d:i<xs.length:=by omega
  have r:xs[i]?=some xs[i]:=cQ d;refine(aH.aF h e).oO r (hf _ _ _ e λB e2=>?_);cases hp:pr xs[i]
  ·refine bZ rfl (cC (m:=i+1) O O ⟨⟨i+1,rfl,O,e.trans e2,λj x p b=>?_⟩,O⟩);by_cases e3:j=i
   ·subst e3;rw[r]at b;cases b;exact hp
   ·exact g j x O b
  ·refine cJ rfl ?_;have:xs.any pr=true:=kM.2 ⟨_,zb d,hp⟩;show R (decide ((i:Int)≥0)) _;rw[zI O,←this];exact hR _ (e.trans e2)
 ·have:xs.any pr=false:=by
   rw[mE];intro x r;obtain⟨j,p⟩:=zN r;have:=(cV.1 p).1;simp[g j x O p]
  show R (decide ((-1:Int)≥0)) _;rw[show decide ((-1:Int)≥0)=false from rfl,←this];exact hR _ e
theorem TL (h:gG U p q st)(k:Int){R:aN}(hR:∀σ',Ext (· = q) U σ'->gG σ' p q (jK st k)->R (lG st k) σ'):Xj.c (aW p) k U R:=by
 refine Xj.o ?_;unfold Xj.v;refine JR h k (λx c d g=>?_) λd=>?_
 ·subst d;have b:=Hc g;refine bZ rfl (Ο h g ?_);cases hi:uw st x
  ·have a:lG st (x:Int)=5:=by simp[lG,b,hi]
   have e2:jK st (x:Int)=st:=by simp[jK,a]
   have:=hR U (Ext.refl _ _);rw[a,e2]at this;exact cJ rfl (this h)
  ·have a:lG st (x:Int)=0:=by simp[lG,b,hi]
   have e2:jK st (x:Int)=fY st (16*x) (16*x+16) 0:=by simp[jK,a]
   refine bZ rfl (h.jn g 0 λσ' e i=>?_);have:=hR σ' e;rw[a,e2]at this;exact this i
 ·have a:lG st k=1:=by simp[lG,d]
  have e2:jK st k=st:=by simp[jK,a]
  refine cJ rfl ?_;have:=hR U (Ext.refl _ _);rw[a,e2]at this;exact this h
theorem TP {c:Nat}{s:Sl}{fr:List Nat}{σ0:Hp}(hb:bY σ0 c [.slice s.a s.len s.cap])(hs:cS s 1 (ints fr) σ0 F)(hl:fr.length<=1000):Is ⟨239,#[],#[.pointer (some ⟨c,0,none⟩)]⟩ (λx=>!fr.contains x) σ0:=by
 intro x σ' R e hR;refine oP (all := #[.int .i64 (x:Int),.pointer (some ⟨c,0,none⟩)]) (by kernel_rfl) aA ?_;refine YN.o ?_;unfold YN.v;refine(e.bX hb id).yA rfl ?_;exact Sz (aH.aF hs e) O x (hR _ (Ext.refl _ _))
theorem CZ (h:gG U p q st)(a m:Int)(v:Nat){s:Sl}{fr:List Nat}(hs:cS s 1 (ints fr) U F)(hl:fr.length<=1000){R:aN}(hR:∀σ',Ext (· = q) U σ'->gG σ' p q (Uu st a m v fr)->R (oQ st a m fr) σ') :
 Xv.c (aW p) a m v s U R:=by
 refine Xv.o ?_;unfold Xv.v;have n2:=h.n2;have N:=h.lt.2;refine nw (cs:=[.slice s.a s.len s.cap]) λv1 M i C=>?_;have e:=h.aF i;have b:¬(0<=a/\1<=m/\m<=st.length-a)->R 1 v1:=λD=>by
  have d:YS st.length a m=false:=by simp only[YS,←uF];exact zJ D
  have e1:oQ st a m fr=1:=by simp[oQ,d]
  have e2:Uu st a m v fr=st:=by simp[Uu,e1]
  have:=hR v1 i.to;rw[e1,e2]at this;exact this e
 refine Hk e (bZ rfl (bW.intro ?_));refine cL (λK=>bW.intro (cJ rfl (bW.intro (cJ rfl (cJ rfl (b O)))))) λK=>?_;refine bW.intro (cL (λJ=>bW.intro (cJ rfl (cJ rfl (b O)))) λJ=>?_);refine bO (e.rS λcap A=>bW.intro (cL (λw=>cJ rfl (b (by simp only at *;omega))) λw=>?_));simp only at w;refine bO (e.rS λcap A=>ar aC aC (cL (λB=>b (by simp only at *;omega)) λB=>?_));simp only at B;obtain⟨x,rfl⟩:=zf (show 0<=a by omega);obtain⟨y,rfl⟩:=zf (show 0<=m by omega);have j:x+y<=st.length:=by omega
 have d:YS st.length (x:Int) (y:Int)=true:=by simp only[YS,zF,zU];omega
 refine bO (e.rS λcap A=>cC (m:=x+y) O O (jI O aC aC ?_));rw[zA aC];simp only[zh,add_lit,nY,zG];have L:x+y-x=y:=by omega
 rw[L];have hp:=e.part (s:=⟨some ⟨q,x,none⟩,y,cap-x⟩) (n:=y) rfl rfl j;refine Mt hp aE (TP (s:=s) C (aH.aF hs i) hl) λH e2=>?_;have u:=e.aF e2;have g:((st.drop x).take y).any (λz=>!fr.contains z) = !uJ st x y fr:=by
  rw[uJ,List.all_eq_not_any_not,Bool.not_not]
 rw[g];cases hA:uJ st x y fr
 ·have e1:oQ st (x:Int) (y:Int) fr=5:=by simp[oQ,d,hA]
  have r:Uu st (x:Int) (y:Int) v fr=st:=by simp[Uu,e1]
  have:=hR H (i.to.trans e2.to);rw[e1,r]at this;exact cJ rfl (this u)
 ·have e1:oQ st (x:Int) (y:Int) fr=0:=by simp[oQ,d,hA]
  have r:Uu st (x:Int) (y:Int) v fr=fY st x (x+y) v:=by simp[Uu,e1]
  refine bZ rfl (u.jn j v λv3 E G=>?_);have:=hR v3 (i.to.trans (e2.to.trans E));rw[e1,r]at this;exact this G
theorem vH {h:Hp}{b:Nat}{xs:List Nat}{n c:Nat}(hb:bY h b (ints xs))(hn:n=xs.length):cS ⟨some ⟨b,0,none⟩,n,c⟩ 1 (ints xs) h (· = b):=
 hb.fM (o:=0) rfl (by rw[QZ];simp[hn]) λj _=>by rw[zG]
theorem Ou (h:gG U p q st)(a m:Int){R:aN}(hR:∀σ',Ext (· = q) U σ'->gG σ' p q (Uu st a m 1 [2,3])->R (oQ st a m [2,3]) σ'):XL.c (aW p) a m U R:=by
 refine XL.o ?_;unfold XL.v;refine nw (cs:=ints [2,3]) λv i e g=>?_;exact CZ (h.aF e) a m 1 (vH g rfl) aA λσ' b d=>hR σ' (e.to.trans b) d
theorem TC (h:gG U p q st)(a m:Int){R:aN}(hR:∀σ',Ext (· = q) U σ'->gG σ' p q (Uu st a m 2 [1])->R (oQ st a m [1]) σ'):Xz.c (aW p) a m U R:=by
 refine Xz.o ?_;unfold Xz.v;refine nw (cs:=ints [1]) λv i e g=>?_;exact CZ (h.aF e) a m 2 (vH g rfl) aA λσ' b d=>hR σ' (e.to.trans b) d
theorem PX (h:gG U p q st)(a m:Int){R:aN}(hR:∀σ',Ext (· = q) U σ'->gG σ' p q (Uu st a m 3 [2])->R (oQ st a m [2]) σ'):Xd.c (aW p) a m U R:=by
 refine Xd.o ?_;unfold Xd.v;refine nw (cs:=ints [2]) λv i e g=>?_;exact CZ (h.aF e) a m 3 (vH g rfl) aA λσ' b d=>hR σ' (e.to.trans b) d
def yE (st:List Nat)(x:Int):Int:=if 0<=x/\x<st.length then((st.getD x.toNat 0:Nat):Int)else -1
theorem ξ (h:gG U p q st)(x:Int){R:aN}(hR:R (yE st x) U):Ya.c (aW p) x U R:=by
 refine Ya.o ?_;unfold Ya.v;have n2:=h.n2;unfold yE at hR;refine Hk h (bW.intro (bZ rfl (bW.intro (cL (λe=>cJ rfl ?_) λe=>bO (h.rS λcap g=>cL (λb=>?_) λb=>?_)))))
 ·rw[zA O]at hR;exact hR
 ·simp only at b;rw[zA O]at hR;exact hR
 ·simp only at b;rw[zB O]at hR;obtain⟨y,rfl⟩:=zf (show 0<=x by omega);refine bO (h.rS λcap g=>?_);have hp:=h.part (s:=⟨some ⟨q,0,none⟩,st.length,cap⟩) (a:=0) (n:=st.length) rfl rfl O;rw[xW,zy]at hp;have d:y<st.length:=by omega
  refine hp.oO (cQ d) ?_;simpa[zM,cQ d]using hR
theorem Kz {s:Sl}{vs:List Value}(h:cS s 1 vs U F)(h1:∀v∈vs,dJ v=true)(hl:s.len<=1000000){R:Sl->Hp->Prop}
 (hR:∀s' σ',s'.len=s.len->aG U σ'->bR s' 1 vs σ' (λb=>U.size<=b)->R s' σ'):Wk.c s U R:=by
 refine Wk.o ?_;unfold Wk.v;exact yc h aB rfl h1 aB hl hR
theorem G4 (n:Nat)(P:Nat->Bool):(List.range (n+1)).filter P=(List.range n).filter P++(if P n then[n]else[]):=by
 rw[kI,y5]
 congr 1
 cases h:P n<;>simp[h]
theorem PH (h:gG U p q st)(k:Nat){R:Sl->Hp->Prop}(hR:∀s σ',aG U σ'->bR s 1 (ints (KQ st k)) σ' (λb=>U.size<=b)->R s σ'):X6.c (aW p) (k:Int) U R:=by
 refine X6.o ?_;unfold X6.v;have n2:=h.n2;refine Hk h (bZ rfl (Bj h ?_));refine Vu (a:=.s) (bb:=bN) (λ(out:Sl) (t:Int) u=>∃i:Nat,t=(i:Int)/\i<=st.length/16/\aG U u/\bR out 1 (ints ((List.range i).filter λh=>st.getD (16*h) 0 != 0&&Vt st h==k)) u (λb=>U.size<=b))
  (λ_ t _=>st.length/16-t.toNat) ⟨0,rfl,O,Ext.refl _ _,bR.nil _ _ _ _⟩ ?_
 rintro out t u ⟨i,rfl,M,e,d⟩;have x:=h.aF e;refine cL (λJ=>?_) λG=>?_
 ·have B:16*i+16<=st.length:=by omega
  refine vf x B λc=>x.first (c:=c) B (bW.intro ?_);have D:=d.jV;have K:((List.range i).filter λh=>st.getD (16*h) 0 != 0&&Vt st h==k).length<=i:=zP (ny _ _) aA;have next:∀(r:Bool),r=(st.getD (16*i) 0 != 0&&Vt st i==k)->If r
   (Nw (.cells #[.int .i64 (i:Int)] 3 (0,0)) u λz L=>App out 1 8 3 [.int .i64 0] ⟨some z,1,1⟩ L λw A=>Ar .i64 ((i:Int)+1) λg=>
    (∃j:Nat,g=(j:Int)/\j<=st.length/16/\aG U A/\bR w 1 (ints ((List.range j).filter λh=>st.getD (16*h) 0 != 0&&Vt st h==k)) A (λb=>U.size<=b))/\st.length/16-g.toNat<st.length/16-(i:Int).toNat)
   (Ar .i64 ((i:Int)+1) λg=>(∃j:Nat,g=(j:Int)/\j<=st.length/16/\aG U u/\bR out 1 (ints ((List.range j).filter λh=>st.getD (16*h) 0 != 0&&Vt st h==k)) u (λb=>U.size<=b))/\st.length/16-g.toNat<st.length/16-(i:Int).toNat):=by
   intro r hr;have y:=G4 i λh=>st.getD (16*h) 0 != 0&&Vt st h==k;rw[←hr]at y;cases r
   ·refine bZ rfl (cC (m:=i+1) O O ⟨⟨i+1,rfl,O,e,?_⟩,O⟩);rw[y];simpa using d
   ·refine cJ rfl (d.push (vs:=[.int .i64 (i:Int)]) (λb H=>zP e.1 H) rfl rfl (by simp[dJ]) O O λN A E F C=>?_);refine cC (m:=i+1) O O ⟨⟨i+1,rfl,O,Ext.fresh e F λ_ h=>h,?_⟩,O⟩;rw[y,VJ];exact C
  rw[A6];cases e1:(st.getD (16*i) 0 != 0)
  ·exact bZ rfl (next false (by rw[e1];rfl))
  ·refine cJ rfl (Di x B ?_);rw[jg];exact next _ (by rw[e1];rfl)
 ·have:i=st.length/16:=by omega
  subst this;exact hR _ _ e d
theorem WlC (h:gG U p q st){R:Sl->Hp->Prop}(hR:∀s σ',aG U σ'->bR s 1 (ints (KQ st 0)) σ' (λb=>U.size<=b)->R s σ'):YL.c (aW p) U R:=by
 refine YL.o ?_;unfold YL.v;exact PH h 0 hR
theorem PV {n:Nat}(h1:16<=n)(h2:n<=1024)(h3:n%16=0){R:Option Addr->Int->Hp->Prop}(hR:∀σ' p q,aG U σ'->U.size<=p->U.size<=q->gG σ' p q (List.replicate n 0)->R (some ⟨p,0,none⟩) 0 σ'):Vh.c (n:Int) U R:=by
 refine Vh.o ?_;unfold Vh.v;refine bW.intro (dR O (bW.intro (dR O (nz aB ?_))));rw[QY O];have:(((n:Int)%16) != 0)=false:=by
  have:((n:Int)%16)=0:=by omega
  rw[this];rfl
 rw[this];refine bZ rfl (mk O O λv i e b=>nw (cs:=[.slice (some ⟨U.size,0,none⟩) n n]) λj g e2 a=>?_);have d:(List.replicate n [Value.int .i64 0]).flatten=ints (List.replicate n 0):=by
  have:[Value.int .i64 0]=ints [0]:=rfl;rw[this];clear b hR
  induction n with
  | zero=>rfl
  | succ n ih=>simp[vw,ints]
 rw[d]at b;refine hR _ _ _ (e.trans e2) O (zC _) ⟨⟨n,by simp,by simpa using a⟩,⟨[],by simpa using e2.bX b id⟩,O,by simpa using h1,by simpa using h2,by simpa using h3⟩
theorem HX (h:gG U p q st){R:Option Addr->Hp->Prop}(hR:∀σ' p' q',aG U σ'->U.size<=p'->U.size<=q'->gG σ' p' q' st->R (some ⟨p',0,none⟩) σ'):W4.c (aW p) U R:=by
 refine W4.o ?_;unfold W4.v;have n1:=h.n1;have n2:=h.n2;refine Hk h (bZ rfl (bO (h.rS λcap x=>?_)));have hp:=h.part (s:=⟨some ⟨q,0,none⟩,st.length,cap⟩) (a:=0) (n:=st.length) rfl rfl O;rw[xW,zy]at hp;refine Kz hp JK aC λj u i e g=>nw (cs:=[.slice j.a j.len j.cap]) λw r e2 d=>?_;rcases g.2 with⟨h0,_⟩|⟨b,cs,hq,ha,hb,hle,hcl,ht⟩
 ·simp only at i;omega
 ·have m:=hb.lt;refine hR _ _ b (e.trans e2) e.1 hq ⟨⟨j.cap,?_,?_⟩,⟨cs.drop (ints st).length,?_⟩,O,h.n1,h.n2,h.n3⟩
  ·simp only at i;omega
  ·rw[ha]at d;simp only at i;rw[i]at d;exact d
  ·have:ints st++cs.drop (ints st).length=cs:=by
    conv=>lhs;lhs;rw[←ht]
    exact mZ _ _
   rw[this];exact e2.bX hb id
end Go.Ar
namespace Go.Proofs
open Go.Vc
set_option maxRecDepth 100000
def Zk.h:Hn:=.q .o1 (.q (.q .o3 .aK) (.q .o5 (.q .o7 .aM)))
def Zk.v (a:R2)(b:Hp)(c:Option Addr->Hp->Prop):Prop:=X3.c a b λd e=>If (!d) (c none e) (bU a λf=>aQ f 0 e λg=>aQ f 1 e λh=>aQ f 2 e λi=>aQ f 3 e λj=>aX f 4 e λk=>aQ f 5 e λl=>aV #[.I 0,.I 0,.I 0,.I 0,.slice none 0 0,.I 0] 267 e λm n=>aR m 0 (.I g) n λo=>aR m 1 (.I h) o λp=>aR m 2 (.I i) p λq=>aR m 3 (.I j) q λr=>aR m 4 (.slice k.a k.len k.cap) r λs=>aR m 5 (.I l) s λt=>bE a 4 t λv=>Wk.c v t λw x=>aR m 4 (.slice w.a w.len w.cap) x λy=>c (some m) y)
theorem Zk.o {a b c}(d:Zk.v a b c):Zk.c a b c:=Wa Tryz.func112 (x:=Zk.h) (R0 d)
def X3.h:Hn:=.q .o1 (.q (.cW (.seq [.op,.op,.op,.cY true 6 (RI.ops 6),.op])) .l)
def X3.v (a:R2)(b:Hp)(c:aO):Prop:=bW (λd e=>c d e) λf=>If (!a.isNone) (bE a 4 b λh=>f (decide (((h.len:Nat):Int)>0)) b) (f false b)
theorem X3.o {a b c}(d:X3.v a b c):X3.c a b c:=Wa Tryz.func167 (x:=X3.h) (R0 d)
def ZX.h:Hn:=.q .o1 (.q (.q .o3 .aJ) (.q (.cW (.tail 10 (RI.ops 10) [.op])) .l))
def ZX.v (a:R2)(b:Hp)(c:Int->Int->Hp->Prop):Prop:=aV #[.I 0,.I 0] 246 b λd e=>X3.c a e λf g=>If (!f) (aR d 0 (.I 0) g λh=>aR d 1 (.I 0) h λi=>aQ d 0 i λj=>aQ d 1 i λk=>c j k i) (bD a 0 g λm=>bU a λn=>bM ((n.add 1).add 1) g λo=>aR d 0 (.I m) g λp=>aR d 1 (.I o) p λq=>aQ d 0 q λr=>aQ d 1 q λs=>c r s q)
theorem ZX.o {a b c}(d:ZX.v a b c):ZX.c a b c:=Wa Tryz.func189 (x:=ZX.h) (R0 d)
def Yi.h:Hn:=.q .o2 (.q (.q .o3 .aJ) (.q .o5 (.q (.q (.cW (.gM false [] [(32,.one .b)] (.take 0 (.take 1 (.all [(2,.take 3 (.take 4 (.split 18 (.take 5 (.take 6 (.take 7 (.take 8 (.take 9 (.take 10 (.take 11 (.take 12 (.take 13 (.take 14 (.take 15 (.take 16 (.take 17 (.take 18 (.done))))))))))))))) (.take 5 (.take 6 (.take 7 (.take 8 (.take 11 (.take 12 (.take 13 (.take 14 (.all [(9,.take 10 (.all [(15,.take 16 (.take 17 (.take 18 (.done))))])),(15,.all [(9,.take 10 (.take 16 (.take 17 (.take 18 (.done)))))])]))))))))))))]))))) .aJ) (.q .o9 .l))))
def Yi.v (a:R2)(b:Int)(c:Hp)(d:Int->Int->Hp->Prop):Prop:=X3.c a c λe f=>If (!e) (d 0 5 f) (YC.c a 0 f λg h=>bL (b-g) λi=>Jn [.b] (λ(j:Bool) k=>If j (d 0 8 k) (bU a λl=>bM ((l.add 1).add 0) k λm=>Nz m<|bL (i.tdiv m) λn=>d n 0 k)) λo=>YC.c a 0 h λp q=>If (b<p) (o true q) (bU a λr=>bU a λs=>(aX r 4 q λt=>bM ((s.add 1).add 0) q λu=>bL (((t.len:Nat):Int)*u) λv=>o (decide (i≥v)) q) ∧ (bM ((s.add 1).add 0) q λw=>aX r 4 q λx=>bL (((x.len:Nat):Int)*w) λy=>o (decide (i≥y)) q)))
theorem Yi.o {a b c d}(e:Yi.v a b c d):Yi.c a b c d:=Wa Tryz.func216 (x:=Yi.h) (R0 e)
def Vi.h:Hn:=.q .o3 (.q .o7 (.q (.q (.cW (.seq [.op,.op,.op,.cY false 2 [.op,.op],.op,.cY false 5 (RI.ops 5)])) .aJ) (.q (.cW (.held true [] (.tk [0,1,2] (.all [(3,.take 4 (.all [(5,.take 6 (.take 7 (.done)))]))])))) .l)))
def Vi.v (a b c d:Int)(e:Hp)(f:Option Addr->Int->Hp->Prop):Prop:=aV #[.I b,.I c,.I d] 85 e λg h=>aQ g 0 h λi=>aQ g 1 h λj=>aQ g 2 h λk=>ZL.c i j k h λl m n=>bW (λo p=>bW (λq r=>If q (f none 1 r) (dP r λs=>aS s g 0 λt=>aS s g 1 λu=>aS s g 2 λv=>Mk l l 8 3 [.I 0] r λw x=>And (s x) <| aV #[.I a,.I t,.I u,.I v,.slice w.a w.len w.cap,.I 0] 267 x λy z=>And (s z) <| f (some y) 0 z)) λaa=>If o (aa true p) (aQ g 1 p λab=>bL (1024-ab) λac=>aa (decide (a>ac)) p)) λad=>If (m != 0) (ad true n) (ad (decide (a<0)) n)
theorem Vi.o {a b c d e f}(g:Vi.v a b c d e f):Vi.c a b c d e f:=Wa Tryz.func226 (x:=Vi.h) (R0 g)
def ZN.h:Hn:=.q .o1 (.q .o8 (.q (.k (.q .o3 (.c .aL (.q .o9 .aK)))) (.q .o4 .aM)))
def ZN.v (a:R2)(b:Int)(c:Hp)(d:aN):Prop:=Yg.c a b c λe f g=>If (f != 0) (d f g) (bE a 4 g λi=>Ix i.a i.len e 1 λj=>bM j g λk=>If (k==0) (d 9 g) (aV #[.I e] 3 g λl m=>Zl.c a 0 ⟨some l,1,1⟩ m λn=>d 0 n))
theorem ZN.o {a b c d}(e:ZN.v a b c d):ZN.c a b c d:=Wa Tryz.func245 (x:=ZN.h) (R0 e)
def YC.h:Hn:=.q .o1 (.q (.oq 14) .l)
def YC.v (a:R2)(b:Int)(c:Hp)(d:aN):Prop:=bD a 0 c λf=>bL (f*256) λg=>bU a λh=>bM ((h.add 1).add 0) c λi=>bL (b*i) λj=>bL (g+j) λk=>d k c
theorem YC.o {a b c d}(e:YC.v a b c d):YC.c a b c d:=Wa Tryz.func247 (x:=YC.h) (R0 e)
def YI.h:Hn:=.q .o1 (.q (.q .o3 .aK) (.q .o6 .l))
def YI.v (a:R2)(b:Hp)(c:aN):Prop:=X3.c a b λd e=>If (!d) (c 0 e) (bE a 4 e λg=>c ((g.len:Nat):Int) e)
theorem YI.o {a b c}(d:YI.v a b c):YI.c a b c:=Wa Tryz.func248 (x:=YI.h) (R0 d)
def ZD.h:Hn:=.q .o2 (.q (.q .o3 .aJ) (.q .o6 (.q (.q .o2 .aJ) (.q .o4 (.q .o5 .l)))))
def ZD.v (a:R2)(b:Hp)(c:Int->Int->Hp->Prop):Prop:=X3.c a b λd e=>If (!d) (c 0 5 e) (bE a 4 e λg=>WH.c g 0 e λh i=>If (h<0) (c 0 6 i) (aV #[.I h] 3 i λj k=>Zl.c a 1 ⟨some j,1,1⟩ k λl=>YC.c a h l λm n=>c m 0 n))
theorem ZD.o {a b c}(d:ZD.v a b c):ZD.c a b c:=Wa Tryz.func250 (x:=ZD.h) (R0 d)
def YB.h:Hn:=.q .o2 (.q .o8 (.q (.q .o2 (.c (.q .o3 .l) .l)) (.q .gE .l)))
def YB.v (a:R2)(b:Int)(c:Hp)(d:Bool->Int->Hp->Prop):Prop:=Yg.c a b c λe f g=>If (f != 0) (d false f g) (bE a 4 g λi=>Ix i.a i.len e 1 λj=>bM j g λk=>d (k==1) 0 g)
theorem YB.o {a b c d}(e:YB.v a b c d):YB.c a b c d:=Wa Tryz.func258 (x:=YB.h) (R0 e)
def Yg.h:Hn:=.q .o2 (.q .o8 (.q (.q (.cW (.seq [.op,.op,.op,.cY true 5 (RI.ops 5)])) .aJ) (.q .o4 .l)))
def Yg.v (a:R2)(b:Int)(c:Hp)(d:Int->Int->Hp->Prop):Prop:=Yi.c a b c λe f g=>bW (λh i=>If h (d 0 8 i) (d e f i)) λj=>If (f==0) (YC.c a e g λk l=>j (k != b) l) (j false g)
theorem Yg.o {a b c d}(e:Yg.v a b c d):Yg.c a b c d:=Wa Tryz.func270 (x:=Yg.h) (R0 e)
def Zl.h:Hn:=.q .o3 (.k (.loop [(10,.I)] (.q .o1 (.q (.c .l .l) (.q (.k (.q .o3 (.q (.cW (.tail 16 (RI.ops 16) [.op])) .o8))) .o2)))))
def Zl.v (a:R2)(b:Int)(c:Sl)(d:Hp)(e:aP):Prop:=WU [bN] (λf=>f 0 d) λg (h:Int) i=>If (h<((c.len:Nat):Int)) (Ix c.a c.len h 1 λj=>bM j i λk=>bD a 5 i λm=>bE a 4 i λo=>Ix o.a o.len k 1 λp=>bM p i λq=>bL (b-q) λr=>bL (m+r) λs=>bU a λt=>aR t 5 (.I s) i λu=>bE a 4 u λw=>Ix w.a w.len k 1 λx=>eP x (.I b) u λy=>bL (h+1) λz=>g z y) (e i)
theorem Zl.o {a b c d e}(f:Zl.v a b c d e):Zl.c a b c d e:=Wa Tryz.func271 (x:=Zl.h) (R0 f)
end Go.Proofs
namespace Go.Ar
open Go Go.Vc Go.Proofs
variable {U:Hp}{F:Rg}{p q:Nat}{c:cD}{s:cM}
def mG (tk:List Bool):List Nat:=tk.map λb=>if b then 1 else 0
theorem wq (tk:List Bool):(mG tk).length=tk.length:=by simp[mG]
theorem GK {tk:List Bool}{i:Nat}{b:Bool}(h:tk[i]?=some b):(mG tk)[i]?=some (if b then 1 else 0):=by simp[mG,h]
theorem MW (tk:List Bool)(i:Nat)(b:Bool):mG (tk.set i b)=(mG tk).set i (if b then 1 else 0):=by simp[mG,tA]
structure ic (U:Hp) (p q:Nat) (c:cD) (s:cM):Prop where
 hd:∃cap,c.n<=cap/\bY U p [.int .i64 (s.st:Int),.int .i64 (c.size:Int),.int .i64 (c.bK:Int),.int .i64 (c.batch:Int),.slice (some ⟨q,0,none⟩) c.n cap,.int .i64 (s.many:Int)]
 row:∃rest,bY U q (ints (mG s.tk)++rest)
 ne:p≠q
 len:s.tk.length=c.n
 ok:c.ok
 fit:s.st+c.bK<=1024
theorem ic.bV {σ':Hp}(h:ic U p q c s)(e:Ext F U σ')(hp:¬F p)(hq:¬F q):ic σ' p q c s:=
 ⟨by obtain⟨c,a,b⟩:=h.hd;exact⟨c,a,e.bX b hp⟩,by obtain⟨r,a⟩:=h.row;exact⟨r,e.bX a hq⟩,h.ne,h.len,h.ok,h.fit⟩
theorem ic.aF {σ':Hp}(h:ic U p q c s)(e:aG U σ'):ic σ' p q c s:=h.bV e id id
theorem ic.lt (h:ic U p q c s):p<U.size/\q<U.size:=by
 obtain⟨_,_,b⟩:=h.hd;obtain⟨_,a⟩:=h.row;exact⟨b.lt,a.lt⟩
theorem ic.rS (h:ic U p q c s){K:Sl->Prop}(hK:∀cap,c.n<=cap->K ⟨some ⟨q,0,none⟩,c.n,cap⟩):ji (Addr.add ⟨p,0,none⟩ 4) U K:=by
 obtain⟨a,d,b⟩:=h.hd;exact b.rS rfl (hK a d)
theorem ic.rI (h:ic U p q c s){i:Nat}{x:Int}(hx:∀a b:Value,([.int .i64 (s.st:Int),.int .i64 (c.size:Int),.int .i64 (c.bK:Int),.int .i64 (c.batch:Int),a,.int .i64 (s.many:Int)]:List Value)[0+i]?=some (.int .i64 x)){K:Int->Prop}(hK:K x):gO .i64 (Addr.add ⟨p,0,none⟩ i) U K:=by
 obtain⟨e,g,d⟩:=h.hd;exact d.rI (hx _ .nilFunc) hK
theorem ic.gA (h:ic U p q c s){i j:Nat}{x:Int}(hx:∀a b:Value,([.int .i64 (s.st:Int),.int .i64 (c.size:Int),.int .i64 (c.bK:Int),.int .i64 (c.batch:Int),a,.int .i64 (s.many:Int)]:List Value)[0+i+j]?=some (.int .i64 x)){K:Int->Prop}(hK:K x):gO .i64 (Addr.add (Addr.add ⟨p,0,none⟩ i) j) U K:=by
 obtain⟨e,g,d⟩:=h.hd;exact d.gA (hx _ .nilFunc) hK
theorem ic.kz (h:ic U p q c s)(cap:Nat):cS ⟨some ⟨q,0,none⟩,c.n,cap⟩ 1 (ints (mG s.tk)) U (· = q):=by
 obtain⟨r,a⟩:=h.row;refine a.fM (o:=0) rfl (by rw[QZ,wq,h.len];simp) λj b=>?_;rw[zG,zQ b]
theorem Gz (h:ic U p q c s){R:aO}(hR:R true U):X3.c (aW p) U R:=by
 refine X3.o ?_;unfold X3.v;refine bW.intro (cJ rfl (bO (h.rS λcap _=>?_)));have:=h.ok.pq;rw[zI aC];exact hR
theorem Χ (h:ic U p q c s){R:aN}(hR:R (c.n:Int) U):YI.c (aW p) U R:=by
 refine YI.o ?_;unfold YI.v;exact Gz h (bZ rfl (bO (h.rS λcap _=>hR)))
theorem xV (h:ic U p q c s)(i:Nat)(hi:i<=1000){R:aN}(hR:R ((at_ c s i:Nat):Int) U):YC.c (aW p) (i:Int) U R:=by
 refine YC.o ?_;unfold YC.v;have a:=h.ok;unfold cD.ok at a;have:=h.fit;have b:i*c.size<=1000*512:=lV hi O;refine bO (h.rI (λ_ _=>rfl) (cC (m:=s.st*256) aA O (bO (h.gA (λ_ _=>rfl) ?_))));exact cC (m:=i*c.size) aA O (cC (m:=at_ c s i) (by simp[at_]) (by unfold at_;omega) hR)
theorem Av (h:ic U p q c s)(x:Int)(hx2:x<=9223372036854775807){R:Int->Int->Hp->Prop}(h1:∀i,idx c s x=some i->R (i:Int) 0 U)(h0:idx c s x=none->R 0 8 U):Yi.c (aW p) x U R:=by
 refine Yi.o ?_;unfold Yi.v;have C:=h.ok;unfold cD.ok at C;have A:=h.ok.kA;have j:=h.fit;have a:=h.len;have E:c.n*c.size<=128*512:=lV A O;refine Gz h (bZ rfl (xV h 0 O ?_));have w:at_ c s 0=s.st*256:=by simp[at_]
 rw[w];refine pc ?_;refine Jn.intro (xV h 0 O ?_);rw[w];refine cL (λB=>cJ rfl (h0 ?_)) λz=>?_
 ·unfold idx;rw[zB O]
 ·rw[Hi O O];obtain⟨y,D⟩:=zf (show 0<=x by omega);have key:If (decide (x-((s.st*256:Nat):Int)≥((c.n*c.size:Nat):Int))) (R 0 8 U)
   (bU (some ⟨p,0,none⟩) λe=>gO .i64 ((e.add 1).add 0) U λb=>Nz b<|Ar .i64 ((x-((s.st*256:Nat):Int)).tdiv b) λg=>R g 0 U):=by
   refine cL (λr=>h0 ?_) λu=>bO (h.gA (λ_ _=>rfl) (nz O ?_))
   ·unfold idx;rw[a,zB O]
   ·have:idx c s x=some ((x-((s.st*256:Nat):Int)).toNat/c.size):=by unfold idx;rw[a,zA O]
    refine cC (m:=(x-((s.st*256:Nat):Int)).toNat/c.size) ?_ ?_ (h1 _ this)
    ·rw[Xq O];have:x-((s.st*256:Nat):Int)=(((x-((s.st*256:Nat):Int)).toNat:Nat):Int):=by omega
     rw[this];simp
    ·have:=Nat.div_le_self (x-((s.st*256:Nat):Int)).toNat c.size;omega
  refine bO (bO ⟨h.rS λcap d=>h.gA (λ_ _=>rfl) (cC (m:=c.n*c.size) aA O key),h.gA (λ_ _=>rfl) (h.rS λcap d=>cC (m:=c.n*c.size) aA O key)⟩)
theorem F0 (h:ic U p q c s)(x:Int)(hx2:x<=9223372036854775807){R:Int->Int->Hp->Prop}(h1:∀i,obj c s x=some i->i<c.n->R (i:Int) 0 U)(h0:obj c s x=none->R 0 8 U):Yg.c (aW p) x U R:=by
 refine Yg.o ?_;unfold Yg.v;have g:=h.ok;unfold cD.ok at g;have j:=h.ok.kA;refine Av h x hx2 (λi a=>bW.intro (cJ rfl ?_)) λa=>bW.intro (bZ rfl (bZ rfl (h0 (by unfold obj;rw[a]))));have b:=((UG O).1 a).2.2;rw[h.len]at b;refine xV h i O (cU (λd=>h0 ?_) λd=>h1 i ?_ b)
 ·have:¬x=((at_ c s i:Nat):Int):=λe=>by rw[e]at d;simp at d
  unfold obj;rw[a];simp[this]
 ·have:x=((at_ c s i:Nat):Int):=by
   have:((at_ c s i:Nat):Int)=x:=by simpa using d
   exact this.symm
  unfold obj;rw[a];simp[this]
def cM.is (s:cM)(i:Nat):Bool:=s.tk.getD i false
theorem cM.lI {s:cM}{i:Nat}(hi:i<s.tk.length):s.tk[i]?=some (s.is i):=by
 simp[cM.is,zM,cQ hi]
theorem Of (h:ic U p q c s)(x:Int)(hx2:x<=9223372036854775807){R:Bool->Int->Hp->Prop}(h1:∀i,obj c s x=some i->R (s.is i) 0 U)(h0:obj c s x=none->R false 8 U):YB.c (aW p) x U R:=by
 refine YB.o ?_;unfold YB.v;refine F0 h x hx2 (λi b a=>bZ rfl (bO (h.rS λcap d=>?_))) λb=>cJ rfl (h0 b);rw[←h.len]at a;refine(h.kz cap).oO (GK (cM.lI a)) ?_;have:=h1 i b;cases hb:s.is i<;>rw[hb]at this<;>simpa using this
theorem yo {s:cM}{i:Nat}(hi:i<s.tk.length)(v:Bool):((s.put i v).many:Int)=s.many+((if v then 1 else 0)-(if s.is i then 1 else 0)):=by
 have key:∀(l:List Bool) (i:Nat) (b:Bool),l[i]?=some b->(((l.set i v).count true:Nat):Int)=(l.count true:Nat)+((if v then 1 else 0)-(if b then 1 else 0)):=by
  intro l
  induction l with
  | nil=>intro i b h;simp at h
  | cons x l ih=>
   intro i b h;cases i with
   | zero=>
    simp at h;subst h;cases v<;>cases x<;>simp[List.count_cons]<;>omega
   | succ i=>
    have:=ih i b (by simpa using h);simp only[sd,List.count_cons]
    push_cast
    omega
 exact key s.tk i _ (cM.lI hi)
theorem Ba (s:cM):s.many<=s.tk.length:=yh
theorem Et (h:ic U p q c s){i:Nat}(hi:i<c.n)(v:Bool){sl:Sl}{G:Rg}(hs:cS sl 1 (ints [i]) U G){R:aP}(hR:∀σ',Ext (λb=>b=p\/b=q) U σ'->ic σ' p q c (s.put i v)->R σ') :
 Zl.c (aW p) (if v then 1 else 0) sl U R:=by
 refine Zl.o ?_;unfold Zl.v;have K:sl.len=1:=hs.jV;have Q:=h.ok.kA;have E:=h.len;have V:=Ba s;have z:i<s.tk.length:=by omega
 have g:=yo z v;refine Zw (a:=bN) (λ(t:Int) C=>t=0/\C=U\/t=1/\Ext (λb=>b=p\/b=q) U C/\ic C p q c (s.put i v)) (λt _=>1-t.toNat) (.inl ⟨rfl,rfl⟩) ?_;rintro t C (⟨rfl,rfl⟩|⟨rfl,e,N⟩)
 ·refine jt O ?_;refine hs.oO (i:=0) (x:=i) rfl (bO (h.rI (λ_ _=>rfl) (bO (h.rS λcap H=>?_))));refine(h.kz cap).oO (GK (cM.lI z)) ?_;have M:(0:Int)<=(if v then 1 else 0)/\(if v then(1:Int)else 0)<=1:=by cases v<;>simp
  have L:(0:Int)<=((if s.is i then 1 else 0:Nat):Int)/\((if s.is i then 1 else 0:Nat):Int)<=1:=by cases s.is i<;>simp
  have d:((if s.is i then 1 else 0:Nat):Int)=(if s.is i then 1 else 0):=by cases s.is i<;>rfl
  refine ar O O (ar O O (bO ?_));obtain⟨J,D,hd⟩:=h.hd;obtain⟨r,y⟩:=h.row;refine hd.s1 aA λP A u=>?_;have j:=Wm A y (Ne.symm h.ne);refine bO (u.rS rfl (ix O aC ?_));rw[add_lit];refine j.s0 (by simp[QZ,wq];omega) λS B w=>?_;refine cC (m:=1) O O ⟨.inr ⟨rfl,?_,?_⟩,by decide⟩
  ·exact(Ext.eL (F:=λb=>b=p\/b=q) A (.inl rfl)).trans (Ext.eL B (.inr rfl))
  ·refine⟨⟨J,D,?_⟩,⟨r,?_⟩,h.ne,by simp[cM.put,h.len],h.ok,h.fit⟩
   ·have:=Wm B u h.ne;rw[g,←d];exact this
   ·have e:(ints (mG s.tk)++r).set (0+(i:Int).toNat*1) (.int .i64 (if v then 1 else 0))=ints (mG (s.put i v).tk)++r:=by
     rw[List.set_append_left _ _ (by simp[QZ,wq];omega)]
     congr 1
     simp only[cM.put,MW,ints,tA];have:(0+(i:Int).toNat*1)=i:=by omega
     rw[this]
     congr 1
     cases v<;>rfl
    rw[e]at w;exact w
 ·exact dR O (hR _ e N)
theorem Pd (h:ic U p q c s){x:Int}{i:Nat}(hx2:x<=9223372036854775807)(ho:obj c s x=some i)(ht:s.is i=true){R:aN}(hR:∀σ',Ext (λb=>b=p\/b=q) U σ'->ic σ' p q c (s.put i false)->R 0 σ') :
 ZN.c (aW p) x U R:=by
 refine ZN.o ?_;unfold ZN.v;refine F0 h x hx2 (λj r a=>bZ rfl (bO (h.rS λcap g=>?_))) λm=>by rw[ho]at m;cases m
 rw[ho]at r;cases r;have d:i<s.tk.length:=by rw[h.len];exact a
 refine(h.kz cap).oO (GK (cM.lI d)) ?_;rw[ht];refine bZ rfl (nw (cs:=ints [i]) λv A e w=>?_);have z:=h.lt;exact Et (h.aF e) a false (vH w rfl) λσ' u y=>hR σ' (e.to.trans u) y
theorem L7 (h:ic U p q c s){i:Nat}(hlow:low s=some i){R:Int->Int->Hp->Prop}(hR:∀σ',Ext (λb=>b=p\/b=q) U σ'->ic σ' p q c (s.put i true)->R ((at_ c s i:Nat):Int) 0 σ') :
 ZD.c (aW p) U R:=by
 refine ZD.o ?_;unfold ZD.v;have E:=h.ok.kA;have a:=pd.1 hlow;obtain⟨m,B,C⟩:=a;have g:s.tk[i]=false:=by simpa using B
 refine Gz h (bZ rfl (bO (h.rS λcap z=>?_)));refine DY (h.kz cap) (by simp[wq,h.len];omega) 0 (λj u d=>?_) λd=>?_
 ·have r:j<s.tk.length:=by
   have:=(cV.1 u).1
   rwa [wq]at this
  have x:j=i:=by
   rcases pa j i with h1|h1|h1
   ·have:=C j h1;rw[GK (cQ r)]at u;have:s.tk[j]=true:=by simpa using this
    simp[this]at u
   ·exact h1
   ·exact absurd (by rw[GK (cQ m),g];rfl) (d i h1)
  subst x;rw[h.len]at m;refine dR O (nw (cs:=ints [j]) λv D e w=>?_);refine Et (h.aF e) m true (vH w rfl) λσ' A y=>xV y j O (hR σ' (e.to.trans A) y)
 ·exfalso;apply d;exact zE (i:=i) (by rw[GK (cQ m),g];rfl)
theorem Sm (h:ic U p q c s){R:Int->Int->Hp->Prop}(hR:∀σ',aG U σ'->R (s.st:Int) (c.bK:Int) σ'):ZX.c (aW p) U R:=by
 refine ZX.o ?_;unfold ZX.v;refine nw (cs:=[.int .i64 0,.int .i64 0]) λv u e r=>?_;have j:=h.aF e;refine Gz j (bZ rfl (bO (j.rI (λ_ _=>rfl) (bO (j.gA (λ_ _=>rfl) ?_)))));refine r.s1 aA λw b g=>g.s1 aA λv3 d a=>?_;refine a.rI rfl (a.rI rfl (hR _ ?_));exact Ext.fresh (Ext.fresh e (Ext.eL (F:=(· = U.size)) b rfl) λi m=>O) (Ext.eL (F:=(· = U.size)) d rfl) λi m=>by omega
theorem OE (n:Nat):(List.replicate n [Value.int .i64 0]).flatten=ints (List.replicate n 0):=by
 induction n with
 | zero=>rfl
 | succ n ih=>simp only[vw,wV,ih];rfl
theorem Wnb (hc:c.ok){st:Nat}(hf:st+c.bK<=1024){R:Option Addr->Int->Hp->Prop}(hR:∀σ' p q,aG U σ'->U.size<=p->U.size<=q->ic σ' p q c ⟨st,List.replicate c.n false⟩->R (some ⟨p,0,none⟩) 0 σ') :
 Vi.c (st:Int) c.size c.bK c.batch U R:=by
 refine Vi.o ?_;unfold Vi.v;have C:=hc;unfold cD.ok at C;have M:=hc.kA;refine nw (cs:=[.int .i64 c.size,.int .i64 c.bK,.int .i64 c.batch]) λv J e y=>?_;refine y.rI rfl (y.rI rfl (y.rI rfl (Ie _ _ _ (λg F e1 e2 D B z=>?_) λs=>?_)))
 case refine_2=>rw[(EL c).2 hc]at s;cases s
 have:g=c:=by
  obtain⟨a,b,d⟩:=c;obtain⟨L,N,H⟩:=g;simp only at e1 e2 D
  congr 1<;>omega
 subst this;have i:=z.bX y id;refine bW.intro (bZ rfl (bW.intro (dR O (i.rI rfl (cC (m:=1024-g.bK) O O (dR O ?_))))));refine⟨λx=>bY x U.size [.int .i64 g.size,.int .i64 g.bK,.int .i64 g.batch],i,⟨_,λx w=>by rw[add_lit,w.cell];rfl,⟨_,λx w=>by rw[add_lit,w.cell];rfl,⟨_,λx w=>by rw[add_lit,w.cell];rfl,?_⟩⟩⟩⟩;refine mk O O λK G j u=>⟨j.bX i id,nw (cs:=[.int .i64 (st:Int),.int .i64 g.size,.int .i64 g.bK,.int .i64 g.batch,.slice (some ⟨B.size,0,none⟩) g.n g.n,.int .i64 0]) λv3 E r A=>⟨(j.trans r).bX i id,?_⟩⟩;rw[OE]at u;have ir:=z.1;refine hR _ _ _ (((e.trans z).trans j).trans r) O (show U.size<=B.size by omega) ⟨⟨g.n,zC _,?_⟩,⟨[],?_⟩,O,by simp,hc,hf⟩
 ·have:cM.many ⟨st,List.replicate g.n false⟩=0:=by simp[cM.many,xM]
  rw[this];exact A
 ·have:mG (List.replicate g.n false)=List.replicate g.n 0:=by simp[mG]
  rw[this,j7];exact r.bX u id
theorem NP (h:ic U p q c s){R:Option Addr->Hp->Prop}(hR:∀σ' p' q',aG U σ'->U.size<=p'->U.size<=q'->ic σ' p' q' c s->R (some ⟨p',0,none⟩) σ'):Zk.c (aW p) U R:=by
 refine Zk.o ?_;unfold Zk.v;have X:=h.ok.kA;have y:=h.ok.pq;obtain⟨L,F,hd⟩:=h.hd;refine Gz h (bZ rfl (bO (hd.rI rfl (hd.rI rfl (hd.rI rfl (hd.rI rfl (hd.rS rfl (hd.rI rfl ?_))))))));refine nw (cs:=[.int .i64 0,.int .i64 0,.int .i64 0,.int .i64 0,.slice none 0 0,.int .i64 0]) λv W e H=>?_;refine H.s1 aA λM o1 D=>D.s1 aA λN o2 K=>K.s1 aA λv3 o3 z=>z.s1 aA λP o4 B=>B.s1 aA λS o5 J=>J.s1 aA λv6 o6 w=>?_;have C:Ext (· = U.size) v v6:=(((((o1.ext).trans o2.ext).trans o3.ext).trans o4.ext).trans o5.ext).trans o6.ext;have a:aG U v6:=Ext.fresh e C λi x=>by omega
 have r:=h.aF a;refine bO (r.rS λcap m=>?_);refine Kz (r.kz cap) JK aC λG V g j d=>?_;have A:=j.bX w id;refine A.s1 aA λQ o8 u=>?_;have E:U.size<v6.size:=w.lt;rcases d.2 with⟨h0,_⟩|⟨b,cs,hq,ha,hbb,hle,hcl,ht⟩
 ·simp only at g;omega
 ·refine hR _ _ b (Ext.fresh (a.trans j) o8.ext λi x=>O) (zC _) O ⟨⟨G.cap,?_,?_⟩,⟨cs.drop (ints (mG s.tk)).length,?_⟩,O,h.len,h.ok,h.fit⟩
  ·simp only at g;omega
  ·simp only at g;rw[ha,g]at u;exact u
  ·have:ints (mG s.tk)++cs.drop (ints (mG s.tk)).length=cs:=by
    conv=>lhs;lhs;rw[←ht]
    exact mZ _ _
   rw[this];exact Wm o8 hbb O
end Go.Ar
namespace Go.Proofs
open Go.Vc
set_option maxRecDepth 100000
def X1.h:Hn:=.q .o1 (.q (.q .o3 .aK) (.q .o7 (.q (.q .o6 (.k (.loop [(20,.I)] (.q .o1 (.q (.c .l .l) (.q (.k (.q .o4 (.cW (.held true [15] (.tk [0,1,2,3,4,5,6,7,8] (.all [(9,.take 10 (.all [(11,.all [(12,.take 13 (.take 14 (.all [(15,.done)])))])]))])))))) .o2)))))) .aL)))
def X1.v (a:R2)(b:Hp)(c:Option Addr->Hp->Prop):Prop:=WJ.c a b λd e=>If (!d) (c none e) (bU a λf=>bM ((f.add 0).add 0) e λg=>bM ((f.add 0).add 1) e λh=>bM ((f.add 0).add 2) e λi=>aV #[.I g,.I h,.I i,.slice none 0 0] 187 e λj k=>bE a 3 k λm=>WU [bN] (λn=>n 0 k) λo (p:Int) q=>If (p<((m.len:Nat):Int)) (Ix m.a m.len p 3 λr=>aQ r 0 q λs=>aQ r 1 q λt=>aY r 2 q λu=>aV #[.I 0,.I 0,.pointer none] 192 q λv w=>aR v 0 (.I s) w λx=>aR v 1 (.I t) x λy=>aR v 2 (.pointer u) y λz=>dP z λaa=>bU (some j) λab=>aT aa ab 3 λac=>fR aa bN ((v.add 0).add 0) λ(ad:Int)=>fR aa bN ((v.add 0).add 1) λ(ae:Int)=>aU aa v 2 λaf=>Zk.c af z λag ah=>And (aa ah) <| aV #[.I ad,.I ae,.pointer ag] 192 ah λai aj=>And (aa aj) <| App ac 3 24 192 [.I 0,.I 0,.pointer none] ⟨some ai,1,1⟩ aj λak al=>And (aa al) <| bU (some j) λam=>aR am 3 (.slice ak.a ak.len ak.cap) al λan=>bL (p+1) λao=>o ao an) (c (some j) q))
theorem X1.o {a b c}(d:X1.v a b c):X1.c a b c:=Wa Tryz.func76 (x:=X1.h) (R0 d)
def WJ.h:Hn:=.q .o1 (.q (.cW (.seq [.op,.op,.op,.cY true 6 (RI.ops 6),.op])) .l)
def WJ.v (a:R2)(b:Hp)(c:aO):Prop:=bW (λd e=>c d e) λf=>If (!a.isNone) (bU a λg=>bM ((g.add 0).add 0) b λh=>f (decide (h>0)) b) (f false b)
theorem WJ.o {a b c}(d:WJ.v a b c):WJ.c a b c:=Wa Tryz.func111 (x:=WJ.h) (R0 d)
def Qy.h:Hn:=.q .o3 (.q (.q .o7 (.q .o2 .aJ)) (.q .o5 .l))
def Qy.v (a b c:Int)(d:Hp)(e:Option Addr->Int->Hp->Prop):Prop:=aV #[.I a,.I b,.I c] 85 d λf g=>aQ f 0 g λh=>aQ f 1 g λi=>aQ f 2 g λj=>ZL.c h i j g λk l m=>If (l != 0) (e none 1 m) (aQ f 0 m λn=>aQ f 1 m λo=>aQ f 2 m λp=>aV #[.I n,.I o,.I p,.slice none 0 0] 187 m λq r=>e (some q) 0 r)
theorem Qy.o {a b c d e}(f:Qy.v a b c d e):Qy.c a b c d e:=Wa Tryz.func118 (x:=Qy.h) (R0 f)
def W0.h:Hn:=.q .o1 (.q (.q .o3 .aK) (.q .o1 (.q .gE .aL)))
def W0.v (a:R2)(b:Hp)(c:Sl->Hp->Prop):Prop:=WJ.c a b λd e=>If (!d) (c ⟨none,0,0⟩ e) (aV #[.slice none 0 0] 240 e λf g=>bE a 3 g λi=>Wf.c i ⟨188,#[],#[.pointer (some f)]⟩ g λj k=>bU a λl=>aR l 3 (.slice j.a j.len j.cap) k λm=>ji f m λn=>c n m)
theorem W0.o {a b c}(d:W0.v a b c):W0.c a b c:=Wa Tryz.func140 (x:=W0.h) (R0 d)
def YM.h:Hn:=.q .o2 (.q (.q .o3 .aJ) (.q .o4 (.q (.q .o2 .aJ) (.q (.o 11) (.q (.oq 16) .l)))))
def YM.v (a:R2)(b:Int)(c:Hp)(d:Int->Int->Hp->Prop):Prop:=WJ.c a c λe f=>If (!e) (d 0 5 f) (X0.c a b f λg h=>If g.isNone (d 0 8 h) (bF g 2 h λj=>Yi.c j b h λk l m=>bU g λn=>bM ((n.add 0).add 1) m λo=>bL (o*256) λp=>bU a λq=>bM ((q.add 0).add 0) m λr=>bL (k*r) λs=>bL (p+s) λt=>d t 0 m))
theorem YM.o {a b c d}(e:YM.v a b c d):YM.c a b c d:=Wa Tryz.func165 (x:=YM.h) (R0 e)
def Xf.h:Hn:=.q .o2 (.q (.k (.q .o4 (.c .aL (.q .o3 .aJ)))) (.q .o1 (.q (.k (.loop [(6,.one .s)] (.q (.q .o4 (.c .l .l)) (.k (.q .o7 (.q (.q .o2 (.c .l .l)) .o5)))))) (.q .o3 .l))))
def Xf.v (a:R2)(b:Int)(c:Hp)(d:Sl->Int->Hp->Prop):Prop:=WJ.c a c λe f=>If (!e) (d ⟨none,0,0⟩ 5 f) (If (b<0) (d ⟨none,0,0⟩ 1 f) (WU [.s] (λg=>g ⟨none,0,0⟩ f) λh (i:Sl) j=>If (((i.len:Nat):Int)<b) (Y7.c a j λk l m=>If (!l) (d i 0 m) (aV #[.I k] 3 m λn o=>App i 1 8 3 [.I 0] ⟨some n,1,1⟩ o λp q=>h p q)) (d i 0 j)))
theorem Xf.o {a b c d}(e:Xf.v a b c d):Xf.c a b c d:=Wa Tryz.func173 (x:=Xf.h) (R0 e)
def Y6.h:Hn:=.q .o1 (.q (.q .o3 .aK) (.q (.o 11) (.q (.q .o2 .aJ) (.q (.q .o6 (.k (.loop [(31,.I)] (.q .o1 (.q (.c .l .l) (.q (.k (.q .o4 (.q (.oq 17) .aK))) .o2)))))) (.q (.o 11) (.q (.o 15) .aM))))))
def Y6.v (a:R2)(b:Int)(c:Hp)(d:aN):Prop:=WJ.c a c λe f=>If (!e) (d 5 f) (bU a λg=>bM ((g.add 0).add 0) f λh=>bM ((g.add 0).add 1) f λi=>bM ((g.add 0).add 2) f λj=>Vi.c b h i j f λk l m=>If (l != 0) (d l m) (bE a 3 m λo=>WU [bN] (λp=>p 0 m) λq (r:Int) s=>If (r<((o.len:Nat):Int)) (Ix o.a o.len r 3 λt=>aQ t 0 s λu=>aQ t 1 s λv=>aY t 2 s λw=>aV #[.I 0,.I 0,.pointer none] 192 s λx y=>aR x 0 (.I u) y λz=>aR x 1 (.I v) z λaa=>aR x 2 (.pointer w) aa λab=>bM ((x.add 0).add 1) ab λac=>bM ((x.add 0).add 1) ab λad=>bL ((if b>ac then b else ac)-(if b<ad then b else ad)) λae=>bU a λaf=>bM ((af.add 0).add 1) ab λag=>If (ae<ag) (d 9 ab) (bL (r+1) λah=>q ah ab)) (bE a 3 s λaj=>Wc.c aj b ⟨228,#[],#[]⟩ s λak al am=>bE a 3 am λao=>aV #[.I 0,.I b,.pointer k] 192 am λap aq=>Wh.c ao ak ⟨some ap,1,1⟩ aq λar au=>bU a λav=>aR av 3 (.slice ar.a ar.len ar.cap) au λaw=>d 0 aw)))
theorem Y6.o {a b c d}(e:Y6.v a b c d):Y6.c a b c d:=Wa Tryz.func175 (x:=Y6.h) (R0 e)
def Yd.h:Hn:=.q .o2 (.j8 [] (.q .o4 (.c (.cW (.held true [6] (.tk [0,1,2] (.all [(3,.all [(4,.all [(5,.all [(6,.done)])])])])))) .l)) (.q .o5 .l))
def Yd.v (a b:Int)(c:R2)(d:Addr)(e:Hp)(f:aO):Prop:=aV #[.I a,.I b,.pointer c] 192 e λg h=>Jn [] (λi=>bM ((g.add 0).add 0) i λj=>f (j==0) i) λk=>bM ((g.add 0).add 0) h λl=>If (l==0) (dP h λm=>fR m .s d λ(n:Sl)=>aU m g 2 λo=>ZX.c o h λp q r=>And (m r) <| aV #[.I p,.I q] 246 r λs t=>And (m t) <| App n 2 16 246 [.I 0,.I 0] ⟨some s,1,1⟩ t λu v=>And (m v) <| eP d (.slice u.a u.len u.cap) v λw=>k w) (k h)
theorem Yd.o {a b c d e f}(g:Yd.v a b c d e f):Yd.c a b c d e f:=Wa Tryz.func188 (x:=Yd.h) (R0 g)
def Zc.h:Hn:=.q .o2 (.q (.q .o3 .aJ) (.q .o1 (.q (.q .o3 (.k (.loop [(6,.one .b),(19,.I)] (.q .o1 (.q (.c .l .l) (.q (.k (.q .o5 (.q .o8 (.q (.q .o2 (.c (.q .o3 .l) .l)) (.cW (.seq [.op,.op,.cY false 2 [.op,.op],.op,.cY false 5 (RI.ops 5),.op])))))) .o2)))))) (.q (.q .o1 .aJ) (.q (.q .o3 (.k (.loop [(49,.I)] (.q .o1 (.q (.c .l .l) (.q (.k (.q .o3 (.q .o4 (.q .o6 .gE)))) .o2)))))) (.q .o4 .l))))))
def Zc.v (a:R2)(b:Sl)(c:Hp)(d:Sl->Int->Hp->Prop):Prop:=WJ.c a c λe f=>If (!e) (d ⟨none,0,0⟩ 5 f) (WU [.b,bN] (λg=>g false 0 f) λh (i:Bool) (j:Int) k=>If (j<((b.len:Nat):Int)) (Ix b.a b.len j 1 λl=>bM l k λm=>Xc.c a m k λn o p=>If (o != 0) (d ⟨none,0,0⟩ o p) (bW (λq r=>bW (λs t=>bL (j+1) λu=>h s u t) λv=>If q (v true r) (fE b 1 0 j (b.cap:Nat) λw=>Wq.c w m r λx y=>v x y)) λz=>If i (z true p) (z (!n) p))) (If i (d ⟨none,0,0⟩ 9 k) (WU [bN] (λaa=>aa 0 k) λab (ac:Int) ad=>If (ac<((b.len:Nat):Int)) (Ix b.a b.len ac 1 λae=>bM ae ad λaf=>X0.c a af ad λag ah=>bF ag 2 ah λaj=>ZN.c aj af ah λak al=>bU ag λam=>bM ((am.add 0).add 0) al λan=>bL (an-1) λao=>bU ag λap=>eP ((ap.add 0).add 0) (.I ao) al λaq=>bL (ac+1) λar=>ab ar aq) (W0.c a ad λau av=>d au 0 av))))
theorem Zc.o {a b c d}(e:Zc.v a b c d):Zc.c a b c d:=Wa Tryz.func207 (x:=Zc.h) (R0 e)
def X0.h:Hn:=.q .o1 (.q (.q .o6 (.k (.loop [(13,.I)] (.q .o1 (.q (.c .l .l) (.q (.k (.q .o2 (.q (.o 15) (.q .o2 (.c (.q .o7 .l) .l))))) .o2)))))) .aM)
def X0.v (a:R2)(b:Int)(c:Hp)(d:Option Addr->Hp->Prop):Prop:=bE a 3 c λf=>WU [bN] (λg=>g 0 c) λh (i:Int) j=>If (i<((f.len:Nat):Int)) (bE a 3 j λl=>Ix l.a l.len i 3 λm=>aY m 2 j λn=>Yi.c n b j λo p q=>If (p==0) (bE a 3 q λs=>Ix s.a s.len i 3 λt=>d (some t) q) (bL (i+1) λu=>h u q)) (d none j)
theorem X0.o {a b c d}(e:X0.v a b c d):X0.c a b c d:=Wa Tryz.func215 (x:=X0.h) (R0 e)
def Y7.h:Hn:=.q .o2 (.q .o1 (.q (.q .o6 (.k (.loop [(4,.one .p),(14,.I)] (.q .o1 (.q (.c .l .l) (.q (.k (.q .o2 (.q .o7 (.q (.cW (.gM true [] [(48,.one .b)] (.tk [0,1,2,3,4,5,6,7,8] (.all [(9,.take 10 (.take 11 (.split 34 (.take 12 (.take 13 (.take 14 (.split 37 (.take 15 (.take 16 (.take 17 (.take 18 (.take 19 (.take 20 (.take 21 (.take 22 (.take 23 (.take 24 (.take 25 (.done)))))))))))) (.take 15 (.take 16 (.take 17 (.take 19 (.take 20 (.take 21 (.all [(18,.all [(22,.all [(23,.take 24 (.take 25 (.done)))])]),(22,.all [(18,.all [(23,.take 24 (.take 25 (.done)))])])]))))))))))) (.take 12 (.take 13 (.take 14 (.take 15 (.take 16 (.take 17 (.take 18 (.take 19 (.take 20 (.take 21 (.take 22 (.take 23 (.take 24 (.take 25 (.done))))))))))))))))))])))) (.c .o2 .l))))) .o2)))))) (.q (.q .o2 .aJ) (.q .gE (.q .gE (.q .o3 .l))))))
def Y7.v (a:R2)(b:Hp)(c:Int->Bool->Hp->Prop):Prop:=bE a 3 b λe=>WU [.p,bN] (λf=>f none 0 b) λg (h:R2) (i:Int) j=>If (i<((e.len:Nat):Int)) (bE a 3 j λl=>Ix l.a l.len i 3 λm=>Jn [.b] (λ(n:Bool) o=>If n (bL (i+1) λp=>g (some m) p o) (bL (i+1) λq=>g h q o)) λr=>dP j λs=>bU (some m) λt=>fR s bN ((t.add 0).add 0) λ(u:Int)=>bU (some m) λv=>aU s v 2 λw=>YI.c w j λx y=>And (s y) <| If (u<x) (If h.isNone (r true y) (bU (some m) λz=>bU h λaa=>(bM ((z.add 0).add 0) y λab=>bM ((z.add 0).add 1) y λac=>And (s y) <| bM ((aa.add 0).add 0) y λad=>bM ((aa.add 0).add 1) y λae=>And (s y) <| W7.c ab ac ad ae y λaf ag=>And (s ag) <| r af ag) ∧ (bM ((aa.add 0).add 0) y λah=>bM ((aa.add 0).add 1) y λai=>And (s y) <| bM ((z.add 0).add 0) y λaj=>bM ((z.add 0).add 1) y λak=>And (s y) <| W7.c aj ak ah ai y λal am=>And (s am) <| r al am))) (r false y)) (If h.isNone (c 0 false j) (bF h 2 j λao=>ZD.c ao j λap aq ar=>bU h λau=>bM ((au.add 0).add 0) ar λav=>bL (av+1) λaw=>bU h λax=>eP ((ax.add 0).add 0) (.I aw) ar λay=>c ap true ay))
theorem Y7.o {a b c}(d:Y7.v a b c):Y7.c a b c:=Wa Tryz.func221 (x:=Y7.h) (R0 d)
def YX.h:Hn:=.q .o2 (.q .o6 .l)
def YX.v (a b:Int)(c:R2)(d:Int)(e:Hp)(f:aN):Prop:=aV #[.I a,.I b,.pointer c] 192 e λg h=>bM ((g.add 0).add 1) h λi=>bL (i-d) λj=>f j h
theorem YX.o {a b c d e f}(g:YX.v a b c d e f):YX.c a b c d e f:=Wa Tryz.func228 (x:=YX.h) (R0 g)
def Xc.h:Hn:=.q .o2 (.q (.q .o3 .aJ) (.q .o4 (.q (.q .o2 .aJ) (.q .gE .l))))
def Xc.v (a:R2)(b:Int)(c:Hp)(d:Bool->Int->Hp->Prop):Prop:=WJ.c a c λe f=>If (!e) (d false 5 f) (X0.c a b f λg h=>If g.isNone (d false 8 h) (bF g 2 h λj=>YB.c j b h λk l m=>d k l m))
theorem Xc.o {a b c d}(e:Xc.v a b c d):Xc.c a b c d:=Wa Tryz.func233 (x:=Xc.h) (R0 e)
def W7.h:Hn:=.q .o3 (.q (.cW (.seq [.op,.op,.op,.op,.op,.op,.cY false 12 [.op,.op,.op,.op,.op,.op,.cY true 5 (RI.ops 5)],.op])) .l)
def W7.v (a b c d:Int)(e:Hp)(f:aO):Prop:=aV #[.I a,.I b] 189 e λg h=>aV #[.I c,.I d] 189 h λi j=>aQ g 0 j λk=>aQ i 0 j λl=>bW (λm n=>f m n) λo=>If (k>l) (o true j) (aQ g 0 j λp=>aQ i 0 j λq=>bW (λr s=>o r s) λt=>If (p==q) (aQ g 1 j λu=>aQ i 1 j λv=>t (decide (u<v)) j) (t false j))
theorem W7.o {a b c d e f}(g:W7.v a b c d e f):W7.c a b c d e f:=Wa Tryz.func249 (x:=W7.h) (R0 g)
end Go.Proofs
namespace Go.Ar
open Go Go.Vc Go.Proofs
variable {U:Hp}{F:Rg}{p:Nat}{c:cD}{ps:List (Nat×Nat)}{ss:List cM}
def dN (ps:List (Nat×Nat)):List Nat:=ps.flatMap λx=>[x.1,x.2]
theorem H8 {ps:List (Nat×Nat)}{b:Nat}:b∈dN ps↔∃x∈ps,b=x.1\/b=x.2:=by simp[dN]
def dW:List (Nat×Nat)->List cM->List Value
 | x::ps,s::ss=>.int .i64 (s.many:Int) :: .int .i64 (s.st:Int) :: .pointer (some ⟨x.1,0,none⟩)::dW ps ss
 | _,_=>[]
theorem Kj:∀{ps:List (Nat×Nat)} {ss:List cM},ps.length=ss.length->(dW ps ss).length=3*ss.length
 | [],[],_=>rfl
 | x::ps,s::ss,h=>by simp only[dW,zV]at *;rw[Kj O];omega
theorem Q0:∀{ps:List (Nat×Nat)} {ss:List cM} {i:Nat} {x:Nat×Nat} {s:cM},ps[i]?=some x->ss[i]?=some s →
 (dW ps ss)[3*i]?=some (.int .i64 (s.many:Int))/\(dW ps ss)[3*i+1]?=some (.int .i64 (s.st:Int))/\(dW ps ss)[3*i+2]?=some (.pointer (some ⟨x.1,0,none⟩))
 | [],_,_,_,_,h,_=>by simp at h
 | _::_,[],_,_,_,_,h=>by simp at h
 | y::ps,t::ss,0,x,s,h1,h2=>by simp at h1 h2;subst h1;subst h2;simp[dW]
 | y::ps,t::ss,i+1,x,s,h1,h2=>by
  have:=Q0 (ps:=ps) (ss:=ss) (i:=i) (by simpa using h1) (by simpa using h2);simp only[dW];rw[show 3*(i+1)=3*i+3 by omega];simpa using this
theorem Ve:∀{ps ps':List (Nat×Nat)} {ss ss':List cM},ps.length=ss.length->dW (ps++ps') (ss++ss')=dW ps ss++dW ps' ss'
 | [],_,[],_,_=>rfl
 | x::ps,_,s::ss,_,h=>by simp only[lT,dW,Ve (ps:=ps) (ss:=ss) (by simpa using h)]
theorem Ji:∀{ps:List (Nat×Nat)} {ss:List cM},∀v∈dW ps ss,dJ v=true
 | [],_,v,h=>by simp[dW]at h
 | _::_,[],v,h=>by simp[dW]at h
 | x::ps,s::ss,v,h=>by
  simp only[dW,zW]at h;rcases h with rfl|rfl|rfl|h
  ·rfl
  ·rfl
  ·rfl
  ·exact Ji v h
structure eX (U:Hp) (F:Rg) (p:Nat) (c:cD) (ps:List (Nat×Nat)) (ss:List cM):Prop where
 hd:∃sl:Sl,bY U p [.int .i64 (c.size:Int),.int .i64 (c.bK:Int),.int .i64 (c.batch:Int),.slice sl.a sl.len sl.cap]/\bR sl 3 (dW ps ss) U (λb=>F b/\b≠p/\b∉dN ps)
 sp:∀(i:Nat) (x:Nat×Nat) s,ps[i]?=some x->ss[i]?=some s->ic U x.1 x.2 c s
 fp:F p
 fb:∀b∈dN ps,F b
 nd:(p::dN ps).Nodup
 len:ps.length=ss.length
 ok:c.ok
 nq:ss.Pairwise (λa b=>a.st<b.st)
theorem eX.loc:dH λU F=>eX U F p c ps ss:=λU C F G h H j=>by
 obtain⟨sl,a,A⟩:=h.hd;have bV:∀b,b<U.size->F b->C[b]?=U[b]? := λb a d=>(j b a d).2;have u:∀{b:Nat} {cs:List Value},bY U b cs->F b->bY C b cs:=by
  rintro b cs ⟨e,D⟩ d;exact⟨e,(bV b (bY.lt ⟨e,D⟩) d).trans D⟩
 have lt:∀b∈dN ps,b<U.size:=by
  intro b a;obtain⟨x,m,y⟩:=H8.1 a;obtain⟨i,B⟩:=zN m;have w:=(cV.1 B).1;have:=(h.sp i x _ B (cQ (by rw[←h.len];exact w))).lt;rcases y with rfl|rfl
  ·exact this.1
  ·exact this.2
 refine⟨⟨sl,u a h.fp,bR.loc _ _ _ _ _ _ _ A H λb a d=>⟨⟨(j b a d.1).1,d.2⟩,(j b a d.1).2⟩⟩,λi x s m z=>?_,(j p a.lt h.fp).1,λb a=>(j b (lt b a) (h.fb b a)).1,h.nd,h.len,h.ok,h.nq⟩;have g:=h.sp i x s m z;have K:x.1∈dN ps:=H8.2 ⟨x,zE m,.inl rfl⟩;have E:x.2∈dN ps:=H8.2 ⟨x,zE m,.inr rfl⟩;obtain⟨J,L,hd⟩:=g.hd;obtain⟨r,A⟩:=g.row;exact⟨⟨J,L,u hd (h.fb _ K)⟩,⟨r,u A (h.fb _ E)⟩,g.ne,g.len,g.ok,g.fit⟩
theorem eX.aF {σ':Hp}(h:eX U F p c ps ss)(e:aG U σ'):eX σ' F p c ps ss:=dH.aF eX.loc h e
theorem eX.lZ (h:eX U F p c ps ss):ss.length<=1024:=by
 have key:∀i (hi:i<ss.length),i<=ss[i].st:=by
  intro i
  induction i with
  | zero=>intro _;omega
  | succ i ih=>
   intro hi;have b:=ih O;have d:=zr.1 h.nq i (i+1) O hi O;omega
 rcases uW ss.length with h0|h0
 ·omega
 ·have a:ss.length-1<ss.length:=by omega
  have b:=key _ a;have hp:ss.length-1<ps.length:=by rw[h.len];exact a
  have d:=(h.sp _ _ _ (cQ hp) (cQ a)).fit;have:=h.ok.2.2.2.1;omega
structure rW (U:Hp) (F:Rg) (p:Nat) (ps:List (Nat×Nat)) (ss:List cM) (sl:Sl) (rb:Nat) (cs:List Value):Prop where
 a:sl.a=some ⟨rb,0,none⟩
 bX:bY U rb cs
 fr:F rb/\rb≠p/\rb∉dN ps
 get:∀{j:Nat} {v:Value},(dW ps ss)[j]?=some v->cs[j]?=some v
 BV:3*ss.length<=cs.length
theorem eX.sl (h:eX U F p c ps ss):∃sl:Sl,bY U p [.int .i64 (c.size:Int),.int .i64 (c.bK:Int),.int .i64 (c.batch:Int),.slice sl.a sl.len sl.cap]/\sl.len=ss.length/\(ss≠[]->∃rb cs,rW U F p ps ss sl rb cs):=by
 obtain⟨sl,r,g⟩:=h.hd;have m:=g.1;rw[Kj h.len]at m;refine⟨sl,r,O,λe=>?_⟩;have i:0<ss.length:=qo.2 e;rcases g.2 with⟨h0,_⟩|⟨b,cs,hq,ha,hbb,hle,hcl,ht⟩
 ·omega
 ·refine⟨b,cs,ha,hbb,hq,λ{j v} d=>?_,?_⟩
  ·rw[←ht,zY]at d;split at d
   ·exact d
   ·cases d
  ·have:=congrArg List.length ht;rw[zL,Kj h.len]at this;omega
theorem eX.jL (h:eX U F p c ps ss){i:Nat}(hi:i<ss.length):∃x s,ps[i]?=some x/\ss[i]?=some s/\ic U x.1 x.2 c s:=by
 have a:i<ps.length:=by rw[h.len];exact hi
 have b:ps[i]?=some ps[i]:=cQ a;exact⟨_,_,b,cQ hi,h.sp i _ _ b (cQ hi)⟩
theorem V1 (h:eX U F p c ps ss){R:aO}(hR:R true U):WJ.c (aW p) U R:=by
 refine WJ.o ?_;unfold WJ.v;obtain⟨sl,b,d,e⟩:=h.sl;have a:=h.ok;unfold cD.ok at a;refine bW.intro (cJ rfl (bO (b.gA rfl ?_)));rw[zI O];exact hR
def iz (x:Int):Prop:=x<=9223372036854775807
theorem Ce (h:eX U F p c ps ss)(x:Int)(hx:iz x){R:Option Addr->Hp->Prop}(h0:lh c ss x=none->R none U)
 (h1:∀(i:Nat) sl rb cs,lh c ss x=some i->i<ss.length->bY U p [.int .i64 (c.size:Int),.int .i64 (c.bK:Int),.int .i64 (c.batch:Int),.slice sl.a sl.len sl.cap]->rW U F p ps ss sl rb cs->R (some ⟨rb,3*i,none⟩) U):X0.c (aW p) x U R:=by
 refine X0.o ?_;unfold X0.v;obtain⟨sl,A,Q,L⟩:=h.sl;have G:=h.lZ;refine bO (A.rS rfl ?_);refine Zw (a:=bN) (λ(t:Int) D=>∃i:Nat,t=(i:Int)/\i<=ss.length/\D=U/\∀(j:Nat) s,j<i->ss[j]?=some s->idx c s x=none) (λt _=>ss.length-t.toNat) ⟨0,rfl,O,rfl,λj s y=>O⟩ ?_;rintro t D ⟨i,rfl,P,rfl,u⟩;refine cL (λC=>?_) λB=>?_
 ·simp only at C;have b:i<ss.length:=by omega
  obtain⟨J,s,hp,z,M⟩:=h.jL b;obtain⟨rb,cs,E⟩:=L (by rintro rfl;simp at b);have N:=Q0 hp z;refine bO (A.rS rfl ?_);rw[E.a];refine ix O O ?_;rw[add_lit];refine E.bX.rP (x:=some ⟨J.1,0,none⟩) ?_ ?_
  ·have:=E.get N.2.2;rw[show 0+(i:Int).toNat*3+2=3*i+2 by omega];exact this
  have w:∀r,idx c s x=some r->lh c ss x=some i:=by
   intro r d;refine pd.2 ⟨b,?_,λj y=>?_⟩
   ·have:ss[i]=s:=by rw[cQ b]at z;simpa using z
    rw[this,d];rfl
   ·rw[u j _ y (cQ O)];simp
  refine Av M x hx (λr d=>cJ rfl (bO (A.rS rfl ?_))) λK=>bZ rfl ?_
  ·rw[E.a];refine ix O O ?_;rw[add_lit,show 0+(i:Int).toNat*3=3*i by omega];exact h1 i sl rb cs (w r d) b A E
  ·refine cC (m:=i+1) O O ⟨⟨i+1,rfl,O,rfl,λj H y g=>?_⟩,O⟩;by_cases e:j=i
   ·subst e;rw[z]at g;cases g;exact K
   ·exact u j H O g
 ·refine h0 ?_;refine uD.2 λs z=>?_;obtain⟨j,y⟩:=zN z;have:=(cV.1 y).1;rw[u j s (by simp only at B;omega) y];rfl
theorem Uq {x:Int}{k:Nat}{s:cM}(hk:lh c ss x=some k)(hs:ss[k]?=some s):eD c ss x=(obj c s x).map s.is:=by
 unfold eD;rw[hk];simp only[hs];rfl
theorem Dd {x:Int}(hk:lh c ss x=none):eD c ss x=none:=by unfold eD;rw[hk]
theorem Fk (h:eX U F p c ps ss)(x:Int)(hx:iz x){R:Bool->Int->Hp->Prop}(h1:∀b,eD c ss x=some b->R b 0 U)(h0:eD c ss x=none->R false 8 U):Xc.c (aW p) x U R:=by
 refine Xc.o ?_;unfold Xc.v;refine V1 h (bZ rfl (Ce h x hx (λa=>cJ rfl (h0 (Dd a))) λi sl B z d m A E=>bZ rfl (bO ?_)));obtain⟨y,s,hp,g,w⟩:=h.jL m;have u:=Q0 hp g;refine E.bX.rP (x:=some ⟨y.1,0,none⟩) (E.get u.2.2) ?_;have e:=Uq d g;exact Of w x hx (λj r=>h1 _ (by rw[e,r];rfl)) λa=>h0 (by rw[e,a];rfl)
theorem GF {x:Int}{k:Nat}{s:cM}(hk:lh c ss x=some k)(hs:ss[k]?=some s):rk c ss x=(idx c s x).map (at_ c s):=by
 unfold rk;rw[hk];simp only[hs]
theorem Ia {x:Int}(hk:lh c ss x=none):rk c ss x=none:=by unfold rk;rw[hk]
theorem O3 {x:Int}{k:Nat}{s:cM}(hk:lh c ss x=some k)(hs:ss[k]?=some s):∃i,idx c s x=some i:=by
 obtain⟨b,a,_⟩:=pd.1 hk;have:ss[k]=s:=by rw[cQ b]at hs;simpa using hs
 rw[this]at a;exact qh.1 a
theorem ON (h:eX U F p c ps ss)(x:Int)(hx:iz x){R:Int->Int->Hp->Prop}(h1:∀a,rk c ss x=some a->R (a:Int) 0 U)(h0:rk c ss x=none->R 0 8 U):YM.c (aW p) x U R:=by
 refine YM.o ?_;unfold YM.v;refine V1 h (bZ rfl (Ce h x hx (λd=>cJ rfl (h0 (Ia d))) λi sl H K e A C E=>bZ rfl (bO ?_)));obtain⟨D,s,hp,u,w⟩:=h.jL A;have z:=Q0 hp u;obtain⟨r,g⟩:=O3 e u;have B:=GF e u;have G:=h.ok;unfold cD.ok at G;have j:=((UG O).1 g).2.2;rw[w.len]at j;have d:=h.ok.kA;have y:=w.fit;have J:r*c.size<=128*512:=lV O O;refine E.bX.rP (x:=some ⟨D.1,0,none⟩) (E.get z.2.2) ?_;refine Av w x hx (λL b=>?_) λd=>by rw[g]at d;cases d
 rw[g]at b;cases b;refine bO (E.bX.gA (x:=s.st) (E.get z.2.1) (cC (m:=s.st*256) aA O (bO (C.gA rfl ?_))));refine cC (m:=r*c.size) aA O (cC (m:=at_ c s r) (by simp[at_]) (by unfold at_;omega) (h1 _ (by rw[B,g];rfl)))
theorem uK {h:Hp}{rb i:Nat}{cs:List Value}{x y:Int}{z:Option Addr}{e:Nat}(hb:bY h rb cs)(h0:cs[3*i]?=some (.int .i64 x))(h1:cs[3*i+1]?=some (.int .i64 y))(h2:cs[3*i+2]?=some (.pointer z))
 {K:Int->Int->Option Addr->Prop} (hK:K x y z):gO .i64 (Addr.add ⟨rb,3*i,none⟩ 0) h λu=>gO .i64 (Addr.add ⟨rb,3*i,none⟩ 1) h λv=>fW (Addr.add ⟨rb,3*i,none⟩ 2) h λw=>K u v w:=
 hb.rI h0 (hb.rI h1 (hb.rP h2 hK))
theorem Da {h:Hp}{x y:Int}{z:Option Addr}{e:Nat}{K:Addr->Hp->Prop}(hK:∀h',aG h h'->bY h' h.size [.int .i64 x,.int .i64 y,.pointer z]->K ⟨h.size,0,none⟩ h') :
 Nw (.cells #[.int .i64 0,.int .i64 0,.pointer none] e (0,0)) h λn v=>eP (n.add 0) (.int .i64 x) v λv1=>eP (n.add 1) (.int .i64 y) v1 λv2=>eP (n.add 2) (.pointer z) v2 λv3=>K n v3:=by
 refine nw (cs:=[.int .i64 0,.int .i64 0,.pointer none]) λv m e j=>j.s1 aA λv1 o1 g=>g.s1 aA λv2 o2 d=>d.s1 aA λv3 o3 b=>?_;refine hK v3 ?_ b;exact Ext.fresh (Ext.fresh (Ext.fresh e o1.ext λi a=>O) o2.ext λi a=>O) o3.ext λi a=>by omega
def je (c:cD)(l:List Nat):List Value:=l.flatMap λ(s:Nat)=>[.int .i64 (s:Int),.int .i64 (c.bK:Int)]
theorem Wk5 (c:cD)(l:List Nat):(je c l).length=2*l.length:=by
 induction l with
 | nil=>rfl
 | cons x l ih=>simp only[je,mU,zR,zV,lS]at *;omega
theorem Oe (hc:c.ok){R:Option Addr->Int->Hp->Prop}(hR:∀σ' p,aG U σ'->U.size<=p->p<σ'.size->eX σ' (· = p) p c [] []->R (some ⟨p,0,none⟩) 0 σ'):Qy.c c.size c.bK c.batch U R:=by
 refine Qy.o ?_;unfold Qy.v;refine nw (cs:=[.int .i64 c.size,.int .i64 c.bK,.int .i64 c.batch]) λv w e d=>?_;refine d.rI rfl (d.rI rfl (d.rI rfl (Ie _ _ _ (λx m e1 e2 u s g=>?_) λb=>?_)))
 case refine_2=>rw[(EL c).2 hc]at b;cases b
 have a:=g.bX d id;refine bZ rfl (a.rI rfl (a.rI rfl (a.rI rfl (nw (cs:=[.int .i64 c.size,.int .i64 c.bK,.int .i64 c.batch,.slice none 0 0]) λy r i j=>?_))));exact hR _ _ ((e.trans g).trans i) (by have:=g.1;omega) O ⟨⟨⟨none,0,0⟩,j,bR.nil _ _ _ _⟩,by simp,rfl,by simp[dN],by simp[dN],rfl,hc,by simp⟩
theorem P2 (a b a' b':Nat){R:aO}(hR:∀σ',aG U σ'->R (decide (a>a')||(a==a'&&decide (b<b'))) σ'):W7.c (a:Int) (b:Int) (a':Int) (b':Int) U R:=by
 refine W7.o ?_;unfold W7.v;refine nw (cs:=[.int .i64 a,.int .i64 b]) λv s e p=>nw (cs:=[.int .i64 a',.int .i64 b']) λr m e1 i=>?_;have g:=e1.bX p id;have d:=hR _ (e.trans e1);refine g.rI rfl (i.rI rfl (bW.intro (cL (λh=>?_) λh=>?_)))
 ·have:decide (a>a')=true:=by simpa using h
  rw[this,Bool.true_or]at d;exact d
 ·have:decide (a>a')=false:=by simpa using h
  rw[this,ra]at d;refine g.rI rfl (i.rI rfl (bW.intro ?_));rw[jg];refine cU (λj=>?_) λj=>?_
  ·rw[j,sF]at d;refine g.rI rfl (i.rI rfl ?_);have:decide ((b:Int)<(b':Int))=decide (b<b'):=by rw[decide_eq_decide];omega
   rw[this];exact d
  ·rw[j,rO]at d;exact d
theorem Ke:∀{i k:Nat},Zy ss i=some k->k<i/\∃s,ss[k]?=some s/\s.many<s.tk.length
 | 0,_,h=>by simp[Zy]at h
 | i+1,k,h=>by
  have up:Zy ss i=some k->k<i+1/\∃s,ss[k]?=some s/\s.many<s.tk.length:=λh=>by
   have:=Ke h;exact⟨O,this.2⟩
  simp only[Zy]at h;split at h
  ·rename_i x hx;split at h
   ·rename_i hlt;have a:i<i+1/\∃s,ss[i]?=some s/\s.many<s.tk.length:=⟨O,x,hx,hlt⟩;split at h
    ·rename_i j hj;split at h
     ·split at h
      ·cases h;exact a
      ·cases h;exact up hj
     ·cases h;exact a
    ·cases h;exact a
   ·exact up h
  ·exact up h
theorem Ac {s:cM}(h:s.many<s.tk.length):∃i,low s=some i/\i<s.tk.length/\s.is i=false:=by
 unfold low;cases hf:s.tk.findIdx? (· == false)with
 | some i=>
  obtain⟨a,b,_⟩:=pd.1 hf;refine⟨i,rfl,a,?_⟩;have:s.tk[i]=false:=by simpa using b
  simp[cM.is,zM,cQ a,this]
 | none=>
  exfalso;have d:=uD.1 hf;have:s.many=s.tk.length:=by
   unfold cM.many;rw[List.count_eq_length];intro x hx;have:=d x hx;cases x
   ·simp at this
   ·rfl
  omega
theorem IN:∀{ps:List (Nat×Nat)} {ss:List cM} {k:Nat} {s s':cM},ps.length=ss.length->ss[k]?=some s->s'.st=s.st->dW ps (ss.set k s')=(dW ps ss).set (3*k) (.int .i64 (s'.many:Int))
 | [],[],_,_,_,_,h,_=>by simp at h
 | [],_::_,_,_,_,h,_,_=>by simp at h
 | _::_,[],_,_,_,_,h,_=>by simp at h
 | x::ps,t::ss,0,s,s',_,h,e=>by simp at h;subst h;simp[dW,e]
 | x::ps,t::ss,k+1,s,s',hl,h,e=>by
  simp only[sd,dW];rw[IN (ps:=ps) (ss:=ss) (s:=s) (by simpa using hl) (by simpa using h) e];rw[show 3*(k+1)=3*k+1+1+1 by omega];simp
theorem Ly {h:Hp}{b:Nat}{cs cs':List Value}(h1:bY h b cs)(h2:bY h b cs'):cs=cs':=by
 obtain⟨e,d⟩:=h1;obtain⟨g,a⟩:=h2;rw[d]at a;simp only[Option.some.injEq,Obj.cells.injEq]at a;simpa using congrArg Array.toList a.1
theorem QB {x:Nat×Nat}{i:Nat}(hx:ps[i]?=some x):x.1∈dN ps/\x.2∈dN ps:=
 ⟨H8.2 ⟨x,zE hx,.inl rfl⟩,H8.2 ⟨x,zE hx,.inr rfl⟩⟩
theorem Fw:∀{ps:List (Nat×Nat)},(dN ps).Nodup->∀{i j:Nat} {x y:Nat×Nat},ps[i]?=some x->ps[j]?=some y->i≠j->∀b,(b=x.1\/b=x.2)->¬(b=y.1\/b=y.2)
 | [],_,_,_,_,_,h,_,_=>by simp at h
 | z::ps,hn,i,j,x,y,h1,h2,hij=>by
  have hn':z.1∉dN ps/\z.2∉dN ps/\z.1≠z.2/\(dN ps).Nodup:=by
   simp only[dN,mU,lT,qv,zo,zW,not_or]at hn;exact⟨hn.1.2,hn.2.1,hn.1.1,hn.2.2⟩
  intro b hb hb'
  match i,j,hij with
  | 0,0,h=>exact h rfl
  | 0,j+1,_=>
   simp at h1;subst h1;have:=QB (ps:=ps) (i:=j) (by simpa using h2);rcases hb with rfl|rfl<;>rcases hb' with e|e<;>rw[e]at hn'<;>simp[this]at hn'
  | i+1,0,_=>
   simp at h2;subst h2;have:=QB (ps:=ps) (i:=i) (by simpa using h1);rcases hb with rfl|rfl<;>rcases hb' with e|e<;>rw[←e]at hn'<;>simp[this]at hn'
  | i+1,j+1,h=>exact Fw hn'.2.2.2 (by simpa using h1) (by simpa using h2) O b hb hb'
theorem eX.qg (h:eX U F p c ps ss){k:Nat}{x:Nat×Nat}{s s':cM}(hx:ps[k]?=some x)(hs:ss[k]?=some s)(hst:s'.st=s.st){σ1:Hp}(e1:Ext (λb=>b=x.1\/b=x.2) U σ1)(hS:ic σ1 x.1 x.2 c s')
 {sl:Sl} {rb:Nat} {cs:List Value} (hb:bY U p [.int .i64 (c.size:Int),.int .i64 (c.bK:Int),.int .i64 (c.batch:Int),.slice sl.a sl.len sl.cap]) (E:rW U F p ps ss sl rb cs)
 {K:aP} (hK:∀σ2,Ext F U σ2->eX σ2 F p c ps (ss.set k s')->K σ2):eP ⟨rb,3*k,none⟩ (.int .i64 (s'.many:Int)) σ1 K:=by
 obtain⟨mR,C,P⟩:=h.hd;have B:mR=sl:=by
  have:=Ly C hb;simp at this;obtain⟨a,n,c⟩:=sl;obtain⟨W,V,S⟩:=mR;simp at this ⊢;exact this
 subst B;have g:=QB hx;have e:=h.nd;simp only[zo]at e;have u:=(cV.1 hs).1;have D:=(bR.loc mR 3 (dW ps ss)).bV P e1 λb hb N=>λd=>N.2.2 (by rcases d with rfl|rfl;exact g.1;exact g.2);have G:=e1.bX hb λd=>e.1 (by rcases d with h|h<;>rw[h];exact g.1;exact g.2)
 refine D.st (j:=3*k) (by rw[Kj h.len];omega) (λb r=>by rw[E.a]at r;cases r;rfl) λσ2 e2 J=>?_;have H:Ext F U σ2:=(e1.sub λi A=>h.fb i (by rcases A with rfl|rfl;exact g.1;exact g.2)).trans (e2.sub λi A=>A.1);refine hK σ2 H ⟨⟨mR,e2.bX G λd=>d.2.1 rfl,?_⟩,λi y t m z=>?_,h.fp,h.fb,h.nd,by simpa using h.len,h.ok,?_⟩
 ·rw[IN h.len hs hst];exact J
 ·have w:=QB m;have Q:ic σ1 y.1 y.2 c t:=by
   by_cases hik:i=k
   ·subst hik;rw[hx]at m;cases m;rw[zK u]at z;cases z;exact hS
   ·rw[zd (Ne.symm hik)]at z;have M:=Fw e.2 m hx hik;exact(h.sp i y t m z).bV e1 (M _ (.inl rfl)) (M _ (.inr rfl))
  exact Q.bV e2 (λd=>d.2.2 w.1) (λd=>d.2.2 w.2)
 ·have:(ss.set k s').map (·.st)=ss.map (·.st):=by
   apply zp;intro i;simp only[zk];by_cases hik:i=k
   ·subst hik;rw[zK u,hs];simp[hst]
   ·rw[zd (Ne.symm hik)]
  have L:=h.nq;rw[←qJ (f:=cM.st) (R:=(· < ·))]at L ⊢;rw[this];exact L
theorem κ (h:eX U F p c ps ss){R:Int->Bool->Hp->Prop}(h1:∀x ss',jr c ss=some (x,ss')->∀σ',Ext F U σ'->eX σ' F p c ps ss'->R (x:Int) true σ')(h0:jr c ss=none->∀σ',aG U σ'->R 0 false σ') :
 Y7.c (aW p) U R:=by
 refine Y7.o ?_;unfold Y7.v;obtain⟨sl,W,hl,hr⟩:=h.sl;have hfew:=h.lZ;have hn:=h.ok.kA;obtain⟨d,cs,E⟩:∃d cs,ss≠[]->rW U F p ps ss sl d cs:=by
  by_cases hne:ss=[]
  ·exact⟨0,[],λh=>absurd hne h⟩
  ·obtain⟨d,cs,E⟩:=hr hne;exact⟨d,cs,λ_=>E⟩
 refine bO (W.rS rfl ?_);refine Vu (a:=.p) (bb:=bN) (λ(mT:Option Addr) (t:Int) H=>∃i:Nat,t=(i:Int)/\i<=ss.length/\aG U H/\mT=(Zy ss i).map λk=>⟨d,3*k,none⟩) (λ_ t _=>ss.length-t.toNat) ⟨0,rfl,O,Ext.refl _ _,rfl⟩ ?_;rintro mT t H ⟨i,rfl,hi,e,rfl⟩;refine cL (λX=>?_) λS=>?_
 ·simp only at X;have K:i<ss.length:=by omega
  have E:=E (by rintro rfl;simp at K);obtain⟨N,s,hp,D,w⟩:=h.jL K;have z:=Q0 hp D;have P:=w.len;refine bO ((e.bX W id).rS rfl ?_);rw[E.a];refine ix O O ?_;rw[add_lit,show 0+(i:Int).toNat*3=3*i by omega];have Eb:=e.bX E.bX id;have B:Zy ss (i+1)=if s.many<s.tk.length then(match Zy ss i with
   | some j=>match ss[j]? with
    | some y=>if xd s y then some i else some j
    | none=>some i
   | none=>some i)else Zy ss i:=by
   simp only[Zy,D];rfl
  have J:∀(r:Bool) (v:Hp),aG U v->(if r then some i else Zy ss i)=Zy ss (i+1) →
   If r (Ar .i64 ((i:Int)+1) λb=>(∃j:Nat,b=(j:Int)/\j<=ss.length/\aG U v/\some (⟨d,3*i,none⟩:Addr)=(Zy ss j).map λk=>⟨d,3*k,none⟩)/\ss.length-b.toNat<ss.length-(i:Int).toNat)
    (Ar .i64 ((i:Int)+1) λb=>(∃j:Nat,b=(j:Int)/\j<=ss.length/\aG U v/\((Zy ss i).map λk=>(⟨d,3*k,none⟩:Addr))=(Zy ss j).map λk=>⟨d,3*k,none⟩)/\ss.length-b.toNat<ss.length-(i:Int).toNat):=by
   intro r v ev hr';cases r
   ·refine bZ rfl (cC (m:=i+1) O O ⟨⟨i+1,rfl,O,ev,?_⟩,O⟩);rw[←hr'];rfl
   ·refine cJ rfl (cC (m:=i+1) O O ⟨⟨i+1,rfl,O,ev,?_⟩,O⟩);rw[←hr'];rfl
  refine Jn.intro ⟨λG=>bY G d cs,Eb,bO ⟨_,λG w=>by rw[add_lit,add_lit,w.cell];exact E.get z.1,bO ⟨_,λG w=>by rw[add_lit,w.cell];exact E.get z.2.2,?_⟩⟩⟩;refine Χ (w.aF e) ⟨Eb,?_⟩;refine cL (λhlt2=>?_) λhge2=>?_
  ·have hm:s.many<s.tk.length:=by omega
   rw[zB hm]at B;cases hbf:Zy ss i with
   | none=>
    rw[hbf]at B J;exact cJ rfl (J true H e B.symm)
   | some j=>
    rw[hbf]at B J;obtain⟨hji,y,hy,hym⟩:=Ke hbf;simp only[hy]at B;have Z:j<ps.length:=by rw[h.len];omega
    have A:=Q0 (cQ Z) hy;have fin:W7.c (s.many:Int) (s.st:Int) (y.many:Int) (y.st:Int) H λab v3=>bY v3 d cs ∧
     If ab (Ar .i64 ((i:Int)+1) λb=>(∃j:Nat,b=(j:Int)/\j<=ss.length/\aG U v3/\some (⟨d,3*i,none⟩:Addr)=(Zy ss j).map λk=>⟨d,3*k,none⟩)/\ss.length-b.toNat<ss.length-(i:Int).toNat)
      (Ar .i64 ((i:Int)+1) λb=>(∃j':Nat,b=(j':Int)/\j'<=ss.length/\aG U v3/\((some j).map λk=>(⟨d,3*k,none⟩:Addr))=(Zy ss j').map λk=>⟨d,3*k,none⟩)/\ss.length-b.toNat<ss.length-(i:Int).toNat):=by
     refine P2 _ _ _ _ λv3 e3=>⟨e3.bX Eb id,J _ v3 (e.trans e3) ?_⟩;rw[B];rfl
    refine bZ rfl (bO (bO ⟨?_,?_⟩))
    ·exact Eb.gA (E.get z.1) (Eb.gA (E.get z.2.1) ⟨Eb,Eb.gA (E.get A.1) (Eb.gA (E.get A.2.1) ⟨Eb,fin⟩)⟩)
    ·exact Eb.gA (E.get A.1) (Eb.gA (E.get A.2.1) ⟨Eb,Eb.gA (E.get z.1) (Eb.gA (E.get z.2.1) ⟨Eb,fin⟩)⟩)
  ·have hm:¬s.many<s.tk.length:=by omega
   rw[zA hm]at B;exact J false H e B.symm
 ·have hii:i=ss.length:=by simp only at S;omega
  subst hii;cases hbf:Zy ss ss.length with
  | none=>
   refine cJ rfl (h0 ?_ _ e);simp[jr,mT,hbf]
  | some k=>
   obtain⟨hk,s,D,hsm⟩:=Ke hbf;have E:=E (by rintro rfl;simp at hk);obtain⟨N,s',hp,L,w⟩:=h.jL hk;rw[D]at L;cases L;have z:=Q0 hp D;obtain⟨r,C,Q,aa⟩:=Ac hsm;have H:=h.aF e;have one:jr c ss=some (at_ c s r,ss.set k (s.put r true)):=by simp[jr,mT,hbf,D,C]
   have E':rW _ F p ps ss sl d cs:=⟨E.a,e.bX E.bX id,E.fr,E.get,E.BV⟩;refine bZ rfl (bO (E'.bX.rP (x:=some ⟨N.1,0,none⟩) (E.get z.2.2) ?_));refine L7 (w.aF e) C λv5 e5 Y=>bO ?_;have M:=QB hp;have V:¬(d=N.1\/d=N.2):=λhh=>E.fr.2.2 (by rcases hh with h|h<;>rw[h];exact M.1;exact M.2)
   have hml:=Ba s;have g:=yo Q true;rw[aa]at g;have u:(s.put r true).many=s.many+1:=by simp at g;omega
   have P:=w.len;refine(e5.bX E'.bX V).gA (E.get z.1) (cC (m:=s.many+1) O O (bO ?_));rw[add_lit,add_lit,zw,zw,←u];exact H.qg (s':=s.put r true) hp D rfl e5 Y (e.bX W id) E' λv6 e6 h6=>h1 _ _ one v6 (e.to.trans e6) h6
theorem σ {k:Nat}{s s':cM}(hs:ss[k]?=some s):pR (ss.set k s')+(s.tk.length-s.many)=pR ss+(s'.tk.length-s'.many):=by
 unfold pR
 induction ss generalizing k with
 | nil=>simp at hs
 | cons x ss ih=>
  cases k with
  | zero=>simp at hs;subst hs;simp;omega
  | succ k=>
   have:=ih (by simpa using hs);simp only[sd,zX,mN];omega
theorem Ε {x:Nat}{ss':List cM}(h:jr c ss=some (x,ss')):pR ss'+1=pR ss:=by
 unfold jr at h;split at h
 ·rename_i k hk;obtain⟨_,s,e,b⟩:=Ke hk;rw[e]at h;simp only at h;split at h
  ·rename_i i hi;cases h;obtain⟨r,g,d,a⟩:=Ac b;rw[hi]at g;cases g;have m:=σ (s':=s.put i true) e;have j:=yo d true;rw[a]at j;have p:(s.put i true).tk.length=s.tk.length:=by simp[cM.put]
   simp at j;omega
  ·cases h
 ·cases h
theorem eX.room (h:eX U F p c ps ss):pR ss<=131072:=by
 have key:∀l:List cM,(∀s∈l,s.tk.length<=128)->pR l<=128*l.length:=by
  intro l
  induction l with
  | nil=>intro _;simp[pR]
  | cons x l ih=>
   intro hl;have j:=hl x aA;have r:=ih λs b=>hl s (by simp[b]);simp only[pR,zX,mN,zV]at *;omega
 have:=key ss λs b=>by
  obtain⟨i,e⟩:=zN b;have d:=(cV.1 e).1;obtain⟨x,m,_,a,g⟩:=h.jL d;rw[e]at a;cases a;rw[g.len];exact h.ok.kA
 have:=h.lZ;omega
theorem GD {m:Nat}{x:Nat}{ss':List cM}(h:jr c ss=some (x,ss')):KF c (m+1) ss=(x::(KF c m ss').1,(KF c m ss').2):=by
 simp[KF,h]
theorem Pk (h:eX U F p c ps ss)(m:Int)(hm:0<=m){R:Sl->Int->Hp->Prop}
 (hR:∀s σ',Ext F U σ'->bR s 1 (ints (KF c m.toNat ss).1) σ' (λb=>U.size<=b)->eX σ' (Cut F U) p c ps (KF c m.toNat ss).2->R s 0 σ'):Xf.c (aW p) m U R:=by
 refine Xf.o ?_;unfold Xf.v;have h:=eX.loc.cut h;have L:=eX.room h;refine V1 h (bZ rfl (dR O ?_));refine Zw (a:=.s) (λ(out:Sl) C=>∃j d,Ext F U C/\bR out 1 (ints j) C (λb=>U.size<=b)/\eX C (Cut F U) p c ps d/\j.length<=m.toNat/\j.length+pR d=pR ss/\KF c m.toNat ss=(j++(KF c (m.toNat-j.length) d).1,(KF c (m.toNat-j.length) d).2))
  (λout _=>m.toNat-out.len) ⟨[],ss,Ext.refl _ _,bR.nil _ _ _ _,h,by simp,by simp,by simp⟩ ?_
 rintro out C ⟨j,d,e,g,H,Z,V,u⟩;have M:=g.jV;refine cL (λW=>?_) λX=>?_
 ·have r:m.toNat-j.length=(m.toNat-(j.length+1))+1:=by omega
  refine κ H (λx J w v2 e2 G=>bZ rfl ?_) λz v2 e2=>cJ rfl ?_
  ·have B:Ext F U v2:=e.trans (e2.sub λi E=>E.1);have y:=aI.bV g e2 λb _ D N=>by have:=N.2;omega
   refine y.push (vs:=[.int .i64 (x:Int)]) (λb D=>zP B.1 D) rfl rfl (by simp[dJ]) O O λs' v4 Q P K=>?_;have Y:=Ε w;refine⟨⟨j++[x],J,B.eY P λi E=>.inr E,by rw[VJ];exact K,eX.loc.bV G P λb _ D N=>(by have:=D.2;omega),by simp;omega,by simp;omega,?_⟩,O⟩;rw[u,r,GD w];simp
  ·have:KF c (m.toNat-j.length) d=([],d):=by rw[r];simp[KF,z]
   rw[this]at u;have A:=hR out v2 (e.trans e2.to);rw[u,j7]at A;exact A (aI.aF g e2) (H.aF e2)
 ·have S:m.toNat-j.length=0:=by omega
  rw[S]at u;have A:=hR out C e;rw[u]at A;simp only[KF,j7]at A;exact A g H
theorem RV (h:eX U F p c ps ss)(m:Int)(hm:m<0){R:Sl->Int->Hp->Prop}(hR:R ⟨none,0,0⟩ 1 U):Xf.c (aW p) m U R:=by
 refine Xf.o ?_;unfold Xf.v;exact V1 h (bZ rfl (jt O hR))
def jD:List (Nat×Nat)->List cM->List (Nat×Nat)
 | x::ps,s::ss=>if s.many != 0 then x::jD ps ss else jD ps ss
 | _,_=>[]
theorem GQ:∀{ps:List (Nat×Nat)} {ss:List cM},ps.length=ss.length->(jD ps ss).length=(cO ss).length
 | [],[],_=>rfl
 | x::ps,s::ss,h=>by
  have ih:=GQ (ps:=ps) (ss:=ss) (by simpa using h);simp only[jD,cO,sK]at *;split<;>simp[ih]
theorem Bg:∀{ps:List (Nat×Nat)} {ss:List cM},(jD ps ss).Sublist ps
 | [],_=>by simp[jD]
 | _::_,[]=>by simp[jD]
 | x::ps,s::ss=>by
  simp only[jD];split
  ·exact Bg.cons_cons x
  ·exact Bg.cons x
theorem Ic:∀{ps ps':List (Nat×Nat)} {ss ss':List cM},ps.length=ss.length->jD (ps++ps') (ss++ss')=jD ps ss++jD ps' ss'
 | [],_,[],_,_=>rfl
 | x::ps,_,s::ss,_,h=>by
  simp only[lT,jD,Ic (ps:=ps) (ss:=ss) (by simpa using h)];split<;>rfl
theorem Ez:∀{ps:List (Nat×Nat)} {ss:List cM} {i:Nat} {x:Nat×Nat} {s:cM},ps.length=ss.length->(jD ps ss)[i]?=some x->(cO ss)[i]?=some s->∃j:Nat,ps[j]?=some x/\ss[j]?=some s
 | [],[],_,_,_,_,h,_=>by simp[jD]at h
 | y::ps,t::ss,i,x,s,hl,h1,h2=>by
  have ih:=λi=>Ez (ps:=ps) (ss:=ss) (i:=i) (x:=x) (s:=s) (by simpa using hl);simp only[jD,cO,sK]at h1 h2;cases hm:(t.many != 0)
  ·rw[hm]at h1 h2;obtain⟨j,a,b⟩:=ih i h1 h2;exact⟨j+1,by simpa using a,by simpa using b⟩
  ·rw[hm]at h1 h2;cases i with
   | zero=>simp at h1 h2;exact⟨0,by simp[h1],by simp[h2]⟩
   | succ i=>
    obtain⟨j,a,b⟩:=ih i (by simpa using h1) (by simpa[cO]using h2);exact⟨j+1,by simpa using a,by simpa using b⟩
theorem Oa (a b:List cM):cO (a++b)=cO a++cO b:=by simp[cO]
theorem ε (a b:List cM):Qp (a++b)=Qp a++Qp b:=by simp[Qp]
theorem Wfm (c:cD)(a b:List Nat):je c (a++b)=je c a++je c b:=by simp[je]
theorem OK {a b:List (Nat×Nat)}(h:a.Sublist b):(dN a).Sublist (dN b):=by
 induction h with
 | slnil=>exact List.Sublist.refl _
 | cons x _ ih=>exact(ih.cons _).cons _
 | cons_cons x _ ih=>exact(ih.cons_cons _).cons_cons _
theorem FC {h:Hp}{Q:Rg}{n3:Nat}{o:Sl}{l:List Nat}{x1 x2:Nat}{s:cM}(hb:bY h n3 [.slice o.a o.len o.cap])(hrow:bR o 2 (je c l) h Q)(hQ:∀b,Q b->n3<b)(hl:l.length<=2000)(hS:ic h x1 x2 c s){R:aO}
 (hR:∀h' o',Ext (λb=>b=n3\/Q b) h h'->bY h' n3 [.slice (Sl.a o') o'.len o'.cap]->bR o' 2 (je c (l++if s.many=0 then[s.st]else[])) h' (Grow Q h)->R (s.many==0) h') :
 UE Tryz.prog ⟨188,#[],#[.pointer (some ⟨n3,0,none⟩)]⟩ [.agg #[.int .i64 (s.many:Int),.int .i64 (s.st:Int),.pointer (some ⟨x1,0,none⟩)]] [.one .b] h R:=by
 refine oP (all := #[.agg #[.int .i64 (s.many:Int),.int .i64 (s.st:Int),.pointer (some ⟨x1,0,none⟩)],.pointer (some ⟨n3,0,none⟩)]) (by kernel_rfl) aA ?_;refine Yd.o ?_;unfold Yd.v;refine nw (cs:=[.int .i64 (s.many:Int),.int .i64 (s.st:Int),.pointer (some ⟨x1,0,none⟩)]) λv Z e d=>?_;have X:=hb.lt;have g:=e.bX hb id;have hrow:=(bR.loc o 2 (je c l)).mono hrow (G:=λb=>Q b/\b<h.size) λb hb z=>⟨z,hb⟩;refine Jn.intro (d.gA rfl ?_);rw[sT];refine cU (λF=>?_) λF=>?_
 ·have p:s.many=0:=by simpa using F
  rw[zB p]at hR;refine⟨λh'=>bY h' h.size [.int .i64 (s.many:Int),.int .i64 (s.st:Int),.pointer (some ⟨x1,0,none⟩)]/\bY h' n3 [.slice o.a o.len o.cap],⟨d,g⟩,⟨o,λh' hS=>by rw[hS.2.cell];rfl,⟨some ⟨x1,0,none⟩,λh' hS=>by rw[add_lit,hS.1.cell];rfl,?_⟩⟩⟩;refine Sm (hS.aF e) λY e2=>⟨⟨e2.bX d id,e2.bX g id⟩,?_⟩;have y:=e.trans e2;have m:=aI.aF hrow y;have x:=m.1;rw[Wk5]at x;refine nw (cs:=[.int .i64 (s.st:Int),.int .i64 (c.bK:Int)]) λv3 U w D=>⟨⟨(e2.trans w).bX d id,(e2.trans w).bX g id⟩,?_⟩;have r:=aI.aF m w;have V:=y.1;refine r.app (ys:=[.int .i64 (s.st:Int),.int .i64 (c.bK:Int)]) rfl rfl ?_ (by simp[dJ]) ?_ ?_ mu λP K N B C=>?_
  ·intro j u hu;rw[add_lit,zG,D.cell];exact hu
  ·simp only;have:(o.len+1)*16<=2001*16:=lV O O;omega
  ·simp only;omega
  ·have J:bY K h.size [.int .i64 (s.many:Int),.int .i64 (s.st:Int),.pointer (some ⟨x1,0,none⟩)]:=B.bX ((e2.trans w).bX d id) λH=>by have:=H.2;omega
   have L:bY K n3 [.slice o.a o.len o.cap]:=B.bX ((e2.trans w).bX g id) λH=>by have:=hQ _ H.1;omega
   refine⟨⟨J,L⟩,L.s0 aA λv5 o5 W=>(Wm o5 J O).gA rfl ?_⟩;have E:Ext (λb=>b=n3\/Q b) h v5:=(aG.to ((e.trans e2).trans w)).trans (B.sub λi A=>.inr A.1)|>.trans (o5.ext.sub λi A=>.inl A);rw[sT];refine hR v5 P E W ?_;rw[Wfm];have:je c [s.st]=[.int .i64 (s.st:Int),.int .i64 (c.bK:Int)]:=rfl;rw[this];have M:=aI.mono C (G:=Grow Q h) λb _ S=>by
    rcases S with h|h
    ·exact .inl h.1
    ·exact .inr O
   exact aI.bV M o5.ext λb _ z he=>by
    rcases z with h|h
    ·have:=hQ _ h;omega
    ·omega
 ·have p:¬s.many=0:=by simpa using F
  rw[zA p,j7]at hR;refine d.gA rfl ?_;rw[sT];exact hR v o e.to g (aI.aF (aI.mono hrow λb _ z=>.inl z.1) e)
def yw (n3:Nat)(c:cD)(l:List Nat)(h:Hp):Prop:=∃o:Sl,bY h n3 [.slice o.a o.len o.cap]/\bR o 2 (je c l) h (λb=>n3<b)
theorem BG {A D:List Value}{x y z:Value}{k:Nat}(hk:k=A.length)(hD:3<=D.length):(((A++D).set k x).set (k+1) y).set (k+2) z=A++[x,y,z]++D.drop 3:=by
 subst hk
 match D,hD with
 | d0::d1::d2::D,_=>simp[List.set_append]
theorem GZ {i:Nat}{s:cM}(hs:ss[i]?=some s):Qp (ss.take (i+1))=Qp (ss.take i)++(if s.many=0 then[s.st]else[]):=by
 rw[zj,hs,ε]
 congr 1
 by_cases hm:s.many=0<;>simp[Qp,hm]
theorem GI {i:Nat}{s:cM}(hs:ss[i]?=some s):cO (ss.take (i+1))=cO (ss.take i)++(if s.many=0 then[]else[s]):=by
 rw[zj,hs,Oa]
 congr 1
 by_cases hm:s.many=0<;>simp[cO,hm]
theorem CP {i:Nat}{x:Nat×Nat}{s:cM}(hl:ps.length=ss.length)(hx:ps[i]?=some x)(hs:ss[i]?=some s):jD (ps.take (i+1)) (ss.take (i+1))=jD (ps.take i) (ss.take i)++(if s.many=0 then[]else[x]):=by
 rw[zj,zj,hs,hx,Ic (by simp[hl])]
 congr 1
 by_cases hm:s.many=0<;>simp[jD,hm]
theorem Tu (l:List cM):(Qp l).length<=l.length:=by unfold Qp;rw[zi];exact ny _ _
theorem OA (l:List cM):(cO l).length<=l.length:=ny _ _
theorem OQ (h:eX U F p c ps ss){sl:Sl}{rb n3:Nat}{cs:List Value}{σ1:Hp}(e1:aG U σ1)(hlen:sl.len=ss.length)(hn3:U.size<=n3)(hE:ss≠[]->rW U F p ps ss sl rb cs/\sl.len<=sl.cap/\cs.length=sl.cap*3)(h0:yw n3 c [] σ1){R:Sl->Hp->Prop}
 (hR:∀h' mR,Ext (λb=>F b/\b≠p/\b∉dN ps\/n3<=b) σ1 h'->yw n3 c (Qp ss) h'->(mR=sl/\Qp ss=[]/\cO ss=ss/\jD ps ss=ps/\Ext (λb=>n3<=b) σ1 h'\/(bR mR 3 (dW (jD ps ss) (cO ss)) h' (λb=>F b/\b≠p/\b∉dN ps)))->R mR h') :
 Wf.c sl ⟨188,#[],#[.pointer (some ⟨n3,0,none⟩)]⟩ σ1 R:=by
 refine Wf.o ?_;unfold Wf.v;refine Wi.o ?_;unfold Wi.v;have hfew:=h.lZ;have r:=h.len;refine Zw (a:=bN) (λ(t:Int) h'=>∃i:Nat,t=(i:Int)/\i<=ss.length/\Ext (λb=>n3<=b) σ1 h'/\yw n3 c [] h'/\Qp (ss.take i)=[]/\cO (ss.take i)=ss.take i/\jD (ps.take i) (ss.take i)=ps.take i) (λt _=>ss.length-t.toNat) ⟨0,rfl,O,Ext.refl _ _,h0,by simp[Qp],by simp[cO],by simp[jD]⟩ ?_;rintro t h' ⟨i,rfl,hi,e,⟨o,N,Y⟩,q1,q2,q3⟩;have eo:∀{v:Hp},Ext (λb=>n3<=b) σ1 v->Ext (λb=>n3<=b) U v:=λe=>e1.to.trans e;refine cL (λhlt=>?_) λhge=>?_
 ·have ah:i<ss.length:=by omega
  obtain⟨E,hcap,hcl⟩:=hE (by rintro rfl;simp at ah);obtain⟨xx,s,hp,J,hS⟩:=h.jL ah;have eg:=Q0 hp J;have hrl:=E.bX.lt;have hSl:=hS.lt;rw[E.a];refine ix O O ?_;rw[add_lit,show 0+(i:Int).toNat*3=3*i by omega];refine uK (e:=0) ((eo e).bX E.bX O) (E.get eg.1) (E.get eg.2.1) (E.get eg.2.2) ?_;have hn3h:n3<h'.size:=N.lt;refine FC N Y (λb h=>h) aA (hS.bV (eo e) O O) λh2 o2 e2 ac A=>?_;have e2:Ext (λb=>n3<=b) h' h2:=e2.sub λb g=>by omega
  have A:=aI.mono A (G:=λb=>n3<b) λb _ g=>by
   rcases g with h|h
   ·exact h
   ·omega
  refine cU (λhm=>?_) λhm=>?_
  ·-- the first that goes
   have x:s.many=0:=by simpa using hm
   rw[zB x,qv]at A;have C:((i:Int)==(-1))=false:=by rw[kR];omega
   show If ((i:Int)==(-1)) _ _;refine bZ C (cC (m:=i+1) O O ?_);have q1':Qp (ss.take (i+1))=[s.st]:=by rw[GZ J,q1,zB x];rfl
   have V:cO (ss.take (i+1))=ss.take i:=by rw[GI J,q2,zB x,j7]
   have q3':jD (ps.take (i+1)) (ss.take (i+1))=ps.take i:=by rw[CP r hp J,q3,zB x,j7]
   have hke:∀k,k<=ss.length->(dW (jD (ps.take k) (ss.take k)) (cO (ss.take k))).length=3*(cO (ss.take k)).length:=λk _=>Kj (GQ (by simp[r]));have Eb2:bY h2 rb cs:=(eo (e.trans e2)).bX E.bX O;refine Vu (a:=bN) (bb:=bN) (λ(i1 j1:Int) v=>∃j:Nat,j1=(j:Int)/\i<j/\j<=ss.length/\i1=((cO (ss.take j)).length:Int)/\(cO (ss.take j)).length<j/\Ext (λb=>b=rb\/n3<=b) σ1 v/\yw n3 c (Qp (ss.take j)) v ∧
    bY v rb (dW (jD (ps.take j) (ss.take j)) (cO (ss.take j))++cs.drop (3*(cO (ss.take j)).length))) (λ_ j1 _=>ss.length-j1.toNat) ?_ ?_
   ·refine⟨i+1,rfl,O,O,?_,?_,(e.trans e2).sub λb g=>.inr g,?_,?_⟩
    ·rw[V,zL];omega
    ·rw[V,zL];omega
    ·rw[q1'];exact⟨o2,ac,A⟩
    ·rw[V,q3',zL,rE O];have:dW (ps.take i) (ss.take i)++cs.drop (3*i)=cs:=by
      have h1:(dW (ps.take i) (ss.take i)).length=3*i:=by rw[Kj (by simp[r]),zL];omega
      apply zp;intro k;rcases zq k (3*i)with hk|hk
      ·rw[zQ O];have h2:(dW ps ss)[k]?=(dW (ps.take i) (ss.take i))[k]? := by
        conv=>lhs;rw[←mZ i ps,←mZ i ss,Ve (by simp[r])]
        rw[zQ O]
       rw[←h2];have h3:k<(dW ps ss).length:=by rw[Kj r];omega
       rw[cQ h3];exact(E.get (cQ h3)).symm
      ·rw[zg O,zn,h1]
       congr 1;omega
     rw[this];exact Eb2
   ·rintro i1 j1 v ⟨j,rfl,hij,hj,rfl,hKj,ev,⟨o3,B,K⟩,z⟩;have y:=hke j hj;have evo:Ext (λb=>b=rb\/n3<=b) U v:=e1.to.trans ev;refine cL (λhlt2=>?_) λhge2=>?_
    ·have hj':j<ss.length:=by omega
     obtain⟨yy,u,Q,H,ad⟩:=h.jL hj';have P:=Q0 Q H;have hSul:=ad.lt;have Z:=QB Q;refine ix O O ?_;rw[add_lit,show 0+(j:Int).toNat*3=3*j by omega];have get:∀d,d<3->∀w,(dW ps ss)[3*j+d]?=some w->(dW (jD (ps.take j) (ss.take j)) (cO (ss.take j))++cs.drop (3*(cO (ss.take j)).length))[3*j+d]?=some w:=by
      intro d hd w hw;rw[zg O,zn,y,show 3*(cO (ss.take j)).length+(3*j+d-3*(cO (ss.take j)).length)=3*j+d by omega];exact E.get hw
     refine uK (e:=0) z (get 0 O _ P.1) (get 1 O _ P.2.1) (get 2 O _ P.2.2) (Da λv5 X b5=>b5.rI rfl (b5.rI rfl (b5.rP rfl ?_)));have hn3v:n3<v.size:=B.lt;have ae:=aI.mono K (G:=λb=>n3<b/\b<v.size) λb g hf=>⟨hf,g⟩;have L:=Tu (ss.take j);rw[zL]at L;refine FC (X.bX B id) (aI.aF ae X) (λb g=>g.1) O ((ad.bV evo (λS=>by rcases S with h|h;exact E.fr.2.2 (h▸Z.1);omega) (λS=>by rcases S with h|h;exact E.fr.2.2 (h▸Z.2);omega)).aF X) λv6 o6 e6 ag D=>?_;have hsz5:=X.1;have D:=aI.mono D (G:=λb=>n3<b) λb _ g=>by
      rcases g with h|h
      ·exact h.1
      ·omega
     have b6:bY v6 v.size [.int .i64 (u.many:Int),.int .i64 (u.st:Int),.pointer (some ⟨yy.1,0,none⟩)]:=e6.bX b5 λS=>by rcases S with h|h;omega;have:=h.2;omega
     have hrb:rb<U.size:=E.bX.lt;have M:=e6.bX (X.bX z id) λS=>by rcases S with h|h;omega;have:=h.1;omega
     have af:Ext (λb=>b=rb\/n3<=b) σ1 v6:=(ev.trans X.to).trans (e6.sub λb g=>by rcases g with h|h;omega;have:=h.1;omega);rw[←GZ H]at D;have st:=GI H;have kt:=CP r Q H;by_cases hum:u.many=0
     ·rw[zB hum,j7]at st kt;have:(u.many==0)=true:=by simp[hum]
      rw[this];refine bZ rfl (cC (m:=j+1) O O ⟨⟨j+1,rfl,O,O,?_,?_,af,⟨o6,ag,D⟩,?_⟩,O⟩)
      ·rw[st]
      ·rw[st];omega
      ·rw[st,kt];exact M
     ·rw[zA hum]at st kt;have:(u.many==0)=false:=by simp[hum]
      rw[this];refine cJ rfl (b6.rI rfl (b6.rI rfl (b6.rP rfl (ix O O ?_))));rw[add_lit,show 0+((cO (ss.take j)).length:Int).toNat*3=3*(cO (ss.take j)).length by omega];have hlen6:(dW (jD (ps.take j) (ss.take j)) (cO (ss.take j))++cs.drop (3*(cO (ss.take j)).length)).length=cs.length:=by
       rw[zR,y,zt];omega
      refine M.s1 O λv7 o7 b7=>b7.s1 aE λv8 o8 b8=>b8.s1 aE λv9 o9 b9=>?_;rw[zw,BG y.symm (by rw[zt];omega),List.drop_drop]at b9;have ev9:Ext (λb=>b=rb\/n3<=b) σ1 v9:=((af.trans (o7.ext.sub λb g=>.inl g)).trans (o8.ext.sub λb g=>.inl g)).trans (o9.ext.sub λb g=>.inl g);have ab:Ext (· = rb) v6 v9:=(o7.ext.trans o8.ext).trans o9.ext;refine cC (m:=(cO (ss.take j)).length+1) O O (cC (m:=j+1) O O ⟨⟨j+1,rfl,O,O,?_,?_,ev9,⟨o6,ab.bX ag O,aI.bV D ab λb _ g he=>O⟩,?_⟩,O⟩)
      ·rw[st];simp
      ·rw[st];simp;omega
      ·rw[st,kt,Ve (GQ (by simp[r]))];simp only[zR,zV,lS,dW];rw[show 3*((cO (ss.take j)).length+(0+1))=3*(cO (ss.take j)).length+3 by omega];exact b9
    ·have hjj:j=ss.length:=by omega
     subst hjj;rw[zy]at *;have W:ps.take ss.length=ps:=by rw[←r,zy]
     rw[W]at z y;have L:=OA ss;refine jI O O O ?_;have hK3:3*(cO ss).length<=cs.length:=by omega
     have hlt3:(cO ss).length<ss.length:=hKj;rw[zA O];simp only[E.a,zh,add_lit,zG];refine⟨by simp[dJ],?_⟩;simp only;have hz:(List.replicate (sl.len-(cO ss).length) [Value.int .i64 0,.int .i64 0,.pointer none]).flatten.length=3*(sl.len-(cO ss).length):=by
      rw[wg,uU,wG];simp;omega
     refine Uc (o:=(cO ss).length*3) (i:=0) z (by rw[hz,zR,y,zt];omega) λv10 gE b10=>?_;refine jI (lo:=0) O O O ?_;have aa:Ext (λb=>b=rb\/n3<=b) σ1 v10:=ev.trans (gE.ext.sub λb g=>.inl g);refine hR v10 _ (aa.sub λb g=>?_) ⟨o3,Wm gE B (by have:=E.bX.lt;omega),aI.bV K gE.ext λb _ g he=>by have:=E.bX.lt;omega⟩ (.inr ?_)
     ·rcases g with rfl|h
      ·exact .inl E.fr
      ·exact .inr h
     ·refine⟨by rw[Kj (GQ r)];simp;omega,.inr ⟨rb,_,E.fr,?_,b10,?_,?_,?_⟩⟩
      ·simp only[E.a];split<;>simp[add_lit]
      ·simp only;omega
      ·simp only[zR,zL,zt,hz,y];omega
      ·rw[Kj (GQ r),zw,show(cO ss).length*3=3*(cO ss).length by omega];rw[zm,qb (by rw[zL,zR,y];omega),y7,Nat.min_self];rw[qb O,l0 O]
  ·have x:¬s.many=0:=by simpa using hm
   rw[zA x,j7]at A;refine cC (m:=i+1) O O ⟨⟨i+1,rfl,O,e.trans e2,⟨o2,ac,A⟩,?_,?_,?_⟩,O⟩
   ·rw[GZ J,q1,zA x];rfl
   ·rw[GI J,q2,zA x,zj,J];rfl
   ·rw[CP r hp J,q3,zA x,zj,hp];rfl
 ·have hii:i=ss.length:=by omega
  subst hii;rw[zy]at *;have W:ps.take ss.length=ps:=by rw[←r,zy]
  rw[W]at q3;have C:((-1:Int)==(-1))=true:=rfl;refine cJ C (hR h' sl (e.sub λb g=>.inr g) ?_ (.inl ⟨rfl,q1,q2,q3,e⟩));rw[q1];exact⟨o,N,Y⟩
theorem eX.mR (h:eX U F p c ps ss):∃sl:Sl,bY U p [.int .i64 (c.size:Int),.int .i64 (c.bK:Int),.int .i64 (c.batch:Int),.slice sl.a sl.len sl.cap]/\sl.len=ss.length/\bR sl 3 (dW ps ss) U (λb=>F b/\b≠p/\b∉dN ps) ∧
 ∃rb cs,(ss≠[]->rW U F p ps ss sl rb cs/\sl.len<=sl.cap/\cs.length=sl.cap*3):=by
 obtain⟨sl,m,e⟩:=h.hd;have i:=e.1;rw[Kj h.len]at i;refine⟨sl,m,O,e,?_⟩;rcases e.2 with⟨h0,_⟩|⟨b,cs,hq,ha,hbb,hle,hcl,ht⟩
 ·exact⟨0,[],λg=>by have:=qo.2 g;omega⟩
 ·refine⟨b,cs,λ_=>⟨⟨ha,hbb,hq,λ{j v} d=>?_,?_⟩,hle,hcl⟩⟩
  ·rw[←ht,zY]at d;split at d
   ·exact d
   ·cases d
  ·have:=congrArg List.length ht;rw[zL,Kj h.len]at this;omega
theorem IM (h:eX U F p c ps ss){R:Sl->Hp->Prop}
 (hR:∀o σ',Ext F U σ'->bR o 2 (je c (Qp ss)) σ' (λb=>U.size<=b)->eX σ' (Cut F U) p c (jD ps ss) (cO ss)->R o σ'):W0.c (aW p) U R:=by
 refine W0.o ?_;unfold W0.v;have h:=eX.loc.cut h;obtain⟨sl,a,B,y,S,cs,Q⟩:=h.mR;refine V1 h (bZ rfl (nw (cs:=[.slice none 0 0]) λV L e1 G=>bO ((e1.bX a id).rS rfl ?_)));refine OQ h e1 B (zC _) Q ⟨⟨none,0,0⟩,G,bR.nil _ _ _ _⟩ λW mR e2 ⟨o,A,C⟩ r=>bO ?_;have J:=a.lt;have e:=h.nd;have d:=OK (Bg (ps:=ps) (ss:=ss));simp only[zo]at e;refine(e2.bX (e1.bX a id) λH=>by rcases H with h|h;exact h.2.1 rfl;omega).s1 aA λv3 o3 D=>?_;have z:=Wm o3 A (by have:=A.lt;omega);refine z.yA rfl (hR o v3 ?_ (aI.bV (aI.mono C λb _ a=>O) o3.ext λb _ a g=>O) ?_)
 ·refine(e1.to.eY e2 λb a=>?_).eY o3.ext λb a=>?_
  ·rcases a with h|h
   ·exact .inl h.1.1
   ·exact .inr h
  ·subst a;exact .inl h.fp.1
 ·have u:∀b,b∈dN ps->b<U.size->¬(Cut F U b/\b≠p/\b∉dN ps\/U.size<=b):=λb a N H=>by
   rcases H with h|h
   ·exact h.2.2 a
   ·omega
  refine⟨⟨mR,D,?_⟩,λi x s P M=>?_,h.fp,λb a=>h.fb b (d.subset a),?_,GQ h.len,h.ok,h.nq.sublist rR⟩
  ·rcases r with⟨rfl,_,q2,q3,ex⟩|hr
   ·rw[q2,q3];exact aI.bV (aI.bV (aI.aF y e1) ex λb _ a g=>by have:=a.1.2;omega) o3.ext λb _ a g=>a.2.1 g
   ·exact aI.bV (aI.mono hr λb _ a=>⟨a.1,a.2.1,λm=>a.2.2 (d.subset m)⟩) o3.ext λb _ a g=>a.2.1 g
  ·obtain⟨j,w,E⟩:=Ez h.len P M;have K:=h.sp j x s w E;have m:=QB w;have B:=K.lt;exact((K.aF e1).bV e2 (u _ m.1 B.1) (u _ m.2 B.2)).bV o3.ext (λg=>e.1 (g▸m.1)) (λg=>e.1 (g▸m.2))
  ·simp only[zo];exact⟨λm=>e.1 (d.subset m),e.2.sublist d⟩
theorem φ {x:Int}{k i:Nat}{s:cM}(hc:0<c.size)(hk:lh c ss x=some k)(hs:ss[k]?=some s)(v:Bool)(y:Int):lh c (ss.set k (s.put i v)) y=lh c ss y:=by
 have b:∀t:cM,∀j w z,idx c (t.put j w) z=idx c t z:=λt j w z=>by unfold idx cM.put;simp only[nZ]
 unfold lh;have a:=(cV.1 hs).1;have:(ss.set k (s.put i v)).map (λs=>(idx c s y).isSome)=ss.map (λs=>(idx c s y).isSome):=by
  apply zp;intro j;simp only[zk];by_cases hjk:j=k
  ·subst hjk;rw[zK a,hs];simp[b]
  ·rw[zd (Ne.symm hjk)]
 have d:∀l:List cM,l.findIdx? (λs=>(idx c s y).isSome)=(l.map λs=>(idx c s y).isSome).findIdx? id:=λl=>by rw[List.findIdx?_map];rfl
 rw[d,d,this]
def kQ (c:cD)(ss:List cM)(xs:List Int):Prop:=(∀x∈xs,eD c ss x=some true)/\xs.Nodup
theorem Ao {x:Int}{b:Bool}(h:eD c ss x=some b):∃k s i,lh c ss x=some k/\ss[k]?=some s/\obj c s x=some i/\s.is i=b:=by
 unfold eD at h;split at h
 ·rename_i k hk;split at h
  ·rename_i s hs;cases ho:obj c s x with
   | none=>rw[ho]at h;cases h
   | some i=>rw[ho]at h;exact⟨k,s,i,hk,hs,ho,by simpa[cM.is]using h⟩
  ·cases h
 ·cases h
theorem xZ {x:Int}{k i:Nat}{s:cM}(hk:lh c ss x=some k)(hs:ss[k]?=some s)(ho:obj c s x=some i):fL c ss x=ss.set k (s.put i false):=by
 simp[fL,hk,hs,ho]
theorem Ι {x y:Int}(hc:0<c.size)(hx:eD c ss x=some true)(hne:y≠x):eD c (fL c ss x) y=eD c ss y:=by
 obtain⟨k,s,i,u,d,A,_⟩:=Ao hx;rw[xZ u d A];have g:=(cV.1 d).1;have a:=φ hc u d false (i:=i) y;have r:∀t:cM,∀j w z,obj c (t.put j w) z=obj c t z:=λt j w z=>by unfold obj idx at_ cM.put;simp only[nZ]
 cases hy:lh c ss y with
 | none=>rw[Dd (a.trans hy),Dd hy]
 | some m=>
  by_cases hmk:m=k
  ·subst hmk;rw[Uq (a.trans hy) (zK g),Uq hy d,r];cases hoy:obj c s y with
   | none=>rfl
   | some j=>
    simp only[zh,Option.some.injEq];have p:i≠j:=λe=>by
     subst e;exact hne (((Hm hc).1 hoy).1.trans ((Hm hc).1 A).1.symm)
    simp[cM.is,cM.put,zM,zd p]
  ·have b:m<ss.length:=(pd.1 hy).1;rw[Uq (a.trans hy) ((zd (Ne.symm hmk)).trans (cQ b)),Uq hy (cQ b)]
theorem kQ.next {x:Int}{xs:List Int}(hc:0<c.size)(h:kQ c ss (x::xs)):kQ c (fL c ss x) xs:=by
 have b:=zo.1 h.2;refine⟨λy a=>?_,b.2⟩;rw[Ι hc (h.1 x aA) λe=>b.1 (e▸a)];exact h.1 y (by simp[a])
theorem DO {xs:List Int}(h:iU c ss xs=0):kQ c ss xs:=by
 unfold iU at h;split at h
 ·cases h
 ·rename_i h1;split at h
  ·cases h
  ·rename_i h2;simp only[mQ,not_or,pY,mE,Bool.not_eq_false',zU,za]at h1 h2;refine⟨λx d=>?_,h2.2⟩;have a:=h1 x d;have b:=h2.1 x d;cases ht:eD c ss x with
   | none=>rw[ht]at a;simp at a
   | some v=>
    cases v
    ·rw[ht]at b;exact absurd rfl b
    ·rfl
theorem Wg4 {sl:Sl}{xs:List Int}{X:Rg}(h:eX U F p c ps ss)(hs:cS sl 1 (xs.map (Value.int .i64)) U X)(hX:∀b,X b->¬F b)(hi:∀x∈xs,iz x)(hA:kQ c ss xs)(hl:xs.length<=1000000){K:aP}
 (hK:∀σ',Ext F U σ'->eX σ' F p c ps (xs.foldl (fL c) ss)->K σ') :
 WU [bN] (λI1=>I1 0 U) λJ3 (t49:Int) v6=>If (decide (t49<((sl.len:Nat):Int))) (Ix sl.a sl.len t49 1 λa51=>gO .i64 a51 v6 λaddr1=>
  X0.c (aW p) addr1 v6 λvx v7=>bU vx λa57=>fW (a57.add 2) v7 λt59=>ZN.c t59 addr1 v7 λt61 v8=>bU vx λa63=>gO .i64 ((a63.add 0).add 0) v8 λt66=>
  Ar .i64 (t66-1) λt67=>bU vx λa68=>eP ((a68.add 0).add 0) (.int .i64 t67) v8 λv9=>Ar .i64 (t49+1) λt71=>J3 t71 v9) (K v6):=by
 have Z:sl.len=xs.length:=by have:=hs.1;simp at this;omega
 have B:0<c.size:=by have:=h.ok.1;omega
 refine Zw (a:=bN) (λ(t:Int) L=>∃(i:Nat) (r:List cM),t=(i:Int)/\i<=xs.length/\Ext F U L/\eX L F p c ps r/\kQ c r (xs.drop i)/\(xs.drop i).foldl (fL c) r=xs.foldl (fL c) ss) (λt _=>xs.length-t.toNat) ⟨0,ss,rfl,O,Ext.refl _ _,h,by simpa using hA,by simp⟩ ?_;rintro t L ⟨i,r,rfl,hil,e,M,w,z⟩;refine cL (λhlt=>?_) λhge=>?_
 ·have y:i<xs.length:=by omega
  have hx:xs[i]?=some xs[i]:=cQ y;have hd:xs.drop i=xs[i]::xs.drop (i+1):=qG y;rw[hd]at w z;refine(aH.bV hs e λb _ W hF=>hX b W hF).nK hx ?_;obtain⟨k,s,j,J,d,N,H⟩:=Ao (w.1 xs[i] mY);have C:=hi xs[i] (zb y);refine Ce M xs[i] C (λhn=>by rw[J]at hn;cases hn) λk' mR rb cs D S W E=>bO ?_;rw[J]at D;cases D;obtain⟨Q,s',hp,A,Y⟩:=M.jL S;rw[d]at A;cases A;have eg:=Q0 hp d;have hj:=((Hm B).1 N).2;refine E.bX.rP (x:=some ⟨Q.1,0,none⟩) (E.get eg.2.2) ?_;refine Pd Y C N H λv8 e8 P=>bO ?_;have G:=QB hp;have V:¬(rb=Q.1\/rb=Q.2):=λhh=>E.fr.2.2 (by rcases hh with h|h<;>rw[h];exact G.1;exact G.2)
  have hml:=Ba s;have g:=yo hj false;rw[H]at g;have hsl:=Y.len;have hnl:=Y.ok.kA;have u:((s.put j false).many:Int)=s.many-1:=by simp at g;omega
  refine(e8.bX E.bX V).gA (E.get eg.1) (ar O O (bO ?_));simp only[add_lit,zw];rw[←u];refine M.qg (s':=s.put j false) hp d rfl e8 P W E λv9 e9 R=>?_;refine cC (m:=i+1) O O ⟨⟨i+1,_,rfl,O,e.trans e9,R,?_,?_⟩,O⟩
  ·have:=kQ.next B w
   rwa [xZ J d N]at this
  ·rw[lp,xZ J d N]at z;exact z
 ·have:i=xs.length:=by omega
  subst this;rw[List.drop_length,List.foldl_nil]at z;subst z;exact hK L e M
theorem OU (h:eX U F p c ps ss){sl:Sl}{xs:List Int}{X:Rg}(hs:cS sl 1 (xs.map (Value.int .i64)) U X)(hX:∀b,X b->¬F b)(hi:∀x∈xs,iz x)(hl:xs.length<=1000000)(hcap:sl.len<=sl.cap){R:Sl->Int->Hp->Prop}
 (h0:iU c ss xs≠0->R ⟨none,0,0⟩ (iU c ss xs) U)
 (h1:iU c ss xs=0->∀o σ',Ext F U σ'->bR o 2 (je c (Qp (xs.foldl (fL c) ss))) σ' (λb=>U.size<=b)->eX σ' (Cut F U) p c (jD ps (xs.foldl (fL c) ss)) (cO (xs.foldl (fL c) ss))->R o 0 σ') :
 Zc.c (aW p) sl U R:=by
 refine Zc.o ?_;unfold Zc.v;have hlen:sl.len=xs.length:=by have:=hs.1;simp at this;omega
 refine V1 h (bZ rfl ?_);have tw:∀i,(xs.take i).any (λx=>eD c ss x==some false)=true\/¬(xs.take i).Nodup->(∀x∈xs,(eD c ss x).isSome=true)->iU c ss xs=9:=by
  intro i d hall;unfold iU;rw[zA,zB]
  ·rcases d with d|d
   ·rw[kM]at d;obtain⟨x,u,Q⟩:=d;have:xs.any (λx=>eD c ss x==some false)=true:=kM.2 ⟨x,qp u,Q⟩;rw[this];rfl
   ·have:¬xs.Nodup:=λE=>d (E.sublist (yn _ _));simp[this]
  ·simp only[pY,mE];intro x u;have:=hall x u;cases ht:eD c ss x
   ·rw[ht]at this;cases this
   ·simp
 refine Vu (a:=.b) (bb:=bN) (λ(tw:Bool) (t:Int) B=>∃i:Nat,t=(i:Int)/\i<=xs.length/\B=U/\(∀x∈xs.take i,(eD c ss x).isSome=true)/\(tw=true↔(xs.take i).any (λx=>eD c ss x==some false)=true\/¬(xs.take i).Nodup)) (λ_ t _=>xs.length-t.toNat)
  ⟨0,rfl,O,rfl,by simp,by simp⟩ ?_
 rintro w t B ⟨i,rfl,hil,rfl,g,D⟩;refine cL (λhlt=>?_) λhge=>?_
 ·have C:i<xs.length:=by omega
  have u:xs[i]?=some xs[i]:=cQ C;have Z:=hi xs[i] (zb C);have G:xs.take (i+1)=xs.take i++[xs[i]]:=by rw[zj,u];rfl
  refine hs.nK u (Fk h xs[i] Z (λb d=>bZ rfl ?_) λE=>cJ rfl ?_)
  ·have A:∀x∈xs.take (i+1),(eD c ss x).isSome=true:=by
    rw[G];intro x u;rcases zS.1 u with h1|h1
    ·exact g x h1
    ·simp at h1;subst h1;rw[d];rfl
   have fin:∀H:Bool,(H=true↔(xs.take (i+1)).any (λx=>eD c ss x==some false)=true\/¬(xs.take (i+1)).Nodup)->Ar .i64 ((i:Int)+1) λs=>
    (∃j:Nat,s=(j:Int)/\j<=xs.length/\B=B/\(∀x∈xs.take j,(eD c ss x).isSome=true)/\(H=true↔(xs.take j).any (λx=>eD c ss x==some false)=true\/¬(xs.take j).Nodup))/\xs.length-s.toNat<xs.length-(i:Int).toNat:=
    λH Y=>cC (m:=i+1) O O ⟨⟨i+1,rfl,O,rfl,A,Y⟩,O⟩
   have S:∀y:Int,(xs.take i++[y]).Nodup↔(xs.take i).Nodup/\y∉xs.take i:=λy=>by
    rw[n0];constructor
    ·exact λh=>⟨h.1,λM=>h.2.2 y M y aA rfl⟩
    ·exact λh=>⟨h.1,by simp,λa ha z hz e=>by simp at hz;subst hz;exact h.2 (e▸ha)⟩
   have ex:(xs.take (i+1)).any (λx=>eD c ss x==some false)=true\/¬(xs.take (i+1)).Nodup↔(w=true\/b=false)\/xs[i]∈xs.take i:=by
    rw[G,S,List.any_append,D];simp only[yJ,List.any_nil,wW,mQ,d];have N:((some b==some false)=true)↔b=false:=by cases b<;>simp
    rw[N];constructor
    ·rintro((h|h)|h)
     ·exact .inl (.inl (.inl h))
     ·exact .inl (.inr h)
     ·by_cases E:(xs.take i).Nodup
      ·by_cases M:xs[i]∈xs.take i
       ·exact .inr M
       ·exact absurd ⟨E,M⟩ h
      ·exact .inl (.inl (.inr E))
    ·rintro(((h|h)|h)|h)
     ·exact .inl (.inl h)
     ·exact .inr λJ=>h J.1
     ·exact .inl (.inr h)
     ·exact .inr λJ=>J.2 h
   have J1:∀r:Bool,(r=true↔w=true\/b=false)->bW (λH v4=>Ar .i64 ((i:Int)+1) λs=>
    (∃j:Nat,s=(j:Int)/\j<=xs.length/\v4=B/\(∀x∈xs.take j,(eD c ss x).isSome=true)/\(H=true↔(xs.take j).any (λx=>eD c ss x==some false)=true\/¬(xs.take j).Nodup))/\xs.length-s.toNat<xs.length-(i:Int).toNat) λJ2=>
    If r (J2 true B) (fE sl 1 0 (i:Int) (sl.cap:Nat) λad=>Wq.c ad xs[i] B λac v5=>J2 ac v5):=by
    intro r hr;refine bW.intro ?_;cases r
    ·refine bZ rfl ?_;refine jI (lo:=0) O O O ?_;have K:cS ⟨if sl.cap=0 then sl.a else sl.a.map (·.add (0*1)),i-0,sl.cap-0⟩ 1 ((xs.take i).map (Value.int .i64)) B X:=by
      refine⟨by simp;omega,?_⟩;rcases hs.2 with h0|⟨b',o',cs',hf',ha',hb',hc'⟩
      ·left;have:xs=[]:=by simpa using h0
       simp[this]
      ·refine .inr ⟨b',o',cs',hf',?_,hb',λj hj=>?_⟩
       ·rw[zA O,ha'];simp[add_lit]
       ·simp only[zi,zL]at hj;rw[hc' j aE,List.map_take,zY,zB O]
     refine NF K aE _ (fin _ ?_);rw[ex,←hr];simp
    ·refine cJ rfl (fin true ?_);rw[ex,←hr];simp
   refine bW.intro ?_;cases w
   ·refine bZ rfl (J1 _ ?_);cases b<;>simp
   ·exact cJ rfl (J1 _ aA)
  ·have:iU c ss xs=8:=by
    unfold iU;rw[zB];exact kM.2 ⟨xs[i],zb C,by rw[E];rfl⟩
   have h0:=h0 (by rw[this];decide);rw[this]at h0;exact h0
 ·have:i=xs.length:=by omega
  subst this;rw[zy]at *;cases w
  ·refine bZ rfl ?_;have hE:iU c ss xs=0:=by
    unfold iU;have V:¬(xs.any (λx=>eD c ss x==some false)=true\/¬xs.Nodup):=λJ=>by have:=D.2 J;cases this
    rw[zA,zA]
    ·simp only[not_or,pY,Decidable.not_not]at V;rw[V.1];simp[V.2]
    ·simp only[pY,mE];intro x u;have:=g x u;cases ht:eD c ss x
     ·rw[ht]at this;cases this
     ·simp
   refine Wg4 (eX.loc.cut h) hs (λb d hf=>hX b d hf.1) hi (DO hE) hl λv6 e6 W=>?_;refine IM W λo aa ab P L=>?_;exact h1 hE o aa ((e6.trans ab).sub λb d=>d.1) (aI.mono P λb _ d=>zP e6.1 d) (eX.loc.mono L λb _ d=>d.1)
  ·refine cJ rfl ?_;have h9:=tw xs.length (by rw[zy];exact D.1 rfl) g;have h0:=h0 (by rw[h9];decide);rw[h9]at h0;exact h0
theorem Md {x y:Sl}{a o b o':Nat}{cs ds:List Value}(hx:x.a=some ⟨a,o,none⟩)(hy:y.a=some ⟨b,o',none⟩)(ha:bY U a cs)(hb:bY U b ds)(hne:a≠b)(hd:ds≠[]){K:aO}(hK:K false U) :
 tK Tryz.prog 255 [.slice x.a x.len x.cap,.slice y.a y.len y.cap] U K:=by
 rintro w rfl;obtain⟨d,ha⟩:=ha;obtain⟨g,hb⟩:=hb;refine⟨false,w,?_,.refl _,hK⟩;rw[hx,hy,run_callFunc_extern Tryz.func255 (by kernel_rfl) (by kernel_rfl) (by kernel_rfl) (e:=Extern.SlicesOverlaps.overlaps #[185,185] #[4]) (by kernel_rfl)];have:=Lib.run_overlaps_apart (P:=Tryz.prog) w 185 4 192 Tryz.underlying185 3 Tryz.sizeOf192
  ⟨a,o,none⟩ ⟨b,o',none⟩ x.len x.cap y.len y.cap hne d g cs.length ds.length (by simp[World.shape?,ha]) (by simp[World.shape?,hb]) (by simpa using hd) (by simp[World.frozen?,ha]) (by simp[World.frozen?,ha])
 rw[this];rfl
theorem Tb {Q:Rg}{s:Sl}{xs:List Value}{i m vb:Nat}{x y z:Value}(h:bR s 3 xs U Q)(hlen:s.len=m)(hm:m<=2000)(hi:i<=m)(hv:bY U vb [x,y,z])(hvb:¬Q vb)(h1:∀v∈xs,dJ v=true)(h2:dJ x=true/\dJ y=true/\dJ z=true)
 {R:Sl->Hp->Prop} (hR:∀s' σ',Ext Q U σ'->bR s' 3 (xs.take (3*i)++[x,y,z]++xs.drop (3*i)) σ' (Grow Q U)->R s' σ') :
 Wh.c s (i:Int) ⟨some ⟨vb,0,none⟩,1,1⟩ U R:=by
 refine Wh.o ?_;unfold Wh.v;have hxl:=h.1;have hcap:s.len<=s.cap:=by
  rcases h.2 with⟨h0,h0'⟩|⟨b,cs,_,_,_,P,_⟩
  ·omega
  ·exact P
 have hrd:Rd U (some ⟨vb,0,none⟩) [x,y,z]:=by
  intro j u hu;rw[add_lit,zG,hv.cell];exact hu
 have ho:∀v∈[x,y,z],dJ v=true:=by simp[h2]
 refine jI O O O (bZ rfl (cU (λhe=>?_) λhe=>?_))
 ·have X:i=m:=by
   have:(i:Int)=((s.len:Nat):Int):=by simpa using he
   omega
  refine h.app (ys:=[x,y,z]) rfl rfl hrd ho aD aD mu λs' h' hl' e' aa=>hR s' h' e' ?_
  rw[l0 O,List.drop_of_length_le O,j7];exact aa
 ·have X:i<m:=by
   have:¬(i:Int)=((s.len:Nat):Int):=by simpa using he
   omega
  obtain⟨b,cs,V,ha,G,P,H,ht⟩:∃b cs,Q b/\s.a=some ⟨b,0,none⟩/\bY U b cs/\s.len<=s.cap/\cs.length=s.cap*3/\cs.take xs.length=xs:=by
   rcases h.2 with⟨h0,_⟩|h
   ·omega
   ·exact h
  have M:vb≠b:=λe=>hvb (e▸V);have w:∀j v,xs[j]?=some v->cs[j]?=some v:=λj v p=>by
   rw[←ht,zY]at p;split at p
   ·exact p
   ·cases p
  refine cC (m:=m+1) aD O (cL (λhgt=>?_) λhle2=>?_)
  ·-- no room: a new row
   refine jI (lo:=0) O O O (cC (m:=m+1) aD O (cC (m:=m+1-i) O O ?_))
   have D:¬s.cap=0:=by omega
   rw[zA D];simp only[ha,zh,add_lit,u6,zw,Nat.sub_zero];refine⟨O,xs.take (3*i),by rw[zL];simp only;omega,?_,by simp[dJ],by simp only;omega,by simp only;omega,O,λab=>by simp only at ab;omega,λ_ cc N=>?_⟩
   ·intro j v p;rw[add_lit,zG,G.cell];rw[zY]at p;split at p
    ·exact w j v p
    ·cases p
   simp only[dE]at N ⊢;have ad:i+(m+1-i)=m+1:=by omega
   rw[ad]at N ⊢;refine nw λv2 hz2 e2 ac=>?_;have B:∀k,(List.replicate k [Value.int .i64 0,.int .i64 0,.pointer none]).flatten.length=3*k:=λk=>by
    rw[wg,uU,wG];simp;omega
   have g:(xs.take (3*i)).length=3*i:=by rw[zL];omega
   refine jI aD aD aD ?_
   have W:=e2.bX hv id;have n1:(if cc=i then(some ⟨U.size,0,none⟩:Option Addr)else(some ⟨U.size,0,none⟩:Option Addr).map (·.add (i*3)))=some ⟨U.size,i*3,none⟩:=by
    have:¬cc=i:=by omega
    rw[zA this];simp[add_lit]
   rw[n1];refine⟨[x,y,z],by simp only;rw[rE O];rfl,?_,ho,?_⟩
   ·intro j u hu;rw[add_lit,zG,W.cell];exact hu
   simp only;refine Uc (o:=i*3) (i:=0) ac (by simp only[zR,g,B,zV,lS];omega) λv3 o3 S=>?_;refine cC (m:=i+1) aD O (jI aD aD aD (jI O O O ?_))
   have J:bY v3 b cs:=Wm o3 (e2.bX G id) (by have:=G.lt;omega);have d:(xs.drop (3*i)).length=3*(m-i):=by rw[zt];omega
   refine⟨xs.drop (3*i),by simp only;rw[rE O,d];omega,?_,λv hv=>h1 v (qW hv),?_⟩
   ·have r:¬s.cap=i:=by omega
    rw[zA r];simp only[ha,zh,add_lit];intro j v p;rw[add_lit,J.cell];rw[zn]at p;have:=w _ _ p;rw[show 0+i*3+j=3*i+j by omega];exact this
   have hbig:(xs.take (3*i)++(List.replicate (m+1-i) [Value.int .i64 0,.int .i64 0,.pointer none]).flatten++(List.replicate (cc-(m+1)) [Value.int .i64 0,.int .i64 0,.pointer none]).flatten).length=3*cc:=by
    simp only[zR,g,B];omega
   have tk:∀L:List Value,((xs.take (3*i)++(List.replicate (m+1-i) [Value.int .i64 0,.int .i64 0,.pointer none]).flatten++(List.replicate (cc-(m+1)) [Value.int .i64 0,.int .i64 0,.pointer none]).flatten).take (3*i))=xs.take (3*i):=λ_=>by
    rw[zm,qb O,l0 O]
   have fin:∀v4,QT v3 v4 U.size->bY v4 U.size ((xs.take (3*i)++[x,y,z])++xs.drop (3*i)++((xs.take (3*i)++(List.replicate (m+1-i) [Value.int .i64 0,.int .i64 0,.pointer none]).flatten++(List.replicate (cc-(m+1)) [Value.int .i64 0,.int .i64 0,.pointer none]).flatten).drop (3*i+3)).drop (3*(m-i)))->R ⟨some ⟨U.size,0,none⟩,m+1,cc⟩ v4:=by
    intro v4 o4 A;refine hR _ v4 ?_ ⟨?_,.inr ⟨U.size,_,.inr (zC _),rfl,A,by simp only;omega,?_,?_⟩⟩
    ·exact((e2.to.eY o3.ext λi hi=>by subst hi;exact .inr (zC _)).eY o4.ext λi hi=>by subst hi;exact .inr (zC _))
    ·simp only[zR,g,d,zV,lS];omega
    ·simp only[zR,g,d,zV,lS,zt,B];omega
    ·rw[zm (xs.take (3*i)++[x,y,z]),←zm,xI];rfl
   have e3:(xs.take (3*i)++(List.replicate (m+1-i) [Value.int .i64 0,.int .i64 0,.pointer none]).flatten++(List.replicate (cc-(m+1)) [Value.int .i64 0,.int .i64 0,.pointer none]).flatten).take (i*3+0)=xs.take (3*i):=by
    rw[show i*3+0=3*i by omega];exact tk []
   rw[e3]at S;have E:(xs.take (3*i)++[x,y,z]++(xs.take (3*i)++(List.replicate (m+1-i) [Value.int .i64 0,.int .i64 0,.pointer none]).flatten++(List.replicate (cc-(m+1)) [Value.int .i64 0,.int .i64 0,.pointer none]).flatten).drop (i*3+0 + [x,y,z].length)).length=3*cc:=by
    simp only[zR,zt,g,B,zV,lS];omega
   by_cases r:cc=i+1
   ·exfalso;omega
   ·rw[zA r];simp only[zh,add_lit,zG];refine Uc (o:=(i+1)*3) (i:=0) S (by rw[E,d];omega) λv4 o4 A=>fin v4 o4 ?_;have q1:(i+1)*3+0=(xs.take (3*i)++[x,y,z]).length:=by rw[zR,g];simp;omega
    have q2:(i+1)*3+0+(xs.drop (3*i)).length=(xs.take (3*i)++[x,y,z]).length+3*(m-i):=by rw[d,q1]
    rw[q2,q1,xI,List.drop_append]at A
    ·rw[List.drop_of_length_le (show(xs.take (3*i)++[x,y,z]).length<=(xs.take (3*i)++[x,y,z]).length+3*(m-i) by omega),qv]at A;have q3:i*3+0 + [x,y,z].length=3*i+3:=by simp;omega
     rw[q3]at A;have q4:(xs.take (3*i)++[x,y,z]).length+3*(m-i)-(xs.take (3*i)++[x,y,z]).length=3*(m-i):=by omega
     rw[q4]at A;exact A
    ·rfl
  ·-- room: the rest moves
   have hle3:m+1<=s.cap:=by omega
   have D:¬s.cap=0:=by omega
   have r:¬s.cap=i:=by omega
   refine cC (m:=m+1) aD O (jI (lo:=0) O O O ?_)
   rw[zA D];simp only[ha,zh,add_lit,u6,zw,Nat.sub_zero];refine cC (m:=i+1) aD O (jI aD aD aD ?_)
   have C:cs.take (3*m)=xs:=by rw[←hlen,show 3*s.len=xs.length by omega];exact ht
   have na:∃o',(if s.cap=i+1 then(some ⟨b,0,none⟩:Option Addr)else(some ⟨b,0,none⟩:Option Addr).map (·.add ((i+1)*3)))=some ⟨b,o',none⟩:=by
    split
    ·exact⟨0,rfl⟩
    ·exact⟨_,by simp[add_lit];rfl⟩
   obtain⟨o',na⟩:=na;refine Md (x:=⟨some ⟨vb,0,none⟩,1,1⟩) (a:=vb) (o:=0) (b:=b) rfl na hv G M (λe=>by rw[e]at H;simp at H;omega) (cJ rfl ?_);refine cC (m:=i+1) aD O (jI aD aD aD (jI aD aD aD ?_))
   have K:¬s.cap=i+1:=by omega
   rw[zA K,zA r];simp only[zh,add_lit,zG];have d:(xs.drop (3*i)).length=3*(m-i):=by rw[zt];omega
   refine⟨xs.drop (3*i),by simp only;rw[Nat.min_eq_right O,d];omega,?_,λv hv=>h1 v (qW hv),?_⟩
   ·intro j v p;rw[add_lit,G.cell];rw[zn]at p;have:=w _ _ p;rw[show i*3+j=3*i+j by omega];exact this
   refine Uc (o:=(i+1)*3) (i:=0) G (by rw[d];omega) λv3 o3 S=>?_;refine jI aD aD aD ?_
   rw[zA r];simp only[zh,add_lit,zG];have Y:=Wm o3 hv M;refine⟨[x,y,z],by simp only;rw[rE O];rfl,?_,ho,?_⟩
   ·intro j u hu;rw[add_lit,zG,Y.cell];exact hu
   have Z:(cs.take ((i+1)*3+0)++xs.drop (3*i)++cs.drop ((i+1)*3+0+(xs.drop (3*i)).length)).length=cs.length:=by
    simp only[zR,zL,zt,d];omega
   refine Uc (o:=i*3) (i:=0) S (by rw[Z];simp;omega) λv4 o4 A=>?_;have a1:(cs.take ((i+1)*3+0)).length=3*i+3:=by rw[zL];omega
   have g:(xs.take (3*i)).length=3*i:=by rw[zL];omega
   have p1:(cs.take ((i+1)*3+0)++xs.drop (3*i)++cs.drop ((i+1)*3+0+(xs.drop (3*i)).length)).take (i*3+0)=xs.take (3*i):=by
    rw[zm,qb O,y7,rE O,←C,y7,rE O]
    congr 1;omega
   have p2:(cs.take ((i+1)*3+0)++xs.drop (3*i)++cs.drop ((i+1)*3+0+(xs.drop (3*i)).length)).drop (i*3+0 + [x,y,z].length)=xs.drop (3*i)++cs.drop ((i+1)*3+0+(xs.drop (3*i)).length):=by
    rw[zm,List.drop_left'];rw[a1];simp;omega
   rw[p1,p2,←zm]at A;refine hR _ v4 ((Ext.eL (F:=Q) o3 V).trans (Ext.eL o4 V)) ⟨?_,.inr ⟨b,_,.inl V,rfl,A,aD,?_,?_⟩⟩
   ·simp only[zR,g,zV,lS,d];omega
   ·simp only[zR,g,zt,zV,lS,d];omega
   ·rw[xI];rfl
def ZB (ss:List cM)(st:Nat):Nat:=(ss.takeWhile (λs=>s.st<st)).length
theorem GU (l:List cM)(P:cM->Bool):l.takeWhile P=l.take (l.takeWhile P).length/\l.dropWhile P=l.drop (l.takeWhile P).length:=by
 induction l with
 | nil=>simp
 | cons x l ih=>
  simp only[wy,Cr];cases P x
  ·simp
  ·simp only[zT,zV,rZ,yg];exact⟨by rw[←ih.1],ih.2⟩
theorem vN (c:cD)(ss:List cM)(st:Nat):iD c ss st=ss.take (ZB ss st)++⟨st,List.replicate c.n false⟩::ss.drop (ZB ss st):=by
 have:=GU ss (λs=>decide (s.st<st));unfold iD ZB;rw[this.2,←this.1]
theorem GB (hs:ss.Pairwise (λa b=>a.st<b.st))(st:Nat):ZB ss st<=ss.length/\∀(i:Nat) s,ss[i]?=some s->(s.st<st↔i<ZB ss st):=by
 unfold ZB
 induction ss with
 | nil=>simp
 | cons x ss ih=>
  have hp:=nB.1 hs;obtain⟨g,e⟩:=ih hp.2;simp only[wy];by_cases hx:x.st<st
  ·simp only[hx,decide_true,zT,zV];refine⟨O,λi s d=>?_⟩;cases i with
   | zero=>simp at d;subst d;simp[hx]
   | succ i=>have:=e i s (by simpa using d);omega
  ·simp only[hx,decide_false,zc,j4,lS,Nat.zero_le,Nat.not_lt_zero,iff_false,uj];intro i s d;cases i with
   | zero=>simp at d;subst d;exact hx
   | succ i=>
    have:=hp.1 s (zE (i:=i) (by simpa using d));omega
theorem Om (h:eX U F p c ps ss){σ1:Hp}(e1:aG U σ1){sl:Sl}{rb:Nat}{cs:List Value}(hl:sl.len=ss.length)(hE:ss≠[]->rW U F p ps ss sl rb cs)(st:Nat)(hst:st<=1024){R:Int->Bool->Hp->Prop}(hR:∀σ' b,aG σ1 σ'->R (ZB ss st:Int) b σ') :
 Wc.c sl (st:Int) ⟨228,#[],#[]⟩ σ1 R:=by
 refine Wc.o ?_;unfold Wc.v;have S:=h.lZ;obtain⟨L,kJ⟩:=GB h.nq st;have B:∀(k:Nat) (x:Nat×Nat) s (v:Hp) (K:aN),ps[k]?=some x->ss[k]?=some s->aG σ1 v->(∀z,aG v z->K ((s.st:Int)-(st:Int)) z) →
  UE Tryz.prog ⟨228,#[],#[]⟩ [.agg #[.int .i64 (s.many:Int),.int .i64 (s.st:Int),.pointer (some ⟨x.1,0,none⟩)],.int .i64 (st:Int)] [.one bN] v K:=by
  intro k x s v K w g ev hK;refine oP (all := #[.agg #[.int .i64 (s.many:Int),.int .i64 (s.st:Int),.pointer (some ⟨x.1,0,none⟩)],.int .i64 (st:Int)]) (by kernel_rfl) aA ?_;refine YX.o ?_;unfold YX.v;have hf:=(h.sp k x s w g).fit;refine nw (cs:=[.int .i64 (s.many:Int),.int .i64 (s.st:Int),.pointer (some ⟨x.1,0,none⟩)]) λW hz e J=>J.gA rfl (ar O O (hK W e))
 refine Vu (a:=bN) (bb:=bN) (λ(i j:Int) v=>∃a b:Nat,i=(a:Int)/\j=(b:Int)/\a<=ZB ss st/\ZB ss st<=b/\b<=ss.length/\aG σ1 v) (λi j _=>j.toNat-i.toNat) ⟨0,ss.length,rfl,by rw[hl],O,L,O,Ext.refl _ _⟩ ?_;rintro i j v ⟨a,b,rfl,rfl,ha,J,C,ev⟩;have D:aG U v:=e1.trans ev;refine cL (λX=>?_) λY=>?_
 ·have u:ss≠[]:=by rintro rfl;simp at C;omega
  have E:=hE u;refine cC (m:=a+b) O O ?_;have Z:IntKind.u64.wrap ((a+b:Nat):Int)=((a+b:Nat):Int):=by
   unfold IntKind.wrap;simp[IntKind.bits,IntKind.signed];omega
  refine pc ?_;rw[Z];refine nn O ?_;have H:min (1:Int).toNat IntKind.u64.bits=1:=by decide
  rw[H,JI];have A:(((a+b:Nat):Int)/2^1)=(((a+b)/2:Nat):Int):=by omega
  refine cC (m:=(a+b)/2) A O ?_;have d:(a+b)/2<ss.length:=by omega
  obtain⟨x,s,w,g,hS⟩:=h.jL d;have y:=Q0 w g;rw[E.a];refine ix O O ?_;rw[add_lit,show 0+(((a+b)/2:Nat):Int).toNat*3=3*((a+b)/2) by omega];refine uK (e:=0) (D.bX E.bX id) (E.get y.1) (E.get y.2.1) (E.get y.2.2) (B _ x s v _ w g ev λz G=>?_);have r:=kJ _ s g;show If (decide (((s.st:Int)-(st:Int))<0)) _ _;refine cL (λN=>?_) λP=>?_
  ·exact cC (m:=(a+b)/2+1) O O ⟨⟨_,b,rfl,rfl,by have:=r.1 O;omega,J,C,ev.trans G⟩,O⟩
  ·exact⟨⟨a,_,rfl,rfl,ha,by
    apply Classical.byContradiction;intro hc;have:=r.2 O;omega,O,ev.trans G⟩,O⟩
 ·have M:a=ZB ss st:=by omega
  subst M;refine bW.intro (cL (λV=>?_) λQ=>hR v _ ev);have d:ZB ss st<ss.length:=by omega
  have u:ss≠[]:=by rintro rfl;simp at d
  have E:=hE u;obtain⟨x,s,w,g,hS⟩:=h.jL d;have y:=Q0 w g;rw[E.a];refine ix O O ?_;rw[add_lit,show 0+(ZB ss st:Int).toNat*3=3*ZB ss st by omega];refine uK (e:=0) (D.bX E.bX id) (E.get y.1) (E.get y.2.1) (E.get y.2.2) (B _ x s v _ w g ev λz G=>hR z _ (ev.trans G))
theorem Ni (h:eX U F p c ps ss){st:Nat}(hf:st+c.bK<=1024){R:aN}(h9:oY c ss st=9->∀σ',aG U σ'->R 9 σ')
 (h0:oY c ss st=0->∀σ' ps',Ext F U σ'->eX σ' (Grow F U) p c ps' (iD c ss st)->R 0 σ'):Y6.c (aW p) (st:Int) U R:=by
 refine Y6.o ?_;unfold Y6.v;have h:=eX.loc.cut h;obtain⟨sl,d,hl,hrow,rb,cs,hE⟩:=h.mR;have hfew:=h.lZ;have hc:=h.ok;have hck:=hc;unfold cD.ok at hck;refine V1 h (bZ rfl (bO (d.gA rfl (d.gA rfl (d.gA rfl ?_)))));refine Wnb hc hf λv1 D K e1 hpn hqn Q=>bZ rfl (bO ((e1.bX d id).rS rfl ?_));have hplt:=d.lt;refine Zw (a:=bN) (λ(t:Int) v=>∃i:Nat,t=(i:Int)/\i<=ss.length/\aG v1 v/\∀(j:Nat) s,j<i->ss[j]?=some s->¬max s.st st-min s.st st<c.bK) (λt _=>ss.length-t.toNat) ⟨0,rfl,O,Ext.refl _ _,λj s y=>O⟩ ?_;rintro t v ⟨i,rfl,Z,ev,V⟩;have r:=e1.trans ev;refine cL (λhlt=>?_) λhge=>?_
 ·simp only at hlt;have hi':i<ss.length:=by omega
  obtain⟨E,hcap,hcl⟩:=hE (by rintro rfl;simp at hi');obtain⟨x,s,z,g,hS⟩:=h.jL hi';have eg:=Q0 z g;have hsf:=hS.fit;rw[E.a];refine ix O O ?_;rw[add_lit,show 0+(i:Int).toNat*3=3*i by omega];refine uK (e:=0) (r.bX E.bX id) (E.get eg.1) (E.get eg.2.1) (E.get eg.2.2) (Da λv6 e6 b6=>b6.gA rfl (b6.gA rfl ?_));have hd:(if(st:Int)>(s.st:Int)then(st:Int)else(s.st:Int))-(if(st:Int)<(s.st:Int)then(st:Int)else(s.st:Int))=((max s.st st-min s.st st:Nat):Int):=by
   split<;>split<;>omega
  refine cC (m:=max s.st st-min s.st st) hd O (bO (((r.trans e6).bX d id).gA rfl ?_));refine cL (λhlt2=>h9 ?_ _ (r.trans e6)) λhge2=>?_
  ·unfold oY;rw[zB];exact kM.2 ⟨s,zE g,by simpa using(by omega:max s.st st-min s.st st<c.bK)⟩
  ·refine cC (m:=i+1) O O ⟨⟨i+1,rfl,O,ev.trans e6,λj s' y S=>?_⟩,O⟩;by_cases e:j=i
   ·subst e;rw[g]at S;cases S;omega
   ·exact V j s' O S
 ·have hii:i=ss.length:=by simp only at hge;omega
  subst hii;have hE0:oY c ss st=0:=by
   unfold oY;rw[zA];simp only[pY,mE,zU];intro s g;obtain⟨j,y⟩:=zN g;exact V j s (cV.1 y).1 y
  refine bO ((r.bX d id).rS rfl ?_);refine Om h r hl (λP=>(hE P).1) st O λv7 bb e7=>bO (((r.trans e7).bX d id).rS rfl ?_);have e07:=r.trans e7;obtain⟨hp1,kJ⟩:=GB h.nq st;refine nw (cs:=[.int .i64 0,.int .i64 st,.pointer (some ⟨D,0,none⟩)]) λv8 hz8 e8 hb8=>?_;have J:=e07.trans e8;have N:=aI.aF hrow J;have hsz7:=e07.1;refine Tb N hl O hp1 hb8 (λw=>by have:=w.1.2;omega) Ji ⟨rfl,rfl,rfl⟩ λs' v9 e9 hr9=>bO ?_;have hb9:=e9.bX (J.bX d id) λw=>w.2.1 rfl;refine hb9.s1 aA λW gE hb10=>?_;have H:=h.len;have A:=h.nd;simp only[zo]at A;have hlt:=Q.lt;have hsz1:=(ev.trans e7).trans e8 |>.1;have B:∀b∈dN ps,b<U.size:=λb d=>(h.fb b d).2;have hS9:∀{a b s'},ic v8 a b c s'->¬(Cut F U a/\a≠p/\a∉dN ps)->¬(Cut F U b/\b≠p/\b∉dN ps)->a≠p->b≠p->ic W a b c s':=λhS n1 n2 m1 m2=>(hS.bV e9 n1 n2).bV gE.ext m1 m2;have hnew:=((Q.aF ev).aF e7).aF e8;have hent:dW (ps.take (ZB ss st)++(D,K)::ps.drop (ZB ss st)) (ss.take (ZB ss st)++⟨st,List.replicate c.n false⟩::ss.drop (ZB ss st)) =
   (dW ps ss).take (3*ZB ss st)++[.int .i64 0,.int .i64 st,.pointer (some ⟨D,0,none⟩)]++(dW ps ss).drop (3*ZB ss st):=by
   rw[Ve (by simp[H])];have u:dW ps ss=dW (ps.take (ZB ss st)) (ss.take (ZB ss st))++dW (ps.drop (ZB ss st)) (ss.drop (ZB ss st)):=by
    rw[←Ve (by simp[H]),mZ,mZ]
   have h2:(dW (ps.take (ZB ss st)) (ss.take (ZB ss st))).length=3*ZB ss st:=by rw[Kj (by simp[H]),zL];omega
   rw[u,xI h2,List.drop_left' h2,zm];have:cM.many ⟨st,List.replicate c.n false⟩=0:=by simp[cM.many,xM]
   simp[dW,this]
  refine h0 hE0 W (ps.take (ZB ss st)++(D,K)::ps.drop (ZB ss st)) ?_ ?_
  ·refine(((aG.to J).trans (e9.sub λb d=>d.1.1))).trans (gE.ext.sub λb d=>d▸h.fp.1)
  ·have C:(dN (ps.take (ZB ss st)++(D,K)::ps.drop (ZB ss st))).Perm (D::K::dN ps):=by
    have:dN ps=dN (ps.take (ZB ss st))++dN (ps.drop (ZB ss st)):=by
     conv=>lhs;rw[←mZ (ZB ss st) ps]
     simp only[dN,yL]
    rw[this];have h3:dN (ps.take (ZB ss st)++(D,K)::ps.drop (ZB ss st))=dN (ps.take (ZB ss st))++D::K::dN (ps.drop (ZB ss st)):=by simp[dN]
    rw[h3];exact List.perm_middle.trans ((List.perm_middle).cons D)
   have X:∀b,b∈dN (ps.take (ZB ss st)++(D,K)::ps.drop (ZB ss st))↔b=D\/b=K\/b∈dN ps:=by
    intro b;rw[C.mem_iff];simp
   refine⟨⟨s',hb10,?_⟩,λi x s z g=>?_,.inl h.fp.1,λb d=>?_,?_,?_,hc,?_⟩
   ·rw[vN,hent];refine aI.bV (aI.mono hr9 λb _ d=>?_) gE.ext λb _ d he=>d.2.1 he;rw[X];rcases d with d|d
    ·exact⟨.inl d.1.1,d.2.1,λw=>by
      rcases w with h|h|h
      ·have:=d.1.2;omega
      ·have:=d.1.2;omega
      ·exact d.2.2 h⟩
    ·exact⟨.inr O,O,λw=>by
      rcases w with h|h|h
      ·omega
      ·omega
      ·have:=B b h;omega⟩
   ·rw[vN]at g;have L:(ps.take (ZB ss st)).length=ZB ss st:=by rw[zL];omega
    have M:(ss.take (ZB ss st)).length=ZB ss st:=by rw[zL];omega
    have old:∀j:Nat,ps[j]?=some x->ss[j]?=some s->ic W x.1 x.2 c s:=λj u h2=>by
     have G:=QB u;exact hS9 ((h.sp j x s u h2).aF J) (λw=>w.2.2 G.1) (λw=>w.2.2 G.2) (λe=>A.1 (e▸G.1)) (λe=>A.1 (e▸G.2))
    rcases pa i (ZB ss st)with hlt'|heq|hgt
    ·rw[zQ O,zY,zB hlt']at z g;exact old i z g
    ·rw[zg O]at z g;rw[L,heq,mI]at z;rw[M,heq,mI]at g;simp at z g;subst z;subst g;exact hS9 hnew (λw=>by have:=w.1.2;simp only at this;omega) (λw=>by have:=w.1.2;simp only at this;omega) aC aC
    ·rw[zg O]at z g;rw[L]at z;rw[M]at g;obtain⟨k,hk⟩:∃k,i-ZB ss st=k+1:=⟨i-ZB ss st-1,O⟩;rw[hk,Ca,zn]at z g;exact old _ z g
   ·rcases(X b).1 d with u|u|u
    ·subst u;exact .inr hpn
    ·subst u;exact .inr hqn
    ·exact .inl (h.fb b u).1
   ·simp only[zo];refine⟨λG=>?_,?_⟩
    ·rcases(X p).1 G with u|u|u
     ·omega
     ·omega
     ·exact A.1 u
    ·rw[C.nodup_iff];simp only[zo,zW,not_or];have P:=Q.ne;exact⟨⟨P,λG=>by have:=B _ G;omega⟩,λG=>by have:=B _ G;omega,A.2⟩
   ·rw[vN];simp[H]
   ·rw[vN];rw[pC];have Y:=h.nq;refine⟨Y.sublist (yn _ _),nB.2 ⟨λs g=>?_,Y.sublist (AU _ _)⟩,λa ha b d=>?_⟩
    ·obtain⟨j,y⟩:=zN g;rw[zn]at y;have u:=kJ _ s y;have h2:s.st≠st:=λe=>by
      have:=V (ZB ss st+j) s (cV.1 y).1 y;rw[e]at this;simp at this;omega
     show st<s.st;omega
    ·obtain⟨i,Z⟩:=zN ha;rw[zY]at Z;split at Z
     ·rename_i hlt';have hat:=(kJ i a Z).2 hlt';rcases zW.1 d with rfl|d
      ·exact hat
      ·obtain⟨j,y⟩:=zN d;rw[zn]at y;obtain⟨hi1,hi2⟩:=cV.1 Z;obtain⟨hj1,hj2⟩:=cV.1 y;have:=zr.1 Y i (ZB ss st+j) hi1 hj1 O;rw[hi2,hj2]at this;exact this
     ·cases Z
theorem M3 (h:eX U F p c ps ss){R:Option Addr->Hp->Prop}
 (hR:∀σ' p' ps',aG U σ'->U.size<=p'->eX σ' (λb=>U.size<=b) p' c ps' ss->R (some ⟨p',0,none⟩) σ'):X1.c (aW p) U R:=by
 refine X1.o ?_;unfold X1.v;obtain⟨sl,d,hl,hrow,rb,cs,hE⟩:=h.mR;have hfew:=h.lZ;have hpl:=h.len;refine V1 h (bZ rfl (bO (d.gA rfl (d.gA rfl (d.gA rfl ?_)))));refine nw (cs:=[.int .i64 c.size,.int .i64 c.bK,.int .i64 c.batch,.slice none 0 0]) λv1 hz1 e1 hb1=>bO ((e1.bX d id).rS rfl ?_);refine Zw (a:=bN) (λ(t:Int) v=>∃(i:Nat) (D:List (Nat×Nat)),t=(i:Int)/\i<=ss.length/\aG U v/\eX v (λb=>U.size<=b) U.size c D (ss.take i)) (λt _=>ss.length-t.toNat) ⟨0,[],rfl,O,e1,?_⟩ ?_
 ·exact⟨⟨⟨none,0,0⟩,hb1,bR.nil _ _ _ _⟩,by simp,zC _,by simp[dN],by simp[dN],rfl,h.ok,by simp⟩
 rintro t v ⟨i,D,rfl,hi,e,N⟩;refine cL (λhlt=>?_) λhge=>?_
 ·simp only at hlt;have Z:i<ss.length:=by omega
  obtain⟨E,hcap,hcl⟩:=hE (by rintro rfl;simp at Z);obtain⟨x,s,hx,hs,J⟩:=h.jL Z;have eg:=Q0 hx hs;rw[E.a];refine ix O O ?_;rw[add_lit,show 0+(i:Int).toNat*3=3*i by omega];refine uK (e:=0) (e.bX E.bX id) (E.get eg.1) (E.get eg.2.1) (E.get eg.2.2) (Da λv6 e6 b6=>?_);have N:=eX.loc.cut N;have P:=N.aF e6;obtain⟨o,z,hro⟩:=P.hd;have V:=P.len;have aa:(ss.take i).length=i:=by rw[zL];omega
  refine⟨λX=>bY X U.size [.int .i64 (c.size:Int),.int .i64 (c.bK:Int),.int .i64 (c.batch:Int),.slice o.a o.len o.cap]/\bY X v.size [.int .i64 s.many,.int .i64 s.st,.pointer (some ⟨x.1,0,none⟩)],⟨z,b6⟩,?_⟩;refine bO ⟨o,λX J=>by rw[add_lit,J.1.cell];rfl,⟨_,λX J=>by rw[add_lit,add_lit,J.2.cell];rfl,⟨_,λX J=>by rw[add_lit,add_lit,J.2.cell];rfl,⟨_,λX J=>by rw[add_lit,J.2.cell];rfl,?_⟩⟩⟩⟩;refine NP ((J.aF e).aF e6) λv7 W qn C hpn hqn Q=>⟨⟨C.bX z id,C.bX b6 id⟩,?_⟩;have hSnl:=Q.lt;refine nw (cs:=[.int .i64 s.many,.int .i64 s.st,.pointer (some ⟨W,0,none⟩)]) λv8 hz8 M hb8=>⟨⟨(C.trans M).bX z id,(C.trans M).bX b6 id⟩,?_⟩;have hvs:=e.1;have hlt0:U.size<v6.size:=z.lt;have h6s:=e6.1;have h7s:=C.1;have w:=aI.aF (aI.aF hro C) M;have hol:=w.1;rw[Kj V,aa]at hol;refine w.app (ys:=[.int .i64 s.many,.int .i64 s.st,.pointer (some ⟨W,0,none⟩)]) rfl rfl ?_ (by simp[dJ]) ?_ ?_ mu λs' v9 hl' e9 ho'=>?_
  ·intro j u H;rw[add_lit,zG,hb8.cell];exact H
  ·simp only;have:(o.len+1)*24<=1025*24:=lV O O;omega
  ·simp only;omega
  ·have L:=e9.bX ((C.trans M).bX z id) λB=>B.2.1 rfl;have Y:=e9.bX ((C.trans M).bX b6 id) λB=>by have:=B.1.2;omega
   refine⟨⟨L,Y⟩,bO (L.s1 aA λv10 gE ab=>?_)⟩;have e0:aG U v10:=by
    refine Ext.fresh (Ext.fresh (((e.trans e6).trans C).trans M) e9 λb d=>d.1.1) gE.ext λb d=>by omega
   have A:=N.nd;simp only[zo]at A;have g:∀b∈dN D,b<v.size:=λb d=>(N.fb b d).2;have S:ss.take (i+1)=ss.take i++[s]:=by rw[zj,hs];rfl
   have G:∀b,b∈dN (D++[(W,qn)])↔b∈dN D\/b=W\/b=qn:=by
    intro b;simp[dN]
   refine cC (m:=i+1) O O ⟨⟨i+1,D++[(W,qn)],rfl,O,e0,⟨s',ab,?_⟩,λj y u K H=>?_,zC _,λb d=>?_,?_,?_,h.ok,?_⟩,O⟩
   ·rw[S,Ve V];refine aI.bV (aI.mono ho' λb _ d=>?_) gE.ext λb _ d he=>d.2.1 he;rcases d with d|d
    ·refine⟨d.1.1,d.2.1,λr=>?_⟩;rcases(G b).1 r with h1|h1|h1
     ·exact d.2.2 h1
     ·have:=d.1.2;omega
     ·have:=d.1.2;omega
    ·refine⟨O,O,λr=>?_⟩;rcases(G b).1 r with h1|h1|h1
     ·have:=g b h1;omega
     ·omega
     ·omega
   ·rw[S]at H;rcases zq j i with hji|hji
    ·rw[zQ O]at K H;have r:=QB K;have hl1:=g _ r.1;have hl2:=g _ r.2;have k:=P.sp j y u K H;exact(((k.aF C).aF M).bV e9 (λB=>B.2.2 r.1) (λB=>B.2.2 r.2)).bV gE.ext (λhe=>A.1 (he▸r.1)) (λhe=>A.1 (he▸r.2))
    ·rw[zg O]at K H;have hj0:j=i:=by
      have:=(cV.1 K).1;simp at this;omega
     subst hj0;rw[show j-D.length=0 by omega]at K;rw[aa,mI]at H;simp at K H;subst K;subst H;exact((Q.aF M).bV e9 (λB=>by have:=B.1.2;first|omega | (simp only at this;omega)) (λB=>by have:=B.1.2;first|omega | (simp only at this;omega))).bV gE.ext aD aD
   ·rcases(G b).1 d with h1|h1|h1
    ·exact(N.fb b h1).1
    ·show U.size<=b;omega
    ·show U.size<=b;omega
   ·simp only[zo];refine⟨λr=>?_,?_⟩
    ·rcases(G _).1 r with h1|h1|h1
     ·exact A.1 h1
     ·omega
     ·omega
    ·have:dN (D++[(W,qn)])=dN D++[W,qn]:=by simp[dN]
     rw[this,n0];refine⟨A.2,by simp[Q.ne],λa ha b d e=>?_⟩;have:=g a ha;simp at d;omega
   ·rw[S];simp[V]
   ·exact h.nq.sublist (yn _ _)
 ·have hii:i=ss.length:=by simp only at hge;omega
  subst hii;rw[zy]at N;exact hR v U.size D e (zC _) N
end Go.Ar
namespace Go.Proofs
open Go.Vc
set_option maxRecDepth 100000
def Xr.h:Hn:=.q .o1 (.q (.q .o3 .aK) (.q .o5 (.q .o2 (.q (.q .o6 (.k (.loop [(18,.I)] (.q .o1 (.q (.c .l .l) (.q (.k (.q .o3 (.cW (.held true [5,7] (.tk [0,1,2] (.all [(3,.all [(4,.all [(5,.take 6 (.all [(7,.done)]))])])])))))) .o2)))))) .aM))))
def Xr.v (a:R2)(b:Hp)(c:Option Addr->Hp->Prop):Prop:=WL.c a b λd e=>If (!d) (c none e) (bU a λf=>aQ f 0 e λg=>aQ f 1 e λh=>aQ f 2 e λi=>aX f 3 e λj=>aV #[.I 0,.I 0,.I 0,.slice none 0 0] 196 e λk l=>aR k 0 (.I g) l λm=>aR k 1 (.I h) m λn=>aR k 2 (.I i) n λo=>aR k 3 (.slice j.a j.len j.cap) o λp=>aR k 3 (.slice none 0 0) p λq=>bE a 3 q λs=>WU [bN] (λt=>t 0 q) λu (v:Int) w=>If (v<((s.len:Nat):Int)) (Ix s.a s.len v 1 λx=>ji x w λy=>dP w λz=>aT z k 3 λaa=>Wk.c y w λab ac=>And (z ac) <| aV #[.slice ab.a ab.len ab.cap] 27 ac λad ae=>And (z ae) <| App aa 1 24 27 [.slice none 0 0] ⟨some ad,1,1⟩ ae λaf ag=>aR k 3 (.slice af.a af.len af.cap) ag λah=>bL (v+1) λai=>u ai ah) (c (some k) w))
theorem Xr.o {a b c}(d:Xr.v a b c):Xr.c a b c:=Wa Tryz.func77 (x:=Xr.h) (R0 d)
def WL.h:Hn:=.q .o1 (.q (.cW (.seq [.op,.op,.op,.cY true 5 (RI.ops 5),.op])) .l)
def WL.v (a:R2)(b:Hp)(c:aO):Prop:=bW (λd e=>c d e) λf=>If (!a.isNone) (bD a 0 b λh=>f (decide (h>0)) b) (f false b)
theorem WL.o {a b c}(d:WL.v a b c):WL.c a b c:=Wa Tryz.func113 (x:=WL.h) (R0 d)
def Qa.h:Hn:=.q .o2 (.q (.q (.cW (.seq [.op,.op,.op,.cY false 2 [.op,.op],.op,.cY false 2 [.op,.op],.op,.cY false 2 [.op,.op]])) .aJ) (.q .o6 .l))
def Qa.v (a b:Int)(c:Hp)(d:Option Addr->Int->Hp->Prop):Prop:=bW (λe f=>bW (λg h=>bW (λi j=>If i (d none 1 j) (aV #[.I a,.I b,.I 0,.slice none 0 0] 196 j λk l=>d (some k) 0 l)) λm=>If g (m true h) (m (decide (b>8)) h)) λn=>If e (n true f) (n (decide (b<0)) f)) λo=>If (a<1) (o true c) (o (decide (a>32)) c)
theorem Qa.o {a b c d}(e:Qa.v a b c d):Qa.c a b c d:=Wa Tryz.func119 (x:=Qa.h) (R0 e)
def Xo.h:Hn:=.q .o1 (.q .o4 .l)
def Xo.v (a:R2)(b:Hp)(c:Sl->Hp->Prop):Prop:=XI.c a ⟨206,#[],#[]⟩ b λd e=>c d e
theorem Xo.o {a b c}(d:Xo.v a b c):Xo.c a b c:=Wa Tryz.func148 (x:=Xo.h) (R0 d)
def WB.h:Hn:=.q .o2 (.q (.k (.q .o4 (.c .aL (.q .o7 .aJ)))) (.q .o7 (.q .o8 (.q .gE (.q .gE (.q .o3 .l))))))
def WB.v (a:R2)(b:Hp)(c:Sl->Int->Hp->Prop):Prop:=WL.c a b λd e=>If (!d) (c ⟨none,0,0⟩ 5 e) (bE a 3 e λg=>If (((g.len:Nat):Int)==0) (c ⟨none,0,0⟩ 4 e) (bE a 3 e λi=>bL (((i.len:Nat):Int)-1) λj=>bE a 3 e λl=>Ix l.a l.len j 1 λm=>ji m e λn=>bE a 3 e λp=>fE p 1 0 j (p.cap:Nat) λq=>bU a λr=>aR r 3 (.slice q.a q.len q.cap) e λs=>bD a 2 s λu=>bU a λv=>aR v 2 (.I (if j<u then j else u)) s λw=>c n 0 w))
theorem WB.o {a b c}(d:WB.v a b c):WB.c a b c:=Wa Tryz.func172 (x:=WB.h) (R0 d)
def XI.h:Hn:=.q .o2 (.q (.q .o3 .aK) (.q .o5 (.q .o8 (.q (.o 11) (.q .o9 .aL)))))
def XI.v (a:R2)(b:Fv)(c:Hp)(d:Sl->Hp->Prop):Prop:=aV #[.func (.func b.f) b.first b.captured] 292 c λe f=>WL.c a f λg h=>If (!g) (d ⟨none,0,0⟩ h) (BF (e.add 0) h λi=>UE Tryz.prog i [.pointer a] [.I] h λj k=>bE a 3 k λm=>fE m 1 0 j j λn=>bE a 3 k λp=>fE p 1 j (p.len:Nat) (p.cap:Nat) λq=>WQ.c q k λr s=>bU a λt=>aR t 3 (.slice r.a r.len r.cap) s λu=>bE a 3 u λw=>bU a λx=>aR x 2 (.I ((w.len:Nat):Int)) u λy=>d n y)
theorem XI.o {a b c d}(e:XI.v a b c d):XI.c a b c d:=Wa Tryz.func205 (x:=XI.h) (R0 e)
def XH.h:Hn:=.q .o1 (.q .o7 .l)
def XH.v (a:R2)(b:Hp)(c:aN):Prop:=bD a 2 b λe=>bL (e+1) λf=>Nz 2<|bL (f.tdiv 2) λg=>c g b
theorem XH.o {a b c}(d:XH.v a b c):XH.c a b c:=Wa Tryz.func206 (x:=XH.h) (R0 d)
def Xe.h:Hn:=.q .o2 (.q (.k (.q .o4 (.c .aL (.q .o8 (.c .aL (.q (.oq 11) .aJ)))))) (.q (.cW (.held true [8,11] (.tk [0,1,2,3,4,5] (.all [(6,.all [(7,.all [(8,.take 9 (.take 10 (.all [(11,.done)])))])])])))) .aL))
def Xe.v (a:R2)(b:Sl)(c:Hp)(d:Bool->Int->Hp->Prop):Prop:=WL.c a c λe f=>If (!e) (d false 5 f) (bD a 0 f λh=>If (((b.len:Nat):Int) != h) (d false 1 f) (bE a 3 f λj=>bD a 1 f λl=>If (((j.len:Nat):Int)≥l) (d false 0 f) (dP f λm=>bU a λn=>aT m n 3 λo=>Wk.c b f λp q=>And (m q) <| aV #[.slice p.a p.len p.cap] 27 q λr s=>And (m s) <| App o 1 24 27 [.slice none 0 0] ⟨some r,1,1⟩ s λt u=>bU a λv=>aR v 3 (.slice t.a t.len t.cap) u λw=>d true 0 w)))
theorem Xe.o {a b c d}(e:Xe.v a b c d):Xe.c a b c d:=Wa Tryz.func234 (x:=Xe.h) (R0 e)
end Go.Proofs
namespace Go.Ar
open Go Go.Vc Go.Proofs
variable {U:Hp}{F:Rg}{p batch room:Nat}{t:gg}
def mn (s:Sl):Value:=.slice s.a s.len s.cap
def Wu (xs:List Int):List Value:=xs.map (Value.int .i64)
theorem KH {l:List Int}:∀v∈Wu l,dJ v=true:=by
 intro v hv;simp only[Wu,zD]at hv;obtain⟨x,_,rfl⟩:=hv;rfl
theorem M5 {l:List Sl}:∀v∈l.map mn,dJ v=true:=by
 intro v hv;simp only[zD]at hv;obtain⟨x,_,rfl⟩:=hv;rfl
def oI (sls:List Sl)(bs:List (List Int))(U:Hp)(D:Rg):Prop:=sls.length=bs.length/\∀(i:Nat) s xs,sls[i]?=some s->bs[i]?=some xs->cS s 1 (Wu xs) U D/\s.len<=s.cap
theorem oI.loc (sls:List Sl)(bs:List (List Int)):dH (oI sls bs):=λU j F G h g e=>⟨h.1,λi s d a b=>⟨cS.loc _ _ _ _ _ _ _ (h.2 i s d a b).1 g e,(h.2 i s d a b).2⟩⟩
def Dj (sls:List Sl):Prop:=sls.Pairwise λs t=>∀a a',s.a=some a->t.a=some a'->a.block≠a'.block
def lg (s:Sl)(b:Nat):Prop:=∃a,s.a=some a/\a.block=b
theorem _root_.Go.Vc.cS.yP {s:Sl}{sz:Nat}{xs:List Value}{D:Rg}(h:cS s sz xs U D):cS s sz xs U λb=>D b/\lg s b:=
 ⟨h.1,h.2.imp id λ⟨b,o,d,e,a,r⟩=>⟨b,o,d,⟨e,_,a,rfl⟩,a,r⟩⟩
theorem _root_.Go.Vc.cS.bX {s:Sl}{sz:Nat}{xs:List Value}{D:Rg}(h:cS s sz xs U D)(hx:xs≠[]){b:Nat}(hb:lg s b):D b/\b<U.size:=by
 rcases h.2 with h0|⟨b',o,cs,hq,ha,hc,_⟩
 ·exact absurd h0 hx
 ·obtain⟨a,d,rfl⟩:=hb;rw[ha]at d;cases d;exact⟨hq,hc.lt⟩
theorem Dj.snoc {sls:List Sl}{bs:List (List Int)}{D:Rg}{z:Nat}{s':Sl}{xs:List Value}{v:Hp}(h:Dj sls)(hB:oI sls bs U D)(hne:∀xs∈bs,xs≠[])(hz:∀b,D b->b<z)(hs:bR s' 1 xs v λb=>z<=b)(hx:xs≠[]):Dj (sls++[s']):=by
 refine pC.2 ⟨h,Df _ _,λs g u m a x w p=>?_⟩;rw[zZ]at m;subst m;obtain⟨i,j⟩:=zN g;have e:=(cV.1 j).1;have d:bs[i]?=some (bs[i]'(by rw[←hB.1];exact e)):=cQ _;have r:=((hB.2 i s _ j d).1.bX (by simp only[Wu,ne_eq,vC];exact hne _ (zE d)) ⟨a,w,rfl⟩).1;have y:=(hs.fM.bX hx ⟨x,p,rfl⟩).1;have:=hz _ r;omega
structure ij (U:Hp) (F:Rg) (p batch room:Nat) (t:gg):Prop where
 mem:∃(sl:Sl) (sls:List Sl) (D:Rg),bY U p [.int .i64 (batch:Int),.int .i64 (room:Int),.int .i64 (t.low:Int),.slice sl.a sl.len sl.cap]/\bR sl 1 (sls.map mn) U (λb=>F b/\b≠p/\¬D b)/\oI sls t.bs U D/\(∀b,D b->F b/\b≠p)/\Dj sls
 fp:F p
 b1:1<=batch/\batch<=32
 r1:room<=8
 lZ:t.bs.length<=room
 low:t.low<=t.bs.length
 all:∀xs∈t.bs,xs.length=batch
theorem ij.loc:dH λU F=>ij U F p batch room t:=λU x F G h m d=>by
 obtain⟨sl,i,D,a,w,u,j,s⟩:=h.mem;refine⟨⟨sl,i,λb=>D b/\b<U.size,?_,?_,?_,λb a=>⟨(d b a.2 (j b a.1).1).1,(j b a.1).2⟩,s⟩,(d p a.lt h.fp).1,h.b1,h.r1,h.lZ,h.low,h.all⟩
 ·obtain⟨e,r⟩:=a;exact⟨e,(d p (bY.lt ⟨e,r⟩) h.fp).2.trans r⟩
 ·exact bR.loc _ _ _ _ _ _ _ w m λb a g=>⟨⟨(d b a g.1).1,g.2.1,λhd=>g.2.2 hd.1⟩,(d b a g.1).2⟩
 ·exact oI.loc _ _ _ _ _ _ u m λb a hd=>⟨⟨hd,a⟩,(d b a (j b hd).1).2⟩
theorem ij.aF {σ':Hp}(h:ij U F p batch room t)(e:aG U σ'):ij σ' F p batch room t:=dH.aF ij.loc h e
theorem Gk (h:ij U F p batch room t){R:aO}(hR:R true U):WL.c (aW p) U R:=by
 refine WL.o ?_;unfold WL.v;obtain⟨sl,a,D,b,_⟩:=h.mem;have:=h.b1;refine bW.intro (cJ rfl (bO (b.rI rfl ?_)));rw[zI O];exact hR
theorem _root_.Go.Vc.cS.C4 {s:Sl}{F:Rg}{sls:List Sl}(h:cS s 1 (sls.map mn) U F){i:Nat}{x:Sl}(hx:sls[i]?=some x){K:Sl->Prop}(hK:K x):Ix s.a s.len (i:Int) 1 λa=>ji a U K:=by
 have m:=(cV.1 hx).1;obtain⟨b,o,d,g⟩:=h.cell (j:=i) (v:=mn x) (by simp[hx]);have e:=h.1;rw[zi]at e;rw[d];refine ix O O ?_;rw[add_lit];exact nR (by simpa[mn]using g) hK
theorem TE (h1:1<=batch)(h2:batch<=32)(h3:room<=8){R:Option Addr->Int->Hp->Prop}(hR:∀σ' p,aG U σ'->U.size<=p->p<σ'.size->ij σ' (· = p) p batch room ⟨0,[]⟩->R (some ⟨p,0,none⟩) 0 σ'):Qa.c batch room U R:=by
 refine Qa.o ?_;unfold Qa.v;refine bW.intro (dR O (bW.intro (dR O (bW.intro (dR O (dR O ?_))))));refine nw (cs:=[.int .i64 batch,.int .i64 room,.int .i64 0,.slice none 0 0]) λv d e a=>?_;exact hR v _ e (zC _) O ⟨⟨⟨none,0,0⟩,[],λ_=>False,a,bR.nil _ _ _ _,⟨rfl,λi s g h=>by simp at h⟩,λb h=>h.elim,List.Pairwise.nil⟩,rfl,⟨h1,h2⟩,h3,by simp,by simp,by simp⟩
theorem Nx (h:ij U F p batch room t){sl:Sl}{xs:List Int}{X:Rg}(hs:cS sl 1 (Wu xs) U X)(hl:xs.length<=1000000){R:Bool->Int->Hp->Prop}(h1:xs.length≠batch->R false 1 U)(h2:xs.length=batch->room<=t.bs.length->R false 0 U)
 (h3:xs.length=batch->t.bs.length<room->∀σ',Ext F U σ'->ij σ' (Grow F U) p batch room {t with bs:=t.bs++[xs]}->R true 0 σ'):Xe.c (aW p) sl U R:=by
 refine Xe.o ?_;unfold Xe.v;have h:=ij.loc.cut h;obtain⟨C,A,D,d,hr,B,K,hJ⟩:=h.mem;have r:sl.len=xs.length:=by have:=hs.1;simp[Wu]at this;omega
 have hso:C.len=t.bs.length:=by have:=hr.1;rw[zi,B.1]at this;omega
 have hr8:=h.r1;have hb1:=h.b1;refine Gk h (bZ rfl (bO (d.rI rfl ?_)));rw[pJ];refine cU (λy=>h1 (by rw[←r];simpa using y)) λZ=>?_;have g:xs.length=batch:=by rw[←r];simpa using Z
 refine bO (d.rS rfl (bO (d.rI rfl (cL (λV=>h2 g (by simp only at V;omega)) λQ=>?_))));simp only at Q;refine⟨λh'=>bY h' p [.int .i64 (batch:Int),.int .i64 (room:Int),.int .i64 (t.low:Int),.slice C.a C.len C.cap],d,bO ⟨C,λh' hS=>by rw[add_lit,hS.cell];rfl,?_⟩⟩;refine Kz hs KH O λx v1 hl1 e1 z=>⟨e1.bX d id,?_⟩;refine nw (cs:=[.slice x.a x.len x.cap]) λv2 hz2 e2 P=>⟨(e1.trans e2).bX d id,?_⟩;have W:=aI.aF (aI.aF hr e1) e2;refine W.app (ys:=[mn x]) rfl rfl ?_ (by simp[dJ,mn]) ?_ ?_ mu λs2 v3 hl3 N S=>bO ?_
 ·intro j u hu;rw[add_lit,zG,P.cell];exact hu
 ·simp only;have:(C.len+1)*24<=9*24:=lV O O;omega
 ·simp only;omega
 ·have M:=N.bX ((e1.trans e2).bX d id) λH=>H.2.1 rfl;have hplt:=d.lt;have hs1:=e1.1;refine M.s1 aA λv4 o4 L=>h3 g O v4 ?_ ?_
  ·exact((aG.to (e1.trans e2)).trans (N.sub λb d=>d.1.1)).trans (o4.ext.sub λb d=>d▸h.fp.1)
  ·refine⟨⟨s2,A++[x],λb=>D b/\b<U.size\/U.size<=b/\b<v1.size,L,?_,⟨by simp[B.1],λi s ys w m=>?_⟩,λb d=>?_,?_⟩,.inl h.fp.1,h.b1,h.r1,by simp;omega,by have:=h.low;simp;omega,λys m=>?_⟩
   ·rw[lr];refine aI.bV (aI.mono S λb _ d=>?_) o4.ext λb _ d Y=>d.2.1 Y;rcases d with d|d
    ·exact⟨.inl d.1.1,d.2.1,λhd=>by
      rcases hd with hd|hd
      ·exact d.2.2 hd.1
      ·have:=d.1.2;omega⟩
    ·exact⟨.inr O,O,λhd=>by rcases hd with hd|hd<;>omega⟩
   ·have mv:∀{s:Sl} {ys:List Int} {G:Rg},cS s 1 (Wu ys) v2 G->(∀b,G b->b≠p/\¬(Cut F U b/\b≠p/\¬D b))->cS s 1 (Wu ys) v4 G:=λhS hn=>
     aH.bV (aH.bV hS N λb _ d=>(hn b d).2) o4.ext λb _ d Y=>(hn b d).1 Y
    rcases zq i A.length with hi'|hi'
    ·rw[zQ hi']at w;rw[zQ (by rw[←B.1];exact hi')]at m;obtain⟨k1,k2⟩:=B.2 i s ys w m;refine⟨aH.mono (mv (aH.aF (aH.aF (aH.mono k1 (G:=λb=>D b/\b<U.size) λb d hd=>⟨hd,d⟩) e1) e2) λb hd=>⟨(K b hd.1).2,λH=>H.2.2 hd.1⟩) λb _ hd=>.inl hd,k2⟩
    ·rw[zg hi']at w;rw[zg (by rw[←B.1];exact hi')]at m;have E:i-A.length=0:=by
      have:=(cV.1 w).1;simp at this;omega
     rw[E]at w;rw[show i-t.bs.length=0 by rw[←B.1];exact E]at m;simp at w m;subst w;subst m;have J:x.len<=x.cap:=by
      rcases z.2 with⟨q1,q2⟩|⟨_,_,_,_,_,q,_⟩
      ·omega
      ·exact q
     refine⟨aH.mono (mv (aH.aF (aH.mono z.fM (G:=λb=>U.size<=b/\b<v1.size) λb d hd=>⟨hd,d⟩) e2) λb hd=>⟨O,λH=>by have:=H.1.2;omega⟩) λb _ hd=>.inr hd,J⟩
   ·rcases d with hd|hd
    ·exact⟨.inl (K b hd.1).1.1,(K b hd.1).2⟩
    ·exact⟨.inr hd.1,O⟩
   ·have y:∀ys∈t.bs,ys≠[]:=λys m e=>by have:=ij.all ‹_› ys m;rw[e]at this;simp at this;omega
    exact hJ.snoc B y (λb hd=>(K b hd).1.2) z (by simp only[Wu,ne_eq,vC];intro e;rw[e]at g;simp at g;omega)
   ·rcases zS.1 m with h|h
    ·exact ij.all ‹_› ys h
    ·simp at h;subst h;exact g
theorem Rk (h:ij U F p batch room t)(h0:t.bs=[]){R:Sl->Int->Hp->Prop}(hR:R ⟨none,0,0⟩ 4 U):WB.c (aW p) U R:=by
 refine WB.o ?_;unfold WB.v;obtain⟨d,b,D,i,e,g,m,j⟩:=h.mem;have a:d.len=t.bs.length:=by have:=e.1;rw[zi,g.1]at this;omega
 refine Gk h (bZ rfl (bO (i.rS rfl (cJ ?_ hR))));simp[a,h0]
theorem WhI (h:ij U F p batch room t)(h0:t.bs≠[]){R:Sl->Int->Hp->Prop}(hR:∀out σ',Ext F U σ'->(∀b,lg out b->F b)->cS out 1 (Wu (t.bs.getLast?.getD [])) σ' (lg out)->out.len<=out.cap->ij σ' (λb=>F b/\¬lg out b) p batch room t.rem->R out 0 σ'):WB.c (aW p) U R:=by
 refine WB.o ?_;unfold WB.v;obtain⟨Q,g,D,d,J,A,B,W⟩:=h.mem;have hso:Q.len=t.bs.length:=by have:=J.1;rw[zi,A.1]at this;omega
 have Z:=qo.2 h0;have hr8:=h.r1;have hfw:=h.lZ;have Y:=h.low;have K:t.bs.length-1<g.length:=by rw[A.1];omega
 obtain⟨o,S⟩:∃o,g[t.bs.length-1]?=some o:=⟨_,cQ K⟩;have j:t.bs[t.bs.length-1]?=some (t.bs.getLast?.getD []):=by
  rw[List.getLast?_eq_getElem?,cQ O];rfl
 obtain⟨k1,k2⟩:=A.2 _ o _ S j;refine Gk h (bZ rfl (bO (d.rS rfl (bZ ?_ ?_))))
 ·simp only[kR];omega
 refine bO (d.rS rfl (cC (m:=t.bs.length-1) aC O (bO (d.rS rfl ?_))));refine J.fM.C4 S (bO (d.rS rfl ?_));have aa:Q.len<=Q.cap:=by
  rcases J.2 with⟨q1,q2⟩|⟨_,_,_,_,_,q,_⟩
  ·omega
  ·exact q
 refine jI (lo:=0) O aD aD (bO (d.s1 aA λv1 o1 C=>bO (C.rI rfl (bO ?_))))
 refine C.s1 aA λv2 o2 r=>?_;have u:Ext (· = p) U v2:=o1.ext.trans o2.ext;have E:(if((t.bs.length-1:Nat):Int)<(t.low:Int)then((t.bs.length-1:Nat):Int)else(t.low:Int))=((min t.low (t.bs.length-1):Nat):Int):=by split<;>omega
 rw[E]at r;have L:∀x∈t.bs,x≠[]:=λx w e=>by have X:=h.all x w;have h2:=h.b1;rw[e]at X;simp at X;omega
 have z:∀b,lg o b->D b:=λb d=>(k1.bX (by simp only[Wu,ne_eq,vC];exact L _ (zE j)) d).1;refine hR o v2 (u.sub λb d=>d▸h.fp) (λb d=>(B b (z b d)).1) (aH.mono (aH.bV k1 u λb _ d G=>(B b d).2 G).yP λb _ hd=>hd.2) k2 ⟨⟨_,g.dropLast,λb=>D b/\¬lg o b,r,?_,⟨by simp[A.1,gg.rem],λi s x H w=>?_⟩,λb hd=>⟨⟨(B b hd.1).1,hd.2⟩,(B b hd.1).2⟩,List.Pairwise.sublist (List.dropLast_sublist _) W⟩,⟨h.fp,λd=>(B p (z p d)).2 rfl⟩,h.b1,h.r1,by simp[gg.rem];omega,by simp[gg.rem];omega,λx w=>h.all x (List.dropLast_subset _ w)⟩
 ·refine aI.bV ?_ u λb _ d G=>d.2.1 G;refine⟨by simp[A.1],?_⟩;rcases J.2 with⟨q1,q2⟩|⟨b,cs,hq,V,hbb,hle,hcl,ht⟩
  ·omega
  ·refine .inr ⟨b,cs,⟨⟨hq.1,λd=>hq.2.2 (z b d)⟩,hq.2.1,λhd=>hq.2.2 hd.1⟩,?_,hbb,by simp only;omega,by simp only;omega,?_⟩
   ·simp only[V];split<;>simp[add_lit]
   ·simp only[zi]at ht ⊢;have hd:g.dropLast.map mn=(g.map mn).take (g.length-1):=by rw[ya,List.map_take]
    rw[hd,←ht,y7,BM]
    congr 1;omega
 ·have y:i<t.bs.length-1:=by
   have:=(cV.1 w).1;simpa[gg.rem]using this
  rw[ya,zY]at H;simp only[gg.rem,ya,zY]at w;rw[zB (by rw[A.1];exact y)]at H;rw[zB y]at w;obtain⟨m1,m2⟩:=A.2 i s x H w;refine⟨aH.mono (aH.bV m1 u λb _ d G=>(B b d).2 G).yP λb _ d=>⟨d.1,λr=>?_⟩,m2⟩;obtain⟨a,V,e1⟩:=d.2;obtain⟨a',P,e2⟩:=r;obtain⟨N,rfl⟩:=cV.1 H;obtain⟨M,rfl⟩:=cV.1 S;exact zr.1 W i _ N M y a a' V P (e1.trans e2.symm)
theorem PA {s:Sl}{vs:List Value}(h:cS s 1 vs U F)(h1:∀v∈vs,dJ v=true)(hl:s.len<=1000000){R:Sl->Hp->Prop}
 (hR:∀s' σ',s'.len=s.len->aG U σ'->bR s' 1 vs σ' (λb=>U.size<=b)->R s' σ'):WQ.c s U R:=by
 refine WQ.o ?_;unfold WQ.v;exact yc h aB rfl h1 aB hl hR
def sZ (out:Sl)(bs:List (List Int))(U:Hp)(G:Rg):Prop:=∃sls:List Sl,cS out 1 (sls.map mn) U G/\oI sls bs U G
theorem sZ.loc (out:Sl)(bs:List (List Int)):dH (sZ out bs):=λU i F G ⟨a,e,g⟩ d b=>⟨a,cS.loc _ _ _ _ _ _ _ e d b,oI.loc _ _ _ _ _ _ g d b⟩
theorem Sv (h:ij U F p batch room t){R:Sl->Hp->Prop}(hR:∀out σ',Ext F U σ'->sZ out t.out σ' F->ij σ' (Grow F U) p batch room t.tick->R out σ'):Xo.c (aW p) U R:=by
 refine Xo.o ?_;unfold Xo.v;refine XI.o ?_;unfold XI.v;have H:=h;have h:=ij.loc.cut h;obtain⟨w,d,D,e,Z,z,J,hJ⟩:=h.mem;have aa:w.len=t.bs.length:=by have:=Z.1;rw[zi,z.1]at this;omega
 have hr8:=h.r1;have hfw:=h.lZ;have hlow:=h.low;obtain⟨n,L⟩:∃n,n=(t.low+1)/2:=⟨_,rfl⟩;have hnl:n<=t.bs.length:=by omega
 refine nw (cs:=[.func (.func 206) #[] #[]]) λv1 hz1 e1 Y=>?_;have h1:=h.aF e1;have u:=e1.bX e id;refine Gk h1 (bZ rfl ?_);refine⟨⟨206,#[],#[]⟩,by rw[add_lit,Y.cell];rfl,?_⟩;refine oP (all := #[.pointer (some ⟨p,0,none⟩)]) (by kernel_rfl) aA ?_;refine XH.o ?_;unfold XH.v;refine bO (u.rI rfl (cC (m:=t.low+1) O O (nz aB (cC (m:=n) (by rw[Xq O];omega) O ?_))));refine bO (u.rS rfl ?_);have ac:w.len<=w.cap:=by
  rcases Z.2 with⟨q1,q2⟩|⟨_,_,_,_,_,q,_⟩
  ·omega
  ·exact q
 have K:=aI.aF Z e1;have X:=(oI.loc _ _).aF z e1;refine jI (lo:=0) O O aD (bO (u.rS rfl (jI aD aD aD ?_)))
 have x:∀(s:Sl) (a m:Nat),(s.len=m)->a+m<=d.length->(m=0\/∀b,w.a=some ⟨b,0,none⟩->s.a=some ⟨b,a,none⟩)->cS s 1 (((d.drop a).take m).map mn) v1 (λb=>Cut F U b/\b≠p/\¬D b):=by
  intro s a m hs ham hsa;refine⟨by simp;omega,?_⟩;rcases uW m with h0|h0
  ·left;subst h0;simp
  ·rcases K.fM.2 with q|⟨b,o,cs,q1,q2,q3,q4⟩
   ·have:d=[]:=by simpa using q
    subst this;simp at ham;omega
   ·rcases K.2 with⟨z1,z2⟩|⟨b',cs',w1,w2,w3,w4,w5,w6⟩
    ·rw[z.1]at ham;omega
    ·rcases hsa with hm|hsa
     ·omega
     ·refine .inr ⟨b',a,cs',w1,hsa b' w2,w3.q,λj hj=>?_⟩;simp only[zi,zL,zt]at hj;have:cs'[a+j]?=(d.map mn)[a+j]? := by
       rw[←w6,zY,zB (by rw[zi];omega)]
      rw[this];simp only[zk,zY,zn];rw[zB O]
 have ab:w.len=d.length:=by rw[z.1];exact aa
 refine PA (x _ n (d.length-n) aC O ?_) M5 aC λs' v3 S B M=>?_
 ·by_cases hz:w.cap=n
  ·left;omega
  ·right;intro b hbs;simp only[zA hz,hbs];simp[add_lit]
 have V:=B.bX u id;refine bO (V.s1 aA λv4 o4 E=>bO (E.rS rfl (bO (E.s1 aA λv5 o5 C=>?_))));have g:Ext (· = p) v3 v5:=o4.ext.trans o5.ext;have hs1:=e1.1;have hs3:=B.1;have hplt:=e.lt;have W:(d.drop 0).take n=d.take n:=by simp
 refine hR _ v5 ?_ ⟨d.take n,?_,?_⟩ ⟨⟨s',d.drop n,λb=>D b/\b<U.size,?_,?_,?_,?_,List.Pairwise.sublist (AU _ _) hJ⟩,.inl H.fp,h.b1,h.r1,?_,?_,?_⟩
 ·exact(aG.to (e1.trans B)).trans (g.sub λb e=>e▸H.fp)
 ·have:=x ⟨if n=0 then w.a else w.a.map (·.add (0*1)),n-0,n-0⟩ 0 n aA O (by
   by_cases hz:n=0
   ·exact .inl hz
   ·right;intro b hbs;simp only[zA hz,hbs];simp[add_lit])
  rw[W]at this;exact aH.mono (aH.bV (aH.aF this B) g λb _ e A=>e.2.1 A) λb _ e=>e.1.1
 ·refine⟨by simp[z.1,gg.out,L],λi s N y r=>?_⟩;simp only[gg.out,←L]at r;rw[zY]at y r;split at y
  ·rename_i hin;rw[zB hin]at r;obtain⟨Q,P⟩:=X.2 i s N y r;exact⟨aH.mono (aH.bV (aH.aF Q B) g λb _ e A=>(J b e).2 A) λb _ e=>(J b e).1.1,P⟩
  ·cases y
 ·have:((s'.len:Nat):Int)=((t.tick.low:Nat):Int):=by
   rw[S];simp only[gg.tick,zt,←L];omega
  rw[this]at C;exact C
 ·have hh:((d.drop n).take (d.length-n))=d.drop n:=l0 aA;rw[hh]at M;refine aI.bV (aI.mono M λb _ e=>?_) g λb _ e A=>e.2.1 A;exact⟨.inr O,O,λhd=>O⟩
 ·refine⟨by simp[z.1,gg.tick,L],λi s N y r=>?_⟩;simp only[gg.tick,←L]at r;rw[zn]at y r;obtain⟨Q,P⟩:=z.2 _ s N y r;exact⟨aH.bV (aH.aF (aH.aF (aH.mono Q (G:=λb=>D b/\b<U.size) λb e hd=>⟨hd,e⟩) e1) B) g λb _ e A=>(J b e.1).2 A,P⟩
 ·exact λb hd=>⟨.inl (J b hd.1).1.1,(J b hd.1).2⟩
 ·simp only[gg.tick,zt];omega
 ·simp[gg.tick]
 ·exact λN r=>h.all N (qW r)
theorem LG (h:ij U F p batch room t){R:Option Addr->Hp->Prop}(hR:∀σ' p',aG U σ'->U.size<=p'->ij σ' (λb=>U.size<=b) p' batch room t->R (some ⟨p',0,none⟩) σ'):Xr.c (aW p) U R:=by
 refine Xr.o ?_;unfold Xr.v;obtain⟨so,W,D,d,hr,hB,hD,hJ⟩:=h.mem;have hso:so.len=t.bs.length:=by have:=hr.1;rw[zi,hB.1]at this;omega
 have hfw:=h.lZ;have y:=h.r1;have hbb:=h.b1;refine Gk h (bZ rfl (bO (d.rI rfl (d.rI rfl (d.rI rfl (d.rS rfl ?_))))));refine nw (cs:=[.int .i64 0,.int .i64 0,.int .i64 0,.slice none 0 0]) λv1 hz1 e1 b1=>b1.s1 aA λv2 o2 b2=>b2.s1 aA λv3 o3 b3=>b3.s1 aA λv4 o4 b4=>b4.s1 aA λv5 o5 b5=>b5.s1 aA λv6 o6 b6=>?_;have e6:aG U v6:=Ext.fresh e1 ((((o2.ext.trans o3.ext).trans o4.ext).trans o5.ext).trans o6.ext) λi hi=>by omega
 refine bO ((e6.bX d id).rS rfl ?_);refine Zw (a:=bN) (λ(tt:Int) v=>∃(i:Nat) (sl:Sl) (C:List Sl) (E:Rg),tt=(i:Int)/\i<=t.bs.length/\aG U v/\bY v U.size [.int .i64 (batch:Int),.int .i64 (room:Int),.int .i64 (t.low:Int),.slice sl.a sl.len sl.cap] ∧
  bR sl 1 (C.map mn) v (λb=>U.size<b/\¬E b)/\oI C (t.bs.take i) v E/\(∀b,E b->U.size<b/\b<v.size)/\Dj C) (λtt _=>t.bs.length-tt.toNat)
  ⟨0,⟨none,0,0⟩,[],λ_=>False,rfl,O,e6,b6,bR.nil _ _ _ _,⟨by simp,λi s xs hi=>by simp at hi⟩,λb h=>h.elim,List.Pairwise.nil⟩ ?_
 rintro tt v ⟨i,sl,C,E,rfl,hi,e,r,K,g,N,V⟩;refine cL (λhlt=>?_) λhge=>?_
 ·simp only at hlt;have w:i<t.bs.length:=by omega
  have aa:i<W.length:=by rw[hB.1];exact w
  have A:(t.bs.take i).length=i:=by rw[zL];omega
  have hsl:sl.len=i:=by have:=K.1;rw[zi,g.1,A]at this;omega
  refine(aI.aF hr e).fM.C4 (cQ aa) ?_;obtain⟨m1,m2⟩:=hB.2 i _ _ (cQ aa) (cQ w);have hl1:W[i].len=t.bs[i].length:=by have:=m1.1;simp[Wu]at this;omega
  have hlb:=h.all _ (zb w);refine⟨λh'=>bY h' U.size [.int .i64 (batch:Int),.int .i64 (room:Int),.int .i64 (t.low:Int),.slice sl.a sl.len sl.cap],r,⟨sl,λh' hS=>by rw[add_lit,hS.cell];rfl,?_⟩⟩;refine Kz (aH.aF m1 e) KH O λM v8 hl8 L y=>⟨L.bX r id,?_⟩;refine nw (cs:=[.slice M.a M.len M.cap]) λv9 hz9 J hb9=>⟨(L.trans J).bX r id,?_⟩;have S:=aI.mono K (G:=λb=>U.size<b/\¬E b/\b<v.size) λb d hf=>⟨hf.1,hf.2,d⟩;have hr9:=aI.aF (aI.aF S L) J;have hv0:U.size<v.size:=r.lt;have hs8:=L.1;have hs9:=J.1;refine hr9.app (ys:=[mn M]) rfl rfl ?_ (by simp[dJ,mn]) ?_ ?_ mu λs2 v10 hl10 x ab=>?_
  ·intro j u hu;rw[add_lit,zG,hb9.cell];exact hu
  ·simp only;have:(sl.len+1)*24<=9*24:=lV O O;omega
  ·simp only;omega
  ·have Z:=x.bX ((L.trans J).bX r id) λhh=>by omega
   refine Z.s1 aA λv11 z X=>?_;have hs10:=x.1;have Y:aG U v11:=Ext.fresh (Ext.fresh ((e.trans L).trans J) x λb d=>O) z.ext λb d=>by omega
   refine cC (m:=i+1) O O ⟨⟨i+1,s2,C++[M],λb=>E b\/v.size<=b/\b<v8.size,rfl,O,Y,X,?_,⟨?_,λj s xs B H=>?_⟩,λb d=>?_,?_⟩,O⟩
   ·rw[lr];refine aI.bV (aI.mono ab λb _ d=>?_) z.ext λb _ d he=>by have:=d.1;omega
    rcases d with d|d
    ·exact⟨d.1,λhd=>by
      rcases hd with hd|hd
      ·exact d.2.1 hd
      ·omega⟩
    ·exact⟨O,λhd=>by
      rcases hd with hd|hd
      ·have:=(N b hd).2;omega
      ·omega⟩
   ·rw[zR,g.1,A,zL];simp;omega
   ·have mv:∀{s:Sl} {ys:List Int} {G:Rg},cS s 1 (Wu ys) v9 G->(∀b,G b->U.size<b/\¬(U.size<b/\¬E b/\b<v.size))->cS s 1 (Wu ys) v11 G:=λhS hn=>
     aH.bV (aH.bV hS x λb _ d=>(hn b d).2) z.ext λb _ d he=>by have:=(hn b d).1;omega
    have htk:t.bs.take (i+1)=t.bs.take i++[t.bs[i]]:=by rw[zj,cQ w];rfl
    rw[htk]at H;have hql:C.length=i:=by rw[g.1,A]
    rcases zq j i with hji|hji
    ·rw[zQ O]at B;rw[zQ O]at H;obtain⟨k1,k2⟩:=g.2 j s xs B H;exact⟨aH.mono (mv (aH.aF (aH.aF k1 L) J) λb hd=>⟨(N b hd).1,λhh=>hh.2.1 hd⟩) λb _ hd=>.inl hd,k2⟩
    ·rw[zg O]at B;rw[zg O]at H;have hj0:j=i:=by
      have:=(cV.1 B).1;simp at this;omega
     subst hj0;rw[hql,mI]at B;rw[A,mI]at H;simp at B H;subst B;subst H;have P:M.len<=M.cap:=by
      rcases y.2 with⟨q1,q2⟩|⟨_,_,_,_,_,q,_⟩
      ·omega
      ·exact q
     exact⟨aH.mono (mv (aH.aF (aH.mono y.fM (G:=λb=>v.size<=b/\b<v8.size) λb d hd=>⟨hd,d⟩) J) λb hd=>⟨O,λhh=>O⟩) λb _ hd=>.inr hd,P⟩
   ·have hs11:=z.1;rcases d with hd|hd
    ·have:=N b hd;omega
    ·omega
   ·have Q:∀ys∈t.bs,ys≠[]:=λys hy e=>by have:=h.all ys hy;rw[e]at this;simp at this;omega
    exact V.snoc g (λys hy=>Q ys (qp hy)) (λb hd=>(N b hd).2) y (by simp only[Wu,ne_eq,vC];exact Q _ (zb w))
 ·have hii:i=t.bs.length:=by simp only at hge;omega
  subst hii;rw[zy]at g;refine hR v U.size e (zC _) ⟨⟨sl,C,E,r,aI.mono K λb _ d=>⟨oT d.1,O,d.2⟩,g,λb d=>⟨oT (N b d).1,by have:=(N b d).1;omega⟩,V⟩,zC _,h.b1,h.r1,h.lZ,h.low,h.all⟩
end Go.Ar
namespace Go.Ar
open Go Go.Vc Go.Proofs
open Go.Bu (YS)
variable {U:Hp}{F:Rg}{p:Nat}{ow:Nat->Nat}
def Uf (l:List (Nat×Nat×Nat)):List Value:=l.flatMap λr=>[.int .i64 (r.1:Int),.int .i64 (r.2.1:Int),.int .i64 (r.2.2:Int)]
theorem U2 (l:List (Nat×Nat×Nat)):(Uf l).length=3*l.length:=by
 induction l with
 | nil=>rfl
 | cons x l ih=>simp only[Uf,mU,zR,zV,lS]at *;omega
theorem U6 (a b:List (Nat×Nat×Nat)):Uf (a++b)=Uf a++Uf b:=by simp[Uf]
theorem E0 {l:List (Nat×Nat×Nat)}{i:Nat}{r:Nat×Nat×Nat}(h:l[i]?=some r) :
 (Uf l)[3*i]?=some (.int .i64 (r.1:Int))/\(Uf l)[3*i+1]?=some (.int .i64 (r.2.1:Int))/\(Uf l)[3*i+2]?=some (.int .i64 (r.2.2:Int)):=by
 induction l generalizing i with
 | nil=>simp at h
 | cons x l ih=>
  have e:Uf (x::l)=[.int .i64 (x.1:Int),.int .i64 (x.2.1:Int),.int .i64 (x.2.2:Int)]++Uf l:=by simp[Uf]
  rw[e];cases i with
  | zero=>simp at h;subst h;simp
  | succ i=>
   have:=ih (i:=i) (by simpa using h);rw[show 3*(i+1)=3*i+3 by omega];simpa using this
def UN (ow:Nat->Nat)(x:Nat)(l:List (Nat×Nat×Nat)):Prop:=
 l.length<=x/\(∀r∈l,1<=r.2.1/\r.1+r.2.1<=x/\∀y,r.1<=y->y<r.1+r.2.1->ow y=r.2.2)/\∀y,y<x->ow y≠0->∃r∈l,r.1<=y/\y<r.1+r.2.1
theorem UN.skip {x:Nat}{l:List (Nat×Nat×Nat)}(h:UN ow x l)(h0:ow x=0):UN ow (x+1) l:=
 ⟨by have:=h.1;omega,λr a=>⟨(h.2.1 r a).1,by have:=(h.2.1 r a).2.1;omega,(h.2.1 r a).2.2⟩,λy d b=>h.2.2 y (by
  rcases zq y x with h1|h1
  ·exact h1
  ·have:y=x:=by omega
   subst this;exact absurd h0 b) b⟩
theorem UN.new {x:Nat}{l:List (Nat×Nat×Nat)}(h:UN ow x l):UN ow (x+1) (l++[(x,1,ow x)]):=by
 refine⟨by simp;exact h.1,λr b=>?_,λy g e=>?_⟩
 ·rcases zS.1 b with a|a
  ·exact⟨(h.2.1 r a).1,by have:=(h.2.1 r a).2.1;omega,(h.2.1 r a).2.2⟩
  ·simp at a;subst a;exact⟨zC _,zC _,λy a d=>by simp only at a d ⊢;rw[show y=x by omega]⟩
 ·rcases zq y x with a|a
  ·obtain⟨r,b,d⟩:=h.2.2 y a e;exact⟨r,l7 _ b,d⟩
  ·exact⟨(x,1,ow x),by simp,by simp only;omega⟩
theorem UN.more {x a m no:Nat}{l:List (Nat×Nat×Nat)}(h:UN ow x (l++[(a,m,no)]))(he:a+m=x)(hno:ow x=no):UN ow (x+1) (l++[(a,m+1,no)]):=by
 refine⟨by have:=h.1;simp at this ⊢;omega,λr e=>?_,λy i g=>?_⟩
 ·rcases zS.1 e with b|b
  ·have:=h.2.1 r (l7 _ b);exact⟨this.1,O,this.2.2⟩
  ·simp at b;subst b;have:=h.2.1 (a,m,no) aA;refine⟨by simp only;omega,by simp only;omega,λy b d=>?_⟩;simp only at b d ⊢;rcases zq y (a+m)with h3|h3
   ·exact this.2.2 y b h3
   ·rw[show y=x by omega];exact hno
 ·rcases zq y x with b|b
  ·obtain⟨r,e,d⟩:=h.2.2 y b g;rcases zS.1 e with h3|h3
   ·exact⟨r,l7 _ h3,d⟩
   ·simp at h3;subst h3;exact⟨(a,m+1,no),by simp,by simp only at d ⊢;omega⟩
  ·exact⟨(a,m+1,no),by simp,by simp only;have:=h.2.1 (a,m,no) aA;simp only at this;omega⟩
set_option maxRecDepth 20000 in
theorem Td (h:gJ U F p ow){R:Sl->Hp->Prop}(hR:∀s σ' l,aG U σ'->UN ow 1024 l->bR s 3 (Uf l) σ' (λb=>U.size<=b)->R s σ'):YG.c (aW p) U R:=by
 refine YG.o ?_;unfold YG.v;refine Vu (a:=.s) (bb:=bN) (λ(out:Sl) (t:Int) v=>∃(x:Nat) (l:List (Nat×Nat×Nat)),t=(x:Int)/\x<=1024/\aG U v/\UN ow x l/\bR out 3 (Uf l) v (λb=>U.size<=b)) (λ_ t _=>1024-t.toNat)
  ⟨0,[],rfl,O,Ext.refl _ _,⟨by simp,by simp,λy X=>O⟩,bR.nil _ _ _ _⟩ ?_
 rintro out t v ⟨x,l,rfl,hx,e,C,g⟩;refine cL (λhlt=>?_) λaa=>?_
 ·have ab:x<1024:=by omega
  have w:out.len=l.length:=by have:=g.1;rw[U2]at this;omega
  have hll:=C.1;refine Jb (gJ.loc.aF h e) _ ?_;have hv:pE ow (x:Int)=ow x:=by unfold pE;rw[zB O];rfl
  rw[hv];refine ar O O ?_;rw[sT];refine cU (λN=>?_) λN=>?_
  ·exact cC (m:=x+1) O O ⟨⟨x+1,l,rfl,O,e,C.skip (by simpa using N),g⟩,O⟩
  have new:∀ty1 ty2:Nat,Nw (.cells #[.int .i64 (x:Int),.int .i64 1,.int .i64 ((ow x:Nat):Int)] ty1 (0,0)) v λW v5=>App out 3 24 ty2 [.int .i64 0,.int .i64 0,.int .i64 0] ⟨some W,1,1⟩ v5 λL S=>
   Ar .i64 ((x:Int)+1) λu=>(∃(x':Nat) (l:List (Nat×Nat×Nat)),u=(x':Int)/\x'<=1024/\aG U S/\UN ow x' l/\bR L 3 (Uf l) S (λb=>U.size<=b))/\1024-u.toNat<1024-(x:Int).toNat:=by
   intro ty1 ty2;refine g.push (vs:=[.int .i64 (x:Int),.int .i64 1,.int .i64 ((ow x:Nat):Int)]) (λb hb=>zP e.1 hb) rfl rfl (by simp[dJ]) O O λs' S A e' P=>?_;refine cC (m:=x+1) O O ⟨⟨x+1,_,rfl,O,Ext.fresh e e' λ_ h=>h,C.new,?_⟩,O⟩;rw[U6];exact P
  refine bW.intro ?_;rcases List.eq_nil_or_concat l with hl0|⟨l',⟨a,m,no⟩,A⟩
  ·subst hl0;refine dR (by simp at w;omega) (bW.intro (bZ rfl (bZ rfl (new _ _))))
  ·rw[List.concat_eq_append]at A;subst A;have B:(l'++[(a,m,no)])[l'.length]?=some (a,m,no):=by simp
   have H:=E0 B;simp only at H;have Q:out.len=l'.length+1:=by rw[w];simp
   have J:((out.len:Nat):Int)-1=((l'.length:Nat):Int):=by omega
   have hr:=(C.2.1 (a,m,no) aA);simp only at hr;have r:∀{d:Nat} {y:Int} {K:Int->Prop},d<3->(Uf (l'++[(a,m,no)]))[3*l'.length+d]?=some (.int .i64 y)->K y->Ix out.a out.len (((out.len:Nat):Int)-1) 3 λz=>gO .i64 (z.add d) v K:=by
    intro d y K hd X hK;obtain⟨b,o,ha,Z⟩:=g.fM.cell X;rw[ha,J];refine ix O O ?_;rw[add_lit,add_lit];refine nL ?_ hK;rw[show o+(l'.length:Int).toNat*3+d=o+(3*l'.length+d) by omega];exact Z
   refine jt O (r (d:=0) O H.1 (r (d:=1) O H.2.1 (cC (m:=a+m) O O (bW.intro ?_))));rw[jg];refine cU (λG=>r (d:=2) O H.2.2 ?_) λG=>bZ rfl (new _ _);rw[jg];refine cU (λE=>?_) λE=>new _ _;have e1:a+m=x:=by simpa using G
   have e2:no=ow x:=by simpa using E
   refine r (d:=1) O H.2.1 (cC (m:=m+1) O O ?_);rcases g.2 with⟨N,_⟩|⟨b,cs,hq,hab,hbb,hle,hcl,htt⟩
   ·omega
   rw[hab,J];refine ix O O ?_;rw[add_lit];unfold aR;rw[add_lit];refine g.st (j:=3*l'.length+1) (by rw[U2];simp;omega) (λb' D=>by rw[hab]at D;cases D;congr 1;omega) λv7 Y M=>?_;refine cC (m:=x+1) O O ⟨⟨x+1,l'++[(a,m+1,no)],rfl,O,Ext.fresh e Y λ_ h=>h,C.more e1 e2.symm,?_⟩,O⟩;have:(Uf (l'++[(a,m,no)])).set (3*l'.length+1) (.int .i64 ((m+1:Nat):Int))=Uf (l'++[(a,m+1,no)]):=by
    rw[U6,U6,vL _ _ (by rw[U2];omega),U2];rw[show 3*l'.length+1-3*l'.length=1 by omega];simp[Uf]
   rw[this]at M;exact M
 ·have V:x=1024:=by omega
  subst V;exact hR out v l e C g
theorem UW (h:gJ U F p ow){R:Option Addr->Hp->Prop}(hR:∀σ' p',aG U σ'->U.size<=p'->gJ σ' (λb=>U.size<=b) p' ow->R (some ⟨p',0,none⟩) σ'):WZ.c (aW p) U R:=by
 refine WZ.o ?_;unfold WZ.v;refine zx h (bZ rfl (Ea λK p' e1 ab hP1=>Td (gJ.loc.aF h e1) λs A l e2 hM w=>?_));have hlen:s.len=l.length:=by have:=w.1;rw[U2]at this;omega
 have hll:=hM.1;have ad:=gJ.loc.cut (gJ.loc.aF (gJ.loc.cut hP1) e2);have hs1:=e1.1;have hs2:=e2.1;refine Zw (a:=bN) (λ(t:Int) v=>∃i:Nat,t=(i:Int)/\i<=l.length/\aG U v/\(∃G:Rg,(∀b,G b->U.size<=b/\(b<K.size\/A.size<=b))/\gJ v G p' (λy=>if(l.take i).any (λr=>decide (r.1<=y)&&decide (y<r.1+r.2.1))then ow y else 0))/\bR s 3 (Uf l) v (λb=>K.size<=b/\b<A.size)/\A.size<=v.size) (λt _=>l.length-t.toNat)
  ⟨0,rfl,O,e1.trans e2,⟨_,λb d=>⟨d.1.1,.inl d.1.2⟩,gJ.congr ad λx z=>by simp⟩,aI.mono w λb d hf=>⟨hf,d⟩,zC _⟩ ?_
 rintro t v ⟨i,rfl,N,e,⟨G,L,hP⟩,M,hv2⟩;refine cL (λhlt=>?_) λhge=>?_
 ·have D:i<l.length:=by omega
  have z:l[i]?=some l[i]:=cQ D;have E:=E0 z;have hm:=hM.2.1 l[i] (zb D);generalize l[i]=r at z E hm;obtain⟨a,m,Z⟩:=r;simp only at E hm;obtain⟨b,o,ha,aa⟩:=M.fM.cell E.1;obtain⟨b1,o1,B,ac⟩:=M.fM.cell E.2.1;obtain⟨b2,o2,H,V⟩:=M.fM.cell E.2.2;rw[ha]at B H;cases B;cases H;rw[ha];refine ix O O ?_;rw[add_lit];have ee:o+(i:Int).toNat*3=o+3*i:=by omega
  rw[ee];refine hO (by simpa using aa) (hO (by rw[qu];exact ac) (hO (by rw[qu];exact V) ?_));refine nw (cs:=[.int .i64 0,.int .i64 0,.int .i64 0]) λv4 hz4 e4 P=>P.s1 aA λv5 o5 b5=>b5.s1 aA λv6 o6 b6=>b6.s1 aA λv7 o7 X=>X.rI rfl (X.rI rfl (X.rI rfl ?_));have u:aG v v7:=Ext.fresh (Ext.fresh (Ext.fresh e4 o5.ext λi N=>O) o6.ext λi N=>O) o7.ext λi N=>by omega
  have Y:=gJ.loc.cut (gJ.loc.aF (gJ.loc.cut hP) u);have hv7:=u.1;have step:∀g,Ext (Cut (Cut G v) v7) v7 g->gJ g (Grow (Cut (Cut G v) v7) v7) p' (ju (λy=>if(l.take i).any (λr=>decide (r.1<=y)&&decide (y<r.1+r.2.1))then ow y else 0) a m Z)->Ar .i64 ((i:Int)+1) λJ=>
   (∃j:Nat,J=(j:Int)/\j<=l.length/\aG U g/\(∃G:Rg,(∀b,G b->U.size<=b/\(b<K.size\/A.size<=b))/\gJ g G p' (λy=>if(l.take j).any (λr=>decide (r.1<=y)&&decide (y<r.1+r.2.1))then ow y else 0))/\bR s 3 (Uf l) g (λb=>K.size<=b/\b<A.size)/\A.size<=g.size)/\l.length-J.toNat<l.length-(i:Int).toNat:=by
   intro g C h8;have hv8:=C.1;refine cC (m:=i+1) O O ⟨⟨i+1,rfl,O,Ext.fresh (e.trans u) C λb d=>(L b d.1.1).1,⟨_,λb d=>?_,gJ.congr h8 λy hy=>?_⟩,aI.bV (aI.aF M u) C λb _ d hc=>by have:=(L b hc.1.1).2;omega,O⟩,O⟩
   ·rcases d with d|d
    ·exact L b d.1.1
    ·exact⟨by have:=e.1;omega,.inr O⟩
   ·have af:l.take (i+1)=l.take i++[(a,m,Z)]:=by rw[zj,z];rfl
    have W:YS 1024 (a:Int) (m:Int)=true:=by simp only[YS,zF,zU];omega
    simp only[ju,W,zT,af,List.any_append,yJ,List.any_nil,wW];by_cases hin:a<=y/\y<a+m
    ·rw[zB hin,zB (by simp[hin])];exact(hm.2.2 y hin.1 hin.2).symm
    ·rw[zA hin];have:(decide (a<=y)&&decide (y<a+m))=false:=by
      rw[←pY];simpa using hin
     rw[this,wW]
  refine Cd Y a m O O Z (λhk=>?_) λx y z hy h1 h2 g C h8=>?_
  ·have:YS 1024 (a:Int) (m:Int)=true:=by simp only[YS,zF,zU];omega
   rw[this]at hk;cases hk
  ·have Q:x=a:=by omega
   have ae:y=m:=by omega
   subst Q;subst ae;exact step g C h8
 ·have hii:i=l.length:=by omega
  subst hii;rw[zy]at hP;refine hR v p' e ab (gJ.congr (gJ.loc.mono hP λb _ d=>(L b d).1) λx z=>?_);by_cases h0:ow x=0
  ·simp[h0]
  ·obtain⟨r,S,hr2⟩:=hM.2.2 x z h0;rw[zB (kM.2 ⟨r,S,by simpa using hr2⟩)]
end Go.Ar
namespace Go.Proofs
open Go.Vc
set_option maxRecDepth 100000
def YE.h:Hn:=.q .o1 (.q (.q .o3 .aK) (.q (.cW (.gM true [] [(3,.one .p)] (.tk [0,1,2,3,4,7,8,9,10] (.all [(5,.all [(6,.take 11 (.all [(12,.take 13 (.done))]))]),(6,.all [(5,.take 11 (.all [(12,.take 13 (.done))]))])])))) (.q (.cW (.tail 8 (RI.ops 8) [.op])) (.q (.q .o5 (.k (.loop [] (.q (.cW (.seq [.it .i64 .s,.op])) (.q (.c .l .l) (.k (.q (.cW (.seq [.it .i64 .s,.op,.op,.op,.op])) (.cW (.held true [7] (.tk [0,1,2,3,4,5] (.all [(6,.all [(7,.done)])]))))))))))) .aL))))
def YE.v (a:R2)(b:Hp)(c:Option Addr->Hp->Prop):Prop:=Xu.c a b λd e=>If (!d) (c none e) (Jn [.p] (λ(f:R2) g=>bE f 0 g λi=>bE a 0 g λk=>rG i 2 k g λl m=>bI a 1 m λo=>pG .i64 .s o m λp q=>WU [] (λr=>r q) λs t=>pN .i64 .s p t (c f t) (λu v w=>qf .i64 .s p w λx y=>dP w λz=>bU f λaa=>fR z .m (aa.add 1) λ(ab:Option Nat)=>Wk.c y w λac ad=>And (z ad) <| jS .i64 .s ab x ac ad λae=>s ae)) λaf=>dP e λag=>bU a λah=>aT ag ah 0 λai=>bU a λaj=>aS ag aj 2 λak=>(Mk ((ai.len:Nat):Int) ((ai.len:Nat):Int) 2 199 [.bool false,.bool false] e λal am=>And (ag am) <| Nw (.map #[] 0) am λan ao=>And (ag ao) <| aV #[.slice al.a al.len al.cap,.map (some an.block),.I ak] 126 ao λap aq=>And (ag aq) <| af (some ap) aq) ∧ (Nw (.map #[] 0) e λar au=>And (ag au) <| Mk ((ai.len:Nat):Int) ((ai.len:Nat):Int) 2 199 [.bool false,.bool false] au λav aw=>And (ag aw) <| aV #[.slice av.a av.len av.cap,.map (some ar.block),.I ak] 126 aw λax ay=>And (ag ay) <| af (some ax) ay))
theorem YE.o {a b c}(d:YE.v a b c):YE.c a b c:=Wa Tryz.func43 (x:=YE.h) (R0 d)
def Y8.h:Hn:=.q .o2 (.q (.q .o4 (.q .o2 (.c (.q .o3 .l) .l))) (.q .o6 .l))
def Y8.v (a:R2)(b:Int)(c:Hp)(d:Int->Int->Hp->Prop):Prop:=Xy.c a b 1 c λe f=>If (e != 0) (d 0 e f) (Nz 8<|bL (b.tdiv 8) λg=>Zu.c a g f λh i=>d h 0 i)
theorem Y8.o {a b c d}(e:Y8.v a b c d):Y8.c a b c d:=Wa Tryz.func49 (x:=Y8.h) (R0 e)
def YH.h:Hn:=.q .o1 (.q (.q .o4 (.q .o2 .aJ)) (.q .o5 .aM))
def YH.v (a:R2)(b c:Int)(d:Hp)(e:aN):Prop:=Xy.c a b 1 d λf g=>If (f != 0) (e f g) (Nz 8<|bL (b.tdiv 8) λh=>Zr.c a h c g λi=>e 0 i)
theorem YH.o {a b c d e}(f:YH.v a b c d e):YH.c a b c d e:=Wa Tryz.func67 (x:=YH.h) (R0 f)
def Xu.h:Hn:=.q .o1 (.q (.cW (.seq [.op,.op,.op,.cY true 6 (RI.ops 6),.op])) .l)
def Xu.v (a:R2)(b:Hp)(c:aO):Prop:=bW (λd e=>c d e) λf=>If (!a.isNone) (bE a 0 b λh=>f (decide (((h.len:Nat):Int)>0)) b) (f false b)
theorem Xu.o {a b c}(d:Xu.v a b c):Xu.c a b c:=Wa Tryz.func69 (x:=Xu.h) (R0 d)
def WM.h:Hn:=.q .o1 (.q (.q .o3 .aK) (.q .o6 .l))
def WM.v (a:R2)(b:Hp)(c:aN):Prop:=Xu.c a b λd e=>If (!d) (c 0 e) (bE a 0 e λg=>c ((g.len:Nat):Int) e)
theorem WM.o {a b c}(d:WM.v a b c):WM.c a b c:=Wa Tryz.func72 (x:=WM.h) (R0 d)
def Xy.h:Hn:=.q .o1 (.q (.k (.q .o4 (.c .aM (.q .o3 (.c .aM (.q (.cW (.seq [.op,.op,.op,.cY false 3 (RI.ops 3),.op])) .aK)))))) (.q .gE (.q (.q (.cW (.gM true [] [(50,.one .b)] (.tk [0,1,2,3,4,5,6,7] (.split 39 (.tk [8,9,10,11,12,13,14,15,16,17,18] (.done)) (.tk [8,9,10,11,12,13,14,15,16] (.all [(17,.take 18 (.done))])))))) .aK) .aM)))
def Xy.v (a:R2)(b c:Int)(d:Hp)(e:aN):Prop:=Xu.c a d λf g=>If (!f) (e 5 g) (If (c==0) (e 0 g) (bW (λh i=>If h (e 7 i) (Nz 256<|bL (b.tdiv 256) λj=>Nz 8<|bL (b.tdiv 8) λk=>bL (k+c) λl=>bL (l-1) λm=>Nz 32<|bL (m.tdiv 32) λn=>Jn [.b] (λ(o:Bool) p=>If o (e 7 p) (e 0 p)) λq=>dP i λr=>bU a λs=>aT r s 0 λt=>If (n≥((t.len:Nat):Int)) (q true i) (bU a λu=>aT r u 0 λv=>bL (n+1) λw=>fE v 2 j w (v.cap:Nat) λx=>fR r .b ((Addr.mk 0 0 none).add 0) λ(y:Bool)=>fR r .b ((Addr.mk 0 0 none).add 1) λ(z:Bool)=>Wj.c x y z i λaa ab=>And (r ab) <| q aa ab))) λac=>If (b<0) (ac true g) (Nz 8 <| ac ((b.tmod 8) != 0) g)))
theorem Xy.o {a b c d e}(f:Xy.v a b c d e):Xy.c a b c d e:=Wa Tryz.func79 (x:=Xy.h) (R0 f)
def Zu.h:Hn:=.q .o1 (.q (.q (.o 12) (.q .o1 (.c (.q .o6 .l) .l))) .aM)
def Zu.v (a:R2)(b:Int)(c:Hp)(d:aN):Prop:=bI a 1 c λf=>Nz 32<|bL (b.tdiv 32) λg=>Lk .i64 .s f g c λh=>If h.isSome (Nz 32 <| Ix (h.getD ⟨none,0,0⟩).a (h.getD ⟨none,0,0⟩).len (b.tmod 32) 1 λi=>bM i c λj=>d j c) (d 0 c)
theorem Zu.o {a b c d}(e:Zu.v a b c d):Zu.c a b c d:=Wa Tryz.func80 (x:=Zu.h) (R0 e)
def Kt.h:Hn:=.q .o2 (.q (.q (.cW (.seq [.op,.op,.op,.cY false 2 [.op,.op]])) .aJ) (.q .o7 .l))
def Kt.v (a:Int)(b:Hp)(c:Option Addr->Int->Hp->Prop):Prop:=bW (λd e=>If d (c none 1 e) (Mk a a 2 199 [.bool false,.bool false] e λf g=>Nw (.map #[] 0) g λh i=>aV #[.slice f.a f.len f.cap,.map (some h.block),.I 0] 126 i λj k=>c (some j) 0 k)) λl=>If (a<1) (l true b) (l (decide (a>1024)) b)
theorem Kt.o {a b c}(d:Kt.v a b c):Kt.c a b c:=Wa Tryz.func86 (x:=Kt.h) (R0 d)
def Zr.h:Hn:=.q .o3 (.j8 [] (.q (.oq 9) (.c (.q (.cW (.tail 7 (RI.ops 7) [.op])) (.q (.cW (.held true [6] (.tk [0,1,2,3,4] (.all [(5,.all [(6,.done)])])))) (.cW (.tail 13 (RI.ops 13) [.op])))) .l)) (.o 11))
def Zr.v (a:R2)(b c:Int)(d:Hp)(e:aP):Prop:=Nz 32<|bL (b.tdiv 32) λf=>Jn [] (λg=>bI a 1 g λi=>Lk .i64 .s i f g λj=>Nz 32 <| Ix (j.getD ⟨none,0,0⟩).a (j.getD ⟨none,0,0⟩).len (b.tmod 32) 1 λk=>eP k (.I c) g λl=>e l) λm=>bE a 0 d λo=>Ix o.a o.len f 2 λp=>aZ p 0 d λq=>aZ p 1 d λr=>kB ((Addr.mk 1 0 none).add 0) d λs=>kB ((Addr.mk 1 0 none).add 1) d λt=>If (!((q==s)&&((r==t)&&true))) (bE a 0 d λv=>kB ((Addr.mk 1 0 none).add 0) d λw=>kB ((Addr.mk 1 0 none).add 1) d λx=>Ix v.a v.len f 2 λy=>aR y 0 (.bool w) d λz=>aR y 1 (.bool x) z λaa=>dP aa λab=>bU a λac=>fR ab .m (ac.add 1) λ(ad:Option Nat)=>Mk 32 32 8 3 [.I 0] aa λae af=>And (ab af) <| jS .i64 .s ad f ae af λag=>bD a 2 ag λai=>bI a 1 ag λak=>qY .i64 .s ak ag λal=>bU a λam=>aR am 2 (.I (if al>ai then al else ai)) ag λan=>m an) (m d)
theorem Zr.o {a b c d e}(f:Zr.v a b c d e):Zr.c a b c d e:=Wa Tryz.func101 (x:=Zr.h) (R0 f)
def XF.h:Hn:=.q .o1 (.q .o6 .l)
def XF.v (a:R2)(b c:Int)(d:Hp)(e:aN):Prop:=kB ((Addr.mk 2 0 none).add 0) d λf=>kB ((Addr.mk 2 0 none).add 1) d λg=>XR.c a b c f g d λh i=>e h i
theorem XF.o {a b c d e}(f:XF.v a b c d e):XF.c a b c d e:=Wa Tryz.func143 (x:=XF.h) (R0 f)
def YF.h:Hn:=.q .o1 (.q .o6 .l)
def YF.v (a:R2)(b c:Int)(d:Hp)(e:aN):Prop:=kB ((Addr.mk 0 0 none).add 0) d λf=>kB ((Addr.mk 0 0 none).add 1) d λg=>XR.c a b c f g d λh i=>e h i
theorem YF.o {a b c d e}(f:YF.v a b c d e):YF.c a b c d e:=Wa Tryz.func147 (x:=YF.h) (R0 f)
def XR.h:Hn:=.q .o2 (.q .o9 (.q (.k (.q .o3 (.c .aL (.q .o4 .aK)))) (.q .o5 .aM)))
def XR.v (a:R2)(b c:Int)(d e:Bool)(f:Hp)(g:aN):Prop:=aV #[.bool d,.bool e] 199 f λh i=>Y5.c a b c i λj k l=>If (k != 0) (g k l) (kB ((Addr.mk 0 0 none).add 0) l λm=>kB ((Addr.mk 0 0 none).add 1) l λn=>Wj.c j m n l λo p=>If o (g 7 p) (aZ h 0 p λq=>aZ h 1 p λr=>YY.c a b c q r p λs=>g 0 s))
theorem XR.o {a b c d e f g}(h:XR.v a b c d e f g):XR.c a b c d e f g:=Wa Tryz.func197 (x:=XR.h) (R0 h)
def Y5.h:Hn:=.q .o2 (.q (.k (.q .o4 (.c .aL (.q (.cW (.seq [.op,.op,.op,.cY false 2 [.op,.op],.op,.cY false 7 (RI.ops 7),.op,.cY false 9 (RI.ops 9),.op])) .aJ)))) (.q (.o 11) .l))
def Y5.v (a:R2)(b c:Int)(d:Hp)(e:Sl->Int->Hp->Prop):Prop:=Xu.c a d λf g=>If (!f) (e ⟨none,0,0⟩ 5 g) (bW (λh i=>bW (λj k=>bW (λl m=>If l (e ⟨none,0,0⟩ 1 m) (bE a 0 m λo=>bL (b+c) λp=>fE o 2 b p (o.cap:Nat) λq=>e q 0 m)) λr=>If j (r true k) (bE a 0 k λt=>bL (((t.len:Nat):Int)-b) λu=>r (decide (c>u)) k)) λv=>If h (v true i) (bE a 0 i λx=>v (decide (b>((x.len:Nat):Int))) i)) λy=>If (b<0) (y true g) (y (decide (c<1)) g))
theorem Y5.o {a b c d e}(f:Y5.v a b c d e):Y5.c a b c d e:=Wa Tryz.func241 (x:=Y5.h) (R0 f)
def YY.h:Hn:=.q .o1 (.q .o2 (.k (.loop [(8,.I)] (.q (.q .o5 (.c .l .l)) (.q (.k (.q (.cW (.tail 7 (RI.ops 7) [.op])) .o6)) .o3)))))
def YY.v (a:R2)(b c:Int)(d e:Bool)(f:Hp)(g:aP):Prop:=aV #[.bool d,.bool e] 199 f λh i=>WU [bN] (λj=>j b i) λk (l:Int) m=>bL (b+c) λn=>If (l<n) (bE a 0 m λp=>aZ h 0 m λq=>aZ h 1 m λr=>Ix p.a p.len l 2 λs=>aR s 0 (.bool q) m λt=>aR s 1 (.bool r) t λu=>bI a 1 u λw=>nf .i64 .s w l u λx=>bL (l+1) λy=>k y x) (g m)
theorem YY.o {a b c d e f g}(h:YY.v a b c d e f g):YY.c a b c d e f g:=Wa Tryz.func242 (x:=YY.h) (R0 h)
def Zm.h:Hn:=.q .o1 (.q .o9 (.q (.k (.q .o3 (.c .aL (.q .o3 .aK)))) (.q .o5 .aM)))
def Zm.v (a:R2)(b c:Int)(d:Hp)(e:aN):Prop:=Y5.c a b c d λf g h=>If (g != 0) (e g h) (Wg.c f ⟨274,#[],#[]⟩ h λi j=>If i (e 5 j) (kB ((Addr.mk 2 0 none).add 0) j λk=>kB ((Addr.mk 2 0 none).add 1) j λl=>YY.c a b c k l j λm=>e 0 m))
theorem Zm.o {a b c d e}(f:Zm.v a b c d e):Zm.c a b c d e:=Wa Tryz.func253 (x:=Zm.h) (R0 f)
def YR.h:Hn:=.q .o2 (.q .o4 .l)
def YR.v (a b:Bool)(c:Hp)(d:aO):Prop:=aV #[.bool a,.bool b] 199 c λe f=>aZ e 0 f λg=>aZ e 1 f λh=>kB ((Addr.mk 0 0 none).add 0) f λi=>kB ((Addr.mk 0 0 none).add 1) f λj=>d (!((g==i)&&((h==j)&&true))) f
theorem YR.o {a b c d}(e:YR.v a b c d):YR.c a b c d:=Wa Tryz.func274 (x:=YR.h) (R0 e)
end Go.Proofs
namespace Go.Ar
open Go Go.Vc Go.Proofs
open Go.Bu (YS)
variable {U:Hp}{F:Rg}{p q r:Nat}{sp:Sp}
structure Gl (U:Hp):Prop where
 c0:cell U ⟨2,0,none⟩=some (.bool true)
 c1:cell U ⟨2,1,none⟩=some (.bool false)
 u0:cell U ⟨0,0,none⟩=some (.bool false)
 u1:cell U ⟨0,1,none⟩=some (.bool false)
structure Gc (U:Hp):Prop where
 d0:cell U ⟨1,0,none⟩=some (.bool true)
 d1:cell U ⟨1,1,none⟩=some (.bool true)
structure Gd (U:Hp):Prop where
 lt:1<U.size
def jk (F:Rg):Prop:=∀b,F b->b≠2/\b≠0
theorem KB {h:Hp}{b o:Nat}{v:Value}(hc:cell h ⟨b,o,none⟩=some v):b<h.size:=(Jx hc).1
theorem Gl.bV {σ':Hp}(g:Gl U)(e:Ext F U σ')(hF:jk F):Gl σ':=by
 have a:¬F 2:=λh=>(hF _ h).1 rfl;have b:¬F 0:=λh=>(hF _ h).2 rfl;exact⟨(Ki e (KB g.c0) a).trans g.c0,(Ki e (KB g.c1) a).trans g.c1,(Ki e (KB g.u0) b).trans g.u0,(Ki e (KB g.u1) b).trans g.u1⟩
theorem Gc.bV {σ':Hp}(g:Gc U)(e:Ext F U σ')(hF:¬F 1):Gc σ':=⟨(Ki e (KB g.d0) hF).trans g.d0,(Ki e (KB g.d1) hF).trans g.d1⟩
theorem Gc.aF {σ':Hp}(g:Gc U)(e:aG U σ'):Gc σ':=g.bV e id
theorem Gd.bV {σ':Hp}(g:Gd U)(e:Ext F U σ')(hF:¬F 1):Gd σ':=⟨uG g.lt e.1⟩
theorem Gd.aF {σ':Hp}(g:Gd U)(e:aG U σ'):Gd σ':=g.bV e id
theorem Gc.gd (g:Gc U):Gd U:=⟨KB g.d0⟩
theorem Gl.aF {σ':Hp}(g:Gl U)(e:aG U σ'):Gl σ':=g.bV e λ_ h=>h.elim
theorem jk.grow (hF:jk F)(g:Gl U):jk (Grow F U):=λb a=>by
 rcases a with h|h
 ·exact hF b h
 ·have d:=KB g.c0;have e:=KB g.u0;exact⟨O,O⟩
theorem jk.sub {G:Rg}(hF:jk F)(h:∀b,G b->F b):jk G:=λb a=>hF b (h b a)
def fV:Nat->Bool×Bool
 | 0=>(false,false)
 | 1=>(true,false)
 | _=>(true,true)
def gD (st:List Nat):List Value:=st.flatMap λx=>[.bool (fV x).1,.bool (fV x).2]
theorem KV (l:List Nat):(gD l).length=2*l.length:=by
 induction l with
 | nil=>rfl
 | cons x l ih=>simp only[gD,mU,zR,zV,lS]at *;omega
theorem DR {l:List Nat}{i x:Nat}(h:l[i]?=some x):(gD l)[2*i]?=some (.bool (fV x).1)/\(gD l)[2*i+1]?=some (.bool (fV x).2):=by
 induction l generalizing i with
 | nil=>simp at h
 | cons y l ih=>
  have e:gD (y::l)=[.bool (fV y).1,.bool (fV y).2]++gD l:=by simp[gD]
  rw[e];cases i with
  | zero=>simp at h;subst h;simp
  | succ i=>
   have:=ih (i:=i) (by simpa using h);rw[show 2*(i+1)=2*i+2 by omega];simpa using this
theorem JY {l:List Nat}{i v:Nat}(h:i<l.length)(rest:List Value):((gD l++rest).set (2*i) (.bool (fV v).1)).set (2*i+1) (.bool (fV v).2)=gD (l.set i v)++rest:=by
 induction l generalizing i with
 | nil=>simp at h
 | cons y l ih=>
  have e:∀z m,gD (z::m)=.bool (fV z).1 :: .bool (fV z).2::gD m:=λz m=>by simp[gD]
  cases i with
  | zero=>simp[e]
  | succ i=>
   have:=ih (i:=i) (by simpa using h);rw[sd,e,e,show 2*(i+1)=2*i+1+1 by omega];simp only[lT,sd];rw[this]
theorem AG {x y:Nat}(hx:x<=2)(hy:y<=2):(((fV x).1==(fV y).1)&&(((fV x).2==(fV y).2)&&true))=(x==y):=by
 match x,y,hx,hy with
 | 0,0,_,_=>rfl
 | 1,1,_,_=>rfl
 | 2,2,_,_=>rfl
 | 0,1,_,_=>rfl
 | 0,2,_,_=>rfl
 | 1,0,_,_=>rfl
 | 1,2,_,_=>rfl
 | 2,0,_,_=>rfl
 | 2,1,_,_=>rfl
theorem KR {α:Type}(x:Int×α)(l:List (Int×α))(k:Int):cB (x::l) k=if x.1=k then some x.2 else cB l k:=by
 unfold cB;rw[uP];by_cases h:x.1=k
 ·simp[h]
 ·have:(x.1==k)=false:=by simpa using h
  rw[this,zA h]
theorem Tm {α:Type}(l:List (Int×α))(n k:Int)(v:α):cB (l.map λx=>if x.1==n then(n,v)else x) k=if k=n then(if l.any (λx=>x.1==n)then some v else none)else cB l k:=by
 induction l with
 | nil=>simp[cB]
 | cons x l ih=>
  rw[zX,KR,ih,KR,yJ];by_cases hx:x.1=n
  ·by_cases hk:k=n
   ·subst hk;simp[hx]
   ·have:¬n=k:=λe=>hk e.symm;simp[hx,hk,this]
  ·have a:(x.1==n)=false:=by simpa using hx
   simp only[a,zc,j4,ra];by_cases hk:k=n
   ·subst hk;simp[hx]
   ·simp[hk]
theorem ML {α:Type}(l:List (Int×α))(n k:Int)(v:α)(h:l.any (λx=>x.1==n)=false):cB (l++[(n,v)]) k=if k=n then some v else cB l k:=by
 induction l with
 | nil=>
  rw[qv,KR];by_cases hk:k=n
  ·simp[hk]
  ·have:¬n=k:=λe=>hk e.symm;simp[hk,this,cB]
 | cons x l ih=>
  rw[yJ,Ae]at h;rw[lT,KR,ih h.2,KR];have a:¬x.1=n:=by simpa using h.1
  by_cases hk:k=n
  ·subst hk;simp[a]
  ·simp[hk]
theorem Ul {α:Type}(l:List (Int×α))(n k:Int)(v:α):cB (dO l n v) k=if k=n then some v else cB l k:=by
 unfold dO;cases h:l.any (λx=>x.1==n)
 ·rw[zA aA,ML l n k v h]
 ·rw[zB rfl,Tm,h];simp
theorem FA {α:Type}(l:List (Int×α))(n k:Int):cB (dK l n) k=if k=n then none else cB l k:=by
 unfold dK
 induction l with
 | nil=>simp[cB]
 | cons x l ih=>
  rw[sK,KR];by_cases hx:x.1=n
  ·have:(!(x.1==n))=false:=by simp[hx]
   rw[this];simp only[zc,j4,ih];by_cases hk:k=n
   ·simp[hk]
   ·have:¬x.1=k:=λe=>hk (e.symm.trans hx);simp[hk,this]
  ·have:(!(x.1==n))=true:=by simpa using hx
   rw[this,zB rfl,KR,ih];by_cases hk:k=n
   ·subst hk;simp[hx]
   ·simp[hk]
theorem Hg {α:Type}{l:List (Int×α)}{k:Int}{v:α}(h:cB l k=some v):(k,v)∈l:=by
 unfold cB at h;cases hf:l.find? (λx=>x.1==k)with
 | none=>rw[hf]at h;cases h
 | some x=>
  rw[hf]at h;have b:=sy hf;have e:=sg hf;have d:x.1=k:=by simpa using b
  have a:x.2=v:=by simpa using h
  rw[←d,←a];exact e
theorem Jr {α:Type}{l:List (Int×α)}{k:Int}:(cB l k).isSome=true↔k∈l.map (·.1):=by
 unfold cB;rw[Option.isSome_map,Az];simp
def CQ (U:Hp)(s:Sl)(b:Nat)(f:Nat->Int):Prop:=s.a=some ⟨b,0,none⟩/\s.len=32/\32<=s.cap/\∃cs,bY U b cs/\32<=cs.length/\∀j,j<32->cs[j]?=some (.int .i64 (f j))
structure fN (U:Hp) (F:Rg) (p q r:Nat) (l:List (Int×Sl)) (B:Nat->Nat) (sp:Sp):Prop where
 hd:∃cap,sp.st.length<=cap/\bY U p [.slice (some ⟨q,0,none⟩) sp.st.length cap,.map (some r),.int .i64 (sp.pk:Int)]
 row:∃rest,bY U q (gD sp.st++rest)
 map:dD U r .i64 .s l
 keys:∀x:Int,(cB l x).isSome=true↔∃k:Nat,x=k/\sp.st[k]?=some 2
 wd:∀(k:Nat) s,cB l (k:Int)=some s->CQ U s (B k) λj=>sp.wd (32*k+j)
 inj:∀k k':Nat,sp.st[k]?=some 2->sp.st[k']?=some 2->B k=B k'->k=k'
 out:∀k:Nat,sp.st[k]?=some 2->F (B k)/\B k≠p/\B k≠q/\B k≠r
 fs:F p/\F q/\F r/\p≠q/\p≠r/\q≠r
 zero:∀w:Nat,sp.st[w/32]?≠some 2->sp.wd w=0
 n1:1<=sp.st.length
 n2:sp.st.length<=1024
 qz:∀x∈sp.st,x<=2
 pk:sp.pk<=1024
def cZ (U:Hp)(F:Rg)(p:Nat)(sp:Sp):Prop:=∃q r l B,fN U F p q r l B sp
theorem fN.entry {l:List (Int×Sl)}{B:Nat->Nat}(h:fN U F p q r l B sp){k:Nat}(hk:sp.st[k]?=some 2):∃s,cB l (k:Int)=some s/\CQ U s (B k) λj=>sp.wd (32*k+j):=by
 have:=(h.keys (k:Int)).2 ⟨k,rfl,hk⟩;obtain⟨s,a⟩:=qh.1 this;exact⟨s,a,h.wd k s a⟩
theorem fN.mb {l:List (Int×Sl)}{B:Nat->Nat}(h:fN U F p q r l B sp){k:Nat}{s:Sl}(hs:cB l (k:Int)=some s):sp.st[k]?=some 2:=by
 obtain⟨k',e,a⟩:=(h.keys (k:Int)).1 (by rw[hs];rfl);have:k=k':=by omega
 subst this;exact a
theorem cZ.loc:dH λU F=>cZ U F p sp:=λU A F G ⟨q,r,l,B,h⟩ J w=>by
 have g:∀{b:Nat} {i:List Value},bY U b i->F b->bY A b i/\G b:=by
  rintro b i ⟨e,y⟩ z;have:=w b (bY.lt ⟨e,y⟩) z;exact⟨⟨e,this.2.trans y⟩,this.1⟩
 obtain⟨c,C,hd⟩:=h.hd;obtain⟨m,a⟩:=h.row;obtain⟨H,u,x,E⟩:=h.map;have j:=w r (lY.1 x).1 h.fs.2.2.1;refine⟨q,r,l,B,⟨c,C,(g hd h.fs.1).1⟩,⟨m,(g a h.fs.2.1).1⟩,⟨H,u,j.2.trans x,E⟩,h.keys,λk s d=>?_,h.inj,λk d=>?_,⟨(g hd h.fs.1).2,(g a h.fs.2.1).2,j.1,h.fs.2.2.2⟩,h.zero,h.n1,h.n2,h.qz,h.pk⟩
 ·obtain⟨w1,w2,w3,i,w4,w5⟩:=h.wd k s d;exact⟨w1,w2,w3,i,(g w4 (h.out k (h.mb d)).1).1,w5⟩
 ·obtain⟨s,D,w1,w2,w3,i,w4,w5⟩:=h.entry d;exact⟨(g w4 (h.out k d).1).2,(h.out k d).2⟩
theorem cZ.aF {σ':Hp}(h:cZ U F p sp)(e:aG U σ'):cZ σ' F p sp:=dH.aF cZ.loc h e
variable {l:List (Int×Sl)}{B:Nat->Nat}
theorem fN.rS (h:fN U F p q r l B sp){K:Sl->Prop}(hK:∀cap,sp.st.length<=cap->K ⟨some ⟨q,0,none⟩,sp.st.length,cap⟩):ji (Addr.add ⟨p,0,none⟩ 0) U K:=by
 obtain⟨c,a,hd⟩:=h.hd;exact hd.rS rfl (hK c a)
theorem fN.rM (h:fN U F p q r l B sp){K:Option Nat->Prop}(hK:K (some r)):lU (Addr.add ⟨p,0,none⟩ 1) U K:=by
 obtain⟨c,a,hd⟩:=h.hd;exact hd.rM rfl hK
theorem fN.yS (h:fN U F p q r l B sp){i x:Nat}(hx:sp.st[i]?=some x){K:Bool->Bool->Prop}(hK:K (fV x).1 (fV x).2):kB (Addr.add ⟨q,2*i,none⟩ 0) U λa=>kB (Addr.add ⟨q,2*i,none⟩ 1) U λb=>K a b:=by
 obtain⟨g,d⟩:=h.row;have j:=(cV.1 hx).1;have e:=DR hx;refine d.rB (x:=(fV x).1) ?_ (d.rB (x:=(fV x).2) ?_ hK)
 ·rw[zw,zQ (by rw[KV];omega)];exact e.1
 ·rw[zQ (by rw[KV];omega)];exact e.2
theorem Gh (h:cZ U F p sp){R:aO}(hR:R true U):Xu.c (aW p) U R:=by
 refine Xu.o ?_;unfold Xu.v;obtain⟨q,r,l,B,h⟩:=h;have:=h.n1;refine bW.intro (cJ rfl (bO (h.rS λcap _=>?_)));rw[zI aC];exact hR
theorem He (h:cZ U F p sp){R:aN}(hR:R (sp.st.length:Int) U):WM.c (aW p) U R:=by
 refine WM.o ?_;unfold WM.v;have a:=h;obtain⟨q,r,l,B,h⟩:=h;exact Gh a (bZ rfl (bO (h.rS λcap _=>hR)))
theorem fN.vQ (h:fN U F p q r l B sp):l.length=sp.st.count 2:=by
 have j:=h.map.nodup;have hp:(l.map (·.1)).Perm (((List.range sp.st.length).filter λk=>sp.st[k]?==some 2).map λk=>((k:Nat):Int)):=by
  rw[xP j]
  ·intro x;rw[←Jr,h.keys];simp only[zD,zH,ze,za];constructor
   ·rintro⟨k,rfl,hk⟩;exact⟨k,⟨(cV.1 hk).1,hk⟩,rfl⟩
   ·rintro⟨k,⟨_,hk⟩,rfl⟩;exact⟨k,rfl,hk⟩
  ·have d:((List.range sp.st.length).filter λk=>sp.st[k]?==some 2).Pairwise (· ≠ ·):=List.Pairwise.sublist rR List.nodup_range;exact List.Pairwise.map _ (λa b (e:a≠b) g=>e (by exact_mod_cast g)) d
 have i:=hp.length_eq;simp only[zi]at i;rw[i,←Ai];have key:∀st:List Nat,(List.range st.length).countP (λk=>st[k]?==some 2)=st.count 2:=by
  intro st
  induction st with
  | nil=>rfl
  | cons x st ih=>
   rw[zV,Cs,vR,List.countP_map,List.count_cons,←ih]
   congr 1
 exact key sp.st
end Go.Ar