/- Texts joined. -/
import Derived.Lib.Overlaps
import Derived.Laws.Externs
import Derived.Test.YtkabjcanamcbeaaGreatDoorT2
set_option linter.unusedVariables false
set_option linter.unusedSimpArgs false
namespace Go.Ar
open Go Go.Vc Go.Proofs
open Go.Bu (Zi)
variable {σ:Hp}{F:Rg}{p q:Nat}{st:List Nat}
structure gI (σ:Hp) (p q:Nat) (st:List Nat):Prop where
 hd:∃cap,st.length<=cap/\bW σ p [.slice (some ⟨q,0,none⟩) st.length cap]
 row:∃rest,bW σ q (ints st++rest)
 ne:p≠q
 n1:16<=st.length
 n2:st.length<=1024
 n3:st.length%16=0
theorem gI.bU {σ':Hp}(h:gI σ p q st)(e:Ext F σ σ')(hp:¬F p)(hq:¬F q):gI σ' p q st:=
 ⟨by obtain⟨c,a,b⟩:=h.hd;exact⟨c,a,e.cA b hp⟩,by obtain⟨r,a⟩:=h.row;exact⟨r,e.cA a hq⟩,h.ne,h.n1,h.n2,h.n3⟩
theorem gI.bK {σ':Hp}(h:gI σ p q st)(e:bO σ σ'):gI σ' p q st:=h.bU e id id
theorem gI.lt (h:gI σ p q st):p<σ.size/\q<σ.size:=by
 obtain⟨_,_,a⟩:=h.hd;obtain⟨_,b⟩:=h.row;exact⟨a.lt,b.lt⟩
theorem gI.rS (h:gI σ p q st){K:Sl->Prop}(hK:∀cap,st.length<=cap->K ⟨some ⟨q,0,none⟩,st.length,cap⟩):jB (Addr.add ⟨p,0,none⟩ 0) σ K:=by
 obtain⟨c,b,a⟩:=h.hd;exact a.rS rfl (hK c b)
theorem gI.part (h:gI σ p q st){s:Sl}{a n:Nat}(ha:s.a=some ⟨q,a,none⟩)(hn:s.len=n)(hl:a+n<=st.length):cP s 1 (ints ((st.drop a).take n)) σ (· = q):=by
 obtain⟨r,e⟩:=h.row;have b:((st.drop a).take n).length=n:=by simp;omega
 refine e.fP ha (by rw[QO,b,hn];simp) λj d=>?_;rw[QO,b]at d;rw[zg (by rw[QO];omega)];simp[ints,zY,d,zn]
theorem R9 {s:Sl}{xs:List Nat}(h:cP s 1 (ints xs) σ F)(hl:xs.length<=1000000)(v:Nat){R:aN}(hR:R ((xs.count v:Nat):Int) σ):ZQ.c s v σ R:=by
 refine ZQ.o ?_;have p:=h.jT;refine Kh (a:=bN) (bb:=bN) (λ(n t:Int) r=>∃i:Nat,t=(i:Int)/\i<=xs.length/\n=(((xs.take i).count v:Nat):Int)/\r=σ) (λ_ t _=>xs.length-t.toNat) ⟨0,rfl,O,by simp,rfl⟩ ?_;rintro n t r ⟨i,rfl,y,rfl,rfl⟩;refine cH (λw=>?_) λx=>?_
 ·have g:i<xs.length:=by omega
  have j:xs[i]?=some xs[i]:=cL g;have e:(xs.take (i+1)).count v=(xs.take i).count v+if xs[i]=v then 1 else 0:=by
   rw[zf,j,uy,vA,List.count_singleton]
   congr 1
   by_cases h:xs[i]=v<;>simp[h]
  have u:(xs.take i).count v<=i:=zI vQ aE;refine h.pt j (cN (λd=>?_) λd=>?_)
  ·have b:xs[i]=v:=by rw[ke]at d;simpa using d
   rw[zB b]at e;exact bZ (m:=(xs.take i).count v+1) O O (bZ (m:=i+1) O O ⟨⟨i+1,rfl,O,by rw[e],rfl⟩,O⟩)
  ·have b:¬xs[i]=v:=by rw[ke]at d;simpa using d
   rw[zA b,zr]at e;exact bZ (m:=i+1) O O ⟨⟨i+1,rfl,O,congrArg _ e.symm,rfl⟩,O⟩
 ·have:i=xs.length:=by omega
  subst this;rw[zm]at *;exact hR
theorem jF {b o n c:Nat}{cs:List Value}(hb:bW σ b cs)(hl:o+n<=cs.length)(hn:n<=1000000)(v:Nat){R:aP}
 (hR:∀σ',QJ σ σ' b->bW σ' b (cs.take o++List.replicate n (.int .i64 (v:Int))++cs.drop (o+n))->R σ'):Qu.c ⟨some ⟨b,o,none⟩,n,c⟩ v σ R:=by
 refine Qu.o ?_;refine ZP (a:=bN) (λ(t:Int) p=>∃i:Nat,t=(i:Int)/\i<=n/\QJ σ p b/\bW p b (cs.take o++List.replicate i (.int .i64 (v:Int))++cs.drop (o+i))) (λt _=>n-t.toNat) ⟨0,rfl,O,⟨rfl,λ_ _=>rfl⟩,by simpa using hb⟩ ?_;rintro t p ⟨i,rfl,y,r,d⟩;refine cH (λs=>?_) λu=>?_
 ·simp only at s;refine ix O aC ?_;rw[add_lit];refine d.s0 aE λx g j=>?_;refine bZ (m:=i+1) O O ⟨⟨i+1,rfl,O,⟨g.1.trans r.1,λk w=>(g.2 k w).trans (r.2 k w)⟩,?_⟩,O⟩;have:(cs.take o++List.replicate i (Value.int .i64 (v:Int))++cs.drop (o+i)).set (o+(i:Int).toNat*1) (Value.int .i64 (v:Int))=cs.take o++List.replicate (i+1) (Value.int .i64 (v:Int))++cs.drop (o+(i+1)):=by
   rw[wL _ _ aE];have e:o+(i:Int).toNat*1-(cs.take o++List.replicate i (Value.int .i64 (v:Int))).length=0:=by simp;omega
   rw[e,qL O,List.set_cons_zero,xr];simp[kF,qv]
  rw[this]at j;exact j
 ·simp only at u;have:i=n:=by omega
  subst this;exact hR p r d
theorem gI.fill (h:gI σ p q st){a n:Nat}{r:List Value}{σ':Hp}{v:Nat}(hrow:bW σ q (ints st++r))(hl:a+n<=st.length)(ho:QJ σ σ' q)
 (hb:bW σ' q ((ints st++r).take a++List.replicate n (.int .i64 (v:Int))++(ints st++r).drop (a+n))):gI σ' p q (fZ st a (a+n) v):=by
 obtain⟨c,g,i⟩:=h.hd;have b:=Qr st a (a+n) v;refine⟨⟨c,by rw[b];exact g,?_⟩,⟨r,?_⟩,h.ne,by rw[b];exact h.n1,by rw[b];exact h.n2,by rw[b];exact h.n3⟩
 ·rw[b];exact Wp ho i h.ne
 ·rw[P8 O hl,Vl,Vl];have j:(ints st++r).take a=ints (st.take a):=by
   rw[pG (by rw[QO];omega)];simp[ints]
  have d:(ints st++r).drop (a+n)=ints (st.drop (a+n))++r:=by
   rw[List.drop_append_of_le_length (by rw[QO];omega)];simp[ints]
  have e:ints (List.replicate (a+n-a) v)=List.replicate n (.int .i64 (v:Int)):=by
   rw[D0];simp[ints]
  rw[j,d]at hb;rw[e];simpa[kF]using hb
theorem gI.jF (h:gI σ p q st){a n c:Nat}(hl:a+n<=st.length)(v:Nat){R:aP}(hR:∀σ',Ext (· = q) σ σ'->gI σ' p q (fZ st a (a+n) v)->R σ') :
 Qu.c ⟨some ⟨q,a,none⟩,n,c⟩ v σ R:=by
 obtain⟨r,b⟩:=h.row;have:=h.n2;exact Ar.jF b (by simp[QO];omega) O v λσ' d e=>hR σ' d.ext (h.fill b hl d e)
theorem HB (h:gI σ p q st){R:aO}(hR:R true σ):WY.c (aW p) σ R:=by
 refine WY.o ?_;refine bY.intro (cJ rfl (aG (h.rS λcap _=>?_)));have:=h.n1;rw[zU aC];exact hR
theorem DU (h:gI σ p q st){R:aN}(hR:R ((st.length/16:Nat):Int) σ):XR.c (aW p) σ R:=by
 refine XR.o ?_;have:=h.n2;refine aG (h.rS λcap _=>nz aB ?_);refine bZ (m:=st.length/16) ?_ O hR;rw[Xq O];simp
theorem vp (h:gI σ p q st){k:Nat}(hk:16*k+16<=st.length){R:Sl->Hp->Prop}(hR:∀c,R ⟨some ⟨q,16*k,none⟩,16,c⟩ σ):Xk.c (aW p) (k:Int) σ R:=by
 refine Xk.o ?_;have:=h.n2;refine aG (h.rS λcap a=>?_);refine bZ (m:=16*k) O O (bZ (m:=k+1) O O (bZ (m:=16*k+16) O O ?_));refine ji O aC aC ?_;have e:16*k+16-16*k=16:=by omega
 rw[zA aC,e];simp only[zh,add_lit,m9,zG];exact hR _
theorem JO (h:gI σ p q st)(k:Int){R:Sl->Int->Hp->Prop}(h1:∀(x:Nat) c,k=(x:Int)->16*x+16<=st.length->R ⟨some ⟨q,16*x,none⟩,16,c⟩ 0 σ)(h0:ux st.length k=false->R ⟨none,0,0⟩ 1 σ) :
 X3.c (aW p) k σ R:=by
 refine X3.o ?_;have n3:=h.n3;refine HB h (cF rfl (bY.intro (cH (λa=>cJ rfl (h0 ?_)) λa=>DU h ?_)))
 ·simp[ux];omega
 ·refine cH (λd=>h0 ?_) λb=>?_
  ·simp[ux];omega
  ·obtain⟨x,rfl⟩:=zk (show 0<=k by omega);exact vp h O λc=>h1 x c rfl O
theorem UU {n x:Nat}(h:16*x+16<=n):ux n (x:Int)=true:=by simp[ux];omega
theorem gI.first (h:gI σ p q st){x c:Nat}(hx:16*x+16<=st.length){K:Int->Prop}(hK:K ((st.getD (16*x) 0:Nat):Int)) :
 Ix (some ⟨q,16*x,none⟩) 16 0 1 λa=>eW .i64 a σ K:=by
 have b:=h.part (s:=⟨some ⟨q,16*x,none⟩,16,c⟩) (n:=16) rfl rfl hx;refine b.pt (i:=0) (x:=st.getD (16*x) 0) ?_ hK;simp[zY,zn,zN];rw[cL O];simp
theorem gI.iX (h:gI σ p q st){x c v:Nat}(hx:16*x+16<=st.length){R:aN}(hR:R ((gB st (16*x) (16*x+16) v:Nat):Int) σ):ZQ.c ⟨some ⟨q,16*x,none⟩,16,c⟩ v σ R:=by
 refine R9 (h.part (n:=16) rfl rfl hx) aE v ?_;have e:gB st (16*x) (16*x+16) v=((st.drop (16*x)).take 16).count v:=by simp[gB]
 rw[e]at hR;exact hR
theorem Ψ (h:gI σ p q st){x c:Nat}(hx:16*x+16<=st.length){R:aO}(hR:R (vN st x) σ):Q9.c ⟨some ⟨q,16*x,none⟩,16,c⟩ σ R:=by
 refine Q9.o ?_;refine h.first (c:=c) hx (bY.intro ?_);unfold vN at hR;rw[DF];cases e1:(st.getD (16*x) 0 != 0)
 ·rw[e1]at hR;exact cF rfl hR
 ·rw[e1]at hR;refine cJ rfl (h.iX (v:=1) hx ?_);rw[vu];exact hR
theorem Dt (h:gI σ p q st){x c:Nat}(hx:16*x+16<=st.length){R:aN}(hR:R ((KX st x:Nat):Int) σ):QG.c ⟨some ⟨q,16*x,none⟩,16,c⟩ σ R:=by
 refine QG.o ?_;refine h.iX (v:=1) hx (cN (λb=>?_) λb=>h.iX (v:=3) hx ?_)
 ·have a:gB st (16*x) (16*x+16) 1=0:=by simpa using b
  simpa[KX,a]using hR
 ·have a:¬gB st (16*x) (16*x+16) 1=0:=by simpa using b
  refine cH (λe=>?_) λe=>?_
  ·have d:0<gB st (16*x) (16*x+16) 3:=by omega
   simpa[KX,a,d]using hR
  ·have d:¬0<gB st (16*x) (16*x+16) 3:=by omega
   simpa[KX,a,d]using hR
theorem SF (h:gI σ p q st)(k:Int){R:aN}(hR:∀σ',Ext (· = q) σ σ'->gI σ' p q (jn st k)->R (lh st k) σ'):Yv.c (aW p) k σ R:=by
 refine Yv.o ?_;refine JO h k (λx c m i=>?_) λm=>?_
 ·subst m;have d:=UU i;refine cF rfl (h.first (c:=c) i (cN (λj=>?_) λj=>?_))
  ·have g:¬st.getD (16*x) 0=0:=by simpa using j
   have:lh st (x:Int)=5:=by simp only[lh,d,dC,zV,zA g]
   have a:jn st (x:Int)=st:=by simp[jn,this]
   have:=hR σ (Ext.refl _ _);rw[a]at this;simpa[*]using this h
  ·have g:st.getD (16*x) 0=0:=by simpa using j
   have b:lh st (x:Int)=0:=by simp only[lh,d,dC,zV,g]
   have a:jn st (x:Int)=fZ st (16*x) (16*x+16) 3:=by simp[jn,b]
   refine h.jF i 3 λσ' e r=>?_;have:=hR σ' e;rw[b,a]at this;exact this r
 ·have b:lh st k=1:=by simp[lh,m]
  have a:jn st k=st:=by simp[jn,b]
  refine cJ rfl ?_;have:=hR σ (Ext.refl _ _);rw[b,a]at this;exact this h
theorem JD {s:Sl}{xs:List Nat}(h:cP s 1 (ints xs) σ F)(hl:xs.length<=1000000)(v:Nat){R:aN}(h1:∀i:Nat,xs[i]?=some v->(∀j:Nat,j<i->xs[j]?≠some v)->R (i:Int) σ)(h0:v∉xs->R (-1) σ) :
 WF.c s (v:Int) σ R:=by
 refine WF.o ?_;have w:=h.jT;refine ZP (a:=bN) (λ(t:Int) x=>∃i:Nat,t=(i:Int)/\i<=xs.length/\x=σ/\∀j,j<i->xs[j]?≠some v) (λt _=>xs.length-t.toNat) ⟨0,rfl,O,rfl,λj d=>O⟩ ?_;rintro t x ⟨i,rfl,B,rfl,b⟩;refine cH (λy=>?_) λA=>?_
 ·have u:i<xs.length:=by omega
  have p:xs[i]?=some xs[i]:=cL u;refine h.pt p ?_;rw[ke];refine cN (λr=>?_) λr=>?_
  ·have:v=xs[i]:=by simpa using r
   exact h1 i (by rw[p,this]) b
  ·have g:¬v=xs[i]:=by simpa using r
   refine bZ (m:=i+1) O O ⟨⟨i+1,rfl,O,rfl,λj d=>?_⟩,O⟩;by_cases e:j=i
   ·subst e;rw[p];intro e2;cases e2;exact g rfl
   ·exact b j O
 ·refine h0 λz=>?_;obtain⟨j,d⟩:=zL z;have:=(cS.1 d).1;exact b j O d
theorem WeI {s:Sl}{xs:List Nat}(h:cP s 1 (ints xs) σ F)(hl:xs.length<=1000000)(v:Nat){R:aO}(hR:R (xs.contains v) σ):Wo.c s (v:Int) σ R:=by
 refine Wo.o ?_;refine JD h hl v (λi b _=>?_) λa=>?_
 ·have:xs.contains v=true:=by simpa using zE b
  rw[this]at hR;rw[zU O];exact hR
 ·have:xs.contains v=false:=by simpa using a
  rw[this]at hR;exact hR
theorem P9 {s:Sl}{xs:List Int}(h:cP s 1 (xs.map (Value.int .i64)) σ F)(hl:xs.length<=1000000000)(v:Int){R:aO}(hR:R (xs.contains v) σ):Wo.c s v σ R:=by
 refine Wo.o ?_;refine WF.o ?_;have w:s.len=xs.length:=by have:=h.1;simp at this;omega
 refine ZP (a:=bN) (λ(t:Int) x=>∃i:Nat,t=(i:Int)/\i<=xs.length/\x=σ/\∀j,j<i->xs[j]?≠some v) (λt _=>xs.length-t.toNat) ⟨0,rfl,O,rfl,λj d=>O⟩ ?_;rintro t x ⟨i,rfl,A,rfl,b⟩;refine cH (λy=>?_) λz=>?_
 ·have r:i<xs.length:=by omega
  have u:xs[i]?=some xs[i]:=cL r;refine h.qc u (cN (λp=>?_) λp=>?_)
  ·have e:v=xs[i]:=by simpa using p
   have:xs.contains v=true:=by rw[e];simp
   rw[this]at hR;show R (decide ((i:Int)≥0)) _;rw[zU O];exact hR
  ·have g:¬v=xs[i]:=by simpa using p
   refine bZ (m:=i+1) O O ⟨⟨i+1,rfl,O,rfl,λj d=>?_⟩,O⟩;by_cases e:j=i
   ·subst e;rw[u];intro e2;cases e2;exact g rfl
   ·exact b j O
 ·have:xs.contains v=false:=by
   simp only[sQ,decide_eq_false_iff_not];intro hm;obtain⟨j,d⟩:=zL hm;have:=(cS.1 d).1;exact b j O d
  rw[this]at hR;exact hR
def IQ (f:Fv)(p:Nat->Bool)(σ:Hp):Prop:=∀(x:Nat) (σ':Hp) (R:aO),bO σ σ'->(∀σ'',bO σ' σ''->R (p x) σ'')->V1 Tryz.prog f [.int .i64 (x:Int)] [.one .b] σ' R
theorem PC {s:Sl}{xs:List Nat}(h:cP s 1 (ints xs) σ F)(hl:xs.length<=1000000){f:Fv}{pr:Nat->Bool}(hf:IQ f pr σ){R:aO}(hR:∀σ',bO σ σ'->R (xs.any pr) σ') :
 Wx.c s f σ R:=by
 refine Wx.o ?_;refine WW.o ?_;have w:=h.jT;refine ZP (a:=bN) (λ(t:Int) y=>∃i:Nat,t=(i:Int)/\i<=xs.length/\bO σ y/\∀j x,j<i->xs[j]?=some x->pr x=false) (λt _=>xs.length-t.toNat) ⟨0,rfl,O,Ext.refl _ _,λj x r=>O⟩ ?_;rintro t y ⟨i,rfl,B,e,d⟩;refine cH (λz=>?_) λA=>?_
 ·have g:i<xs.length:=by omega
  have p:xs[i]?=some xs[i]:=cL g;refine(aH.bK h e).pt p (hf _ _ _ e λC u=>?_);cases hp:pr xs[i]
  ·refine cF rfl (bZ (m:=i+1) O O ⟨⟨i+1,rfl,O,e.trans u,λj x r b=>?_⟩,O⟩);by_cases e3:j=i
   ·subst e3;rw[p]at b;cases b;exact hp
   ·exact d j x O b
  ·refine cJ rfl ?_;have:xs.any pr=true:=zq.2 ⟨_,zd g,hp⟩;show R (decide ((i:Int)≥0)) _;rw[zU O,←this];exact hR _ (e.trans u)
 ·have:xs.any pr=false:=by
   rw[np];intro x p;obtain⟨j,r⟩:=zL p;have:=(cS.1 r).1;simp[d j x O r]
  show R (decide ((-1:Int)≥0)) _;rw[show decide ((-1:Int)≥0)=false from rfl,←this];exact hR _ e
theorem Wg8 (h:gI σ p q st)(k:Int){R:aN}(hR:∀σ',Ext (· = q) σ σ'->gI σ' p q (jP st k)->R (lQ st k) σ'):Xh.c (aW p) k σ R:=by
 refine Xh.o ?_;refine JO h k (λx c i g=>?_) λi=>?_
 ·subst i;have d:=UU g;refine cF rfl (Ψ h g ?_);cases hi:vN st x
  ·have a:lQ st (x:Int)=5:=by simp[lQ,d,hi]
   have b:jP st (x:Int)=st:=by simp[jP,a]
   have:=hR σ (Ext.refl _ _);rw[a,b]at this;exact cJ rfl (this h)
  ·have a:lQ st (x:Int)=0:=by simp[lQ,d,hi]
   have b:jP st (x:Int)=fZ st (16*x) (16*x+16) 0:=by simp[jP,a]
   refine cF rfl (h.jF g 0 λσ' e j=>?_);have:=hR σ' e;rw[a,b]at this;exact this j
 ·have a:lQ st k=1:=by simp[lQ,i]
  have b:jP st k=st:=by simp[jP,a]
  refine cJ rfl ?_;have:=hR σ (Ext.refl _ _);rw[a,b]at this;exact this h
theorem Ps {c:Nat}{s:Sl}{fr:List Nat}{σ0:Hp}(hb:bW σ0 c [.slice s.a s.len s.cap])(hs:cP s 1 (ints fr) σ0 F)(hl:fr.length<=1000):IQ ⟨269,#[],#[.pointer (some ⟨c,0,none⟩)]⟩ (λx=>!fr.contains x) σ0:=by
 intro x σ' R e hR;refine Gf (all := #[.int .i64 (x:Int),.pointer (some ⟨c,0,none⟩)]) (by kernel_rfl) aA ?_;refine YM.o ?_;refine(e.cA hb id).Am rfl ?_;exact WeI (aH.bK hs e) O x (hR _ (Ext.refl _ _))
theorem Dx (h:gI σ p q st)(a m:Int)(v:Nat){s:Sl}{fr:List Nat}(hs:cP s 1 (ints fr) σ F)(hl:fr.length<=1000){R:aN}(hR:∀σ',Ext (· = q) σ σ'->gI σ' p q (VX st a m v fr)->R (G9 st a m fr) σ') :
 Xt.c (aW p) a m v s σ R:=by
 refine Xt.o ?_;have n2:=h.n2;have Q:=h.lt.2;refine nw (cs:=[.slice s.a s.len s.cap]) λv1 S i M=>?_;have g:=h.bK i;have b:¬(0<=a/\1<=m/\m<=st.length-a)->R 1 v1:=λJ=>by
  have d:Zi st.length a m=false:=by simp only[Zi,←vB];exact zb J
  have e:G9 st a m fr=1:=by simp[G9,d]
  have u:VX st a m v fr=st:=by simp[VX,e]
  have:=hR v1 i.to;rw[e,u]at this;exact this g
 refine HB g (cF rfl (bY.intro ?_));refine cH (λH=>bY.intro (cJ rfl (bY.intro (cJ rfl (cJ rfl (b O)))))) λH=>?_;refine bY.intro (cH (λK=>bY.intro (cJ rfl (cJ rfl (b O)))) λK=>?_);refine aG (g.rS λcap A=>bY.intro (cH (λD=>cJ rfl (b (by simp only at *;omega))) λD=>?_));simp only at D;refine aG (g.rS λcap A=>ar aC aC (cH (λB=>b (by simp only at *;omega)) λB=>?_));simp only at B;obtain⟨x,rfl⟩:=zk (show 0<=a by omega);obtain⟨y,rfl⟩:=zk (show 0<=m by omega);have j:x+y<=st.length:=by omega
 have d:Zi st.length (x:Int) (y:Int)=true:=by simp only[Zi,zF,zR];omega
 refine aG (g.rS λcap A=>bZ (m:=x+y) O O (ji O aC aC ?_));rw[zA aC];simp only[zh,add_lit,m9,zG];have L:x+y-x=y:=by omega
 rw[L];have G:=g.part (s:=⟨some ⟨q,x,none⟩,y,cap-x⟩) (n:=y) rfl rfl j;refine PC G aE (Ps (s:=s) M (aH.bK hs i) hl) λN u=>?_;have C:=g.bK u;have r:((st.drop x).take y).any (λz=>!fr.contains z) = !vX st x y fr:=by
  rw[vX,List.all_eq_not_any_not,Bool.not_not]
 rw[r];cases hA:vX st x y fr
 ·have e:G9 st (x:Int) (y:Int) fr=5:=by simp[G9,d,hA]
  have w:VX st (x:Int) (y:Int) v fr=st:=by simp[VX,e]
  have:=hR N (i.to.trans u.to);rw[e,w]at this;exact cJ rfl (this C)
 ·have e:G9 st (x:Int) (y:Int) fr=0:=by simp[G9,d,hA]
  have w:VX st (x:Int) (y:Int) v fr=fZ st x (x+y) v:=by simp[VX,e]
  refine cF rfl (C.jF j v λv3 E P=>?_);have:=hR v3 (i.to.trans (u.to.trans E));rw[e,w]at this;exact this P
theorem wS {h:Hp}{b:Nat}{xs:List Nat}{n c:Nat}(hb:bW h b (ints xs))(hn:n=xs.length):cP ⟨some ⟨b,0,none⟩,n,c⟩ 1 (ints xs) h (· = b):=
 hb.fP (o:=0) rfl (by rw[QO];simp[hn]) λj _=>by rw[zG]
theorem Wpr (h:gI σ p q st)(a m:Int){R:aN}(hR:∀σ',Ext (· = q) σ σ'->gI σ' p q (VX st a m 1 [2,3])->R (G9 st a m [2,3]) σ'):XP.c (aW p) a m σ R:=by
 refine XP.o ?_;refine nw (cs:=ints [2,3]) λv i e d=>?_;exact Dx (h.bK e) a m 1 (wS d rfl) aA λσ' g b=>hR σ' (e.to.trans g) b
theorem MX (h:gI σ p q st)(a m:Int){R:aN}(hR:∀σ',Ext (· = q) σ σ'->gI σ' p q (VX st a m 2 [1])->R (G9 st a m [1]) σ'):XG.c (aW p) a m σ R:=by
 refine XG.o ?_;refine nw (cs:=ints [1]) λv i e d=>?_;exact Dx (h.bK e) a m 2 (wS d rfl) aA λσ' g b=>hR σ' (e.to.trans g) b
theorem O2 (h:gI σ p q st)(a m:Int){R:aN}(hR:∀σ',Ext (· = q) σ σ'->gI σ' p q (VX st a m 3 [2])->R (G9 st a m [2]) σ'):W9.c (aW p) a m σ R:=by
 refine W9.o ?_;refine nw (cs:=ints [2]) λv i e d=>?_;exact Dx (h.bK e) a m 3 (wS d rfl) aA λσ' g b=>hR σ' (e.to.trans g) b
def yU (st:List Nat)(x:Int):Int:=if 0<=x/\x<st.length then((st.getD x.toNat 0:Nat):Int)else -1
theorem Rb (h:gI σ p q st)(x:Int){R:aN}(hR:R (yU st x) σ):Ya.c (aW p) x σ R:=by
 refine Ya.o ?_;have n2:=h.n2;unfold yU at hR;refine HB h (bY.intro (cF rfl (bY.intro (cH (λi=>cJ rfl ?_) λi=>aG (h.rS λcap g=>cH (λb=>?_) λb=>?_)))))
 ·rw[zA O]at hR;exact hR
 ·simp only at b;rw[zA O]at hR;exact hR
 ·simp only at b;rw[zB O]at hR;obtain⟨y,rfl⟩:=zk (show 0<=x by omega);refine aG (h.rS λcap g=>?_);have d:=h.part (s:=⟨some ⟨q,0,none⟩,st.length,cap⟩) (a:=0) (n:=st.length) rfl rfl O;rw[List.drop_zero,zm]at d;have e:y<st.length:=by omega
  refine d.pt (cL e) ?_;simpa[zN,cL e]using hR
theorem HV {s:Sl}{vs:List Value}(h:cP s 1 vs σ F)(h1:∀v∈vs,dM v=true)(hl:s.len<=1000000){R:Sl->Hp->Prop}
 (hR:∀s' σ',s'.len=s.len->bO σ σ'->bR s' 1 vs σ' (λb=>σ.size<=b)->R s' σ'):WG.c s σ R:=by
 refine WG.o ?_;exact yC h aB rfl h1 aB hl hR
theorem Gr (n:Nat)(P:Nat->Bool):(List.range (n+1)).filter P=(List.range n).filter P++(if P n then[n]else[]):=by
 rw[zw,vP]
 congr 1
 cases h:P n<;>simp[h]
theorem MQ (h:gI σ p q st)(k:Nat){R:Sl->Hp->Prop}(hR:∀s σ',bO σ σ'->bR s 1 (ints (Ks st k)) σ' (λb=>σ.size<=b)->R s σ'):X6.c (aW p) (k:Int) σ R:=by
 refine X6.o ?_;have n2:=h.n2;refine HB h (cF rfl (DU h ?_));refine Kh (a:=.s) (bb:=bN) (λ(out:Sl) (t:Int) u=>∃i:Nat,t=(i:Int)/\i<=st.length/16/\bO σ u/\bR out 1 (ints ((List.range i).filter λh=>st.getD (16*h) 0 != 0&&KX st h==k)) u (λb=>σ.size<=b))
  (λ_ t _=>st.length/16-t.toNat) ⟨0,rfl,O,Ext.refl _ _,bR.nil _ _ _ _⟩ ?_
 rintro out t u ⟨i,rfl,N,e,d⟩;have A:=h.bK e;refine cH (λH=>?_) λL=>?_
 ·have B:16*i+16<=st.length:=by omega
  refine vp A B λc=>A.first (c:=c) B (bY.intro ?_);have D:=d.jT;have F:((List.range i).filter λh=>st.getD (16*h) 0 != 0&&KX st h==k).length<=i:=zI (na _ _) aA;have next:∀(r:Bool),r=(st.getD (16*i) 0 != 0&&KX st i==k)->If r
   (Nw (.cells #[.int .i64 (i:Int)] 3 (0,0)) u λz J=>App out 1 8 3 [.int .i64 0] ⟨some z,1,1⟩ J λw y=>Ar .i64 ((i:Int)+1) λg=>
    (∃j:Nat,g=(j:Int)/\j<=st.length/16/\bO σ y/\bR w 1 (ints ((List.range j).filter λh=>st.getD (16*h) 0 != 0&&KX st h==k)) y (λb=>σ.size<=b))/\st.length/16-g.toNat<st.length/16-(i:Int).toNat)
   (Ar .i64 ((i:Int)+1) λg=>(∃j:Nat,g=(j:Int)/\j<=st.length/16/\bO σ u/\bR out 1 (ints ((List.range j).filter λh=>st.getD (16*h) 0 != 0&&KX st h==k)) u (λb=>σ.size<=b))/\st.length/16-g.toNat<st.length/16-(i:Int).toNat):=by
   intro r hr;have x:=Gr i λh=>st.getD (16*h) 0 != 0&&KX st h==k;rw[←hr]at x;cases r
   ·refine cF rfl (bZ (m:=i+1) O O ⟨⟨i+1,rfl,O,e,?_⟩,O⟩);rw[x];simpa using d
   ·refine cJ rfl (d.push (vs:=[.int .i64 (i:Int)]) (λb K=>zI e.1 K) rfl rfl (by simp[dM]) O O λM y G E C=>?_);refine bZ (m:=i+1) O O ⟨⟨i+1,rfl,O,Ext.fresh e E λ_ h=>h,?_⟩,O⟩;rw[x,Vl];exact C
  rw[DF];cases e1:(st.getD (16*i) 0 != 0)
  ·exact cF rfl (next false (by rw[e1];rfl))
  ·refine cJ rfl (Dt A B ?_);rw[ke];exact next _ (by rw[e1];rfl)
 ·have:i=st.length/16:=by omega
  subst this;exact hR _ _ e d
theorem Oj (h:gI σ p q st){R:Sl->Hp->Prop}(hR:∀s σ',bO σ σ'->bR s 1 (ints (Ks st 0)) σ' (λb=>σ.size<=b)->R s σ'):YC.c (aW p) σ R:=by
 refine YC.o ?_;exact MQ h 0 hR
theorem Nv {n:Nat}(h1:16<=n)(h2:n<=1024)(h3:n%16=0){R:Option Addr->Int->Hp->Prop}(hR:∀σ' p q,bO σ σ'->σ.size<=p->σ.size<=q->gI σ' p q (List.replicate n 0)->R (some ⟨p,0,none⟩) 0 σ'):KE.c (n:Int) σ R:=by
 refine KE.o ?_;refine bY.intro (fH O (bY.intro (fH O (nz aB ?_))));rw[Q4 O];have:(((n:Int)%16) != 0)=false:=by
  have:((n:Int)%16)=0:=by omega
  rw[this];rfl
 rw[this];refine cF rfl (mk O O λv j e a=>nw (cs:=[.slice (some ⟨σ.size,0,none⟩) n n]) λm i d b=>?_);have g:(List.replicate n [Value.int .i64 0]).flatten=ints (List.replicate n 0):=by
  have:[Value.int .i64 0]=ints [0]:=rfl;rw[this];clear a hR
  induction n with
  | zero=>rfl
  | succ n ih=>simp[xF,ints]
 rw[g]at a;refine hR _ _ _ (e.trans d) O (zC _) ⟨⟨n,by simp,by simpa using b⟩,⟨[],by simpa using d.cA a id⟩,O,by simpa using h1,by simpa using h2,by simpa using h3⟩
end Go.Ar
namespace Go.Proofs
open Go.Vc
set_option maxRecDepth 100000
def ZL.h:Hn:=.q .o1 (.q (.q .o3 .aJ) (.q (.cV (.tail 10 (RI.ops 10) [.op])) .l))
theorem ZL.o {a:R2}{b:Hp}{c:Int->Int->Hp->Prop}(d:aV #[.I 0,.I 0] 92 b λd e=>YI.c a e λf g=>If (!f) (aR d 0 (.I 0) g λh=>aR d 1 (.I 0) h λi=>aQ d 0 i λj=>aQ d 1 i λk=>c j k i) (bD a 0 g λm=>bQ a λn=>bM ((n.add 1).add 1) g λo=>aR d 0 (.I m) g λp=>aR d 1 (.I o) p λq=>aQ d 0 q λr=>aQ d 1 q λs=>c r s q)):ZL.c a b c:=Wa Tryz.func138 (x:=ZL.h) (R0 d)
def XV.h:Hn:=.q .o1 (.q (.q .o3 .aK) (.q .o6 .l))
theorem XV.o {a:R2}{b:Hp}{c:aN}(d:YI.c a b λd e=>If (!d) (c 0 e) (bE a 4 e λg=>c ((g.len:Nat):Int) e)):XV.c a b c:=Wa Tryz.func141 (x:=XV.h) (R0 d)
def Yg.h:Hn:=.q .o2 (.q (.q .o3 .aJ) (.q .o5 (.q (.q (.cV (.ic false [] [(32,.one .b)] (.take 0 (.take 1 (.all [(2,.take 3 (.take 4 (.split 18 (.take 5 (.take 6 (.take 7 (.take 8 (.take 9 (.take 10 (.take 11 (.take 12 (.take 13 (.take 14 (.take 15 (.take 16 (.take 17 (.take 18 (.done))))))))))))))) (.take 5 (.take 6 (.take 7 (.take 8 (.take 11 (.take 12 (.take 13 (.take 14 (.all [(9,.take 10 (.all [(15,.take 16 (.take 17 (.take 18 (.done))))])),(15,.all [(9,.take 10 (.take 16 (.take 17 (.take 18 (.done)))))])]))))))))))))]))))) .aJ) (.q .o9 .l))))
theorem Yg.o {a:R2}{b:Int}{c:Hp}{d:Int->Int->Hp->Prop}(e:YI.c a c λe f=>If (!e) (d 0 5 f) (YK.c a 0 f λg h=>bL (b-g) λi=>Jn [.b] (λ(j:Bool) k=>If j (d 0 8 k) (bQ a λl=>bM ((l.add 1).add 0) k λm=>Nz m<|bL (i.tdiv m) λn=>d n 0 k)) λo=>YK.c a 0 h λp q=>If (b<p) (o true q) (bQ a λr=>bQ a λs=>(aX r 4 q λt=>bM ((s.add 1).add 0) q λu=>bL (((t.len:Nat):Int)*u) λv=>o (decide (i≥v)) q) ∧ (bM ((s.add 1).add 0) q λw=>aX r 4 q λx=>bL (((x.len:Nat):Int)*w) λy=>o (decide (i≥y)) q)))):Yg.c a b c d:=Wa Tryz.func146 (x:=Yg.h) (R0 e)
def YI.h:Hn:=.q .o1 (.q (.cV (.seq [.op,.op,.op,.dA true 6 (RI.ops 6),.op])) .l)
theorem YI.o {a:R2}{b:Hp}{c:aO}(d:bY (λd e=>c d e) λf=>If (!a.isNone) (bE a 4 b λh=>f (decide (((h.len:Nat):Int)>0)) b) (f false b)):YI.c a b c:=Wa Tryz.func200 (x:=YI.h) (R0 d)
def YK.h:Hn:=.q .o1 (.q (.oq 14) .l)
theorem YK.o {a:R2}{b:Int}{c:Hp}{d:aN}(e:bQ a λe=>aQ e 0 c λf=>bL (f*256) λg=>bQ a λh=>bM ((h.add 1).add 0) c λi=>bL (b*i) λj=>bL (g+j) λk=>d k c):YK.c a b c d:=Wa Tryz.func202 (x:=YK.h) (R0 e)
def KD.h:Hn:=.q .o3 (.q .o7 (.q (.q (.cV (.seq [.op,.op,.op,.dA false 2 [.op,.op],.op,.dA false 5 (RI.ops 5)])) .aJ) (.q (.cV (.held true [] (.tk [0,1,2] (.all [(3,.take 4 (.all [(5,.take 6 (.take 7 (.done)))]))])))) .l)))
theorem KD.o {a b c d:Int}{e:Hp}{f:Option Addr->Int->Hp->Prop}(g:aV #[.I b,.I c,.I d] 31 e λg h=>aQ g 0 h λi=>aQ g 1 h λj=>aQ g 2 h λk=>Zh.c i j k h λl m n=>bY (λo p=>bY (λq r=>If q (f none 1 r) (dW r λs=>aS s g 0 λt=>aS s g 1 λu=>aS s g 2 λv=>Mk l l 8 3 [.I 0] r λw x=>And (s x) <| aV #[.I a,.I t,.I u,.I v,.slice w.a w.len w.cap,.I 0] 296 x λy z=>And (s z) <| f (some y) 0 z)) λaa=>If o (aa true p) (aQ g 1 p λab=>bL (1024-ab) λac=>aa (decide (a>ac)) p)) λad=>If (m != 0) (ad true n) (ad (decide (a<0)) n)):KD.c a b c d e f:=Wa Tryz.func256 (x:=KD.h) (R0 g)
def ZN.h:Hn:=.q .o1 (.q .o8 (.q (.k (.q .o3 (.c .aL (.q .o9 .aK)))) (.q .o4 .aM)))
theorem ZN.o {a:R2}{b:Int}{c:Hp}{d:aN}(e:Yq.c a b c λe f g=>If (f != 0) (d f g) (bQ a λh=>aX h 4 g λi=>Ix i.a i.len e 1 λj=>bM j g λk=>If (k==0) (d 9 g) (aV #[.I e] 3 g λl m=>Zo.c a 0 ⟨some l,1,1⟩ m λn=>d 0 n))):ZN.c a b c d:=Wa Tryz.func275 (x:=ZN.h) (R0 e)
def ZH.h:Hn:=.q .o2 (.q (.q .o3 .aJ) (.q .o6 (.q (.q .o2 .aJ) (.q .o4 (.q .o5 .l)))))
theorem ZH.o {a:R2}{b:Hp}{c:Int->Int->Hp->Prop}(d:YI.c a b λd e=>If (!d) (c 0 5 e) (bE a 4 e λg=>WF.c g 0 e λh i=>If (h<0) (c 0 6 i) (aV #[.I h] 3 i λj k=>Zo.c a 1 ⟨some j,1,1⟩ k λl=>YK.c a h l λm n=>c m 0 n))):ZH.c a b c:=Wa Tryz.func277 (x:=ZH.h) (R0 d)
def YF.h:Hn:=.q .o2 (.q .o8 (.q (.q .o2 (.c (.q .o3 .l) .l)) (.q .fW .l)))
theorem YF.o {a:R2}{b:Int}{c:Hp}{d:Bool->Int->Hp->Prop}(e:Yq.c a b c λe f g=>If (f != 0) (d false f g) (bQ a λh=>aX h 4 g λi=>Ix i.a i.len e 1 λj=>bM j g λk=>d (k==1) 0 g)):YF.c a b c d:=Wa Tryz.func285 (x:=YF.h) (R0 e)
def Yq.h:Hn:=.q .o2 (.q .o8 (.q (.q (.cV (.seq [.op,.op,.op,.dA true 5 (RI.ops 5)])) .aJ) (.q .o4 .l)))
theorem Yq.o {a:R2}{b:Int}{c:Hp}{d:Int->Int->Hp->Prop}(e:Yg.c a b c λe f g=>bY (λh i=>If h (d 0 8 i) (d e f i)) λj=>If (f==0) (YK.c a e g λk l=>j (k != b) l) (j false g)):Yq.c a b c d:=Wa Tryz.func297 (x:=Yq.h) (R0 e)
def Zo.h:Hn:=.q .o3 (.k (.loop [(10,.I)] (.q .o1 (.q (.c .l .l) (.q (.k (.q .o3 (.q (.cV (.tail 16 (RI.ops 16) [.op])) .o8))) .o2)))))
theorem Zo.o {a:R2}{b:Int}{c:Sl}{d:Hp}{e:aP}(f:WR [bN] (λf=>f 0 d) λg (h:Int) i=>If (h<((c.len:Nat):Int)) (Ix c.a c.len h 1 λj=>bM j i λk=>bD a 5 i λm=>bE a 4 i λo=>Ix o.a o.len k 1 λp=>bM p i λq=>bL (b-q) λr=>bL (m+r) λs=>bQ a λt=>aR t 5 (.I s) i λu=>bE a 4 u λw=>Ix w.a w.len k 1 λx=>dG x (.I b) u λy=>bL (h+1) λz=>g z y) (e i)):Zo.c a b c d e:=Wa Tryz.func298 (x:=Zo.h) (R0 f)
end Go.Proofs
namespace Go.Ar
open Go Go.Vc Go.Proofs
variable {σ:Hp}{F:Rg}{p q:Nat}{c:bX}{s:cI}
def oy (tk:List Bool):List Nat:=tk.map λb=>if b then 1 else 0
theorem yf (tk:List Bool):(oy tk).length=tk.length:=by simp[oy]
theorem Gh {tk:List Bool}{i:Nat}{b:Bool}(h:tk[i]?=some b):(oy tk)[i]?=some (if b then 1 else 0):=by simp[oy,h]
theorem TA (tk:List Bool)(i:Nat)(b:Bool):oy (tk.set i b)=(oy tk).set i (if b then 1 else 0):=by simp[oy,uj]
structure iq (σ:Hp) (p q:Nat) (c:bX) (s:cI):Prop where
 hd:∃cap,c.n<=cap/\bW σ p [.int .i64 (s.st:Int),.int .i64 (c.size:Int),.int .i64 (c.aF:Int),.int .i64 (c.batch:Int),.slice (some ⟨q,0,none⟩) c.n cap,.int .i64 (s.many:Int)]
 row:∃rest,bW σ q (ints (oy s.tk)++rest)
 ne:p≠q
 len:s.tk.length=c.n
 ok:c.ok
 fit:s.st+c.aF<=1024
theorem iq.bU {σ':Hp}(h:iq σ p q c s)(e:Ext F σ σ')(hp:¬F p)(hq:¬F q):iq σ' p q c s:=
 ⟨by obtain⟨c,a,b⟩:=h.hd;exact⟨c,a,e.cA b hp⟩,by obtain⟨r,a⟩:=h.row;exact⟨r,e.cA a hq⟩,h.ne,h.len,h.ok,h.fit⟩
theorem iq.bK {σ':Hp}(h:iq σ p q c s)(e:bO σ σ'):iq σ' p q c s:=h.bU e id id
theorem iq.lt (h:iq σ p q c s):p<σ.size/\q<σ.size:=by
 obtain⟨_,_,a⟩:=h.hd;obtain⟨_,b⟩:=h.row;exact⟨a.lt,b.lt⟩
theorem iq.rS (h:iq σ p q c s){K:Sl->Prop}(hK:∀cap,c.n<=cap->K ⟨some ⟨q,0,none⟩,c.n,cap⟩):jB (Addr.add ⟨p,0,none⟩ 4) σ K:=by
 obtain⟨d,b,a⟩:=h.hd;exact a.rS rfl (hK d b)
theorem iq.rI (h:iq σ p q c s){i:Nat}{x:Int}(hx:∀a b:Value,([.int .i64 (s.st:Int),.int .i64 (c.size:Int),.int .i64 (c.aF:Int),.int .i64 (c.batch:Int),a,.int .i64 (s.many:Int)]:List Value)[0+i]?=some (.int .i64 x)){K:Int->Prop}(hK:K x):eW .i64 (Addr.add ⟨p,0,none⟩ i) σ K:=by
 obtain⟨g,e,d⟩:=h.hd;exact d.rI (hx _ .nilFunc) hK
theorem iq.gD (h:iq σ p q c s){i j:Nat}{x:Int}(hx:∀a b:Value,([.int .i64 (s.st:Int),.int .i64 (c.size:Int),.int .i64 (c.aF:Int),.int .i64 (c.batch:Int),a,.int .i64 (s.many:Int)]:List Value)[0+i+j]?=some (.int .i64 x)){K:Int->Prop}(hK:K x):eW .i64 (Addr.add (Addr.add ⟨p,0,none⟩ i) j) σ K:=by
 obtain⟨g,e,d⟩:=h.hd;exact d.gD (hx _ .nilFunc) hK
theorem iq.lK (h:iq σ p q c s)(cap:Nat):cP ⟨some ⟨q,0,none⟩,c.n,cap⟩ 1 (ints (oy s.tk)) σ (· = q):=by
 obtain⟨r,b⟩:=h.row;refine b.fP (o:=0) rfl (by rw[QO,yf,h.len];simp) λj a=>?_;rw[zG,zg a]
theorem yO (h:iq σ p q c s){R:aO}(hR:R true σ):YI.c (aW p) σ R:=by
 refine YI.o ?_;refine bY.intro (cJ rfl (aG (h.rS λcap _=>?_)));have:=h.ok.nL;rw[zU aC];exact hR
theorem Le (h:iq σ p q c s){R:aN}(hR:R (c.n:Int) σ):XV.c (aW p) σ R:=by
 refine XV.o ?_;exact yO h (cF rfl (aG (h.rS λcap _=>hR)))
theorem yG (h:iq σ p q c s)(i:Nat)(hi:i<=1000){R:aN}(hR:R ((at_ c s i:Nat):Int) σ):YK.c (aW p) (i:Int) σ R:=by
 refine YK.o ?_;have a:=h.ok;unfold bX.ok at a;have:=h.fit;have b:i*c.size<=1000*512:=kU hi O;refine aG (h.rI (λ_ _=>rfl) (bZ (m:=s.st*256) aA O (aG (h.gD (λ_ _=>rfl) ?_))));exact bZ (m:=i*c.size) aA O (bZ (m:=at_ c s i) (by simp[at_]) (by unfold at_;omega) hR)
theorem BV (h:iq σ p q c s)(x:Int)(hx2:x<=9223372036854775807){R:Int->Int->Hp->Prop}(h1:∀i,idx c s x=some i->R (i:Int) 0 σ)(h0:idx c s x=none->R 0 8 σ):Yg.c (aW p) x σ R:=by
 refine Yg.o ?_;have z:=h.ok;unfold bX.ok at z;have B:=h.ok.jX;have j:=h.fit;have a:=h.len;have E:c.n*c.size<=128*512:=kU B O;refine yO h (cF rfl (yG h 0 O ?_));have w:at_ c s 0=s.st*256:=by simp[at_]
 rw[w];refine yx ?_;refine Jn.intro (yG h 0 O ?_);rw[w];refine cH (λA=>cJ rfl (h0 ?_)) λC=>?_
 ·unfold idx;rw[zB O]
 ·rw[UV O O];obtain⟨y,D⟩:=zk (show 0<=x by omega);have key:If (decide (x-((s.st*256:Nat):Int)≥((c.n*c.size:Nat):Int))) (R 0 8 σ)
   (bQ (some ⟨p,0,none⟩) λg=>eW .i64 ((g.add 1).add 0) σ λd=>Nz d<|Ar .i64 ((x-((s.st*256:Nat):Int)).tdiv d) λe=>R e 0 σ):=by
   refine cH (λr=>h0 ?_) λu=>aG (h.gD (λ_ _=>rfl) (nz O ?_))
   ·unfold idx;rw[a,zB O]
   ·have:idx c s x=some ((x-((s.st*256:Nat):Int)).toNat/c.size):=by unfold idx;rw[a,zA O]
    refine bZ (m:=(x-((s.st*256:Nat):Int)).toNat/c.size) ?_ ?_ (h1 _ this)
    ·rw[Xq O];have:x-((s.st*256:Nat):Int)=(((x-((s.st*256:Nat):Int)).toNat:Nat):Int):=by omega
     rw[this];simp
    ·have:=Nat.div_le_self (x-((s.st*256:Nat):Int)).toNat c.size;omega
  refine aG (aG ⟨h.rS λcap b=>h.gD (λ_ _=>rfl) (bZ (m:=c.n*c.size) aA O key),h.gD (λ_ _=>rfl) (h.rS λcap b=>bZ (m:=c.n*c.size) aA O key)⟩)
theorem LX (h:iq σ p q c s)(x:Int)(hx2:x<=9223372036854775807){R:Int->Int->Hp->Prop}(h1:∀i,obj c s x=some i->i<c.n->R (i:Int) 0 σ)(h0:obj c s x=none->R 0 8 σ):Yq.c (aW p) x σ R:=by
 refine Yq.o ?_;have g:=h.ok;unfold bX.ok at g;have j:=h.ok.jX;refine BV h x hx2 (λi b=>bY.intro (cJ rfl ?_)) λb=>bY.intro (cF rfl (cF rfl (h0 (by unfold obj;rw[b]))));have a:=((Uh O).1 b).2.2;rw[h.len]at a;refine yG h i O (cN (λd=>h0 ?_) λd=>h1 i ?_ a)
 ·have:¬x=((at_ c s i:Nat):Int):=λe=>by rw[e]at d;simp at d
  unfold obj;rw[b];simp[this]
 ·have:x=((at_ c s i:Nat):Int):=by
   have:((at_ c s i:Nat):Int)=x:=by simpa using d
   exact this.symm
  unfold obj;rw[b];simp[this]
def cI.is (s:cI)(i:Nat):Bool:=s.tk.getD i false
theorem cI.mg {s:cI}{i:Nat}(hi:i<s.tk.length):s.tk[i]?=some (s.is i):=by
 simp[cI.is,zN,cL hi]
theorem NF (h:iq σ p q c s)(x:Int)(hx2:x<=9223372036854775807){R:Bool->Int->Hp->Prop}(h1:∀i,obj c s x=some i->R (s.is i) 0 σ)(h0:obj c s x=none->R false 8 σ):YF.c (aW p) x σ R:=by
 refine YF.o ?_;refine LX h x hx2 (λi b a=>cF rfl (aG (h.rS λcap d=>?_))) λb=>cJ rfl (h0 b);rw[←h.len]at a;refine(h.lK cap).pt (Gh (cI.mg a)) ?_;have:=h1 i b;cases hb:s.is i<;>rw[hb]at this<;>simpa using this
theorem y8 {s:cI}{i:Nat}(hi:i<s.tk.length)(v:Bool):((s.put i v).many:Int)=s.many+((if v then 1 else 0)-(if s.is i then 1 else 0)):=by
 have key:∀(l:List Bool) (i:Nat) (b:Bool),l[i]?=some b->(((l.set i v).count true:Nat):Int)=(l.count true:Nat)+((if v then 1 else 0)-(if b then 1 else 0)):=by
  intro l
  induction l with
  | nil=>intro i b h;simp at h
  | cons x l ih=>
   intro i b h;cases i with
   | zero=>
    simp at h;subst h;cases v<;>cases x<;>simp[List.count_cons]<;>omega
   | succ i=>
    have:=ih i b (by simpa using h);simp only[sK,List.count_cons]
    push_cast
    omega
 exact key s.tk i _ (cI.mg hi)
theorem Ac (s:cI):s.many<=s.tk.length:=vQ
theorem J6 (h:iq σ p q c s){i:Nat}(hi:i<c.n)(v:Bool){sl:Sl}{G:Rg}(hs:cP sl 1 (ints [i]) σ G){R:aP}(hR:∀σ',Ext (λb=>b=p\/b=q) σ σ'->iq σ' p q c (s.put i v)->R σ') :
 Zo.c (aW p) (if v then 1 else 0) sl σ R:=by
 refine Zo.o ?_;have L:sl.len=1:=hs.jT;have S:=h.ok.jX;have E:=h.len;have Q:=Ac s;have B:i<s.tk.length:=by omega
 have g:=y8 B v;refine ZP (a:=bN) (λ(t:Int) C=>t=0/\C=σ\/t=1/\Ext (λb=>b=p\/b=q) σ C/\iq C p q c (s.put i v)) (λt _=>1-t.toNat) (.inl ⟨rfl,rfl⟩) ?_;rintro t C (⟨rfl,rfl⟩|⟨rfl,e,M⟩)
 ·refine mh O ?_;refine hs.pt (i:=0) (x:=i) rfl (aG (h.rI (λ_ _=>rfl) (aG (h.rS λcap H=>?_))));refine(h.lK cap).pt (Gh (cI.mg B)) ?_;have K:(0:Int)<=(if v then 1 else 0)/\(if v then(1:Int)else 0)<=1:=by cases v<;>simp
  have N:(0:Int)<=((if s.is i then 1 else 0:Nat):Int)/\((if s.is i then 1 else 0:Nat):Int)<=1:=by cases s.is i<;>simp
  have j:((if s.is i then 1 else 0:Nat):Int)=(if s.is i then 1 else 0):=by cases s.is i<;>rfl
  refine ar O O (ar O O (aG ?_));obtain⟨J,D,hd⟩:=h.hd;obtain⟨r,u⟩:=h.row;refine hd.s1 aA λP w A=>?_;have d:=Wp w u (Ne.symm h.ne);refine aG (A.rS rfl (ix O aC ?_));rw[add_lit];refine d.s0 (by simp[QO,yf];omega) λU z y=>?_;refine bZ (m:=1) O O ⟨.inr ⟨rfl,?_,?_⟩,by decide⟩
  ·exact(Ext.eR (F:=λb=>b=p\/b=q) w (.inl rfl)).trans (Ext.eR z (.inr rfl))
  ·refine⟨⟨J,D,?_⟩,⟨r,?_⟩,h.ne,by simp[cI.put,h.len],h.ok,h.fit⟩
   ·have:=Wp z A h.ne;rw[g,←j];exact this
   ·have e:(ints (oy s.tk)++r).set (0+(i:Int).toNat*1) (.int .i64 (if v then 1 else 0))=ints (oy (s.put i v).tk)++r:=by
     rw[List.set_append_left _ _ (by simp[QO,yf];omega)]
     congr 1
     simp only[cI.put,TA,ints,uj];have:(0+(i:Int).toNat*1)=i:=by omega
     rw[this]
     congr 1
     cases v<;>rfl
    rw[e]at y;exact y
 ·exact fH O (hR _ e M)
theorem Woh (h:iq σ p q c s){x:Int}{i:Nat}(hx2:x<=9223372036854775807)(ho:obj c s x=some i)(ht:s.is i=true){R:aN}(hR:∀σ',Ext (λb=>b=p\/b=q) σ σ'->iq σ' p q c (s.put i false)->R 0 σ') :
 ZN.c (aW p) x σ R:=by
 refine ZN.o ?_;refine LX h x hx2 (λj g a=>cF rfl (aG (h.rS λcap m=>?_))) λr=>by rw[ho]at r;cases r
 rw[ho]at g;cases g;have d:i<s.tk.length:=by rw[h.len];exact a
 refine(h.lK cap).pt (Gh (cI.mg d)) ?_;rw[ht];refine cF rfl (nw (cs:=ints [i]) λv z e y=>?_);have A:=h.lt;exact J6 (h.bK e) a false (wS y rfl) λσ' u w=>hR σ' (e.to.trans u) w
theorem T9 (h:iq σ p q c s){i:Nat}(hlow:low s=some i){R:Int->Int->Hp->Prop}(hR:∀σ',Ext (λb=>b=p\/b=q) σ σ'->iq σ' p q c (s.put i true)->R ((at_ c s i:Nat):Int) 0 σ') :
 ZH.c (aW p) σ R:=by
 refine ZH.o ?_;have E:=h.ok.jX;have a:=pj.1 hlow;obtain⟨m,A,C⟩:=a;have g:s.tk[i]=false:=by simpa using A
 refine yO h (cF rfl (aG (h.rS λcap y=>?_)));refine JD (h.lK cap) (by simp[yf,h.len];omega) 0 (λj w d=>?_) λd=>?_
 ·have r:j<s.tk.length:=by
   have:=(cS.1 w).1
   rwa [yf]at this
  have x:j=i:=by
   rcases qD j i with h1|h1|h1
   ·have:=C j h1;rw[Gh (cL r)]at w;have:s.tk[j]=true:=by simpa using this
    simp[this]at w
   ·exact h1
   ·exact absurd (by rw[Gh (cL m),g];rfl) (d i h1)
  subst x;rw[h.len]at m;refine fH O (nw (cs:=ints [j]) λv D e u=>?_);refine J6 (h.bK e) m true (wS u rfl) λσ' B z=>yG z j O (hR σ' (e.to.trans B) z)
 ·exfalso;apply d;exact zE (i:=i) (by rw[Gh (cL m),g];rfl)
theorem FD (h:iq σ p q c s){R:Int->Int->Hp->Prop}(hR:∀σ',bO σ σ'->R (s.st:Int) (c.aF:Int) σ'):ZL.c (aW p) σ R:=by
 refine ZL.o ?_;refine nw (cs:=[.int .i64 0,.int .i64 0]) λv u e m=>?_;have g:=h.bK e;refine yO g (cF rfl (aG (g.rI (λ_ _=>rfl) (aG (g.gD (λ_ _=>rfl) ?_)))));refine m.s1 aA λw d j=>j.s1 aA λv3 b a=>?_;refine a.rI rfl (a.rI rfl (hR _ ?_));exact Ext.fresh (Ext.fresh e (Ext.eR (F:=(· = σ.size)) d rfl) λi r=>O) (Ext.eR (F:=(· = σ.size)) b rfl) λi r=>by omega
theorem PR (n:Nat):(List.replicate n [Value.int .i64 0]).flatten=ints (List.replicate n 0):=by
 induction n with
 | zero=>rfl
 | succ n ih=>simp only[xF,vY,ih];rfl
theorem MW (hc:c.ok){st:Nat}(hf:st+c.aF<=1024){R:Option Addr->Int->Hp->Prop}(hR:∀σ' p q,bO σ σ'->σ.size<=p->σ.size<=q->iq σ' p q c ⟨st,List.replicate c.n false⟩->R (some ⟨p,0,none⟩) 0 σ') :
 KD.c (st:Int) c.size c.aF c.batch σ R:=by
 refine KD.o ?_;have C:=hc;unfold bX.ok at C;have Q:=hc.jX;refine nw (cs:=[.int .i64 c.size,.int .i64 c.aF,.int .i64 c.batch]) λv N e y=>?_;refine y.rI rfl (y.rI rfl (y.rI rfl (UW _ _ _ (λg H K F E B z=>?_) λs=>?_)))
 case refine_2=>rw[(UE c).2 hc]at s;cases s
 have:g=c:=by
  obtain⟨a,b,d⟩:=c;obtain⟨P,L,M⟩:=g;simp only at K F E
  congr 1<;>omega
 subst this;have i:=z.cA y id;refine bY.intro (cF rfl (bY.intro (fH O (i.rI rfl (bZ (m:=1024-g.aF) O O (fH O ?_))))));refine⟨λx=>bW x σ.size [.int .i64 g.size,.int .i64 g.aF,.int .i64 g.batch],i,⟨_,λx w=>by rw[add_lit,w.cell];rfl,⟨_,λx w=>by rw[add_lit,w.cell];rfl,⟨_,λx w=>by rw[add_lit,w.cell];rfl,?_⟩⟩⟩⟩;refine mk O O λS D r u=>⟨r.cA i id,nw (cs:=[.int .i64 (st:Int),.int .i64 g.size,.int .i64 g.aF,.int .i64 g.batch,.slice (some ⟨B.size,0,none⟩) g.n g.n,.int .i64 0]) λv3 J j A=>⟨(r.trans j).cA i id,?_⟩⟩;rw[PR]at u;have G:=z.1;refine hR _ _ _ (((e.trans z).trans r).trans j) O (show σ.size<=B.size by omega) ⟨⟨g.n,zC _,?_⟩,⟨[],?_⟩,O,by simp,hc,hf⟩
 ·have:cI.many ⟨st,List.replicate g.n false⟩=0:=by simp[cI.many,AJ]
  rw[this];exact A
 ·have:oy (List.replicate g.n false)=List.replicate g.n 0:=by simp[oy]
  rw[this,km];exact j.cA u id
end Go.Ar
namespace Go.Proofs
open Go.Vc
set_option maxRecDepth 100000
def X9.h:Hn:=.q .o1 (.q (.q .o3 .aK) (.q .o1 (.q (.q .o6 (.k (.loop [(3,.one .s),(14,.I)] (.q .o1 (.q (.c .l .l) (.q (.k (.q .o4 .o7)) .o2)))))) .aL)))
theorem X9.o {a:R2}{b:Hp}{c:Sl->Hp->Prop}(d:WB.c a b λd e=>If (!d) (c ⟨none,0,0⟩ e) (bE a 3 e λg=>WR [.s,bN] (λh=>h ⟨none,0,0⟩ 0 e) λi (j:Sl) (k:Int) l=>If (k<((g.len:Nat):Int)) (Ix g.a g.len k 3 λm=>aQ m 0 l λn=>aQ m 1 l λo=>aY m 2 l λp=>aV #[.I 0,.I 0,.pointer none] 210 l λq r=>aR q 0 (.I n) r λs=>aR q 1 (.I o) s λt=>aR q 2 (.pointer p) t λu=>aY q 2 u λv=>ZL.c v u λw x y=>aV #[.I w,.I x] 92 y λz aa=>App j 2 16 92 [.I 0,.I 0] ⟨some z,1,1⟩ aa λab ac=>bL (k+1) λad=>i ab ad ac) (c j l))):X9.c a b c:=Wa Tryz.func107 (x:=X9.h) (R0 d)
def YG.h:Hn:=.q .o1 (.q (.q .o3 .aK) (.q .o1 (.q (.q .o6 (.k (.loop [(3,.I),(14,.I)] (.q .o1 (.q (.c .l .l) (.q (.k (.q .o4 (.cV (.held true [] (.tk [0,1,2,4,5,6] (.all [(3,.tk [7,8,9] (.done))])))))) .o2)))))) .aL)))
theorem YG.o {a:R2}{b:Hp}{c:aN}(d:WB.c a b λd e=>If (!d) (c 0 e) (bE a 3 e λg=>WR [bN,bN] (λh=>h 0 0 e) λi (j:Int) (k:Int) l=>If (k<((g.len:Nat):Int)) (Ix g.a g.len k 3 λm=>aQ m 0 l λn=>aQ m 1 l λo=>aY m 2 l λp=>aV #[.I 0,.I 0,.pointer none] 210 l λq r=>aR q 0 (.I n) r λs=>aR q 1 (.I o) s λt=>aR q 2 (.pointer p) t λu=>dW u λv=>aU v q 2 λw=>gT v bN ((q.add 0).add 0) λ(x:Int)=>XV.c w u λy z=>And (v z) <| bL (y-x) λaa=>bL (j+aa) λab=>bL (k+1) λac=>i ab ac z) (c j l))):YG.c a b c:=Wa Tryz.func109 (x:=YG.h) (R0 d)
def YE.h:Hn:=.q .o2 (.q (.q .o3 .aJ) (.q .o4 (.q (.q .o2 .aJ) (.q (.o 11) (.q (.oq 16) .l)))))
theorem YE.o {a:R2}{b:Int}{c:Hp}{d:Int->Int->Hp->Prop}(e:WB.c a c λe f=>If (!e) (d 0 5 f) (XT.c a b f λg h=>If g.isNone (d 0 8 h) (bF g 2 h λj=>Yg.c j b h λk l m=>bQ g λn=>bM ((n.add 0).add 1) m λo=>bL (o*256) λp=>bQ a λq=>bM ((q.add 0).add 0) m λr=>bL (k*r) λs=>bL (p+s) λt=>d t 0 m))):YE.c a b c d:=Wa Tryz.func115 (x:=YE.h) (R0 e)
def WB.h:Hn:=.q .o1 (.q (.cV (.seq [.op,.op,.op,.dA true 6 (RI.ops 6),.op])) .l)
theorem WB.o {a:R2}{b:Hp}{c:aO}(d:bY (λd e=>c d e) λf=>If (!a.isNone) (bQ a λg=>bM ((g.add 0).add 0) b λh=>f (decide (h>0)) b) (f false b)):WB.c a b c:=Wa Tryz.func137 (x:=WB.h) (R0 d)
def XT.h:Hn:=.q .o1 (.q (.q .o6 (.k (.loop [(13,.I)] (.q .o1 (.q (.c .l .l) (.q (.k (.q .o2 (.q (.o 15) (.q .o2 (.c (.q .o7 .l) .l))))) .o2)))))) .aM)
theorem XT.o {a:R2}{b:Int}{c:Hp}{d:Option Addr->Hp->Prop}(e:bQ a λe=>aX e 3 c λf=>WR [bN] (λg=>g 0 c) λh (i:Int) j=>If (i<((f.len:Nat):Int)) (bE a 3 j λl=>Ix l.a l.len i 3 λm=>aY m 2 j λn=>Yg.c n b j λo p q=>If (p==0) (bE a 3 q λs=>Ix s.a s.len i 3 λt=>d (some t) q) (bL (i+1) λu=>h u q)) (d none j)):XT.c a b c d:=Wa Tryz.func145 (x:=XT.h) (R0 e)
def Qi.h:Hn:=.q .o3 (.q (.q .o7 (.q .o2 .aJ)) (.q .o5 .l))
theorem Qi.o {a b c:Int}{d:Hp}{e:Option Addr->Int->Hp->Prop}(f:aV #[.I a,.I b,.I c] 31 d λf g=>aQ f 0 g λh=>aQ f 1 g λi=>aQ f 2 g λj=>Zh.c h i j g λk l m=>If (l != 0) (e none 1 m) (aQ f 0 m λn=>aQ f 1 m λo=>aQ f 2 m λp=>aV #[.I n,.I o,.I p,.slice none 0 0] 205 m λq r=>e (some q) 0 r)):Qi.c a b c d e:=Wa Tryz.func156 (x:=Qi.h) (R0 f)
def W0.h:Hn:=.q .o1 (.q (.q .o3 .aK) (.q .o1 (.q .fW .aL)))
theorem W0.o {a:R2}{b:Hp}{c:Sl->Hp->Prop}(d:WB.c a b λd e=>If (!d) (c ⟨none,0,0⟩ e) (aV #[.slice none 0 0] 51 e λf g=>bQ a λh=>aX h 3 g λi=>Wf.c i ⟨228,#[],#[.pointer (some f)]⟩ g λj k=>bQ a λl=>aR l 3 (.slice j.a j.len j.cap) k λm=>jB f m λn=>c n m)):W0.c a b c:=Wa Tryz.func190 (x:=W0.h) (R0 d)
def Xd.h:Hn:=.q .o2 (.q (.k (.q .o4 (.c .aL (.q .o3 .aJ)))) (.q .o1 (.q (.k (.loop [(6,.one .s)] (.q (.q .o4 (.c .l .l)) (.k (.q .o7 (.q (.q .o2 (.c .l .l)) .o5)))))) (.q .o3 .l))))
theorem Xd.o {a:R2}{b:Int}{c:Hp}{d:Sl->Int->Hp->Prop}(e:WB.c a c λe f=>If (!e) (d ⟨none,0,0⟩ 5 f) (If (b<0) (d ⟨none,0,0⟩ 1 f) (WR [.s] (λg=>g ⟨none,0,0⟩ f) λh (i:Sl) j=>If (((i.len:Nat):Int)<b) (Y6.c a j λk l m=>If (!l) (d i 0 m) (aV #[.I k] 3 m λn o=>App i 1 8 3 [.I 0] ⟨some n,1,1⟩ o λp q=>h p q)) (d i 0 j)))):Xd.c a b c d:=Wa Tryz.func214 (x:=Xd.h) (R0 e)
def Zg.h:Hn:=.q .o1 (.q (.q .o3 .aK) (.q (.o 11) (.q (.q .o2 .aJ) (.q (.q .o6 (.k (.loop [(31,.I)] (.q .o1 (.q (.c .l .l) (.q (.k (.q .o4 (.q (.oq 17) .aK))) .o2)))))) (.q (.o 11) (.q (.o 15) .aM))))))
theorem Zg.o {a:R2}{b:Int}{c:Hp}{d:aN}(e:WB.c a c λe f=>If (!e) (d 5 f) (bQ a λg=>bM ((g.add 0).add 0) f λh=>bM ((g.add 0).add 1) f λi=>bM ((g.add 0).add 2) f λj=>KD.c b h i j f λk l m=>If (l != 0) (d l m) (bE a 3 m λo=>WR [bN] (λp=>p 0 m) λq (r:Int) s=>If (r<((o.len:Nat):Int)) (Ix o.a o.len r 3 λt=>aQ t 0 s λu=>aQ t 1 s λv=>aY t 2 s λw=>aV #[.I 0,.I 0,.pointer none] 210 s λx y=>aR x 0 (.I u) y λz=>aR x 1 (.I v) z λaa=>aR x 2 (.pointer w) aa λab=>bM ((x.add 0).add 1) ab λac=>bM ((x.add 0).add 1) ab λad=>bL ((if b>ac then b else ac)-(if b<ad then b else ad)) λae=>bQ a λaf=>bM ((af.add 0).add 1) ab λag=>If (ae<ag) (d 9 ab) (bL (r+1) λah=>q ah ab)) (bE a 3 s λaj=>Wb.c aj b ⟨258,#[],#[]⟩ s λak al am=>bE a 3 am λao=>aV #[.I 0,.I b,.pointer k] 210 am λap aq=>Wh.c ao ak ⟨some ap,1,1⟩ aq λar au=>bQ a λav=>aR av 3 (.slice ar.a ar.len ar.cap) au λaw=>d 0 aw)))):Zg.c a b c d:=Wa Tryz.func216 (x:=Zg.h) (R0 e)
def Yd.h:Hn:=.q .o2 (.jc [] (.q .o4 (.c (.cV (.held true [6] (.tk [0,1,2] (.all [(3,.all [(4,.all [(5,.all [(6,.done)])])])])))) .l)) (.q .o5 .l))
theorem Yd.o {a b:Int}{c:R2}{d:Addr}{e:Hp}{f:aO}(g:aV #[.I a,.I b,.pointer c] 210 e λg h=>Jn [] (λi=>bM ((g.add 0).add 0) i λj=>f (j==0) i) λk=>bM ((g.add 0).add 0) h λl=>If (l==0) (dW h λm=>gT m .s d λ(n:Sl)=>aU m g 2 λo=>ZL.c o h λp q r=>And (m r) <| aV #[.I p,.I q] 92 r λs t=>And (m t) <| App n 2 16 92 [.I 0,.I 0] ⟨some s,1,1⟩ t λu v=>And (m v) <| dG d (.slice u.a u.len u.cap) v λw=>k w) (k h)):Yd.c a b c d e f:=Wa Tryz.func228 (x:=Yd.h) (R0 g)
def Y9.h:Hn:=.q .o2 (.q (.q .o3 .aJ) (.q .o1 (.q (.q .o3 (.k (.loop [(6,.one .b),(19,.I)] (.q .o1 (.q (.c .l .l) (.q (.k (.q .o5 (.q .o8 (.q (.q .o2 (.c (.q .o3 .l) .l)) (.cV (.seq [.op,.op,.dA false 2 [.op,.op],.op,.dA false 5 (RI.ops 5),.op])))))) .o2)))))) (.q (.q .o1 .aJ) (.q (.q .o3 (.k (.loop [(49,.I)] (.q .o1 (.q (.c .l .l) (.q (.k (.q .o3 (.q .o4 (.q .o6 .fW)))) .o2)))))) (.q .o4 .l))))))
theorem Y9.o {a:R2}{b:Sl}{c:Hp}{d:Sl->Int->Hp->Prop}(e:WB.c a c λe f=>If (!e) (d ⟨none,0,0⟩ 5 f) (WR [.b,bN] (λg=>g false 0 f) λh (i:Bool) (j:Int) k=>If (j<((b.len:Nat):Int)) (Ix b.a b.len j 1 λl=>bM l k λm=>W8.c a m k λn o p=>If (o != 0) (d ⟨none,0,0⟩ o p) (bY (λq r=>bY (λs t=>bL (j+1) λu=>h s u t) λv=>If q (v true r) (eX b 1 0 j (b.cap:Nat) λw=>Wo.c w m r λx y=>v x y)) λz=>If i (z true p) (z (!n) p))) (If i (d ⟨none,0,0⟩ 9 k) (WR [bN] (λaa=>aa 0 k) λab (ac:Int) ad=>If (ac<((b.len:Nat):Int)) (Ix b.a b.len ac 1 λae=>bM ae ad λaf=>XT.c a af ad λag ah=>bF ag 2 ah λaj=>ZN.c aj af ah λak al=>bQ ag λam=>bM ((am.add 0).add 0) al λan=>bL (an-1) λao=>bQ ag λap=>dG ((ap.add 0).add 0) (.I ao) al λaq=>bL (ac+1) λar=>ab ar aq) (W0.c a ad λau av=>d au 0 av))))):Y9.c a b c d:=Wa Tryz.func246 (x:=Y9.h) (R0 e)
def Y6.h:Hn:=.q .o2 (.q .o1 (.q (.q .o6 (.k (.loop [(4,.one .p),(14,.I)] (.q .o1 (.q (.c .l .l) (.q (.k (.q .o2 (.q .o7 (.q (.cV (.ic true [] [(48,.one .b)] (.tk [0,1,2,3,4,5,6,7,8] (.all [(9,.take 10 (.take 11 (.split 34 (.take 12 (.take 13 (.take 14 (.split 37 (.take 15 (.take 16 (.take 17 (.take 18 (.take 19 (.take 20 (.take 21 (.take 22 (.take 23 (.take 24 (.take 25 (.done)))))))))))) (.take 15 (.take 16 (.take 17 (.take 19 (.take 20 (.take 21 (.all [(18,.all [(22,.all [(23,.take 24 (.take 25 (.done)))])]),(22,.all [(18,.all [(23,.take 24 (.take 25 (.done)))])])]))))))))))) (.take 12 (.take 13 (.take 14 (.take 15 (.take 16 (.take 17 (.take 18 (.take 19 (.take 20 (.take 21 (.take 22 (.take 23 (.take 24 (.take 25 (.done))))))))))))))))))])))) (.c .o2 .l))))) .o2)))))) (.q (.q .o2 .aJ) (.q .fW (.q .fW (.q .o3 .l))))))
theorem Y6.o {a:R2}{b:Hp}{c:Int->Bool->Hp->Prop}(d:bQ a λd=>aX d 3 b λe=>WR [.p,bN] (λf=>f none 0 b) λg (h:R2) (i:Int) j=>If (i<((e.len:Nat):Int)) (bE a 3 j λl=>Ix l.a l.len i 3 λm=>Jn [.b] (λ(n:Bool) o=>If n (bL (i+1) λp=>g (some m) p o) (bL (i+1) λq=>g h q o)) λr=>dW j λs=>bQ (some m) λt=>gT s bN ((t.add 0).add 0) λ(u:Int)=>bQ (some m) λv=>aU s v 2 λw=>XV.c w j λx y=>And (s y) <| If (u<x) (If h.isNone (r true y) (bQ (some m) λz=>bQ h λaa=>(bM ((z.add 0).add 0) y λab=>bM ((z.add 0).add 1) y λac=>And (s y) <| bM ((aa.add 0).add 0) y λad=>bM ((aa.add 0).add 1) y λae=>And (s y) <| W5.c ab ac ad ae y λaf ag=>And (s ag) <| r af ag) ∧ (bM ((aa.add 0).add 0) y λah=>bM ((aa.add 0).add 1) y λai=>And (s y) <| bM ((z.add 0).add 0) y λaj=>bM ((z.add 0).add 1) y λak=>And (s y) <| W5.c aj ak ah ai y λal am=>And (s am) <| r al am))) (r false y)) (If h.isNone (c 0 false j) (bF h 2 j λao=>ZH.c ao j λap aq ar=>bQ h λau=>bM ((au.add 0).add 0) ar λav=>bL (av+1) λaw=>bQ h λax=>dG ((ax.add 0).add 0) (.I aw) ar λay=>c ap true ay))):Y6.c a b c:=Wa Tryz.func251 (x:=Y6.h) (R0 d)
def YY.h:Hn:=.q .o2 (.q .o6 .l)
theorem YY.o {a b:Int}{c:R2}{d:Int}{e:Hp}{f:aN}(g:aV #[.I a,.I b,.pointer c] 210 e λg h=>bM ((g.add 0).add 1) h λi=>bL (i-d) λj=>f j h):YY.c a b c d e f:=Wa Tryz.func258 (x:=YY.h) (R0 g)
def W8.h:Hn:=.q .o2 (.q (.q .o3 .aJ) (.q .o4 (.q (.q .o2 .aJ) (.q .fW .l))))
theorem W8.o {a:R2}{b:Int}{c:Hp}{d:Bool->Int->Hp->Prop}(e:WB.c a c λe f=>If (!e) (d false 5 f) (XT.c a b f λg h=>If g.isNone (d false 8 h) (bF g 2 h λj=>YF.c j b h λk l m=>d k l m))):W8.c a b c d:=Wa Tryz.func263 (x:=W8.h) (R0 e)
def W5.h:Hn:=.q .o3 (.q (.cV (.seq [.op,.op,.op,.op,.op,.op,.dA false 12 [.op,.op,.op,.op,.op,.op,.dA true 5 (RI.ops 5)],.op])) .l)
theorem W5.o {a b c d:Int}{e:Hp}{f:aO}(g:aV #[.I a,.I b] 207 e λg h=>aV #[.I c,.I d] 207 h λi j=>aQ g 0 j λk=>aQ i 0 j λl=>bY (λm n=>f m n) λo=>If (k>l) (o true j) (aQ g 0 j λp=>aQ i 0 j λq=>bY (λr s=>o r s) λt=>If (p==q) (aQ g 1 j λu=>aQ i 1 j λv=>t (decide (u<v)) j) (t false j))):W5.c a b c d e f:=Wa Tryz.func276 (x:=W5.h) (R0 g)
end Go.Proofs
namespace Go.Ar
open Go Go.Vc Go.Proofs
variable {σ:Hp}{F:Rg}{p:Nat}{c:bX}{ps:List (Nat×Nat)}{ss:List cI}
def eI (ps:List (Nat×Nat)):List Nat:=ps.flatMap λx=>[x.1,x.2]
theorem HA {ps:List (Nat×Nat)}{b:Nat}:b∈eI ps↔∃x∈ps,b=x.1\/b=x.2:=by simp[eI]
def dV:List (Nat×Nat)->List cI->List Value
 | x::ps,s::ss=>.int .i64 (s.many:Int) :: .int .i64 (s.st:Int) :: .pointer (some ⟨x.1,0,none⟩)::dV ps ss
 | _,_=>[]
theorem Kd:∀{ps:List (Nat×Nat)} {ss:List cI},ps.length=ss.length->(dV ps ss).length=3*ss.length
 | [],[],_=>rfl
 | x::ps,s::ss,h=>by simp only[dV,zQ]at *;rw[Kd O];omega
theorem QD:∀{ps:List (Nat×Nat)} {ss:List cI} {i:Nat} {x:Nat×Nat} {s:cI},ps[i]?=some x->ss[i]?=some s →
 (dV ps ss)[3*i]?=some (.int .i64 (s.many:Int))/\(dV ps ss)[3*i+1]?=some (.int .i64 (s.st:Int))/\(dV ps ss)[3*i+2]?=some (.pointer (some ⟨x.1,0,none⟩))
 | [],_,_,_,_,h,_=>by simp at h
 | _::_,[],_,_,_,_,h=>by simp at h
 | y::ps,t::ss,0,x,s,h1,h2=>by simp at h1 h2;subst h1;subst h2;simp[dV]
 | y::ps,t::ss,i+1,x,s,h1,h2=>by
  have:=QD (ps:=ps) (ss:=ss) (i:=i) (by simpa using h1) (by simpa using h2);simp only[dV];rw[show 3*(i+1)=3*i+3 by omega];simpa using this
theorem Vw:∀{ps ps':List (Nat×Nat)} {ss ss':List cI},ps.length=ss.length->dV (ps++ps') (ss++ss')=dV ps ss++dV ps' ss'
 | [],_,[],_,_=>rfl
 | x::ps,_,s::ss,_,h=>by simp only[lZ,dV,Vw (ps:=ps) (ss:=ss) (by simpa using h)]
theorem IU:∀{ps:List (Nat×Nat)} {ss:List cI},∀v∈dV ps ss,dM v=true
 | [],_,v,h=>by simp[dV]at h
 | _::_,[],v,h=>by simp[dV]at h
 | x::ps,s::ss,v,h=>by
  simp only[dV,zT]at h;rcases h with rfl|rfl|rfl|h
  ·rfl
  ·rfl
  ·rfl
  ·exact IU v h
structure fC (σ:Hp) (F:Rg) (p:Nat) (c:bX) (ps:List (Nat×Nat)) (ss:List cI):Prop where
 hd:∃sl:Sl,bW σ p [.int .i64 (c.size:Int),.int .i64 (c.aF:Int),.int .i64 (c.batch:Int),.slice sl.a sl.len sl.cap]/\bR sl 3 (dV ps ss) σ (λb=>F b/\b≠p/\b∉eI ps)
 sp:∀(i:Nat) (x:Nat×Nat) s,ps[i]?=some x->ss[i]?=some s->iq σ x.1 x.2 c s
 fp:F p
 fb:∀b∈eI ps,F b
 nd:(p::eI ps).Nodup
 len:ps.length=ss.length
 ok:c.ok
 lp:ss.Pairwise (λa b=>a.st<b.st)
theorem fC.loc:dR λσ F=>fC σ F p c ps ss:=λσ B F G h K j=>by
 obtain⟨sl,a,z⟩:=h.hd;have bU:∀b,b<σ.size->F b->B[b]?=σ[b]? := λb a d=>(j b a d).2;have u:∀{b:Nat} {cs:List Value},bW σ b cs->F b->bW B b cs:=by
  rintro b cs ⟨e,D⟩ d;exact⟨e,(bU b (bW.lt ⟨e,D⟩) d).trans D⟩
 have lt:∀b∈eI ps,b<σ.size:=by
  intro b a;obtain⟨x,m,y⟩:=HA.1 a;obtain⟨i,C⟩:=zL m;have w:=(cS.1 C).1;have:=(h.sp i x _ C (cL (by rw[←h.len];exact w))).lt;rcases y with rfl|rfl
  ·exact this.1
  ·exact this.2
 refine⟨⟨sl,u a h.fp,bR.loc _ _ _ _ _ _ _ z K λb a d=>⟨⟨(j b a d.1).1,d.2⟩,(j b a d.1).2⟩⟩,λi x s m A=>?_,(j p a.lt h.fp).1,λb a=>(j b (lt b a) (h.fb b a)).1,h.nd,h.len,h.ok,h.lp⟩;have g:=h.sp i x s m A;have L:x.1∈eI ps:=HA.2 ⟨x,zE m,.inl rfl⟩;have J:x.2∈eI ps:=HA.2 ⟨x,zE m,.inr rfl⟩;obtain⟨E,H,hd⟩:=g.hd;obtain⟨r,z⟩:=g.row;exact⟨⟨E,H,u hd (h.fb _ L)⟩,⟨r,u z (h.fb _ J)⟩,g.ne,g.len,g.ok,g.fit⟩
theorem fC.bK {σ':Hp}(h:fC σ F p c ps ss)(e:bO σ σ'):fC σ' F p c ps ss:=dR.bK fC.loc h e
theorem fC.lA (h:fC σ F p c ps ss):ss.length<=1024:=by
 have key:∀i (hi:i<ss.length),i<=ss[i].st:=by
  intro i
  induction i with
  | zero=>intro _;omega
  | succ i ih=>
   intro hi;have b:=ih O;have d:=zy.1 h.lp i (i+1) O hi O;omega
 rcases xi ss.length with h0|h0
 ·omega
 ·have a:ss.length-1<ss.length:=by omega
  have b:=key _ a;have e:ss.length-1<ps.length:=by rw[h.len];exact a
  have d:=(h.sp _ _ _ (cL e) (cL a)).fit;have:=h.ok.2.2.2.1;omega
structure s7 (σ:Hp) (F:Rg) (p:Nat) (ps:List (Nat×Nat)) (ss:List cI) (sl:Sl) (rb:Nat) (cs:List Value):Prop where
 a:sl.a=some ⟨rb,0,none⟩
 cA:bW σ rb cs
 fr:F rb/\rb≠p/\rb∉eI ps
 get:∀{j:Nat} {v:Value},(dV ps ss)[j]?=some v->cs[j]?=some v
 De:3*ss.length<=cs.length
theorem fC.sl (h:fC σ F p c ps ss):∃sl:Sl,bW σ p [.int .i64 (c.size:Int),.int .i64 (c.aF:Int),.int .i64 (c.batch:Int),.slice sl.a sl.len sl.cap]/\sl.len=ss.length/\(ss≠[]->∃rb cs,s7 σ F p ps ss sl rb cs):=by
 obtain⟨sl,m,g⟩:=h.hd;have r:=g.1;rw[Kd h.len]at r;refine⟨sl,m,O,λe=>?_⟩;have i:0<ss.length:=qC.2 e;rcases g.2 with⟨h0,_⟩|⟨b,cs,hq,ha,hbb,hle,hcl,ht⟩
 ·omega
 ·refine⟨b,cs,ha,hbb,hq,λ{j v} d=>?_,?_⟩
  ·rw[←ht,zY]at d;split at d
   ·exact d
   ·cases d
  ·have:=congrArg List.length ht;rw[zO,Kd h.len]at this;omega
theorem fC.ju (h:fC σ F p c ps ss){i:Nat}(hi:i<ss.length):∃x s,ps[i]?=some x/\ss[i]?=some s/\iq σ x.1 x.2 c s:=by
 have a:i<ps.length:=by rw[h.len];exact hi
 have b:ps[i]?=some ps[i]:=cL a;exact⟨_,_,b,cL hi,h.sp i _ _ b (cL hi)⟩
theorem Vf (h:fC σ F p c ps ss){R:aO}(hR:R true σ):WB.c (aW p) σ R:=by
 refine WB.o ?_;obtain⟨sl,b,e,d⟩:=h.sl;have a:=h.ok;unfold bX.ok at a;refine bY.intro (cJ rfl (aG (b.gD rfl ?_)));rw[zU O];exact hR
def iF (x:Int):Prop:=x<=9223372036854775807
theorem BD (h:fC σ F p c ps ss)(x:Int)(hx:iF x){R:Option Addr->Hp->Prop}(h0:lr c ss x=none->R none σ)
 (h1:∀(i:Nat) sl rb cs,lr c ss x=some i->i<ss.length->bW σ p [.int .i64 (c.size:Int),.int .i64 (c.aF:Int),.int .i64 (c.batch:Int),.slice sl.a sl.len sl.cap]->s7 σ F p ps ss sl rb cs->R (some ⟨rb,3*i,none⟩) σ):XT.c (aW p) x σ R:=by
 refine XT.o ?_;obtain⟨sl,A,S,N⟩:=h.sl;have G:=h.lA;refine aG (A.rS rfl ?_);refine ZP (a:=bN) (λ(t:Int) D=>∃i:Nat,t=(i:Int)/\i<=ss.length/\D=σ/\∀(j:Nat) s,j<i->ss[j]?=some s->idx c s x=none) (λt _=>ss.length-t.toNat) ⟨0,rfl,O,rfl,λj s z=>O⟩ ?_;rintro t D ⟨i,rfl,Q,rfl,g⟩;refine cH (λB=>?_) λC=>?_
 ·simp only at B;have b:i<ss.length:=by omega
  obtain⟨M,s,K,y,P⟩:=h.ju b;obtain⟨rb,cs,E⟩:=N (by rintro rfl;simp at b);have L:=QD K y;refine aG (A.rS rfl ?_);rw[E.a];refine ix O O ?_;rw[add_lit];refine E.cA.rP (x:=some ⟨M.1,0,none⟩) ?_ ?_
  ·have:=E.get L.2.2;rw[show 0+(i:Int).toNat*3+2=3*i+2 by omega];exact this
  have w:∀r,idx c s x=some r->lr c ss x=some i:=by
   intro r u;refine pj.2 ⟨b,?_,λj z=>?_⟩
   ·have:ss[i]=s:=by rw[cL b]at y;simpa using y
    rw[this,u];rfl
   ·rw[g j _ z (cL O)];simp
  refine BV P x hx (λr u=>cJ rfl (aG (A.rS rfl ?_))) λH=>cF rfl ?_
  ·rw[E.a];refine ix O O ?_;rw[add_lit,show 0+(i:Int).toNat*3=3*i by omega];exact h1 i sl rb cs (w r u) b A E
  ·refine bZ (m:=i+1) O O ⟨⟨i+1,rfl,O,rfl,λj J z d=>?_⟩,O⟩;by_cases e:j=i
   ·subst e;rw[y]at d;cases d;exact H
   ·exact g j J O d
 ·refine h0 ?_;refine wb.2 λs y=>?_;obtain⟨j,z⟩:=zL y;have:=(cS.1 z).1;rw[g j s (by simp only at C;omega) z];rfl
theorem V0 {x:Int}{k:Nat}{s:cI}(hk:lr c ss x=some k)(hs:ss[k]?=some s):eB c ss x=(obj c s x).map s.is:=by
 unfold eB;rw[hk];simp only[hs];rfl
theorem DB {x:Int}(hk:lr c ss x=none):eB c ss x=none:=by unfold eB;rw[hk]
theorem Mt (h:fC σ F p c ps ss)(x:Int)(hx:iF x){R:Bool->Int->Hp->Prop}(h1:∀b,eB c ss x=some b->R b 0 σ)(h0:eB c ss x=none->R false 8 σ):W8.c (aW p) x σ R:=by
 refine W8.o ?_;refine Vf h (cF rfl (BD h x hx (λd=>cJ rfl (h0 (DB d))) λi sl A B a w C E=>cF rfl (aG ?_)));obtain⟨r,s,y,e,u⟩:=h.ju w;have z:=QD y e;refine E.cA.rP (x:=some ⟨r.1,0,none⟩) (E.get z.2.2) ?_;have g:=V0 a e;exact NF u x hx (λj m=>h1 _ (by rw[g,m];rfl)) λd=>h0 (by rw[g,d];rfl)
theorem Gm {x:Int}{k:Nat}{s:cI}(hk:lr c ss x=some k)(hs:ss[k]?=some s):r7 c ss x=(idx c s x).map (at_ c s):=by
 unfold r7;rw[hk];simp only[hs]
theorem LB {x:Int}(hk:lr c ss x=none):r7 c ss x=none:=by unfold r7;rw[hk]
theorem Sh {x:Int}{k:Nat}{s:cI}(hk:lr c ss x=some k)(hs:ss[k]?=some s):∃i,idx c s x=some i:=by
 obtain⟨b,a,_⟩:=pj.1 hk;have:ss[k]=s:=by rw[cL b]at hs;simpa using hs
 rw[this]at a;exact pN.1 a
theorem OT (h:fC σ F p c ps ss)(x:Int)(hx:iF x){R:Int->Int->Hp->Prop}(h1:∀a,r7 c ss x=some a->R (a:Int) 0 σ)(h0:r7 c ss x=none->R 0 8 σ):YE.c (aW p) x σ R:=by
 refine YE.o ?_;refine Vf h (cF rfl (BD h x hx (λe=>cJ rfl (h0 (LB e))) λi sl L J b B G E=>cF rfl (aG ?_)));obtain⟨D,s,C,j,w⟩:=h.ju B;have z:=QD C j;obtain⟨r,g⟩:=Sh b j;have H:=Gm b j;have A:=h.ok;unfold bX.ok at A;have u:=((Uh O).1 g).2.2;rw[w.len]at u;have e:=h.ok.jX;have y:=w.fit;have M:r*c.size<=128*512:=kU O O;refine E.cA.rP (x:=some ⟨D.1,0,none⟩) (E.get z.2.2) ?_;refine BV w x hx (λK d=>?_) λe=>by rw[g]at e;cases e
 rw[g]at d;cases d;refine aG (E.cA.gD (x:=s.st) (E.get z.2.1) (bZ (m:=s.st*256) aA O (aG (G.gD rfl ?_))));refine bZ (m:=r*c.size) aA O (bZ (m:=at_ c s r) (by simp[at_]) (by unfold at_;omega) (h1 _ (by rw[H,g];rfl)))
theorem tC {h:Hp}{rb i:Nat}{cs:List Value}{x y:Int}{z:Option Addr}{e:Nat}(hb:bW h rb cs)(h0:cs[3*i]?=some (.int .i64 x))(h1:cs[3*i+1]?=some (.int .i64 y))(h2:cs[3*i+2]?=some (.pointer z))
 {K:Int->Int->Option Addr->Prop} (hK:K x y z):eW .i64 (Addr.add ⟨rb,3*i,none⟩ 0) h λu=>eW .i64 (Addr.add ⟨rb,3*i,none⟩ 1) h λv=>fX (Addr.add ⟨rb,3*i,none⟩ 2) h λw=>K u v w:=
 hb.rI h0 (hb.rI h1 (hb.rP h2 hK))
theorem AO {h:Hp}{x y:Int}{z:Option Addr}{e:Nat}{K:Addr->Hp->Prop}(hK:∀h',bO h h'->bW h' h.size [.int .i64 x,.int .i64 y,.pointer z]->K ⟨h.size,0,none⟩ h') :
 Nw (.cells #[.int .i64 0,.int .i64 0,.pointer none] e (0,0)) h λn v=>dG (n.add 0) (.int .i64 x) v λv1=>dG (n.add 1) (.int .i64 y) v1 λv2=>dG (n.add 2) (.pointer z) v2 λv3=>K n v3:=by
 refine nw (cs:=[.int .i64 0,.int .i64 0,.pointer none]) λv m e d=>d.s1 aA λv1 o1 b=>b.s1 aA λv2 o2 j=>j.s1 aA λv3 o3 g=>?_;refine hK v3 ?_ g;exact Ext.fresh (Ext.fresh (Ext.fresh e o1.ext λi a=>O) o2.ext λi a=>O) o3.ext λi a=>by omega
theorem Nf (h:fC σ F p c ps ss){R:aN}(hR:∀σ',bO σ σ'->R (KA ss:Int) σ'):YG.c (aW p) σ R:=by
 refine YG.o ?_;obtain⟨sl,M,V,L⟩:=h.sl;have B:=h.lA;have P:=h.ok.jX;refine Vf h (cF rfl (aG (M.rS rfl ?_)));refine Kh (a:=bN) (bb:=bN) (λ(n t:Int) r=>∃i:Nat,t=(i:Int)/\i<=ss.length/\bO σ r/\n=(KA (ss.take i):Int)/\KA (ss.take i)<=128*i) (λ_ t _=>ss.length-t.toNat) ⟨0,rfl,O,Ext.refl _ _,by simp[KA],by simp[KA]⟩ ?_;rintro n t r ⟨i,rfl,Q,e,rfl,J⟩;refine cH (λj=>?_) λu=>?_
 ·simp only at j;have g:i<ss.length:=by omega
  obtain⟨K,s,D,z,d⟩:=h.ju g;obtain⟨S,N,E⟩:=L (by rintro rfl;simp at g);have x:=QD D z;rw[E.a];refine ix O O ?_;rw[add_lit,show 0+(i:Int).toNat*3=3*i by omega];refine tC (e:=0) (e.cA E.cA id) (E.get x.1) (E.get x.2.1) (E.get x.2.2) (AO λU A y=>?_);have w:=(d.bK e).bK A;refine⟨λb=>bW b r.size [.int .i64 s.many,.int .i64 s.st,.pointer (some ⟨K.1,0,none⟩)],y,⟨_,λb d=>by rw[add_lit,d.cell];rfl,⟨_,λb d=>by rw[add_lit,add_lit,d.cell];rfl,?_⟩⟩⟩;refine Le w ⟨y,?_⟩;have C:=Ac s;have G:=d.len;have H:KA (ss.take (i+1))=KA (ss.take i)+(c.n-s.many):=by
   rw[zf,z];simp only[KA,uy,kQ,zK,qz,uh,zu,List.sum_nil];omega
  refine bZ (m:=c.n-s.many) O O (bZ (m:=KA (ss.take (i+1))) O O (bZ (m:=i+1) O O ⟨⟨i+1,rfl,O,e.trans A,rfl,O⟩,O⟩))
 ·have:i=ss.length:=by simp only at u;omega
  subst this;rw[zm]at *;exact hR _ e
def iz (c:bX)(l:List Nat):List Value:=l.flatMap λ(s:Nat)=>[.int .i64 (s:Int),.int .i64 (c.aF:Int)]
theorem Ev (c:bX)(l:List Nat):(iz c l).length=2*l.length:=by
 induction l with
 | nil=>rfl
 | cons x l ih=>simp only[iz,mM,zJ,zQ,lU]at *;omega
theorem MT (h:fC σ F p c ps ss){R:Sl->Hp->Prop}(hR:∀s σ',bO σ σ'->bR s 2 (iz c (ss.map (·.st))) σ' (λb=>σ.size<=b)->R s σ'):X9.c (aW p) σ R:=by
 refine X9.o ?_;obtain⟨sl,D,hl,Q⟩:=h.sl;have J:=h.lA;refine Vf h (cF rfl (aG (D.rS rfl ?_)));refine Kh (a:=.s) (bb:=bN) (λ(out:Sl) (t:Int) x=>∃i:Nat,t=(i:Int)/\i<=ss.length/\bO σ x/\bR out 2 (iz c ((ss.take i).map (·.st))) x (λb=>σ.size<=b)) (λ_ t _=>ss.length-t.toNat) ⟨0,rfl,O,Ext.refl _ _,bR.nil _ _ _ _⟩ ?_;rintro out t x ⟨i,rfl,X,e,g⟩;refine cH (λw=>?_) λy=>?_
 ·simp only at w;have u:i<ss.length:=by omega
  obtain⟨Y,s,L,G,M⟩:=h.ju u;obtain⟨Z,U,E⟩:=Q (by rintro rfl;simp at u);have C:=QD L G;rw[E.a];refine ix O O ?_;rw[add_lit,show 0+(i:Int).toNat*3=3*i by omega];refine tC (e:=0) (e.cA E.cA id) (E.get C.1) (E.get C.2.1) (E.get C.2.2) (AO λv5 A K=>K.rP rfl ?_);have z:=(M.bK e).bK A;refine FD z λS H=>?_;have r:=(e.trans A).trans H;have d:=aI.bK (aI.bK g A) H;have j:=d.1;rw[Ev,za,zO]at j;refine d.push (vs:=[.int .i64 (s.st:Int),.int .i64 (c.aF:Int)]) (λb D=>zI r.1 D) rfl rfl (by simp[dM]) O O λV W P N B=>?_;refine bZ (m:=i+1) O O ⟨⟨i+1,rfl,O,Ext.fresh r N λ_ h=>h,?_⟩,O⟩;rw[zf,G];simp only[iz,uy,kQ,zK,qz,CW,mM,List.flatMap_nil,km]at *;exact B
 ·have:i=ss.length:=by simp only at y;omega
  subst this;rw[zm]at *;exact hR _ _ e g
theorem O5 (hc:c.ok){R:Option Addr->Int->Hp->Prop}(hR:∀σ' p,bO σ σ'->σ.size<=p->p<σ'.size->fC σ' (· = p) p c [] []->R (some ⟨p,0,none⟩) 0 σ'):Qi.c c.size c.aF c.batch σ R:=by
 refine Qi.o ?_;refine nw (cs:=[.int .i64 c.size,.int .i64 c.aF,.int .i64 c.batch]) λv u e d=>?_;refine d.rI rfl (d.rI rfl (d.rI rfl (UW _ _ _ (λz r A s x w i=>?_) λb=>?_)))
 case refine_2=>rw[(UE c).2 hc]at b;cases b
 have a:=i.cA d id;refine cF rfl (a.rI rfl (a.rI rfl (a.rI rfl (nw (cs:=[.int .i64 c.size,.int .i64 c.aF,.int .i64 c.batch,.slice none 0 0]) λy m g j=>?_))));exact hR _ _ ((e.trans i).trans g) (by have:=i.1;omega) O ⟨⟨⟨none,0,0⟩,j,bR.nil _ _ _ _⟩,by simp,rfl,by simp[eI],by simp[eI],rfl,hc,by simp⟩
theorem P1 (a b a' b':Nat){R:aO}(hR:∀σ',bO σ σ'->R (decide (a>a')||(a==a'&&decide (b<b'))) σ'):W5.c (a:Int) (b:Int) (a':Int) (b':Int) σ R:=by
 refine W5.o ?_;refine nw (cs:=[.int .i64 a,.int .i64 b]) λv s e p=>nw (cs:=[.int .i64 a',.int .i64 b']) λu r m g=>?_;have i:=m.cA p id;have d:=hR _ (e.trans m);refine i.rI rfl (g.rI rfl (bY.intro (cH (λh=>?_) λh=>?_)))
 ·have:decide (a>a')=true:=by simpa using h
  rw[this,Bool.true_or]at d;exact d
 ·have:decide (a>a')=false:=by simpa using h
  rw[this,yF]at d;refine i.rI rfl (g.rI rfl (bY.intro ?_));rw[ke];refine cN (λj=>?_) λj=>?_
  ·rw[j,r8]at d;refine i.rI rfl (g.rI rfl ?_);have:decide ((b:Int)<(b':Int))=decide (b<b'):=by rw[decide_eq_decide];omega
   rw[this];exact d
  ·rw[j,sY]at d;exact d
theorem QZ:∀{i k:Nat},ZA ss i=some k->k<i/\∃s,ss[k]?=some s/\s.many<s.tk.length
 | 0,_,h=>by simp[ZA]at h
 | i+1,k,h=>by
  have up:ZA ss i=some k->k<i+1/\∃s,ss[k]?=some s/\s.many<s.tk.length:=λh=>by
   have:=QZ h;exact⟨O,this.2⟩
  simp only[ZA]at h;split at h
  ·rename_i x hx;split at h
   ·rename_i hlt;have a:i<i+1/\∃s,ss[i]?=some s/\s.many<s.tk.length:=⟨O,x,hx,hlt⟩;split at h
    ·rename_i j hj;split at h
     ·split at h
      ·cases h;exact a
      ·cases h;exact up hj
     ·cases h;exact a
    ·cases h;exact a
   ·exact up h
  ·exact up h
theorem Ak {s:cI}(h:s.many<s.tk.length):∃i,low s=some i/\i<s.tk.length/\s.is i=false:=by
 unfold low;cases hf:s.tk.findIdx? (· == false)with
 | some i=>
  obtain⟨a,d,_⟩:=pj.1 hf;refine⟨i,rfl,a,?_⟩;have:s.tk[i]=false:=by simpa using d
  simp[cI.is,zN,cL a,this]
 | none=>
  exfalso;have b:=wb.1 hf;have:s.many=s.tk.length:=by
   unfold cI.many;rw[List.count_eq_length];intro x hx;have:=b x hx;cases x
   ·simp at this
   ·rfl
  omega
theorem JW:∀{ps:List (Nat×Nat)} {ss:List cI} {k:Nat} {s s':cI},ps.length=ss.length->ss[k]?=some s->s'.st=s.st->dV ps (ss.set k s')=(dV ps ss).set (3*k) (.int .i64 (s'.many:Int))
 | [],[],_,_,_,_,h,_=>by simp at h
 | [],_::_,_,_,_,h,_,_=>by simp at h
 | _::_,[],_,_,_,_,h,_=>by simp at h
 | x::ps,t::ss,0,s,s',_,h,e=>by simp at h;subst h;simp[dV,e]
 | x::ps,t::ss,k+1,s,s',hl,h,e=>by
  simp only[sK,dV];rw[JW (ps:=ps) (ss:=ss) (s:=s) (by simpa using hl) (by simpa using h) e];rw[show 3*(k+1)=3*k+1+1+1 by omega];simp
theorem Whd {h:Hp}{b:Nat}{cs cs':List Value}(h1:bW h b cs)(h2:bW h b cs'):cs=cs':=by
 obtain⟨e,d⟩:=h1;obtain⟨g,a⟩:=h2;rw[d]at a;simp only[Option.some.injEq,Obj.cells.injEq]at a;simpa using congrArg Array.toList a.1
theorem QC {x:Nat×Nat}{i:Nat}(hx:ps[i]?=some x):x.1∈eI ps/\x.2∈eI ps:=
 ⟨HA.2 ⟨x,zE hx,.inl rfl⟩,HA.2 ⟨x,zE hx,.inr rfl⟩⟩
theorem LQ:∀{ps:List (Nat×Nat)},(eI ps).Nodup->∀{i j:Nat} {x y:Nat×Nat},ps[i]?=some x->ps[j]?=some y->i≠j->∀b,(b=x.1\/b=x.2)->¬(b=y.1\/b=y.2)
 | [],_,_,_,_,_,h,_,_=>by simp at h
 | z::ps,hn,i,j,x,y,h1,h2,hij=>by
  have hn':z.1∉eI ps/\z.2∉eI ps/\z.1≠z.2/\(eI ps).Nodup:=by
   simp only[eI,mM,lZ,qn,zo,zT,not_or]at hn;exact⟨hn.1.2,hn.2.1,hn.1.1,hn.2.2⟩
  intro b hb hb'
  match i,j,hij with
  | 0,0,h=>exact h rfl
  | 0,j+1,_=>
   simp at h1;subst h1;have:=QC (ps:=ps) (i:=j) (by simpa using h2);rcases hb with rfl|rfl<;>rcases hb' with e|e<;>rw[e]at hn'<;>simp[this]at hn'
  | i+1,0,_=>
   simp at h2;subst h2;have:=QC (ps:=ps) (i:=i) (by simpa using h1);rcases hb with rfl|rfl<;>rcases hb' with e|e<;>rw[←e]at hn'<;>simp[this]at hn'
  | i+1,j+1,h=>exact LQ hn'.2.2.2 (by simpa using h1) (by simpa using h2) O b hb hb'
theorem fC.qt (h:fC σ F p c ps ss){k:Nat}{x:Nat×Nat}{s s':cI}(hx:ps[k]?=some x)(hs:ss[k]?=some s)(hst:s'.st=s.st){σ1:Hp}(e1:Ext (λb=>b=x.1\/b=x.2) σ σ1)(hS:iq σ1 x.1 x.2 c s')
 {sl:Sl} {rb:Nat} {cs:List Value} (hb:bW σ p [.int .i64 (c.size:Int),.int .i64 (c.aF:Int),.int .i64 (c.batch:Int),.slice sl.a sl.len sl.cap]) (E:s7 σ F p ps ss sl rb cs)
 {K:aP} (hK:∀σ2,Ext F σ σ2->fC σ2 F p c ps (ss.set k s')->K σ2):dG ⟨rb,3*k,none⟩ (.int .i64 (s'.many:Int)) σ1 K:=by
 obtain⟨nN,D,S⟩:=h.hd;have C:nN=sl:=by
  have:=Whd D hb;simp at this;obtain⟨a,n,c⟩:=sl;obtain⟨W,V,U⟩:=nN;simp at this ⊢;exact this
 subst C;have g:=QC hx;have e:=h.nd;simp only[zo]at e;have m:=(cS.1 hs).1;have L:=(bR.loc nN 3 (dV ps ss)).bU S e1 λb hb P=>λd=>P.2.2 (by rcases d with rfl|rfl;exact g.1;exact g.2);have A:=e1.cA hb λd=>e.1 (by rcases d with h|h<;>rw[h];exact g.1;exact g.2)
 refine L.st (j:=3*k) (by rw[Kd h.len];omega) (λb w=>by rw[E.a]at w;cases w;rfl) λσ2 J H=>?_;have B:Ext F σ σ2:=(e1.sub λi G=>h.fb i (by rcases G with rfl|rfl;exact g.1;exact g.2)).trans (J.sub λi G=>G.1);refine hK σ2 B ⟨⟨nN,J.cA A λd=>d.2.1 rfl,?_⟩,λi y t r z=>?_,h.fp,h.fb,h.nd,by simpa using h.len,h.ok,?_⟩
 ·rw[JW h.len hs hst];exact H
 ·have u:=QC r;have Q:iq σ1 y.1 y.2 c t:=by
   by_cases hik:i=k
   ·subst hik;rw[hx]at r;cases r;rw[zM m]at z;cases z;exact hS
   ·rw[zj (Ne.symm hik)]at z;have M:=LQ e.2 r hx hik;exact(h.sp i y t r z).bU e1 (M _ (.inl rfl)) (M _ (.inr rfl))
  exact Q.bU J (λd=>d.2.2 u.1) (λd=>d.2.2 u.2)
 ·have:(ss.set k s').map (·.st)=ss.map (·.st):=by
   apply zp;intro i;simp only[ze];by_cases hik:i=k
   ·subst hik;rw[zM m,hs];simp[hst]
   ·rw[zj (Ne.symm hik)]
  have N:=h.lp;rw[←rK (f:=cI.st) (R:=(· < ·))]at N ⊢;rw[this];exact N
theorem Rh (h:fC σ F p c ps ss){R:Int->Bool->Hp->Prop}(h1:∀x ss',jm c ss=some (x,ss')->∀σ',Ext F σ σ'->fC σ' F p c ps ss'->R (x:Int) true σ')(h0:jm c ss=none->∀σ',bO σ σ'->R 0 false σ') :
 Y6.c (aW p) σ R:=by
 refine Y6.o ?_;obtain⟨sl,Z,hl,hr⟩:=h.sl;have hfew:=h.lA;have hn:=h.ok.jX;obtain⟨d,cs,E⟩:∃d cs,ss≠[]->s7 σ F p ps ss sl d cs:=by
  by_cases hne:ss=[]
  ·exact⟨0,[],λh=>absurd hne h⟩
  ·obtain⟨d,cs,E⟩:=hr hne;exact⟨d,cs,λ_=>E⟩
 refine aG (Z.rS rfl ?_);refine Kh (a:=.p) (bb:=bN) (λ(nc:Option Addr) (t:Int) H=>∃i:Nat,t=(i:Int)/\i<=ss.length/\bO σ H/\nc=(ZA ss i).map λk=>⟨d,3*k,none⟩) (λ_ t _=>ss.length-t.toNat) ⟨0,rfl,O,Ext.refl _ _,rfl⟩ ?_;rintro nc t H ⟨i,rfl,hi,e,rfl⟩;refine cH (λU=>?_) λW=>?_
 ·simp only at U;have N:i<ss.length:=by omega
  have E:=E (by rintro rfl;simp at N);obtain⟨P,s,L,G,z⟩:=h.ju N;have w:=QD L G;have ad:=z.len;refine aG ((e.cA Z id).rS rfl ?_);rw[E.a];refine ix O O ?_;rw[add_lit,show 0+(i:Int).toNat*3=3*i by omega];have Eb:=e.cA E.cA id;have B:ZA ss (i+1)=if s.many<s.tk.length then(match ZA ss i with
   | some j=>match ss[j]? with
    | some y=>if wX s y then some i else some j
    | none=>some i
   | none=>some i)else ZA ss i:=by
   simp only[ZA,G];rfl
  have J:∀(r:Bool) (v:Hp),bO σ v->(if r then some i else ZA ss i)=ZA ss (i+1) →
   If r (Ar .i64 ((i:Int)+1) λb=>(∃j:Nat,b=(j:Int)/\j<=ss.length/\bO σ v/\some (⟨d,3*i,none⟩:Addr)=(ZA ss j).map λk=>⟨d,3*k,none⟩)/\ss.length-b.toNat<ss.length-(i:Int).toNat)
    (Ar .i64 ((i:Int)+1) λb=>(∃j:Nat,b=(j:Int)/\j<=ss.length/\bO σ v/\((ZA ss i).map λk=>(⟨d,3*k,none⟩:Addr))=(ZA ss j).map λk=>⟨d,3*k,none⟩)/\ss.length-b.toNat<ss.length-(i:Int).toNat):=by
   intro r v ev hr';cases r
   ·refine cF rfl (bZ (m:=i+1) O O ⟨⟨i+1,rfl,O,ev,?_⟩,O⟩);rw[←hr'];rfl
   ·refine cJ rfl (bZ (m:=i+1) O O ⟨⟨i+1,rfl,O,ev,?_⟩,O⟩);rw[←hr'];rfl
  refine Jn.intro ⟨λD=>bW D d cs,Eb,aG ⟨_,λD z=>by rw[add_lit,add_lit,z.cell];exact E.get w.1,aG ⟨_,λD z=>by rw[add_lit,z.cell];exact E.get w.2.2,?_⟩⟩⟩;refine Le (z.bK e) ⟨Eb,?_⟩;refine cH (λhlt2=>?_) λhge2=>?_
  ·have V:s.many<s.tk.length:=by omega
   rw[zB V]at B;cases hbf:ZA ss i with
   | none=>
    rw[hbf]at B J;exact cJ rfl (J true H e B.symm)
   | some j=>
    rw[hbf]at B J;obtain⟨hji,y,hy,hym⟩:=QZ hbf;simp only[hy]at B;have ac:j<ps.length:=by rw[h.len];omega
    have u:=QD (cL ac) hy;have fin:W5.c (s.many:Int) (s.st:Int) (y.many:Int) (y.st:Int) H λY v3=>bW v3 d cs ∧
     If Y (Ar .i64 ((i:Int)+1) λb=>(∃j:Nat,b=(j:Int)/\j<=ss.length/\bO σ v3/\some (⟨d,3*i,none⟩:Addr)=(ZA ss j).map λk=>⟨d,3*k,none⟩)/\ss.length-b.toNat<ss.length-(i:Int).toNat)
      (Ar .i64 ((i:Int)+1) λb=>(∃j':Nat,b=(j':Int)/\j'<=ss.length/\bO σ v3/\((some j).map λk=>(⟨d,3*k,none⟩:Addr))=(ZA ss j').map λk=>⟨d,3*k,none⟩)/\ss.length-b.toNat<ss.length-(i:Int).toNat):=by
     refine P1 _ _ _ _ λv3 e3=>⟨e3.cA Eb id,J _ v3 (e.trans e3) ?_⟩;rw[B];rfl
    refine cF rfl (aG (aG ⟨?_,?_⟩))
    ·exact Eb.gD (E.get w.1) (Eb.gD (E.get w.2.1) ⟨Eb,Eb.gD (E.get u.1) (Eb.gD (E.get u.2.1) ⟨Eb,fin⟩)⟩)
    ·exact Eb.gD (E.get u.1) (Eb.gD (E.get u.2.1) ⟨Eb,Eb.gD (E.get w.1) (Eb.gD (E.get w.2.1) ⟨Eb,fin⟩)⟩)
  ·have V:¬s.many<s.tk.length:=by omega
   rw[zA V]at B;exact J false H e B.symm
 ·have S:i=ss.length:=by simp only at W;omega
  subst S;cases hbf:ZA ss ss.length with
  | none=>
   refine cJ rfl (h0 ?_ _ e);simp[jm,nc,hbf]
  | some k=>
   obtain⟨hk,s,G,ab⟩:=QZ hbf;have E:=E (by rintro rfl;simp at hk);obtain⟨P,s',L,M,z⟩:=h.ju hk;rw[G]at M;cases M;have w:=QD L G;obtain⟨r,C,aa,ae⟩:=Ak ab;have H:=h.bK e;have one:jm c ss=some (at_ c s r,ss.set k (s.put r true)):=by simp[jm,nc,hbf,G,C]
   have E':s7 _ F p ps ss sl d cs:=⟨E.a,e.cA E.cA id,E.fr,E.get,E.De⟩;refine cF rfl (aG (E'.cA.rP (x:=some ⟨P.1,0,none⟩) (E.get w.2.2) ?_));refine T9 (z.bK e) C λv5 e5 X=>aG ?_;have K:=QC L;have Q:¬(d=P.1\/d=P.2):=λhh=>E.fr.2.2 (by rcases hh with h|h<;>rw[h];exact K.1;exact K.2)
   have hml:=Ac s;have g:=y8 aa true;rw[ae]at g;have A:(s.put r true).many=s.many+1:=by simp at g;omega
   have ad:=z.len;refine(e5.cA E'.cA Q).gD (E.get w.1) (bZ (m:=s.many+1) O O (aG ?_));rw[add_lit,add_lit,zr,zr,←A];exact H.qt (s':=s.put r true) L G rfl e5 X (e.cA Z id) E' λv6 e6 h6=>h1 _ _ one v6 (e.to.trans e6) h6
theorem Tu {k:Nat}{s s':cI}(hs:ss[k]?=some s):KA (ss.set k s')+(s.tk.length-s.many)=KA ss+(s'.tk.length-s'.many):=by
 unfold KA
 induction ss generalizing k with
 | nil=>simp at hs
 | cons x ss ih=>
  cases k with
  | zero=>simp at hs;subst hs;simp;omega
  | succ k=>
   have:=ih (by simpa using hs);simp only[sK,zK,zu];omega
theorem SN {x:Nat}{ss':List cI}(h:jm c ss=some (x,ss')):KA ss'+1=KA ss:=by
 unfold jm at h;split at h
 ·rename_i k hk;obtain⟨_,s,j,a⟩:=QZ hk;rw[j]at h;simp only at h;split at h
  ·rename_i i hi;cases h;obtain⟨r,e,b,d⟩:=Ak a;rw[hi]at e;cases e;have m:=Tu (s':=s.put i true) j;have g:=y8 b true;rw[d]at g;have p:(s.put i true).tk.length=s.tk.length:=by simp[cI.put]
   simp at g;omega
  ·cases h
 ·cases h
theorem fC.room (h:fC σ F p c ps ss):KA ss<=131072:=by
 have key:∀l:List cI,(∀s∈l,s.tk.length<=128)->KA l<=128*l.length:=by
  intro l
  induction l with
  | nil=>intro _;simp[KA]
  | cons x l ih=>
   intro hl;have j:=hl x aA;have m:=ih λs d=>hl s (by simp[d]);simp only[KA,zK,zu,zQ]at *;omega
 have:=key ss λs d=>by
  obtain⟨i,e⟩:=zL d;have b:=(cS.1 e).1;obtain⟨x,r,_,a,g⟩:=h.ju b;rw[e]at a;cases a;rw[g.len];exact h.ok.jX
 have:=h.lA;omega
theorem GB {m:Nat}{x:Nat}{ss':List cI}(h:jm c ss=some (x,ss')):Ke c (m+1) ss=(x::(Ke c m ss').1,(Ke c m ss').2):=by
 simp[Ke,h]
theorem N7 (h:fC σ F p c ps ss)(m:Int)(hm:0<=m){R:Sl->Int->Hp->Prop}
 (hR:∀s σ',Ext F σ σ'->bR s 1 (ints (Ke c m.toNat ss).1) σ' (λb=>σ.size<=b)->fC σ' (Cut F σ) p c ps (Ke c m.toNat ss).2->R s 0 σ'):Xd.c (aW p) m σ R:=by
 refine Xd.o ?_;have h:=fC.loc.cut h;have J:=fC.room h;refine Vf h (cF rfl (fH O ?_));refine ZP (a:=.s) (λ(out:Sl) C=>∃j d,Ext F σ C/\bR out 1 (ints j) C (λb=>σ.size<=b)/\fC C (Cut F σ) p c ps d/\j.length<=m.toNat/\j.length+KA d=KA ss/\Ke c m.toNat ss=(j++(Ke c (m.toNat-j.length) d).1,(Ke c (m.toNat-j.length) d).2))
  (λout _=>m.toNat-out.len) ⟨[],ss,Ext.refl _ _,bR.nil _ _ _ _,h,by simp,by simp,by simp⟩ ?_
 rintro out C ⟨j,d,e,g,H,V,X,u⟩;have P:=g.jT;refine cH (λS=>?_) λU=>?_
 ·have r:m.toNat-j.length=(m.toNat-(j.length+1))+1:=by omega
  refine Rh H (λx G w v2 A L=>cF rfl ?_) λz v2 A=>cJ rfl ?_
  ·have D:Ext F σ v2:=e.trans (A.sub λi K=>K.1);have y:=aI.bU g A λb _ E N=>by have:=N.2;omega
   refine y.push (vs:=[.int .i64 (x:Int)]) (λb E=>zI D.1 E) rfl rfl (by simp[dM]) O O λs' v4 W Q M=>?_;have Y:=SN w;refine⟨⟨j++[x],G,D.fE Q λi K=>.inr K,by rw[Vl];exact M,fC.loc.bU L Q λb _ E N=>(by have:=E.2;omega),by simp;omega,by simp;omega,?_⟩,O⟩;rw[u,r,GB w];simp
  ·have:Ke c (m.toNat-j.length) d=([],d):=by rw[r];simp[Ke,z]
   rw[this]at u;have B:=hR out v2 (e.trans A.to);rw[u,km]at B;exact B (aI.bK g A) (H.bK A)
 ·have Z:m.toNat-j.length=0:=by omega
  rw[Z]at u;have B:=hR out C e;rw[u]at B;simp only[Ke,km]at B;exact B g H
theorem Nh (h:fC σ F p c ps ss)(m:Int)(hm:m<0){R:Sl->Int->Hp->Prop}(hR:R ⟨none,0,0⟩ 1 σ):Xd.c (aW p) m σ R:=by
 refine Xd.o ?_;exact Vf h (cF rfl (mh O hR))
def jt:List (Nat×Nat)->List cI->List (Nat×Nat)
 | x::ps,s::ss=>if s.many != 0 then x::jt ps ss else jt ps ss
 | _,_=>[]
theorem GK:∀{ps:List (Nat×Nat)} {ss:List cI},ps.length=ss.length->(jt ps ss).length=(cK ss).length
 | [],[],_=>rfl
 | x::ps,s::ss,h=>by
  have ih:=GK (ps:=ps) (ss:=ss) (by simpa using h);simp only[jt,cK,ri]at *;split<;>simp[ih]
theorem CP:∀{ps:List (Nat×Nat)} {ss:List cI},(jt ps ss).Sublist ps
 | [],_=>by simp[jt]
 | _::_,[]=>by simp[jt]
 | x::ps,s::ss=>by
  simp only[jt];split
  ·exact CP.cons_cons x
  ·exact CP.cons x
theorem Jv:∀{ps ps':List (Nat×Nat)} {ss ss':List cI},ps.length=ss.length->jt (ps++ps') (ss++ss')=jt ps ss++jt ps' ss'
 | [],_,[],_,_=>rfl
 | x::ps,_,s::ss,_,h=>by
  simp only[lZ,jt,Jv (ps:=ps) (ss:=ss) (by simpa using h)];split<;>rfl
theorem EY:∀{ps:List (Nat×Nat)} {ss:List cI} {i:Nat} {x:Nat×Nat} {s:cI},ps.length=ss.length->(jt ps ss)[i]?=some x->(cK ss)[i]?=some s->∃j:Nat,ps[j]?=some x/\ss[j]?=some s
 | [],[],_,_,_,_,h,_=>by simp[jt]at h
 | y::ps,t::ss,i,x,s,hl,h1,h2=>by
  have ih:=λi=>EY (ps:=ps) (ss:=ss) (i:=i) (x:=x) (s:=s) (by simpa using hl);simp only[jt,cK,ri]at h1 h2;cases hm:(t.many != 0)
  ·rw[hm]at h1 h2;obtain⟨j,b,a⟩:=ih i h1 h2;exact⟨j+1,by simpa using b,by simpa using a⟩
  ·rw[hm]at h1 h2;cases i with
   | zero=>simp at h1 h2;exact⟨0,by simp[h1],by simp[h2]⟩
   | succ i=>
    obtain⟨j,b,a⟩:=ih i (by simpa using h1) (by simpa[cK]using h2);exact⟨j+1,by simpa using b,by simpa using a⟩
theorem N3 (a b:List cI):cK (a++b)=cK a++cK b:=by simp[cK]
theorem Ρ (a b:List cI):Qc (a++b)=Qc a++Qc b:=by simp[Qc]
theorem RN (c:bX)(a b:List Nat):iz c (a++b)=iz c a++iz c b:=by simp[iz]
theorem RY {a b:List (Nat×Nat)}(h:a.Sublist b):(eI a).Sublist (eI b):=by
 induction h with
 | slnil=>exact List.Sublist.refl _
 | cons x _ ih=>exact(ih.cons _).cons _
 | cons_cons x _ ih=>exact(ih.cons_cons _).cons_cons _
theorem Ja {h:Hp}{Q:Rg}{n3:Nat}{o:Sl}{l:List Nat}{x1 x2:Nat}{s:cI}(hb:bW h n3 [.slice o.a o.len o.cap])(hrow:bR o 2 (iz c l) h Q)(hQ:∀b,Q b->n3<b)(hl:l.length<=2000)(hS:iq h x1 x2 c s){R:aO}
 (hR:∀h' o',Ext (λb=>b=n3\/Q b) h h'->bW h' n3 [.slice (Sl.a o') o'.len o'.cap]->bR o' 2 (iz c (l++if s.many=0 then[s.st]else[])) h' (Grow Q h)->R (s.many==0) h') :
 V1 Tryz.prog ⟨228,#[],#[.pointer (some ⟨n3,0,none⟩)]⟩ [.agg #[.int .i64 (s.many:Int),.int .i64 (s.st:Int),.pointer (some ⟨x1,0,none⟩)]] [.one .b] h R:=by
 refine Gf (all := #[.agg #[.int .i64 (s.many:Int),.int .i64 (s.st:Int),.pointer (some ⟨x1,0,none⟩)],.pointer (some ⟨n3,0,none⟩)]) (by kernel_rfl) aA ?_;refine Yd.o ?_;refine nw (cs:=[.int .i64 (s.many:Int),.int .i64 (s.st:Int),.pointer (some ⟨x1,0,none⟩)]) λv Z e d=>?_;have W:=hb.lt;have g:=e.cA hb id;have hrow:=(bR.loc o 2 (iz c l)).mono hrow (G:=λb=>Q b/\b<h.size) λb hb y=>⟨y,hb⟩;refine Jn.intro (d.gD rfl ?_);rw[vu];refine cN (λB=>?_) λB=>?_
 ·have w:s.many=0:=by simpa using B
  rw[zB w]at hR;refine⟨λh'=>bW h' h.size [.int .i64 (s.many:Int),.int .i64 (s.st:Int),.pointer (some ⟨x1,0,none⟩)]/\bW h' n3 [.slice o.a o.len o.cap],⟨d,g⟩,⟨o,λh' hS=>by rw[hS.2.cell];rfl,⟨some ⟨x1,0,none⟩,λh' hS=>by rw[add_lit,hS.1.cell];rfl,?_⟩⟩⟩;refine FD (hS.bK e) λv2 p=>⟨⟨p.cA d id,p.cA g id⟩,?_⟩;have A:=e.trans p;have m:=aI.bK hrow A;have z:=m.1;rw[Ev]at z;refine nw (cs:=[.int .i64 (s.st:Int),.int .i64 (c.aF:Int)]) λv3 U x F=>⟨⟨(p.trans x).cA d id,(p.trans x).cA g id⟩,?_⟩;have r:=aI.bK m x;have S:=A.1;refine r.app (ys:=[.int .i64 (s.st:Int),.int .i64 (c.aF:Int)]) rfl rfl ?_ (by simp[dM]) ?_ ?_ n4 λX K P E J=>?_
  ·intro j u hu;rw[add_lit,zG,F.cell];exact hu
  ·simp only;have:(o.len+1)*16<=2001*16:=kU O O;omega
  ·simp only;omega
  ·have L:bW K h.size [.int .i64 (s.many:Int),.int .i64 (s.st:Int),.pointer (some ⟨x1,0,none⟩)]:=E.cA ((p.trans x).cA d id) λD=>by have:=D.2;omega
   have M:bW K n3 [.slice o.a o.len o.cap]:=E.cA ((p.trans x).cA g id) λD=>by have:=hQ _ D.1;omega
   refine⟨⟨L,M⟩,M.s0 aA λv5 o5 V=>(Wp o5 L O).gD rfl ?_⟩;have C:Ext (λb=>b=n3\/Q b) h v5:=(bO.to ((e.trans p).trans x)).trans (E.sub λi H=>.inr H.1)|>.trans (o5.ext.sub λi H=>.inl H);rw[vu];refine hR v5 X C V ?_;rw[RN];have:iz c [s.st]=[.int .i64 (s.st:Int),.int .i64 (c.aF:Int)]:=rfl;rw[this];have Y:=aI.mono J (G:=Grow Q h) λb _ N=>by
    rcases N with h|h
    ·exact .inl h.1
    ·exact .inr O
   exact aI.bU Y o5.ext λb _ y he=>by
    rcases y with h|h
    ·have:=hQ _ h;omega
    ·omega
 ·have w:¬s.many=0:=by simpa using B
  rw[zA w,km]at hR;refine d.gD rfl ?_;rw[vu];exact hR v o e.to g (aI.bK (aI.mono hrow λb _ y=>.inl y.1) e)
def yo (n3:Nat)(c:bX)(l:List Nat)(h:Hp):Prop:=∃o:Sl,bW h n3 [.slice o.a o.len o.cap]/\bR o 2 (iz c l) h (λb=>n3<b)
theorem ED {A D:List Value}{x y z:Value}{k:Nat}(hk:k=A.length)(hD:3<=D.length):(((A++D).set k x).set (k+1) y).set (k+2) z=A++[x,y,z]++D.drop 3:=by
 subst hk
 match D,hD with
 | d0::d1::d2::D,_=>simp[List.set_append]
theorem GT {i:Nat}{s:cI}(hs:ss[i]?=some s):Qc (ss.take (i+1))=Qc (ss.take i)++(if s.many=0 then[s.st]else[]):=by
 rw[zf,hs,Ρ]
 congr 1
 by_cases hm:s.many=0<;>simp[Qc,hm]
theorem Ge {i:Nat}{s:cI}(hs:ss[i]?=some s):cK (ss.take (i+1))=cK (ss.take i)++(if s.many=0 then[]else[s]):=by
 rw[zf,hs,N3]
 congr 1
 by_cases hm:s.many=0<;>simp[cK,hm]
theorem Cc {i:Nat}{x:Nat×Nat}{s:cI}(hl:ps.length=ss.length)(hx:ps[i]?=some x)(hs:ss[i]?=some s):jt (ps.take (i+1)) (ss.take (i+1))=jt (ps.take i) (ss.take i)++(if s.many=0 then[]else[x]):=by
 rw[zf,zf,hs,hx,Jv (by simp[hl])]
 congr 1
 by_cases hm:s.many=0<;>simp[jt,hm]
theorem Ni (l:List cI):(Qc l).length<=l.length:=by unfold Qc;rw[za];exact na _ _
theorem Oh (l:List cI):(cK l).length<=l.length:=na _ _
theorem RT (h:fC σ F p c ps ss){sl:Sl}{rb n3:Nat}{cs:List Value}{σ1:Hp}(e1:bO σ σ1)(hlen:sl.len=ss.length)(hn3:σ.size<=n3)(hE:ss≠[]->s7 σ F p ps ss sl rb cs/\sl.len<=sl.cap/\cs.length=sl.cap*3)(h0:yo n3 c [] σ1){R:Sl->Hp->Prop}
 (hR:∀h' nN,Ext (λb=>F b/\b≠p/\b∉eI ps\/n3<=b) σ1 h'->yo n3 c (Qc ss) h'->(nN=sl/\Qc ss=[]/\cK ss=ss/\jt ps ss=ps/\Ext (λb=>n3<=b) σ1 h'\/(bR nN 3 (dV (jt ps ss) (cK ss)) h' (λb=>F b/\b≠p/\b∉eI ps)))->R nN h') :
 Wf.c sl ⟨228,#[],#[.pointer (some ⟨n3,0,none⟩)]⟩ σ1 R:=by
 refine Wf.o ?_;refine Wi.o ?_;have hfew:=h.lA;have r:=h.len;refine ZP (a:=bN) (λ(t:Int) h'=>∃i:Nat,t=(i:Int)/\i<=ss.length/\Ext (λb=>n3<=b) σ1 h'/\yo n3 c [] h'/\Qc (ss.take i)=[]/\cK (ss.take i)=ss.take i/\jt (ps.take i) (ss.take i)=ps.take i) (λt _=>ss.length-t.toNat) ⟨0,rfl,O,Ext.refl _ _,h0,by simp[Qc],by simp[cK],by simp[jt]⟩ ?_;rintro t h' ⟨i,rfl,hi,e,⟨o,V,hro⟩,q1,q2,q3⟩;have eo:∀{v:Hp},Ext (λb=>n3<=b) σ1 v->Ext (λb=>n3<=b) σ v:=λe=>e1.to.trans e;refine cH (λhlt=>?_) λhge=>?_
 ·have aa:i<ss.length:=by omega
  obtain⟨E,hcap,hcl⟩:=hE (by rintro rfl;simp at aa);obtain⟨xx,s,hp,M,hS⟩:=h.ju aa;have eg:=QD hp M;have hrl:=E.cA.lt;have hSl:=hS.lt;rw[E.a];refine ix O O ?_;rw[add_lit,show 0+(i:Int).toNat*3=3*i by omega];refine tC (e:=0) ((eo e).cA E.cA O) (E.get eg.1) (E.get eg.2.1) (E.get eg.2.2) ?_;have hn3h:n3<h'.size:=V.lt;refine Ja V hro (λb h=>h) aA (hS.bU (eo e) O O) λh2 o2 e2 Y A=>?_;have e2:Ext (λb=>n3<=b) h' h2:=e2.sub λb g=>by omega
  have A:=aI.mono A (G:=λb=>n3<b) λb _ g=>by
   rcases g with h|h
   ·exact h
   ·omega
  refine cN (λhm=>?_) λhm=>?_
  ·-- the first that goes
   have x:s.many=0:=by simpa using hm
   rw[zB x,qn]at A;have D:((i:Int)==(-1))=false:=by rw[nk];omega
   show If ((i:Int)==(-1)) _ _;refine cF D (bZ (m:=i+1) O O ?_);have q1':Qc (ss.take (i+1))=[s.st]:=by rw[GT M,q1,zB x];rfl
   have P:cK (ss.take (i+1))=ss.take i:=by rw[Ge M,q2,zB x,km]
   have q3':jt (ps.take (i+1)) (ss.take (i+1))=ps.take i:=by rw[Cc r hp M,q3,zB x,km]
   have hke:∀k,k<=ss.length->(dV (jt (ps.take k) (ss.take k)) (cK (ss.take k))).length=3*(cK (ss.take k)).length:=λk _=>Kd (GK (by simp[r]));have Eb2:bW h2 rb cs:=(eo (e.trans e2)).cA E.cA O;refine Kh (a:=bN) (bb:=bN) (λ(i1 j1:Int) v=>∃j:Nat,j1=(j:Int)/\i<j/\j<=ss.length/\i1=((cK (ss.take j)).length:Int)/\(cK (ss.take j)).length<j/\Ext (λb=>b=rb\/n3<=b) σ1 v/\yo n3 c (Qc (ss.take j)) v ∧
    bW v rb (dV (jt (ps.take j) (ss.take j)) (cK (ss.take j))++cs.drop (3*(cK (ss.take j)).length))) (λ_ j1 _=>ss.length-j1.toNat) ?_ ?_
   ·refine⟨i+1,rfl,O,O,?_,?_,(e.trans e2).sub λb g=>.inr g,?_,?_⟩
    ·rw[P,zO];omega
    ·rw[P,zO];omega
    ·rw[q1'];exact⟨o2,Y,A⟩
    ·rw[P,q3',zO,qN O];have:dV (ps.take i) (ss.take i)++cs.drop (3*i)=cs:=by
      have h1:(dV (ps.take i) (ss.take i)).length=3*i:=by rw[Kd (by simp[r]),zO];omega
      apply zp;intro k;rcases mw k (3*i)with hk|hk
      ·rw[zg O];have h2:(dV ps ss)[k]?=(dV (ps.take i) (ss.take i))[k]? := by
        conv=>lhs;rw[←nS i ps,←nS i ss,Vw (by simp[r])]
        rw[zg O]
       rw[←h2];have h3:k<(dV ps ss).length:=by rw[Kd r];omega
       rw[cL h3];exact(E.get (cL h3)).symm
      ·rw[zi O,zn,h1]
       congr 1;omega
     rw[this];exact Eb2
   ·rintro i1 j1 v ⟨j,rfl,hij,hj,rfl,hKj,ev,⟨o3,C,J⟩,z⟩;have y:=hke j hj;have evo:Ext (λb=>b=rb\/n3<=b) σ v:=e1.to.trans ev;refine cH (λhlt2=>?_) λhge2=>?_
    ·have hj':j<ss.length:=by omega
     obtain⟨yy,u,N,H,ac⟩:=h.ju hj';have U:=QD N H;have hSul:=ac.lt;have X:=QC N;refine ix O O ?_;rw[add_lit,show 0+(j:Int).toNat*3=3*j by omega];have get:∀d,d<3->∀w,(dV ps ss)[3*j+d]?=some w->(dV (jt (ps.take j) (ss.take j)) (cK (ss.take j))++cs.drop (3*(cK (ss.take j)).length))[3*j+d]?=some w:=by
      intro d hd w hw;rw[zi O,zn,y,show 3*(cK (ss.take j)).length+(3*j+d-3*(cK (ss.take j)).length)=3*j+d by omega];exact E.get hw
     refine tC (e:=0) z (get 0 O _ U.1) (get 1 O _ U.2.1) (get 2 O _ U.2.2) (AO λv5 W b5=>b5.rI rfl (b5.rI rfl (b5.rP rfl ?_)));have hn3v:n3<v.size:=C.lt;have ab:=aI.mono J (G:=λb=>n3<b/\b<v.size) λb g hf=>⟨hf,g⟩;have K:=Ni (ss.take j);rw[zO]at K;refine Ja (W.cA C id) (aI.bK ab W) (λb g=>g.1) O ((ac.bU evo (λS=>by rcases S with h|h;exact E.fr.2.2 (h▸X.1);omega) (λS=>by rcases S with h|h;exact E.fr.2.2 (h▸X.2);omega)).bK W) λv6 o6 e6 ae B=>?_;have hsz5:=W.1;have B:=aI.mono B (G:=λb=>n3<b) λb _ g=>by
      rcases g with h|h
      ·exact h.1
      ·omega
     have b6:bW v6 v.size [.int .i64 (u.many:Int),.int .i64 (u.st:Int),.pointer (some ⟨yy.1,0,none⟩)]:=e6.cA b5 λS=>by rcases S with h|h;omega;have:=h.2;omega
     have hrb:rb<σ.size:=E.cA.lt;have L:=e6.cA (W.cA z id) λS=>by rcases S with h|h;omega;have:=h.1;omega
     have Z:Ext (λb=>b=rb\/n3<=b) σ1 v6:=(ev.trans W.to).trans (e6.sub λb g=>by rcases g with h|h;omega;have:=h.1;omega);rw[←GT H]at B;have st:=Ge H;have kt:=Cc r N H;by_cases hum:u.many=0
     ·rw[zB hum,km]at st kt;have:(u.many==0)=true:=by simp[hum]
      rw[this];refine cF rfl (bZ (m:=j+1) O O ⟨⟨j+1,rfl,O,O,?_,?_,Z,⟨o6,ae,B⟩,?_⟩,O⟩)
      ·rw[st]
      ·rw[st];omega
      ·rw[st,kt];exact L
     ·rw[zA hum]at st kt;have:(u.many==0)=false:=by simp[hum]
      rw[this];refine cJ rfl (b6.rI rfl (b6.rI rfl (b6.rP rfl (ix O O ?_))));rw[add_lit,show 0+((cK (ss.take j)).length:Int).toNat*3=3*(cK (ss.take j)).length by omega];have hlen6:(dV (jt (ps.take j) (ss.take j)) (cK (ss.take j))++cs.drop (3*(cK (ss.take j)).length)).length=cs.length:=by
       rw[zJ,y,zt];omega
      refine L.s1 O λv7 o7 b7=>b7.s1 aE λv8 o8 b8=>b8.s1 aE λv9 o9 b9=>?_;rw[zr,ED y.symm (by rw[zt];omega),List.drop_drop]at b9;have ev9:Ext (λb=>b=rb\/n3<=b) σ1 v9:=((Z.trans (o7.ext.sub λb g=>.inl g)).trans (o8.ext.sub λb g=>.inl g)).trans (o9.ext.sub λb g=>.inl g);have ad:Ext (· = rb) v6 v9:=(o7.ext.trans o8.ext).trans o9.ext;refine bZ (m:=(cK (ss.take j)).length+1) O O (bZ (m:=j+1) O O ⟨⟨j+1,rfl,O,O,?_,?_,ev9,⟨o6,ad.cA ae O,aI.bU B ad λb _ g he=>O⟩,?_⟩,O⟩)
      ·rw[st];simp
      ·rw[st];simp;omega
      ·rw[st,kt,Vw (GK (by simp[r]))];simp only[zJ,zQ,lU,dV];rw[show 3*((cK (ss.take j)).length+(0+1))=3*(cK (ss.take j)).length+3 by omega];exact b9
    ·have hjj:j=ss.length:=by omega
     subst hjj;rw[zm]at *;have Q:ps.take ss.length=ps:=by rw[←r,zm]
     rw[Q]at z y;have K:=Oh ss;refine ji O O O ?_;have hK3:3*(cK ss).length<=cs.length:=by omega
     have hlt3:(cK ss).length<ss.length:=hKj;rw[zA O];simp only[E.a,zh,add_lit,zG];refine⟨by simp[dM],?_⟩;simp only;have hz:(List.replicate (sl.len-(cK ss).length) [Value.int .i64 0,.int .i64 0,.pointer none]).flatten.length=3*(sl.len-(cK ss).length):=by
      rw[wa,uV,vR];simp;omega
     refine Ug (o:=(cK ss).length*3) (i:=0) z (by rw[hz,zJ,y,zt];omega) λv10 fW b10=>?_;refine ji (lo:=0) O O O ?_;have ev10:Ext (λb=>b=rb\/n3<=b) σ1 v10:=ev.trans (fW.ext.sub λb g=>.inl g);refine hR v10 _ (ev10.sub λb g=>?_) ⟨o3,Wp fW C (by have:=E.cA.lt;omega),aI.bU J fW.ext λb _ g he=>by have:=E.cA.lt;omega⟩ (.inr ?_)
     ·rcases g with rfl|h
      ·exact .inl E.fr
      ·exact .inr h
     ·refine⟨by rw[Kd (GK r)];simp;omega,.inr ⟨rb,_,E.fr,?_,b10,?_,?_,?_⟩⟩
      ·simp only[E.a];split<;>simp[add_lit]
      ·simp only;omega
      ·simp only[zJ,zO,zt,hz,y];omega
      ·rw[Kd (GK r),zr,show(cK ss).length*3=3*(cK ss).length by omega];rw[kF,pG (by rw[zO,zJ,y];omega),Ag,Nat.min_self];rw[pG O,mc O]
  ·have x:¬s.many=0:=by simpa using hm
   rw[zA x,km]at A;refine bZ (m:=i+1) O O ⟨⟨i+1,rfl,O,e.trans e2,⟨o2,Y,A⟩,?_,?_,?_⟩,O⟩
   ·rw[GT M,q1,zA x];rfl
   ·rw[Ge M,q2,zA x,zf,M];rfl
   ·rw[Cc r hp M,q3,zA x,zf,hp];rfl
 ·have hii:i=ss.length:=by omega
  subst hii;rw[zm]at *;have Q:ps.take ss.length=ps:=by rw[←r,zm]
  rw[Q]at q3;have D:((-1:Int)==(-1))=true:=rfl;refine cJ D (hR h' sl (e.sub λb g=>.inr g) ?_ (.inl ⟨rfl,q1,q2,q3,e⟩));rw[q1];exact⟨o,V,hro⟩
theorem fC.nN (h:fC σ F p c ps ss):∃sl:Sl,bW σ p [.int .i64 (c.size:Int),.int .i64 (c.aF:Int),.int .i64 (c.batch:Int),.slice sl.a sl.len sl.cap]/\sl.len=ss.length/\bR sl 3 (dV ps ss) σ (λb=>F b/\b≠p/\b∉eI ps) ∧
 ∃rb cs,(ss≠[]->s7 σ F p ps ss sl rb cs/\sl.len<=sl.cap/\cs.length=sl.cap*3):=by
 obtain⟨sl,i,e⟩:=h.hd;have m:=e.1;rw[Kd h.len]at m;refine⟨sl,i,O,e,?_⟩;rcases e.2 with⟨h0,_⟩|⟨b,cs,hq,ha,hbb,hle,hcl,ht⟩
 ·exact⟨0,[],λg=>by have:=qC.2 g;omega⟩
 ·refine⟨b,cs,λ_=>⟨⟨ha,hbb,hq,λ{j v} d=>?_,?_⟩,hle,hcl⟩⟩
  ·rw[←ht,zY]at d;split at d
   ·exact d
   ·cases d
  ·have:=congrArg List.length ht;rw[zO,Kd h.len]at this;omega
theorem Ml (h:fC σ F p c ps ss){R:Sl->Hp->Prop}
 (hR:∀o σ',Ext F σ σ'->bR o 2 (iz c (Qc ss)) σ' (λb=>σ.size<=b)->fC σ' (Cut F σ) p c (jt ps ss) (cK ss)->R o σ'):W0.c (aW p) σ R:=by
 refine W0.o ?_;have h:=fC.loc.cut h;obtain⟨sl,a,C,w,W,cs,U⟩:=h.nN;refine Vf h (cF rfl (nw (cs:=[.slice none 0 0]) λV Q u E=>aG ((u.cA a id).rS rfl ?_)));refine RT h u C (zC _) U ⟨⟨none,0,0⟩,E,bR.nil _ _ _ _⟩ λX nN J ⟨o,B,K⟩ r=>aG ?_;have M:=a.lt;have e:=h.nd;have d:=RY (CP (ps:=ps) (ss:=ss));simp only[zo]at e;refine(J.cA (u.cA a id) λH=>by rcases H with h|h;exact h.2.1 rfl;omega).s1 aA λv3 o3 D=>?_;have A:=Wp o3 B (by have:=B.lt;omega);refine A.Am rfl (hR o v3 ?_ (aI.bU (aI.mono K λb _ a=>O) o3.ext λb _ a g=>O) ?_)
 ·refine(u.to.fE J λb a=>?_).fE o3.ext λb a=>?_
  ·rcases a with h|h
   ·exact .inl h.1.1
   ·exact .inr h
  ·subst a;exact .inl h.fp.1
 ·have y:∀b,b∈eI ps->b<σ.size->¬(Cut F σ b/\b≠p/\b∉eI ps\/σ.size<=b):=λb a P H=>by
   rcases H with h|h
   ·exact h.2.2 a
   ·omega
  refine⟨⟨nN,D,?_⟩,λi x s S N=>?_,h.fp,λb a=>h.fb b (d.subset a),?_,GK h.len,h.ok,h.lp.sublist sk⟩
  ·rcases r with⟨rfl,_,q2,q3,ex⟩|hr
   ·rw[q2,q3];exact aI.bU (aI.bU (aI.bK w u) ex λb _ a g=>by have:=a.1.2;omega) o3.ext λb _ a g=>a.2.1 g
   ·exact aI.bU (aI.mono hr λb _ a=>⟨a.1,a.2.1,λm=>a.2.2 (d.subset m)⟩) o3.ext λb _ a g=>a.2.1 g
  ·obtain⟨j,z,G⟩:=EY h.len S N;have L:=h.sp j x s z G;have m:=QC z;have C:=L.lt;exact((L.bK u).bU J (y _ m.1 C.1) (y _ m.2 C.2)).bU o3.ext (λg=>e.1 (g▸m.1)) (λg=>e.1 (g▸m.2))
  ·simp only[zo];exact⟨λm=>e.1 (d.subset m),e.2.sublist d⟩
theorem SJ {x:Int}{k i:Nat}{s:cI}(hc:0<c.size)(hk:lr c ss x=some k)(hs:ss[k]?=some s)(v:Bool)(y:Int):lr c (ss.set k (s.put i v)) y=lr c ss y:=by
 have b:∀t:cI,∀j w z,idx c (t.put j w) z=idx c t z:=λt j w z=>by unfold idx cI.put;simp only[nM]
 unfold lr;have a:=(cS.1 hs).1;have:(ss.set k (s.put i v)).map (λs=>(idx c s y).isSome)=ss.map (λs=>(idx c s y).isSome):=by
  apply zp;intro j;simp only[ze];by_cases hjk:j=k
  ·subst hjk;rw[zM a,hs];simp[b]
  ·rw[zj (Ne.symm hjk)]
 have d:∀l:List cI,l.findIdx? (λs=>(idx c s y).isSome)=(l.map λs=>(idx c s y).isSome).findIdx? id:=λl=>by rw[List.findIdx?_map];rfl
 rw[d,d,this]
def k6 (c:bX)(ss:List cI)(xs:List Int):Prop:=(∀x∈xs,eB c ss x=some true)/\xs.Nodup
theorem yK {x:Int}{b:Bool}(h:eB c ss x=some b):∃k s i,lr c ss x=some k/\ss[k]?=some s/\obj c s x=some i/\s.is i=b:=by
 unfold eB at h;split at h
 ·rename_i k hk;split at h
  ·rename_i s hs;cases ho:obj c s x with
   | none=>rw[ho]at h;cases h
   | some i=>rw[ho]at h;exact⟨k,s,i,hk,hs,ho,by simpa[cI.is]using h⟩
  ·cases h
 ·cases h
theorem ym {x:Int}{k i:Nat}{s:cI}(hk:lr c ss x=some k)(hs:ss[k]?=some s)(ho:obj c s x=some i):fK c ss x=ss.set k (s.put i false):=by
 simp[fK,hk,hs,ho]
theorem RQ {x y:Int}(hc:0<c.size)(hx:eB c ss x=some true)(hne:y≠x):eB c (fK c ss x) y=eB c ss y:=by
 obtain⟨k,s,i,u,d,A,_⟩:=yK hx;rw[ym u d A];have g:=(cS.1 d).1;have a:=SJ hc u d false (i:=i) y;have p:∀t:cI,∀j w z,obj c (t.put j w) z=obj c t z:=λt j w z=>by unfold obj idx at_ cI.put;simp only[nM]
 cases hy:lr c ss y with
 | none=>rw[DB (a.trans hy),DB hy]
 | some m=>
  by_cases hmk:m=k
  ·subst hmk;rw[V0 (a.trans hy) (zM g),V0 hy d,p];cases hoy:obj c s y with
   | none=>rfl
   | some j=>
    simp only[zh,Option.some.injEq];have r:i≠j:=λe=>by
     subst e;exact hne (((UT hc).1 hoy).1.trans ((UT hc).1 A).1.symm)
    simp[cI.is,cI.put,zN,zj r]
  ·have b:m<ss.length:=(pj.1 hy).1;rw[V0 (a.trans hy) ((zj (Ne.symm hmk)).trans (cL b)),V0 hy (cL b)]
theorem k6.next {x:Int}{xs:List Int}(hc:0<c.size)(h:k6 c ss (x::xs)):k6 c (fK c ss x) xs:=by
 have a:=zo.1 h.2;refine⟨λy b=>?_,a.2⟩;rw[RQ hc (h.1 x aA) λe=>a.1 (e▸b)];exact h.1 y (by simp[b])
theorem Mm {xs:List Int}(h:iT c ss xs=0):k6 c ss xs:=by
 unfold iT at h;split at h
 ·cases h
 ·rename_i h1;split at h
  ·cases h
  ·rename_i h2;simp only[nX,not_or,rR,np,Bool.not_eq_false',zR,zZ]at h1 h2;refine⟨λx d=>?_,h2.2⟩;have a:=h1 x d;have b:=h2.1 x d;cases ht:eB c ss x with
   | none=>rw[ht]at a;simp at a
   | some v=>
    cases v
    ·rw[ht]at b;exact absurd rfl b
    ·rfl
theorem O6 {sl:Sl}{xs:List Int}{X:Rg}(h:fC σ F p c ps ss)(hs:cP sl 1 (xs.map (Value.int .i64)) σ X)(hX:∀b,X b->¬F b)(hi:∀x∈xs,iF x)(hA:k6 c ss xs)(hl:xs.length<=1000000){K:aP}
 (hK:∀σ',Ext F σ σ'->fC σ' F p c ps (xs.foldl (fK c) ss)->K σ') :
 WR [bN] (λI1=>I1 0 σ) λJ3 (t49:Int) v6=>If (decide (t49<((sl.len:Nat):Int))) (Ix sl.a sl.len t49 1 λa51=>eW .i64 a51 v6 λaddr1=>
  XT.c (aW p) addr1 v6 λvx v7=>bQ vx λa57=>fX (a57.add 2) v7 λt59=>ZN.c t59 addr1 v7 λt61 v8=>bQ vx λa63=>eW .i64 ((a63.add 0).add 0) v8 λt66=>
  Ar .i64 (t66-1) λt67=>bQ vx λa68=>dG ((a68.add 0).add 0) (.int .i64 t67) v8 λv9=>Ar .i64 (t49+1) λt71=>J3 t71 v9) (K v6):=by
 have Z:sl.len=xs.length:=by have:=hs.1;simp at this;omega
 have B:0<c.size:=by have:=h.ok.1;omega
 refine ZP (a:=bN) (λ(t:Int) M=>∃(i:Nat) (r:List cI),t=(i:Int)/\i<=xs.length/\Ext F σ M/\fC M F p c ps r/\k6 c r (xs.drop i)/\(xs.drop i).foldl (fK c) r=xs.foldl (fK c) ss) (λt _=>xs.length-t.toNat) ⟨0,ss,rfl,O,Ext.refl _ _,h,by simpa using hA,by simp⟩ ?_;rintro t M ⟨i,r,rfl,hil,e,J,w,z⟩;refine cH (λhlt=>?_) λhge=>?_
 ·have y:i<xs.length:=by omega
  have hx:xs[i]?=some xs[i]:=cL y;have hd:xs.drop i=xs[i]::xs.drop (i+1):=qL y;rw[hd]at w z;refine(aH.bU hs e λb _ U hF=>hX b U hF).qc hx ?_;obtain⟨k,s,j,N,d,L,C⟩:=yK (w.1 xs[i] lB);have H:=hi xs[i] (zd y);refine BD J xs[i] H (λhn=>by rw[N]at hn;cases hn) λk' nN rb cs G V U E=>aG ?_;rw[N]at G;cases G;obtain⟨S,s',Q,D,Y⟩:=J.ju V;rw[d]at D;cases D;have eg:=QD Q d;have hj:=((UT B).1 L).2;refine E.cA.rP (x:=some ⟨S.1,0,none⟩) (E.get eg.2.2) ?_;refine Woh Y H L C λv8 e8 W=>aG ?_;have A:=QC Q;have P:¬(rb=S.1\/rb=S.2):=λhh=>E.fr.2.2 (by rcases hh with h|h<;>rw[h];exact A.1;exact A.2)
  have hml:=Ac s;have g:=y8 hj false;rw[C]at g;have hsl:=Y.len;have hnl:=Y.ok.jX;have u:((s.put j false).many:Int)=s.many-1:=by simp at g;omega
  refine(e8.cA E.cA P).gD (E.get eg.1) (ar O O (aG ?_));simp only[add_lit,zr];rw[←u];refine J.qt (s':=s.put j false) Q d rfl e8 W U E λv9 e9 R=>?_;refine bZ (m:=i+1) O O ⟨⟨i+1,_,rfl,O,e.trans e9,R,?_,?_⟩,O⟩
  ·have:=k6.next B w
   rwa [ym N d L]at this
  ·rw[lC,ym N d L]at z;exact z
 ·have:i=xs.length:=by omega
  subst this;rw[List.drop_length,List.foldl_nil]at z;subst z;exact hK M e J
theorem NP (h:fC σ F p c ps ss){sl:Sl}{xs:List Int}{X:Rg}(hs:cP sl 1 (xs.map (Value.int .i64)) σ X)(hX:∀b,X b->¬F b)(hi:∀x∈xs,iF x)(hl:xs.length<=1000000)(hcap:sl.len<=sl.cap){R:Sl->Int->Hp->Prop}
 (h0:iT c ss xs≠0->R ⟨none,0,0⟩ (iT c ss xs) σ)
 (h1:iT c ss xs=0->∀o σ',Ext F σ σ'->bR o 2 (iz c (Qc (xs.foldl (fK c) ss))) σ' (λb=>σ.size<=b)->fC σ' (Cut F σ) p c (jt ps (xs.foldl (fK c) ss)) (cK (xs.foldl (fK c) ss))->R o 0 σ') :
 Y9.c (aW p) sl σ R:=by
 refine Y9.o ?_;have hlen:sl.len=xs.length:=by have:=hs.1;simp at this;omega
 refine Vf h (cF rfl ?_);have Q:∀i,(xs.take i).any (λx=>eB c ss x==some false)=true\/¬(xs.take i).Nodup->(∀x∈xs,(eB c ss x).isSome=true)->iT c ss xs=9:=by
  intro i d hall;unfold iT;rw[zA,zB]
  ·rcases d with d|d
   ·rw[zq]at d;obtain⟨x,u,aa⟩:=d;have:xs.any (λx=>eB c ss x==some false)=true:=zq.2 ⟨x,m7 u,aa⟩;rw[this];rfl
   ·have:¬xs.Nodup:=λE=>d (E.sublist (Dl _ _));simp[this]
  ·simp only[rR,np];intro x u;have:=hall x u;cases ht:eB c ss x
   ·rw[ht]at this;cases this
   ·simp
 refine Kh (a:=.b) (bb:=bN) (λ(Q:Bool) (t:Int) B=>∃i:Nat,t=(i:Int)/\i<=xs.length/\B=σ/\(∀x∈xs.take i,(eB c ss x).isSome=true)/\(Q=true↔(xs.take i).any (λx=>eB c ss x==some false)=true\/¬(xs.take i).Nodup)) (λ_ t _=>xs.length-t.toNat)
  ⟨0,rfl,O,rfl,by simp,by simp⟩ ?_
 rintro w t B ⟨i,rfl,hil,rfl,g,D⟩;refine cH (λhlt=>?_) λhge=>?_
 ·have C:i<xs.length:=by omega
  have u:xs[i]?=some xs[i]:=cL C;have ad:=hi xs[i] (zd C);have H:xs.take (i+1)=xs.take i++[xs[i]]:=by rw[zf,u];rfl
  refine hs.qc u (Mt h xs[i] ad (λb d=>cF rfl ?_) λE=>cJ rfl ?_)
  ·have A:∀x∈xs.take (i+1),(eB c ss x).isSome=true:=by
    rw[H];intro x u;rcases zP.1 u with h1|h1
    ·exact g x h1
    ·simp at h1;subst h1;rw[d];rfl
   have fin:∀K:Bool,(K=true↔(xs.take (i+1)).any (λx=>eB c ss x==some false)=true\/¬(xs.take (i+1)).Nodup)->Ar .i64 ((i:Int)+1) λs=>
    (∃j:Nat,s=(j:Int)/\j<=xs.length/\B=B/\(∀x∈xs.take j,(eB c ss x).isSome=true)/\(K=true↔(xs.take j).any (λx=>eB c ss x==some false)=true\/¬(xs.take j).Nodup))/\xs.length-s.toNat<xs.length-(i:Int).toNat:=
    λK ab=>bZ (m:=i+1) O O ⟨⟨i+1,rfl,O,rfl,A,ab⟩,O⟩
   have W:∀y:Int,(xs.take i++[y]).Nodup↔(xs.take i).Nodup/\y∉xs.take i:=λy=>by
    rw[oO];constructor
    ·exact λh=>⟨h.1,λM=>h.2.2 y M y aA rfl⟩
    ·exact λh=>⟨h.1,by simp,λa ha z hz e=>by simp at hz;subst hz;exact h.2 (e▸ha)⟩
   have ex:(xs.take (i+1)).any (λx=>eB c ss x==some false)=true\/¬(xs.take (i+1)).Nodup↔(w=true\/b=false)\/xs[i]∈xs.take i:=by
    rw[H,W,AG,D];simp only[List.any_cons,List.any_nil,xU,nX,d];have V:((some b==some false)=true)↔b=false:=by cases b<;>simp
    rw[V];constructor
    ·rintro((h|h)|h)
     ·exact .inl (.inl (.inl h))
     ·exact .inl (.inr h)
     ·by_cases E:(xs.take i).Nodup
      ·by_cases M:xs[i]∈xs.take i
       ·exact .inr M
       ·exact absurd ⟨E,M⟩ h
      ·exact .inl (.inl (.inr E))
    ·rintro(((h|h)|h)|h)
     ·exact .inl (.inl h)
     ·exact .inr λJ=>h J.1
     ·exact .inl (.inr h)
     ·exact .inr λJ=>J.2 h
   have J1:∀r:Bool,(r=true↔w=true\/b=false)->bY (λK v4=>Ar .i64 ((i:Int)+1) λs=>
    (∃j:Nat,s=(j:Int)/\j<=xs.length/\v4=B/\(∀x∈xs.take j,(eB c ss x).isSome=true)/\(K=true↔(xs.take j).any (λx=>eB c ss x==some false)=true\/¬(xs.take j).Nodup))/\xs.length-s.toNat<xs.length-(i:Int).toNat) λJ2=>
    If r (J2 true B) (eX sl 1 0 (i:Int) (sl.cap:Nat) λY=>Wo.c Y xs[i] B λN v5=>J2 N v5):=by
    intro r hr;refine bY.intro ?_;cases r
    ·refine cF rfl ?_;refine ji (lo:=0) O O O ?_;have L:cP ⟨if sl.cap=0 then sl.a else sl.a.map (·.add (0*1)),i-0,sl.cap-0⟩ 1 ((xs.take i).map (Value.int .i64)) B X:=by
      refine⟨by simp;omega,?_⟩;rcases hs.2 with h0|⟨b',o',cs',hf',ha',hb',hc'⟩
      ·left;have:xs=[]:=by simpa using h0
       simp[this]
      ·refine .inr ⟨b',o',cs',hf',?_,hb',λj hj=>?_⟩
       ·rw[zA O,ha'];simp[add_lit]
       ·simp only[za,zO]at hj;rw[hc' j aE,List.map_take,zY,zB O]
     refine P9 L aE _ (fin _ ?_);rw[ex,←hr];simp
    ·refine cJ rfl (fin true ?_);rw[ex,←hr];simp
   refine bY.intro ?_;cases w
   ·refine cF rfl (J1 _ ?_);cases b<;>simp
   ·exact cJ rfl (J1 _ aA)
  ·have:iT c ss xs=8:=by
    unfold iT;rw[zB];exact zq.2 ⟨xs[i],zd C,by rw[E];rfl⟩
   have h0:=h0 (by rw[this];decide);rw[this]at h0;exact h0
 ·have:i=xs.length:=by omega
  subst this;rw[zm]at *;cases w
  ·refine cF rfl ?_;have hE:iT c ss xs=0:=by
    unfold iT;have S:¬(xs.any (λx=>eB c ss x==some false)=true\/¬xs.Nodup):=λJ=>by have:=D.2 J;cases this
    rw[zA,zA]
    ·simp only[not_or,rR,Decidable.not_not]at S;rw[S.1];simp[S.2]
    ·simp only[rR,np];intro x u;have:=g x u;cases ht:eB c ss x
     ·rw[ht]at this;cases this
     ·simp
   refine O6 (fC.loc.cut h) hs (λb d hf=>hX b d hf.1) hi (Mm hE) hl λv6 e6 P=>?_;refine Ml P λo ac U Z G=>?_;exact h1 hE o ac ((e6.trans U).sub λb d=>d.1) (aI.mono Z λb _ d=>zI e6.1 d) (fC.loc.mono G λb _ d=>d.1)
  ·refine cJ rfl ?_;have h9:=Q xs.length (by rw[zm];exact D.1 rfl) g;have h0:=h0 (by rw[h9];decide);rw[h9]at h0;exact h0
theorem Α {x y:Sl}{a o b o':Nat}{cs ds:List Value}(hx:x.a=some ⟨a,o,none⟩)(hy:y.a=some ⟨b,o',none⟩)(ha:bW σ a cs)(hb:bW σ b ds)(hne:a≠b)(hd:ds≠[]){K:aO}(hK:K false σ) :
 ud Tryz.prog 282 [.slice x.a x.len x.cap,.slice y.a y.len y.cap] σ K:=by
 rintro w rfl;obtain⟨d,ha⟩:=ha;obtain⟨g,hb⟩:=hb;refine⟨false,w,?_,.refl _,hK⟩;rw[hx,hy,run_callFunc_extern Tryz.func282 (by kernel_rfl) (by kernel_rfl) (by kernel_rfl) (e:=Extern.SlicesOverlaps.overlaps #[203,203] #[4]) (by kernel_rfl)];have:=Lib.run_overlaps_apart (P:=Tryz.prog) w 203 4 210 Tryz.underlying203 3 Tryz.sizeOf210
  ⟨a,o,none⟩ ⟨b,o',none⟩ x.len x.cap y.len y.cap hne d g cs.length ds.length (by simp[World.shape?,ha]) (by simp[World.shape?,hb]) (by simpa using hd) (by simp[World.frozen?,ha]) (by simp[World.frozen?,ha])
 rw[this];rfl
theorem SR {Q:Rg}{s:Sl}{xs:List Value}{i m vb:Nat}{x y z:Value}(h:bR s 3 xs σ Q)(hlen:s.len=m)(hm:m<=2000)(hi:i<=m)(hv:bW σ vb [x,y,z])(hvb:¬Q vb)(h1:∀v∈xs,dM v=true)(h2:dM x=true/\dM y=true/\dM z=true)
 {R:Sl->Hp->Prop} (hR:∀s' σ',Ext Q σ σ'->bR s' 3 (xs.take (3*i)++[x,y,z]++xs.drop (3*i)) σ' (Grow Q σ)->R s' σ') :
 Wh.c s (i:Int) ⟨some ⟨vb,0,none⟩,1,1⟩ σ R:=by
 refine Wh.o ?_;have hxl:=h.1;have hcap:s.len<=s.cap:=by
  rcases h.2 with⟨h0,h0'⟩|⟨b,cs,_,_,_,N,_⟩
  ·omega
  ·exact N
 have hrd:Rd σ (some ⟨vb,0,none⟩) [x,y,z]:=by
  intro j u hu;rw[add_lit,zG,hv.cell];exact hu
 have ho:∀v∈[x,y,z],dM v=true:=by simp[h2]
 refine ji O O O (cF rfl (cN (λhe=>?_) λhe=>?_))
 ·have aa:i=m:=by
   have:(i:Int)=((s.len:Nat):Int):=by simpa using he
   omega
  refine h.app (ys:=[x,y,z]) rfl rfl hrd ho aD aD n4 λs' h' hl' e' ho'=>hR s' h' e' ?_
  rw[mc O,List.drop_of_length_le O,km];exact ho'
 ·have aa:i<m:=by
   have:¬(i:Int)=((s.len:Nat):Int):=by simpa using he
   omega
  obtain⟨b,cs,S,ha,G,N,M,ht⟩:∃b cs,Q b/\s.a=some ⟨b,0,none⟩/\bW σ b cs/\s.len<=s.cap/\cs.length=s.cap*3/\cs.take xs.length=xs:=by
   rcases h.2 with⟨h0,_⟩|h
   ·omega
   ·exact h
  have J:vb≠b:=λe=>hvb (e▸S);have w:∀j v,xs[j]?=some v->cs[j]?=some v:=λj v p=>by
   rw[←ht,zY]at p;split at p
   ·exact p
   ·cases p
  refine bZ (m:=m+1) aD O (cH (λhgt=>?_) λhle2=>?_)
  ·-- no room: a new row
   refine ji (lo:=0) O O O (bZ (m:=m+1) aD O (bZ (m:=m+1-i) O O ?_))
   have C:¬s.cap=0:=by omega
   rw[zA C];simp only[ha,zh,add_lit,vC,zr,Nat.sub_zero];refine⟨O,xs.take (3*i),by rw[zO];simp only;omega,?_,by simp[dM],by simp only;omega,by simp only;omega,O,λX=>by simp only at X;omega,λ_ cc P=>?_⟩
   ·intro j v p;rw[add_lit,zG,G.cell];rw[zY]at p;split at p
    ·exact w j v p
    ·cases p
   simp only[dC]at P ⊢;have Y:i+(m+1-i)=m+1:=by omega
   rw[Y]at P ⊢;refine nw λv2 hz2 e2 Z=>?_;have B:∀k,(List.replicate k [Value.int .i64 0,.int .i64 0,.pointer none]).flatten.length=3*k:=λk=>by
    rw[wa,uV,vR];simp;omega
   have g:(xs.take (3*i)).length=3*i:=by rw[zO];omega
   refine ji aD aD aD ?_
   have hv2:=e2.cA hv id;have n1:(if cc=i then(some ⟨σ.size,0,none⟩:Option Addr)else(some ⟨σ.size,0,none⟩:Option Addr).map (·.add (i*3)))=some ⟨σ.size,i*3,none⟩:=by
    have:¬cc=i:=by omega
    rw[zA this];simp[add_lit]
   rw[n1];refine⟨[x,y,z],by simp only;rw[qN O];rfl,?_,ho,?_⟩
   ·intro j u hu;rw[add_lit,zG,hv2.cell];exact hu
   simp only;refine Ug (o:=i*3) (i:=0) Z (by simp only[zJ,g,B,zQ,lU];omega) λv3 o3 U=>?_;refine bZ (m:=i+1) aD O (ji aD aD aD (ji O O O ?_))
   have H:bW v3 b cs:=Wp o3 (e2.cA G id) (by have:=G.lt;omega);have d:(xs.drop (3*i)).length=3*(m-i):=by rw[zt];omega
   refine⟨xs.drop (3*i),by simp only;rw[qN O,d];omega,?_,λv hv=>h1 v (qZ hv),?_⟩
   ·have r:¬s.cap=i:=by omega
    rw[zA r];simp only[ha,zh,add_lit];intro j v p;rw[add_lit,H.cell];rw[zn]at p;have:=w _ _ p;rw[show 0+i*3+j=3*i+j by omega];exact this
   have hbig:(xs.take (3*i)++(List.replicate (m+1-i) [Value.int .i64 0,.int .i64 0,.pointer none]).flatten++(List.replicate (cc-(m+1)) [Value.int .i64 0,.int .i64 0,.pointer none]).flatten).length=3*cc:=by
    simp only[zJ,g,B];omega
   have tk:∀L:List Value,((xs.take (3*i)++(List.replicate (m+1-i) [Value.int .i64 0,.int .i64 0,.pointer none]).flatten++(List.replicate (cc-(m+1)) [Value.int .i64 0,.int .i64 0,.pointer none]).flatten).take (3*i))=xs.take (3*i):=λ_=>by
    rw[kF,pG O,mc O]
   have fin:∀v4,QJ v3 v4 σ.size->bW v4 σ.size ((xs.take (3*i)++[x,y,z])++xs.drop (3*i)++((xs.take (3*i)++(List.replicate (m+1-i) [Value.int .i64 0,.int .i64 0,.pointer none]).flatten++(List.replicate (cc-(m+1)) [Value.int .i64 0,.int .i64 0,.pointer none]).flatten).drop (3*i+3)).drop (3*(m-i)))->R ⟨some ⟨σ.size,0,none⟩,m+1,cc⟩ v4:=by
    intro v4 o4 A;refine hR _ v4 ?_ ⟨?_,.inr ⟨σ.size,_,.inr (zC _),rfl,A,by simp only;omega,?_,?_⟩⟩
    ·exact((e2.to.fE o3.ext λi hi=>by subst hi;exact .inr (zC _)).fE o4.ext λi hi=>by subst hi;exact .inr (zC _))
    ·simp only[zJ,g,d,zQ,lU];omega
    ·simp only[zJ,g,d,zQ,lU,zt,B];omega
    ·rw[kF (xs.take (3*i)++[x,y,z]),←kF,yQ];rfl
   have e3:(xs.take (3*i)++(List.replicate (m+1-i) [Value.int .i64 0,.int .i64 0,.pointer none]).flatten++(List.replicate (cc-(m+1)) [Value.int .i64 0,.int .i64 0,.pointer none]).flatten).take (i*3+0)=xs.take (3*i):=by
    rw[show i*3+0=3*i by omega];exact tk []
   rw[e3]at U;have E:(xs.take (3*i)++[x,y,z]++(xs.take (3*i)++(List.replicate (m+1-i) [Value.int .i64 0,.int .i64 0,.pointer none]).flatten++(List.replicate (cc-(m+1)) [Value.int .i64 0,.int .i64 0,.pointer none]).flatten).drop (i*3+0 + [x,y,z].length)).length=3*cc:=by
    simp only[zJ,zt,g,B,zQ,lU];omega
   by_cases r:cc=i+1
   ·exfalso;omega
   ·rw[zA r];simp only[zh,add_lit,zG];refine Ug (o:=(i+1)*3) (i:=0) U (by rw[E,d];omega) λv4 o4 A=>fin v4 o4 ?_;have q1:(i+1)*3+0=(xs.take (3*i)++[x,y,z]).length:=by rw[zJ,g];simp;omega
    have q2:(i+1)*3+0+(xs.drop (3*i)).length=(xs.take (3*i)++[x,y,z]).length+3*(m-i):=by rw[d,q1]
    rw[q2,q1,yQ,List.drop_append]at A
    ·rw[List.drop_of_length_le (show(xs.take (3*i)++[x,y,z]).length<=(xs.take (3*i)++[x,y,z]).length+3*(m-i) by omega),qn]at A;have q3:i*3+0 + [x,y,z].length=3*i+3:=by simp;omega
     rw[q3]at A;have q4:(xs.take (3*i)++[x,y,z]).length+3*(m-i)-(xs.take (3*i)++[x,y,z]).length=3*(m-i):=by omega
     rw[q4]at A;exact A
    ·rfl
  ·-- room: the rest moves
   have hle3:m+1<=s.cap:=by omega
   have C:¬s.cap=0:=by omega
   have r:¬s.cap=i:=by omega
   refine bZ (m:=m+1) aD O (ji (lo:=0) O O O ?_)
   rw[zA C];simp only[ha,zh,add_lit,vC,zr,Nat.sub_zero];refine bZ (m:=i+1) aD O (ji aD aD aD ?_)
   have D:cs.take (3*m)=xs:=by rw[←hlen,show 3*s.len=xs.length by omega];exact ht
   have W:∃o',(if s.cap=i+1 then(some ⟨b,0,none⟩:Option Addr)else(some ⟨b,0,none⟩:Option Addr).map (·.add ((i+1)*3)))=some ⟨b,o',none⟩:=by
    split
    ·exact⟨0,rfl⟩
    ·exact⟨_,by simp[add_lit];rfl⟩
   obtain⟨o',W⟩:=W;refine Α (x:=⟨some ⟨vb,0,none⟩,1,1⟩) (a:=vb) (o:=0) (b:=b) rfl W hv G J (λe=>by rw[e]at M;simp at M;omega) (cJ rfl ?_);refine bZ (m:=i+1) aD O (ji aD aD aD (ji aD aD aD ?_))
   have K:¬s.cap=i+1:=by omega
   rw[zA K,zA r];simp only[zh,add_lit,zG];have d:(xs.drop (3*i)).length=3*(m-i):=by rw[zt];omega
   refine⟨xs.drop (3*i),by simp only;rw[Nat.min_eq_right O,d];omega,?_,λv hv=>h1 v (qZ hv),?_⟩
   ·intro j v p;rw[add_lit,G.cell];rw[zn]at p;have:=w _ _ p;rw[show i*3+j=3*i+j by omega];exact this
   refine Ug (o:=(i+1)*3) (i:=0) G (by rw[d];omega) λv3 o3 U=>?_;refine ji aD aD aD ?_
   rw[zA r];simp only[zh,add_lit,zG];have V:=Wp o3 hv J;refine⟨[x,y,z],by simp only;rw[qN O];rfl,?_,ho,?_⟩
   ·intro j u hu;rw[add_lit,zG,V.cell];exact hu
   have hl3:(cs.take ((i+1)*3+0)++xs.drop (3*i)++cs.drop ((i+1)*3+0+(xs.drop (3*i)).length)).length=cs.length:=by
    simp only[zJ,zO,zt,d];omega
   refine Ug (o:=i*3) (i:=0) U (by rw[hl3];simp;omega) λv4 o4 A=>?_;have a1:(cs.take ((i+1)*3+0)).length=3*i+3:=by rw[zO];omega
   have g:(xs.take (3*i)).length=3*i:=by rw[zO];omega
   have p1:(cs.take ((i+1)*3+0)++xs.drop (3*i)++cs.drop ((i+1)*3+0+(xs.drop (3*i)).length)).take (i*3+0)=xs.take (3*i):=by
    rw[kF,pG O,Ag,qN O,←D,Ag,qN O]
    congr 1;omega
   have p2:(cs.take ((i+1)*3+0)++xs.drop (3*i)++cs.drop ((i+1)*3+0+(xs.drop (3*i)).length)).drop (i*3+0 + [x,y,z].length)=xs.drop (3*i)++cs.drop ((i+1)*3+0+(xs.drop (3*i)).length):=by
    rw[kF,List.drop_left'];rw[a1];simp;omega
   rw[p1,p2,←kF]at A;refine hR _ v4 ((Ext.eR (F:=Q) o3 S).trans (Ext.eR o4 S)) ⟨?_,.inr ⟨b,_,.inl S,rfl,A,aD,?_,?_⟩⟩
   ·simp only[zJ,g,zQ,lU,d];omega
   ·simp only[zJ,g,zt,zQ,lU,d];omega
   ·rw[yQ];rfl
def ZB (ss:List cI)(st:Nat):Nat:=(ss.takeWhile (λs=>s.st<st)).length
theorem Gb (l:List cI)(P:cI->Bool):l.takeWhile P=l.take (l.takeWhile P).length/\l.dropWhile P=l.drop (l.takeWhile P).length:=by
 induction l with
 | nil=>simp
 | cons x l ih=>
  simp only[wD,Dw];cases P x
  ·simp
  ·simp only[zV,zQ,sL,Av];exact⟨by rw[←ih.1],ih.2⟩
theorem xk (c:bX)(ss:List cI)(st:Nat):iC c ss st=ss.take (ZB ss st)++⟨st,List.replicate c.n false⟩::ss.drop (ZB ss st):=by
 have:=Gb ss (λs=>decide (s.st<st));unfold iC ZB;rw[this.2,←this.1]
theorem GH (hs:ss.Pairwise (λa b=>a.st<b.st))(st:Nat):ZB ss st<=ss.length/\∀(i:Nat) s,ss[i]?=some s->(s.st<st↔i<ZB ss st):=by
 unfold ZB
 induction ss with
 | nil=>simp
 | cons x ss ih=>
  have e:=mA.1 hs;obtain⟨j,g⟩:=ih e.2;simp only[wD];by_cases hx:x.st<st
  ·simp only[hx,decide_true,zV,zQ];refine⟨O,λi s d=>?_⟩;cases i with
   | zero=>simp at d;subst d;simp[hx]
   | succ i=>have:=g i s (by simpa using d);omega
  ·simp only[hx,decide_false,zc,zz,lU,vM,Nat.not_lt_zero,iff_false,tU];intro i s d;cases i with
   | zero=>simp at d;subst d;exact hx
   | succ i=>
    have:=e.1 s (zE (i:=i) (by simpa using d));omega
theorem WiK (h:fC σ F p c ps ss){σ1:Hp}(e1:bO σ σ1){sl:Sl}{rb:Nat}{cs:List Value}(hl:sl.len=ss.length)(hE:ss≠[]->s7 σ F p ps ss sl rb cs)(st:Nat)(hst:st<=1024){R:Int->Bool->Hp->Prop}(hR:∀σ' b,bO σ1 σ'->R (ZB ss st:Int) b σ') :
 Wb.c sl (st:Int) ⟨258,#[],#[]⟩ σ1 R:=by
 refine Wb.o ?_;have U:=h.lA;obtain⟨L,jZ⟩:=GH h.lp st;have z:∀(k:Nat) (x:Nat×Nat) s (v:Hp) (K:aN),ps[k]?=some x->ss[k]?=some s->bO σ1 v->(∀D,bO v D->K ((s.st:Int)-(st:Int)) D) →
  V1 Tryz.prog ⟨258,#[],#[]⟩ [.agg #[.int .i64 (s.many:Int),.int .i64 (s.st:Int),.pointer (some ⟨x.1,0,none⟩)],.int .i64 (st:Int)] [.one bN] v K:=by
  intro k x s v K y g ev hK;refine Gf (all := #[.agg #[.int .i64 (s.many:Int),.int .i64 (s.st:Int),.pointer (some ⟨x.1,0,none⟩)],.int .i64 (st:Int)]) (by kernel_rfl) aA ?_;refine YY.o ?_;have hf:=(h.sp k x s y g).fit;refine nw (cs:=[.int .i64 (s.many:Int),.int .i64 (s.st:Int),.pointer (some ⟨x.1,0,none⟩)]) λv1 hz e M=>M.gD rfl (ar O O (hK v1 e))
 refine Kh (a:=bN) (bb:=bN) (λ(i j:Int) v=>∃a b:Nat,i=(a:Int)/\j=(b:Int)/\a<=ZB ss st/\ZB ss st<=b/\b<=ss.length/\bO σ1 v) (λi j _=>j.toNat-i.toNat) ⟨0,ss.length,rfl,by rw[hl],O,L,O,Ext.refl _ _⟩ ?_;rintro i j v ⟨a,b,rfl,rfl,V,M,A,ev⟩;have B:bO σ v:=e1.trans ev;refine cH (λX=>?_) λZ=>?_
 ·have u:ss≠[]:=by rintro rfl;simp at A;omega
  have E:=hE u;refine bZ (m:=a+b) O O ?_;have W:IntKind.u64.wrap ((a+b:Nat):Int)=((a+b:Nat):Int):=by
   unfold IntKind.wrap;simp[IntKind.bits,IntKind.signed];omega
  refine yx ?_;rw[W];refine nn O ?_;have J:min (1:Int).toNat IntKind.u64.bits=1:=by decide
  rw[J,Ju];have C:(((a+b:Nat):Int)/2^1)=(((a+b)/2:Nat):Int):=by omega
  refine bZ (m:=(a+b)/2) C O ?_;have d:(a+b)/2<ss.length:=by omega
  obtain⟨x,s,y,g,Y⟩:=h.ju d;have w:=QD y g;rw[E.a];refine ix O O ?_;rw[add_lit,show 0+(((a+b)/2:Nat):Int).toNat*3=3*((a+b)/2) by omega];refine tC (e:=0) (B.cA E.cA id) (E.get w.1) (E.get w.2.1) (E.get w.2.2) (z _ x s v _ y g ev λD G=>?_);have r:=jZ _ s g;show If (decide (((s.st:Int)-(st:Int))<0)) _ _;refine cH (λP=>?_) λS=>?_
  ·exact bZ (m:=(a+b)/2+1) O O ⟨⟨_,b,rfl,rfl,by have:=r.1 O;omega,M,A,ev.trans G⟩,O⟩
  ·exact⟨⟨a,_,rfl,rfl,V,by
    apply Classical.byContradiction;intro hc;have:=r.2 O;omega,O,ev.trans G⟩,O⟩
 ·have H:a=ZB ss st:=by omega
  subst H;refine bY.intro (cH (λQ=>?_) λN=>hR v _ ev);have d:ZB ss st<ss.length:=by omega
  have u:ss≠[]:=by rintro rfl;simp at d
  have E:=hE u;obtain⟨x,s,y,g,Y⟩:=h.ju d;have w:=QD y g;rw[E.a];refine ix O O ?_;rw[add_lit,show 0+(ZB ss st:Int).toNat*3=3*ZB ss st by omega];refine tC (e:=0) (B.cA E.cA id) (E.get w.1) (E.get w.2.1) (E.get w.2.2) (z _ x s v _ y g ev λD G=>hR D _ (ev.trans G))
theorem O0 (h:fC σ F p c ps ss){st:Nat}(hf:st+c.aF<=1024){R:aN}(h9:pa c ss st=9->∀σ',bO σ σ'->R 9 σ')
 (h0:pa c ss st=0->∀σ' ps',Ext F σ σ'->fC σ' (Grow F σ) p c ps' (iC c ss st)->R 0 σ'):Zg.c (aW p) (st:Int) σ R:=by
 refine Zg.o ?_;have h:=fC.loc.cut h;obtain⟨sl,d,hl,hrow,rb,cs,hE⟩:=h.nN;have hfew:=h.lA;have hc:=h.ok;have hck:=hc;unfold bX.ok at hck;refine Vf h (cF rfl (aG (d.gD rfl (d.gD rfl (d.gD rfl ?_)))));refine MW hc hf λv1 C M e1 hpn hqn N=>cF rfl (aG ((e1.cA d id).rS rfl ?_));have hplt:=d.lt;refine ZP (a:=bN) (λ(t:Int) v=>∃i:Nat,t=(i:Int)/\i<=ss.length/\bO v1 v/\∀(j:Nat) s,j<i->ss[j]?=some s->¬max s.st st-min s.st st<c.aF) (λt _=>ss.length-t.toNat) ⟨0,rfl,O,Ext.refl _ _,λj s z=>O⟩ ?_;rintro t v ⟨i,rfl,Y,ev,W⟩;have w:=e1.trans ev;refine cH (λhlt=>?_) λhge=>?_
 ·simp only at hlt;have hi':i<ss.length:=by omega
  obtain⟨E,hcap,hcl⟩:=hE (by rintro rfl;simp at hi');obtain⟨x,s,y,g,hS⟩:=h.ju hi';have eg:=QD y g;have hsf:=hS.fit;rw[E.a];refine ix O O ?_;rw[add_lit,show 0+(i:Int).toNat*3=3*i by omega];refine tC (e:=0) (w.cA E.cA id) (E.get eg.1) (E.get eg.2.1) (E.get eg.2.2) (AO λv6 e6 b6=>b6.gD rfl (b6.gD rfl ?_));have hd:(if(st:Int)>(s.st:Int)then(st:Int)else(s.st:Int))-(if(st:Int)<(s.st:Int)then(st:Int)else(s.st:Int))=((max s.st st-min s.st st:Nat):Int):=by
   split<;>split<;>omega
  refine bZ (m:=max s.st st-min s.st st) hd O (aG (((w.trans e6).cA d id).gD rfl ?_));refine cH (λhlt2=>h9 ?_ _ (w.trans e6)) λhge2=>?_
  ·unfold pa;rw[zB];exact zq.2 ⟨s,zE g,by simpa using(by omega:max s.st st-min s.st st<c.aF)⟩
  ·refine bZ (m:=i+1) O O ⟨⟨i+1,rfl,O,ev.trans e6,λj s' z V=>?_⟩,O⟩;by_cases e:j=i
   ·subst e;rw[g]at V;cases V;omega
   ·exact W j s' O V
 ·have hii:i=ss.length:=by simp only at hge;omega
  subst hii;have hE0:pa c ss st=0:=by
   unfold pa;rw[zA];simp only[rR,np,zR];intro s g;obtain⟨j,z⟩:=zL g;exact W j s (cS.1 z).1 z
  refine aG ((w.cA d id).rS rfl ?_);refine WiK h w hl (λQ=>(hE Q).1) st O λv7 bb e7=>aG (((w.trans e7).cA d id).rS rfl ?_);have ab:=w.trans e7;obtain⟨hp1,jZ⟩:=GH h.lp st;refine nw (cs:=[.int .i64 0,.int .i64 st,.pointer (some ⟨C,0,none⟩)]) λv8 hz8 e8 hb8=>?_;have J:=ab.trans e8;have S:=aI.bK hrow J;have hsz7:=ab.1;refine SR S hl O hp1 hb8 (λu=>by have:=u.1.2;omega) IU ⟨rfl,rfl,rfl⟩ λs' v9 e9 hr9=>aG ?_;have hb9:=e9.cA (J.cA d id) λu=>u.2.1 rfl;refine hb9.s1 aA λX fW hb10=>?_;have H:=h.len;have B:=h.nd;simp only[zo]at B;have hlt:=N.lt;have hsz1:=(ev.trans e7).trans e8 |>.1;have A:∀b∈eI ps,b<σ.size:=λb d=>(h.fb b d).2;have ac:∀{a b s'},iq v8 a b c s'->¬(Cut F σ a/\a≠p/\a∉eI ps)->¬(Cut F σ b/\b≠p/\b∉eI ps)->a≠p->b≠p->iq X a b c s':=λhS n1 n2 m1 m2=>(hS.bU e9 n1 n2).bU fW.ext m1 m2;have hnew:=((N.bK ev).bK e7).bK e8;have aa:dV (ps.take (ZB ss st)++(C,M)::ps.drop (ZB ss st)) (ss.take (ZB ss st)++⟨st,List.replicate c.n false⟩::ss.drop (ZB ss st)) =
   (dV ps ss).take (3*ZB ss st)++[.int .i64 0,.int .i64 st,.pointer (some ⟨C,0,none⟩)]++(dV ps ss).drop (3*ZB ss st):=by
   rw[Vw (by simp[H])];have r:dV ps ss=dV (ps.take (ZB ss st)) (ss.take (ZB ss st))++dV (ps.drop (ZB ss st)) (ss.drop (ZB ss st)):=by
    rw[←Vw (by simp[H]),nS,nS]
   have h2:(dV (ps.take (ZB ss st)) (ss.take (ZB ss st))).length=3*ZB ss st:=by rw[Kd (by simp[H]),zO];omega
   rw[r,yQ h2,List.drop_left' h2,kF];have:cI.many ⟨st,List.replicate c.n false⟩=0:=by simp[cI.many,AJ]
   simp[dV,this]
  refine h0 hE0 X (ps.take (ZB ss st)++(C,M)::ps.drop (ZB ss st)) ?_ ?_
  ·refine(((bO.to J).trans (e9.sub λb d=>d.1.1))).trans (fW.ext.sub λb d=>d▸h.fp.1)
  ·have D:(eI (ps.take (ZB ss st)++(C,M)::ps.drop (ZB ss st))).Perm (C::M::eI ps):=by
    have:eI ps=eI (ps.take (ZB ss st))++eI (ps.drop (ZB ss st)):=by
     conv=>lhs;rw[←nS (ZB ss st) ps]
     simp only[eI,CW]
    rw[this];have h3:eI (ps.take (ZB ss st)++(C,M)::ps.drop (ZB ss st))=eI (ps.take (ZB ss st))++C::M::eI (ps.drop (ZB ss st)):=by simp[eI]
    rw[h3];exact List.perm_middle.trans ((List.perm_middle).cons C)
   have P:∀b,b∈eI (ps.take (ZB ss st)++(C,M)::ps.drop (ZB ss st))↔b=C\/b=M\/b∈eI ps:=by
    intro b;rw[D.mem_iff];simp
   refine⟨⟨s',hb10,?_⟩,λi x s y g=>?_,.inl h.fp.1,λb d=>?_,?_,?_,hc,?_⟩
   ·rw[xk,aa];refine aI.bU (aI.mono hr9 λb _ d=>?_) fW.ext λb _ d he=>d.2.1 he;rw[P];rcases d with d|d
    ·exact⟨.inl d.1.1,d.2.1,λu=>by
      rcases u with h|h|h
      ·have:=d.1.2;omega
      ·have:=d.1.2;omega
      ·exact d.2.2 h⟩
    ·exact⟨.inr O,O,λu=>by
      rcases u with h|h|h
      ·omega
      ·omega
      ·have:=A b h;omega⟩
   ·rw[xk]at g;have L:(ps.take (ZB ss st)).length=ZB ss st:=by rw[zO];omega
    have K:(ss.take (ZB ss st)).length=ZB ss st:=by rw[zO];omega
    have Z:∀j:Nat,ps[j]?=some x->ss[j]?=some s->iq X x.1 x.2 c s:=λj r h2=>by
     have G:=QC r;exact ac ((h.sp j x s r h2).bK J) (λu=>u.2.2 G.1) (λu=>u.2.2 G.2) (λe=>B.1 (e▸G.1)) (λe=>B.1 (e▸G.2))
    rcases qD i (ZB ss st)with hlt'|heq|hgt
    ·rw[zg O,zY,zB hlt']at y g;exact Z i y g
    ·rw[zi O]at y g;rw[L,heq,pW]at y;rw[K,heq,pW]at g;simp at y g;subst y;subst g;exact ac hnew (λu=>by have:=u.1.2;simp only at this;omega) (λu=>by have:=u.1.2;simp only at this;omega) aC aC
    ·rw[zi O]at y g;rw[L]at y;rw[K]at g;obtain⟨k,hk⟩:∃k,i-ZB ss st=k+1:=⟨i-ZB ss st-1,O⟩;rw[hk,AP,zn]at y g;exact Z _ y g
   ·rcases(P b).1 d with r|r|r
    ·subst r;exact .inr hpn
    ·subst r;exact .inr hqn
    ·exact .inl (h.fb b r).1
   ·simp only[zo];refine⟨λG=>?_,?_⟩
    ·rcases(P p).1 G with r|r|r
     ·omega
     ·omega
     ·exact B.1 r
    ·rw[D.nodup_iff];simp only[zo,zT,not_or];have Q:=N.ne;exact⟨⟨Q,λG=>by have:=A _ G;omega⟩,λG=>by have:=A _ G;omega,B.2⟩
   ·rw[xk];simp[H]
   ·rw[xk];rw[oe];have U:=h.lp;refine⟨U.sublist (Dl _ _),mA.2 ⟨λs g=>?_,U.sublist (DR _ _)⟩,λa ha b d=>?_⟩
    ·obtain⟨j,z⟩:=zL g;rw[zn]at z;have r:=jZ _ s z;have h2:s.st≠st:=λe=>by
      have:=W (ZB ss st+j) s (cS.1 z).1 z;rw[e]at this;simp at this;omega
     show st<s.st;omega
    ·obtain⟨i,Y⟩:=zL ha;rw[zY]at Y;split at Y
     ·rename_i hlt';have hat:=(jZ i a Y).2 hlt';rcases zT.1 d with rfl|d
      ·exact hat
      ·obtain⟨j,z⟩:=zL d;rw[zn]at z;obtain⟨hi1,hi2⟩:=cS.1 Y;obtain⟨hj1,hj2⟩:=cS.1 z;have:=zy.1 U i (ZB ss st+j) hi1 hj1 O;rw[hi2,hj2]at this;exact this
     ·cases Y
end Go.Ar
namespace Go.Proofs
open Go.Vc
set_option maxRecDepth 100000
def W4.h:Hn:=.q .o1 (.q (.q .o3 .aK) (.q .o6 .l))
theorem W4.o {a:R2}{b:Hp}{c:Sl->Hp->Prop}(d:WL.c a b λd e=>If (!d) (c ⟨none,0,0⟩ e) (bE a 3 e λg=>XC.c g e λh i=>c h i)):W4.c a b c:=Wa Tryz.func108 (x:=W4.h) (R0 d)
def WL.h:Hn:=.q .o1 (.q (.cV (.seq [.op,.op,.op,.dA true 5 (RI.ops 5),.op])) .l)
theorem WL.o {a:R2}{b:Hp}{c:aO}(d:bY (λd e=>c d e) λf=>If (!a.isNone) (bD a 0 b λh=>f (decide (h>0)) b) (f false b)):WL.c a b c:=Wa Tryz.func139 (x:=WL.h) (R0 d)
def Z4.h:Hn:=.q .o2 (.q (.q (.cV (.seq [.op,.op,.op,.dA false 2 [.op,.op],.op,.dA false 2 [.op,.op],.op,.dA false 2 [.op,.op]])) .aJ) (.q .o6 .l))
theorem Z4.o {a b:Int}{c:Hp}{d:Option Addr->Int->Hp->Prop}(e:bY (λe f=>bY (λg h=>bY (λi j=>If i (d none 1 j) (aV #[.I a,.I b,.I 0,.slice none 0 0] 215 j λk l=>d (some k) 0 l)) λm=>If g (m true h) (m (decide (b>8)) h)) λn=>If e (n true f) (n (decide (b<0)) f)) λo=>If (a<1) (o true c) (o (decide (a>32)) c)):Z4.c a b c d:=Wa Tryz.func157 (x:=Z4.h) (R0 e)
def Xj.h:Hn:=.q .o1 (.q .o4 .l)
theorem Xj.o {a:R2}{b:Hp}{c:Sl->Hp->Prop}(d:XO.c a ⟨245,#[],#[]⟩ b λd e=>c d e):Xj.c a b c:=Wa Tryz.func198 (x:=Xj.h) (R0 d)
def Wz.h:Hn:=.q .o2 (.q (.k (.q .o4 (.c .aL (.q .o7 .aJ)))) (.q .o7 (.q .o8 (.q .fW (.q .fW (.q .o3 .l))))))
theorem Wz.o {a:R2}{b:Hp}{c:Sl->Int->Hp->Prop}(d:WL.c a b λd e=>If (!d) (c ⟨none,0,0⟩ 5 e) (bE a 3 e λg=>If (((g.len:Nat):Int)==0) (c ⟨none,0,0⟩ 4 e) (bQ a λh=>aX h 3 e λi=>bL (((i.len:Nat):Int)-1) λj=>bE a 3 e λl=>Ix l.a l.len j 1 λm=>jB m e λn=>bQ a λo=>aX o 3 e λp=>eX p 1 0 j (p.cap:Nat) λq=>bQ a λr=>aR r 3 (.slice q.a q.len q.cap) e λs=>bD a 2 s λu=>bQ a λv=>aR v 2 (.I (if j<u then j else u)) s λw=>c n 0 w))):Wz.c a b c:=Wa Tryz.func213 (x:=Wz.h) (R0 d)
def XO.h:Hn:=.q .o2 (.q (.q .o3 .aK) (.q .o5 (.q .o8 (.q (.o 11) (.q .o9 .aL)))))
theorem XO.o {a:R2}{b:Fv}{c:Hp}{d:Sl->Hp->Prop}(e:aV #[.func (.func b.f) b.first b.captured] 325 c λe f=>WL.c a f λg h=>If (!g) (d ⟨none,0,0⟩ h) (B9 (e.add 0) h λi=>V1 Tryz.prog i [.pointer a] [.I] h λj k=>bE a 3 k λm=>eX m 1 0 j j λn=>bQ a λo=>aX o 3 k λp=>eX p 1 j (p.len:Nat) (p.cap:Nat) λq=>WP.c q k λr s=>bQ a λt=>aR t 3 (.slice r.a r.len r.cap) s λu=>bE a 3 u λw=>bQ a λx=>aR x 2 (.I ((w.len:Nat):Int)) u λy=>d n y)):XO.c a b c d:=Wa Tryz.func244 (x:=XO.h) (R0 e)
def XM.h:Hn:=.q .o1 (.q .o7 .l)
theorem XM.o {a:R2}{b:Hp}{c:aN}(d:bQ a λd=>aQ d 2 b λe=>bL (e+1) λf=>Nz 2<|bL (f.tdiv 2) λg=>c g b):XM.c a b c:=Wa Tryz.func245 (x:=XM.h) (R0 d)
def Xb.h:Hn:=.q .o2 (.q (.k (.q .o4 (.c .aL (.q .o8 (.c .aL (.q (.oq 11) .aJ)))))) (.q (.cV (.held true [8,11] (.tk [0,1,2,3,4,5] (.all [(6,.all [(7,.all [(8,.take 9 (.take 10 (.all [(11,.done)])))])])])))) .aL))
theorem Xb.o {a:R2}{b:Sl}{c:Hp}{d:Bool->Int->Hp->Prop}(e:WL.c a c λe f=>If (!e) (d false 5 f) (bD a 0 f λh=>If (((b.len:Nat):Int) != h) (d false 1 f) (bE a 3 f λj=>bD a 1 f λl=>If (((j.len:Nat):Int)≥l) (d false 0 f) (dW f λm=>bQ a λn=>aT m n 3 λo=>WG.c b f λp q=>And (m q) <| aV #[.slice p.a p.len p.cap] 69 q λr s=>And (m s) <| App o 1 24 69 [.slice none 0 0] ⟨some r,1,1⟩ s λt u=>bQ a λv=>aR v 3 (.slice t.a t.len t.cap) u λw=>d true 0 w)))):Xb.c a b c d:=Wa Tryz.func264 (x:=Xb.h) (R0 e)
end Go.Proofs
namespace Go.Ar
open Go Go.Vc Go.Proofs
variable {σ:Hp}{F:Rg}{p batch room:Nat}{t:fU}
def nQ (s:Sl):Value:=.slice s.a s.len s.cap
def Wv (xs:List Int):List Value:=xs.map (Value.int .i64)
theorem Vj {l:List Int}:∀v∈Wv l,dM v=true:=by
 intro v hv;simp only[Wv,zD]at hv;obtain⟨x,_,rfl⟩:=hv;rfl
theorem Sd {l:List Sl}:∀v∈l.map nQ,dM v=true:=by
 intro v hv;simp only[zD]at hv;obtain⟨x,_,rfl⟩:=hv;rfl
def pd (sls:List Sl)(bs:List (List Int))(σ:Hp)(D:Rg):Prop:=sls.length=bs.length/\∀(i:Nat) s xs,sls[i]?=some s->bs[i]?=some xs->cP s 1 (Wv xs) σ D/\s.len<=s.cap
theorem pd.loc (sls:List Sl)(bs:List (List Int)):dR (pd sls bs):=λσ j F G h e g=>⟨h.1,λi s d a b=>⟨cP.loc _ _ _ _ _ _ _ (h.2 i s d a b).1 e g,(h.2 i s d a b).2⟩⟩
def Dj (sls:List Sl):Prop:=sls.Pairwise λs t=>∀a a',s.a=some a->t.a=some a'->a.block≠a'.block
def lE (s:Sl)(b:Nat):Prop:=∃a,s.a=some a/\a.block=b
theorem _root_.Go.Vc.cP.mW {s:Sl}{sz:Nat}{xs:List Value}{D:Rg}(h:cP s sz xs σ D):cP s sz xs σ λb=>D b/\lE s b:=
 ⟨h.1,h.2.imp id λ⟨b,o,e,d,a,r⟩=>⟨b,o,e,⟨d,_,a,rfl⟩,a,r⟩⟩
theorem _root_.Go.Vc.cP.cA {s:Sl}{sz:Nat}{xs:List Value}{D:Rg}(h:cP s sz xs σ D)(hx:xs≠[]){b:Nat}(hb:lE s b):D b/\b<σ.size:=by
 rcases h.2 with h0|⟨b',o,cs,hq,ha,hc,_⟩
 ·exact absurd h0 hx
 ·obtain⟨a,d,rfl⟩:=hb;rw[ha]at d;cases d;exact⟨hq,hc.lt⟩
theorem Dj.snoc {sls:List Sl}{bs:List (List Int)}{D:Rg}{z:Nat}{s':Sl}{xs:List Value}{v:Hp}(h:Dj sls)(hB:pd sls bs σ D)(hne:∀xs∈bs,xs≠[])(hz:∀b,D b->b<z)(hs:bR s' 1 xs v λb=>z<=b)(hx:xs≠[]):Dj (sls++[s']):=by
 refine oe.2 ⟨h,yq _ _,λs e u j a r p w=>?_⟩;rw[zS]at j;subst j;obtain⟨i,m⟩:=zL e;have g:=(cS.1 m).1;have d:bs[i]?=some (bs[i]'(by rw[←hB.1];exact g)):=cL _;have x:=((hB.2 i s _ m d).1.cA (by simp only[Wv,ne_eq,yS];exact hne _ (zE d)) ⟨a,p,rfl⟩).1;have y:=(hs.fP.cA hx ⟨r,w,rfl⟩).1;have:=hz _ x;omega
structure iA (σ:Hp) (F:Rg) (p batch room:Nat) (t:fU):Prop where
 mem:∃(sl:Sl) (sls:List Sl) (D:Rg),bW σ p [.int .i64 (batch:Int),.int .i64 (room:Int),.int .i64 (t.low:Int),.slice sl.a sl.len sl.cap]/\bR sl 1 (sls.map nQ) σ (λb=>F b/\b≠p/\¬D b)/\pd sls t.bs σ D/\(∀b,D b->F b/\b≠p)/\Dj sls
 fp:F p
 b1:1<=batch/\batch<=32
 r1:room<=8
 lA:t.bs.length<=room
 low:t.low<=t.bs.length
 all:∀xs∈t.bs,xs.length=batch
theorem iA.loc:dR λσ F=>iA σ F p batch room t:=λσ x F G h m d=>by
 obtain⟨sl,j,D,a,u,s,i,w⟩:=h.mem;refine⟨⟨sl,j,λb=>D b/\b<σ.size,?_,?_,?_,λb a=>⟨(d b a.2 (i b a.1).1).1,(i b a.1).2⟩,w⟩,(d p a.lt h.fp).1,h.b1,h.r1,h.lA,h.low,h.all⟩
 ·obtain⟨e,r⟩:=a;exact⟨e,(d p (bW.lt ⟨e,r⟩) h.fp).2.trans r⟩
 ·exact bR.loc _ _ _ _ _ _ _ u m λb a g=>⟨⟨(d b a g.1).1,g.2.1,λhd=>g.2.2 hd.1⟩,(d b a g.1).2⟩
 ·exact pd.loc _ _ _ _ _ _ s m λb a hd=>⟨⟨hd,a⟩,(d b a (i b hd).1).2⟩
theorem iA.bK {σ':Hp}(h:iA σ F p batch room t)(e:bO σ σ'):iA σ' F p batch room t:=dR.bK iA.loc h e
theorem HZ (h:iA σ F p batch room t){R:aO}(hR:R true σ):WL.c (aW p) σ R:=by
 refine WL.o ?_;obtain⟨sl,b,D,a,_⟩:=h.mem;have:=h.b1;refine bY.intro (cJ rfl (aG (a.rI rfl ?_)));rw[zU O];exact hR
theorem _root_.Go.Vc.cP.Au {s:Sl}{F:Rg}{sls:List Sl}(h:cP s 1 (sls.map nQ) σ F){i:Nat}{x:Sl}(hx:sls[i]?=some x){K:Sl->Prop}(hK:K x):Ix s.a s.len (i:Int) 1 λa=>jB a σ K:=by
 have m:=(cS.1 hx).1;obtain⟨b,o,e,d⟩:=h.cell (j:=i) (v:=nQ x) (by simp[hx]);have g:=h.1;rw[za]at g;rw[e];refine ix O O ?_;rw[add_lit];exact ox (by simpa[nQ]using d) hK
theorem Se (h1:1<=batch)(h2:batch<=32)(h3:room<=8){R:Option Addr->Int->Hp->Prop}(hR:∀σ' p,bO σ σ'->σ.size<=p->p<σ'.size->iA σ' (· = p) p batch room ⟨0,[]⟩->R (some ⟨p,0,none⟩) 0 σ'):Z4.c batch room σ R:=by
 refine Z4.o ?_;refine bY.intro (fH O (bY.intro (fH O (bY.intro (fH O (fH O ?_))))));refine nw (cs:=[.int .i64 batch,.int .i64 room,.int .i64 0,.slice none 0 0]) λv d e a=>?_;exact hR v _ e (zC _) O ⟨⟨⟨none,0,0⟩,[],λ_=>False,a,bR.nil _ _ _ _,⟨rfl,λi s g h=>by simp at h⟩,λb h=>h.elim,List.Pairwise.nil⟩,rfl,⟨h1,h2⟩,h3,by simp,by simp,by simp⟩
theorem Nu (h:iA σ F p batch room t){sl:Sl}{xs:List Int}{X:Rg}(hs:cP sl 1 (Wv xs) σ X)(hl:xs.length<=1000000){R:Bool->Int->Hp->Prop}(h1:xs.length≠batch->R false 1 σ)(h2:xs.length=batch->room<=t.bs.length->R false 0 σ)
 (h3:xs.length=batch->t.bs.length<room->∀σ',Ext F σ σ'->iA σ' (Grow F σ) p batch room {t with bs:=t.bs++[xs]}->R true 0 σ'):Xb.c (aW p) sl σ R:=by
 refine Xb.o ?_;have h:=iA.loc.cut h;obtain⟨E,x,D,d,hr,w,M,hJ⟩:=h.mem;have r:sl.len=xs.length:=by have:=hs.1;simp[Wv]at this;omega
 have hso:E.len=t.bs.length:=by have:=hr.1;rw[za,w.1]at this;omega
 have hr8:=h.r1;have hb1:=h.b1;refine HZ h (cF rfl (aG (d.rI rfl ?_)));rw[uW];refine cN (λA=>h1 (by rw[←r];simpa using A)) λY=>?_;have g:xs.length=batch:=by rw[←r];simpa using Y
 refine aG (d.rS rfl (aG (d.rI rfl (cH (λW=>h2 g (by simp only at W;omega)) λU=>?_))));simp only at U;refine⟨λh'=>bW h' p [.int .i64 (batch:Int),.int .i64 (room:Int),.int .i64 (t.low:Int),.slice E.a E.len E.cap],d,aG ⟨E,λh' V=>by rw[add_lit,V.cell];rfl,?_⟩⟩;refine HV hs Vj O λz v1 hl1 y C=>⟨y.cA d id,?_⟩;refine nw (cs:=[.slice z.a z.len z.cap]) λv2 hz2 H hb2=>⟨(y.trans H).cA d id,?_⟩;have Z:=aI.bK (aI.bK hr y) H;refine Z.app (ys:=[nQ z]) rfl rfl ?_ (by simp[dM,nQ]) ?_ ?_ n4 λs2 v3 hl3 Q S=>aG ?_
 ·intro j u hu;rw[add_lit,zG,hb2.cell];exact hu
 ·simp only;have:(E.len+1)*24<=9*24:=kU O O;omega
 ·simp only;omega
 ·have P:=Q.cA ((y.trans H).cA d id) λK=>K.2.1 rfl;have hplt:=d.lt;have hs1:=y.1;refine P.s1 aA λv4 o4 N=>h3 g O v4 ?_ ?_
  ·exact((bO.to (y.trans H)).trans (Q.sub λb d=>d.1.1)).trans (o4.ext.sub λb d=>d▸h.fp.1)
  ·refine⟨⟨s2,x++[z],λb=>D b/\b<σ.size\/σ.size<=b/\b<v1.size,N,?_,⟨by simp[w.1],λi s ys B m=>?_⟩,λb d=>?_,?_⟩,.inl h.fp.1,h.b1,h.r1,by simp;omega,by have:=h.low;simp;omega,λys m=>?_⟩
   ·rw[kQ];refine aI.bU (aI.mono S λb _ d=>?_) o4.ext λb _ d he=>d.2.1 he;rcases d with d|d
    ·exact⟨.inl d.1.1,d.2.1,λhd=>by
      rcases hd with hd|hd
      ·exact d.2.2 hd.1
      ·have:=d.1.2;omega⟩
    ·exact⟨.inr O,O,λhd=>by rcases hd with hd|hd<;>omega⟩
   ·have mv:∀{s:Sl} {ys:List Int} {G:Rg},cP s 1 (Wv ys) v2 G->(∀b,G b->b≠p/\¬(Cut F σ b/\b≠p/\¬D b))->cP s 1 (Wv ys) v4 G:=λV hn=>
     aH.bU (aH.bU V Q λb _ d=>(hn b d).2) o4.ext λb _ d he=>(hn b d).1 he
    rcases mw i x.length with hi'|hi'
    ·rw[zg hi']at B;rw[zg (by rw[←w.1];exact hi')]at m;obtain⟨k1,k2⟩:=w.2 i s ys B m;refine⟨aH.mono (mv (aH.bK (aH.bK (aH.mono k1 (G:=λb=>D b/\b<σ.size) λb d hd=>⟨hd,d⟩) y) H) λb hd=>⟨(M b hd.1).2,λK=>K.2.2 hd.1⟩) λb _ hd=>.inl hd,k2⟩
    ·rw[zi hi']at B;rw[zi (by rw[←w.1];exact hi')]at m;have L:i-x.length=0:=by
      have:=(cS.1 B).1;simp at this;omega
     rw[L]at B;rw[show i-t.bs.length=0 by rw[←w.1];exact L]at m;simp at B m;subst B;subst m;have J:z.len<=z.cap:=by
      rcases C.2 with⟨q1,q2⟩|⟨_,_,_,_,_,q,_⟩
      ·omega
      ·exact q
     refine⟨aH.mono (mv (aH.bK (aH.mono C.fP (G:=λb=>σ.size<=b/\b<v1.size) λb d hd=>⟨hd,d⟩) H) λb hd=>⟨O,λK=>by have:=K.1.2;omega⟩) λb _ hd=>.inr hd,J⟩
   ·rcases d with hd|hd
    ·exact⟨.inl (M b hd.1).1.1,(M b hd.1).2⟩
    ·exact⟨.inr hd.1,O⟩
   ·have A:∀ys∈t.bs,ys≠[]:=λys m e=>by have:=iA.all ‹_› ys m;rw[e]at this;simp at this;omega
    exact hJ.snoc w A (λb hd=>(M b hd).1.2) C (by simp only[Wv,ne_eq,yS];intro e;rw[e]at g;simp at g;omega)
   ·rcases zP.1 m with h|h
    ·exact iA.all ‹_› ys h
    ·simp at h;subst h;exact g
theorem Wft (h:iA σ F p batch room t)(h0:t.bs=[]){R:Sl->Int->Hp->Prop}(hR:R ⟨none,0,0⟩ 4 σ):Wz.c (aW p) σ R:=by
 refine Wz.o ?_;obtain⟨d,i,D,g,b,e,m,j⟩:=h.mem;have a:d.len=t.bs.length:=by have:=b.1;rw[za,e.1]at this;omega
 refine HZ h (cF rfl (aG (g.rS rfl (cJ ?_ hR))));simp[a,h0]
theorem Wiz (h:iA σ F p batch room t)(h0:t.bs≠[]){R:Sl->Int->Hp->Prop}(hR:∀out σ',Ext F σ σ'->(∀b,lE out b->F b)->cP out 1 (Wv (t.bs.getLast?.getD [])) σ' (lE out)->out.len<=out.cap->iA σ' (λb=>F b/\¬lE out b) p batch room t.rem->R out 0 σ'):Wz.c (aW p) σ R:=by
 refine Wz.o ?_;obtain⟨N,g,D,d,J,x,B,Y⟩:=h.mem;have hso:N.len=t.bs.length:=by have:=J.1;rw[za,x.1]at this;omega
 have Z:=qC.2 h0;have hr8:=h.r1;have hfw:=h.lA;have X:=h.low;have P:t.bs.length-1<g.length:=by rw[x.1];omega
 obtain⟨o,M⟩:∃o,g[t.bs.length-1]?=some o:=⟨_,cL P⟩;have j:t.bs[t.bs.length-1]?=some (t.bs.getLast?.getD []):=by
  rw[List.getLast?_eq_getElem?,cL O];rfl
 obtain⟨k1,k2⟩:=x.2 _ o _ M j;refine HZ h (cF rfl (aG (d.rS rfl (cF ?_ ?_))))
 ·simp only[nk];omega
 refine aG (d.rS rfl (bZ (m:=t.bs.length-1) aC O (aG (d.rS rfl ?_))));refine J.fP.Au M (aG (d.rS rfl ?_));have W:N.len<=N.cap:=by
  rcases J.2 with⟨q1,q2⟩|⟨_,_,_,_,_,q,_⟩
  ·omega
  ·exact q
 refine ji (lo:=0) O aD aD (aG (d.s1 aA λv1 o1 C=>aG (C.rI rfl (aG ?_))))
 refine C.s1 aA λv2 o2 u=>?_;have r:Ext (· = p) σ v2:=o1.ext.trans o2.ext;have E:(if((t.bs.length-1:Nat):Int)<(t.low:Int)then((t.bs.length-1:Nat):Int)else(t.low:Int))=((min t.low (t.bs.length-1):Nat):Int):=by split<;>omega
 rw[E]at u;have Q:∀z∈t.bs,z≠[]:=λz w e=>by have V:=h.all z w;have h2:=h.b1;rw[e]at V;simp at V;omega
 have A:∀b,lE o b->D b:=λb d=>(k1.cA (by simp only[Wv,ne_eq,yS];exact Q _ (zE j)) d).1;refine hR o v2 (r.sub λb d=>d▸h.fp) (λb d=>(B b (A b d)).1) (aH.mono (aH.bU k1 r λb _ d G=>(B b d).2 G).mW λb _ hd=>hd.2) k2 ⟨⟨_,g.dropLast,λb=>D b/\¬lE o b,u,?_,⟨by simp[x.1,fU.rem],λi s z H w=>?_⟩,λb hd=>⟨⟨(B b hd.1).1,hd.2⟩,(B b hd.1).2⟩,List.Pairwise.sublist (List.dropLast_sublist _) Y⟩,⟨h.fp,λd=>(B p (A p d)).2 rfl⟩,h.b1,h.r1,by simp[fU.rem];omega,by simp[fU.rem];omega,λz w=>h.all z (List.dropLast_subset _ w)⟩
 ·refine aI.bU ?_ r λb _ d G=>d.2.1 G;refine⟨by simp[x.1],?_⟩;rcases J.2 with⟨q1,q2⟩|⟨b,cs,hq,K,hbb,hle,hcl,ht⟩
  ·omega
  ·refine .inr ⟨b,cs,⟨⟨hq.1,λd=>hq.2.2 (A b d)⟩,hq.2.1,λhd=>hq.2.2 hd.1⟩,?_,hbb,by simp only;omega,by simp only;omega,?_⟩
   ·simp only[K];split<;>simp[add_lit]
   ·simp only[za]at ht ⊢;have hd:g.dropLast.map nQ=(g.map nQ).take (g.length-1):=by rw[yp,List.map_take]
    rw[hd,←ht,Ag,Cd]
    congr 1;omega
 ·have y:i<t.bs.length-1:=by
   have:=(cS.1 w).1;simpa[fU.rem]using this
  rw[yp,zY]at H;simp only[fU.rem,yp,zY]at w;rw[zB (by rw[x.1];exact y)]at H;rw[zB y]at w;obtain⟨m1,m2⟩:=x.2 i s z H w;refine⟨aH.mono (aH.bU m1 r λb _ d G=>(B b d).2 G).mW λb _ d=>⟨d.1,λu=>?_⟩,m2⟩;obtain⟨a,K,e1⟩:=d.2;obtain⟨a',S,e2⟩:=u;obtain⟨U,rfl⟩:=cS.1 H;obtain⟨L,rfl⟩:=cS.1 M;exact zy.1 Y i _ U L y a a' K S (e1.trans e2.symm)
theorem Rf {s:Sl}{vs:List Value}(h:cP s 1 vs σ F)(h1:∀v∈vs,dM v=true)(hl:s.len<=1000000){R:Sl->Hp->Prop}
 (hR:∀s' σ',s'.len=s.len->bO σ σ'->bR s' 1 vs σ' (λb=>σ.size<=b)->R s' σ'):WP.c s σ R:=by
 refine WP.o ?_;exact yC h aB rfl h1 aB hl hR
def uL (out:Sl)(bs:List (List Int))(σ:Hp)(G:Rg):Prop:=∃sls:List Sl,cP out 1 (sls.map nQ) σ G/\pd sls bs σ G
theorem uL.loc (out:Sl)(bs:List (List Int)):dR (uL out bs):=λσ i F G ⟨a,e,g⟩ b d=>⟨a,cP.loc _ _ _ _ _ _ _ e b d,pd.loc _ _ _ _ _ _ g b d⟩
theorem TG (h:iA σ F p batch room t){R:Sl->Hp->Prop}(hR:∀out σ',Ext F σ σ'->uL out t.out σ' F->iA σ' (Grow F σ) p batch room t.tick->R out σ'):Xj.c (aW p) σ R:=by
 refine Xj.o ?_;refine XO.o ?_;have H:=h;have h:=iA.loc.cut h;obtain⟨w,d,D,e,hr,y,J,hJ⟩:=h.mem;have S:w.len=t.bs.length:=by have:=hr.1;rw[za,y.1]at this;omega
 have hr8:=h.r1;have hfw:=h.lA;have hlow:=h.low;obtain⟨n,N⟩:∃n,n=(t.low+1)/2:=⟨_,rfl⟩;have hnl:n<=t.bs.length:=by omega
 refine nw (cs:=[.func (.func 245) #[] #[]]) λv1 hz1 z Q=>?_;have h1:=h.bK z;have u:=z.cA e id;refine HZ h1 (cF rfl ?_);refine⟨⟨245,#[],#[]⟩,by rw[add_lit,Q.cell];rfl,?_⟩;refine Gf (all := #[.pointer (some ⟨p,0,none⟩)]) (by kernel_rfl) aA ?_;refine XM.o ?_;refine aG (u.rI rfl (bZ (m:=t.low+1) O O (nz aB (bZ (m:=n) (by rw[Xq O];omega) O ?_))));refine aG (u.rS rfl ?_);have hcap:w.len<=w.cap:=by
  rcases hr.2 with⟨q1,q2⟩|⟨_,_,_,_,_,q,_⟩
  ·omega
  ·exact q
 have K:=aI.bK hr z;have Z:=(pd.loc _ _).bK y z;refine ji (lo:=0) O O aD (aG (u.rS rfl (ji aD aD aD ?_)))
 have x:∀(s:Sl) (a m:Nat),(s.len=m)->a+m<=d.length->(m=0\/∀b,w.a=some ⟨b,0,none⟩->s.a=some ⟨b,a,none⟩)->cP s 1 (((d.drop a).take m).map nQ) v1 (λb=>Cut F σ b/\b≠p/\¬D b):=by
  intro s a m hs ham hsa;refine⟨by simp;omega,?_⟩;rcases xi m with h0|h0
  ·left;subst h0;simp
  ·rcases K.fP.2 with q|⟨b,o,cs,q1,q2,q3,q4⟩
   ·have:d=[]:=by simpa using q
    subst this;simp at ham;omega
   ·rcases K.2 with⟨z1,z2⟩|⟨b',cs',w1,w2,w3,w4,w5,w6⟩
    ·rw[y.1]at ham;omega
    ·rcases hsa with hm|hsa
     ·omega
     ·refine .inr ⟨b',a,cs',w1,hsa b' w2,w3.q,λj hj=>?_⟩;simp only[za,zO,zt]at hj;have:cs'[a+j]?=(d.map nQ)[a+j]? := by
       rw[←w6,zY,zB (by rw[za];omega)]
      rw[this];simp only[ze,zY,zn];rw[zB O]
 have hso2:w.len=d.length:=by rw[y.1];exact S
 refine Rf (x _ n (d.length-n) aC O ?_) Sd aC λs' v3 X C M=>?_
 ·by_cases hz:w.cap=n
  ·left;omega
  ·right;intro b hbs;simp only[zA hz,hbs];simp[add_lit]
 have W:=C.cA u id;refine aG (W.s1 aA λv4 o4 L=>aG (L.rS rfl (aG (L.s1 aA λv5 o5 P=>?_))));have g:Ext (· = p) v3 v5:=o4.ext.trans o5.ext;have hs1:=z.1;have hs3:=C.1;have hplt:=e.lt;have Y:(d.drop 0).take n=d.take n:=by simp
 refine hR _ v5 ?_ ⟨d.take n,?_,?_⟩ ⟨⟨s',d.drop n,λb=>D b/\b<σ.size,?_,?_,?_,?_,List.Pairwise.sublist (DR _ _) hJ⟩,.inl H.fp,h.b1,h.r1,?_,?_,?_⟩
 ·exact(bO.to (z.trans C)).trans (g.sub λb e=>e▸H.fp)
 ·have:=x ⟨if n=0 then w.a else w.a.map (·.add (0*1)),n-0,n-0⟩ 0 n aA O (by
   by_cases hz:n=0
   ·exact .inl hz
   ·right;intro b hbs;simp only[zA hz,hbs];simp[add_lit])
  rw[Y]at this;exact aH.mono (aH.bU (aH.bK this C) g λb _ e B=>e.2.1 B) λb _ e=>e.1.1
 ·refine⟨by simp[y.1,fU.out,N],λi s E A r=>?_⟩;simp only[fU.out,←N]at r;rw[zY]at A r;split at A
  ·rename_i hin;rw[zB hin]at r;obtain⟨V,U⟩:=Z.2 i s E A r;exact⟨aH.mono (aH.bU (aH.bK V C) g λb _ e B=>(J b e).2 B) λb _ e=>(J b e).1.1,U⟩
  ·cases A
 ·have:((s'.len:Nat):Int)=((t.tick.low:Nat):Int):=by
   rw[X];simp only[fU.tick,zt,←N];omega
  rw[this]at P;exact P
 ·have hh:((d.drop n).take (d.length-n))=d.drop n:=mc aA;rw[hh]at M;refine aI.bU (aI.mono M λb _ e=>?_) g λb _ e B=>e.2.1 B;exact⟨.inr O,O,λhd=>O⟩
 ·refine⟨by simp[y.1,fU.tick,N],λi s E A r=>?_⟩;simp only[fU.tick,←N]at r;rw[zn]at A r;obtain⟨V,U⟩:=y.2 _ s E A r;exact⟨aH.bU (aH.bK (aH.bK (aH.mono V (G:=λb=>D b/\b<σ.size) λb e hd=>⟨hd,e⟩) z) C) g λb _ e B=>(J b e.1).2 B,U⟩
 ·exact λb hd=>⟨.inl (J b hd.1).1.1,(J b hd.1).2⟩
 ·simp only[fU.tick,zt];omega
 ·simp[fU.tick]
 ·exact λE r=>h.all E (qZ r)
theorem SP {n:Nat}(hn:n<=1000000){R:Sl->Hp->Prop}(hR:∀s' σ',bO σ σ'->bR s' 1 [] σ' (λb=>σ.size<=b)->R s' σ'):XJ.c ⟨none,0,0⟩ (n:Int) σ R:=by
 refine XJ.o ?_;refine Jn.intro (fH O (bZ (m:=0) aA O (bZ (m:=n) aA O (cH (λg=>?_) λu=>hR _ _ (Ext.refl _ _) (bR.nil _ _ _ _)))));refine ji (lo:=0) (hi:=0) (mx:=0) O O aA ?_;refine⟨O,[],by simp,by simp[Rd],by simp[dM],by simp only[dC];omega,by simp only[dC];omega,O,λa=>by simp only[dC]at a;omega,λe cc s=>?_⟩;refine nw λj r p d=>?_;simp only[dC]at *;have i:n<=cc:=by omega
 refine ji (lo:=0) (hi:=0) (mx:=cc) O O aC (hR _ j p ⟨by simp,.inr ⟨σ.size,_,zC _,?_,d,by simp,?_,by simp⟩⟩)
 ·simp only;split<;>simp[add_lit]
 ·simp only[qn,zJ,wa,uV,vR,zQ,lU,Nat.sub_zero];omega
theorem Fy (bs:List (List Int)){i:Nat}{xs:List Int}(h:bs[i]?=some xs):(bs.take (i+1)).flatten=(bs.take i).flatten++xs:=by
 rw[zf,h];simp
theorem iA.flat (h:iA σ F p batch room t):t.bs.flatten.length<=256:=by
 have key:∀l:List (List Int),(∀a∈l,a.length=batch)->l.flatten.length=batch*l.length:=by
  intro l
  induction l with
  | nil=>intro _;simp
  | cons x l ih=>
   intro hl;rw[vY,zJ,hl x aA,ih λa d=>hl a (by simp[d]),zQ,Nat.mul_add];omega
 rw[key t.bs h.all];have b:=h.b1;have e:=h.lA;have g:=h.r1;have:batch*t.bs.length<=32*8:=kU b.2 O;omega
theorem FX (bs:List (List Int))(i:Nat):(bs.take i).flatten.length<=bs.flatten.length:=by
 conv=>rhs;rw[←nS i bs,wH,zJ]
 omega
theorem Ι (h:iA σ F p batch room t){R:Sl->Hp->Prop}(hR:∀s' σ',bO σ σ'->s'.len=t.bs.flatten.length->bR s' 1 (Wv t.bs.flatten) σ' (λb=>σ.size<=b)->R s' σ'):W4.c (aW p) σ R:=by
 refine W4.o ?_;have V:=h.flat;obtain⟨X,r,D,J,G,A,hD,hJ⟩:=h.mem;have Q:X.len=t.bs.length:=by have:=G.1;rw[za,A.1]at this;omega
 have S:=h.lA;have hr8:=h.r1;refine HZ h (cF rfl (aG (J.rS rfl ?_)));refine XC.o ?_;refine Kh (a:=bN) (bb:=bN) (λ(n u:Int) v=>∃i:Nat,u=(i:Int)/\i<=t.bs.length/\v=σ/\n=(((t.bs.take i).flatten.length:Nat):Int)) (λ_ u _=>t.bs.length-u.toNat) ⟨0,rfl,O,rfl,by simp⟩ ?_;rintro n u v ⟨i,rfl,Z,rfl,rfl⟩;refine cH (λy=>?_) λz=>?_
 ·simp only at y;have g:i<t.bs.length:=by omega
  have j:i<r.length:=by rw[A.1];exact g
  refine G.fP.Au (cL j) ?_;obtain⟨E,m2⟩:=A.2 i _ _ (cL j) (cL g);have B:r[i].len=t.bs[i].length:=by have:=E.1;simp[Wv]at this;omega
  have C:=Fy t.bs (cL g);have L:=FX t.bs (i+1);refine bZ (m:=(t.bs.take (i+1)).flatten.length) (by rw[C,zJ,B];omega) O (fH O (bZ (m:=i+1) O O ⟨⟨i+1,rfl,O,rfl,rfl⟩,O⟩))
 ·have x:i=t.bs.length:=by simp only at z;omega
  subst x;rw[zm];refine SP O λs1 v1 U H=>?_;refine Kh (a:=.s) (bb:=bN) (λ(s:Sl) (u:Int) w=>∃i:Nat,u=(i:Int)/\i<=t.bs.length/\bO v w/\bR s 1 (Wv (t.bs.take i).flatten) w (λb=>v.size<=b)) (λ_ u _=>t.bs.length-u.toNat) ⟨0,rfl,O,U,by simpa[Wv]using H⟩ ?_;rintro s u w ⟨i,rfl,Z,e,d⟩;refine cH (λy=>?_) λz=>?_
  ·simp only at y;have g:i<t.bs.length:=by omega
   have j:i<r.length:=by rw[A.1];exact g
   refine(aI.bK G e).fP.Au (cL j) ?_;obtain⟨E,m2⟩:=A.2 i _ _ (cL j) (cL g);have B:r[i].len=t.bs[i].length:=by have:=E.1;simp[Wv]at this;omega
   have N:=h.all _ (zd g);have M:=h.b1;have C:=Fy t.bs (cL g);have L:=FX t.bs (i+1);have P:s.len=(t.bs.take i).flatten.length:=by have:=d.1;simp only[Wv,za]at this;omega
   rw[C,zJ]at L;refine d.app (ys:=Wv t.bs[i]) rfl (by simp[Wv];omega) (aH.bK E e).rd Vj ?_ O O λs' w' Y W K=>?_
   ·have:(s.len+r[i].len)*8<=512*8:=kU O O;omega
   ·refine bZ (m:=i+1) O O ⟨⟨i+1,rfl,O,Ext.fresh e W λ_ h=>h,?_⟩,O⟩;rw[C];have:Wv ((t.bs.take i).flatten++t.bs[i])=Wv (t.bs.take i).flatten++Wv t.bs[i]:=by simp[Wv]
    rw[this];exact aI.mono K λb _ J=>by
     rcases J with h|h
     ·exact h
     ·exact zI e.1 h
  ·have x:i=t.bs.length:=by simp only at z;omega
   subst x;rw[zm]at d;exact hR s w e (by have:=d.1;simp only[Wv,za]at this;omega) d
end Go.Ar
namespace Go.Ar
open Go Go.Vc Go.Proofs
open Go.Bu (Zi)
variable {σ:Hp}{F:Rg}{p:Nat}{ow:Nat->Nat}
end Go.Ar
namespace Go.Proofs
open Go.Vc
set_option maxRecDepth 100000
def Xy.h:Hn:=.q .o1 (.q .o1 (.q (.q .o3 (.k (.loop [(3,.I),(7,.I)] (.q .o1 (.q (.c .l .l) (.q (.k (.q .o2 (.q .o8 (.c .o3 .l)))) .o2)))))) .aL))
theorem Xy.o {a:R2}{b:Hp}{c:aN}(d:Xu.c a b λd e=>WR [bN,bN] (λf=>f 0 0 e) λg (h:Int) (i:Int) j=>If (i<d) (bE a 0 j λl=>Ix l.a l.len i 2 λm=>aZ m 0 j λn=>If n (bL (h+1) λo=>bL (i+1) λp=>g o p j) (bL (i+1) λq=>g h q j)) (c h j)):Xy.c a b c:=Wa Tryz.func71 (x:=Xy.h) (R0 d)
def Xs.h:Hn:=.q .o1 (.q (.q .o3 .aK) (.q .o6 .l))
theorem Xs.o {a:R2}{b:Hp}{c:aN}(d:Xr.c a b λd e=>If (!d) (c 0 e) (bI a 1 e λg=>oC .i64 .s g e λh=>c h e)):Xs.c a b c:=Wa Tryz.func72 (x:=Xs.h) (R0 d)
def Zb.h:Hn:=.q .o2 (.q (.q .o4 (.q .o2 (.c (.q .o3 .l) .l))) (.q .o6 .l))
theorem Zb.o {a:R2}{b:Int}{c:Hp}{d:Int->Int->Hp->Prop}(e:XD.c a b 1 c λe f=>If (e != 0) (d 0 e f) (Nz 8<|bL (b.tdiv 8) λg=>Zs.c a g f λh i=>d h 0 i)):Zb.c a b c d:=Wa Tryz.func85 (x:=Zb.h) (R0 e)
def Xu.h:Hn:=.q .o1 (.q (.q .o3 .aK) (.q .o6 .l))
theorem Xu.o {a:R2}{b:Hp}{c:aN}(d:Xr.c a b λd e=>If (!d) (c 0 e) (bE a 0 e λg=>c ((g.len:Nat):Int) e)):Xu.c a b c:=Wa Tryz.func103 (x:=Xu.h) (R0 d)
def Xr.h:Hn:=.q .o1 (.q (.cV (.seq [.op,.op,.op,.dA true 6 (RI.ops 6),.op])) .l)
theorem Xr.o {a:R2}{b:Hp}{c:aO}(d:bY (λd e=>c d e) λf=>If (!a.isNone) (bE a 0 b λh=>f (decide (((h.len:Nat):Int)>0)) b) (f false b)):Xr.c a b c:=Wa Tryz.func104 (x:=Xr.h) (R0 d)
def XD.h:Hn:=.q .o1 (.q (.k (.q .o4 (.c .aM (.q .o3 (.c .aM (.q (.cV (.seq [.op,.op,.op,.dA false 3 (RI.ops 3),.op])) .aK)))))) (.q .fW (.q (.q (.cV (.ic true [] [(50,.one .b)] (.tk [0,1,2,3,4,5,6,7] (.split 39 (.tk [8,9,10,11,12,13,14,15,16,17,18] (.done)) (.tk [8,9,10,11,12,13,14,15,16] (.all [(17,.take 18 (.done))])))))) .aK) .aM)))
theorem XD.o {a:R2}{b c:Int}{d:Hp}{e:aN}(f:Xr.c a d λf g=>If (!f) (e 5 g) (If (c==0) (e 0 g) (bY (λh i=>If h (e 7 i) (Nz 256<|bL (b.tdiv 256) λj=>Nz 8<|bL (b.tdiv 8) λk=>bL (k+c) λl=>bL (l-1) λm=>Nz 32<|bL (m.tdiv 32) λn=>Jn [.b] (λ(o:Bool) p=>If o (e 7 p) (e 0 p)) λq=>dW i λr=>bQ a λs=>aT r s 0 λt=>If (n≥((t.len:Nat):Int)) (q true i) (bQ a λu=>aT r u 0 λv=>bL (n+1) λw=>eX v 2 j w (v.cap:Nat) λx=>gT r .b ((Addr.mk 0 0 none).add 0) λ(y:Bool)=>gT r .b ((Addr.mk 0 0 none).add 1) λ(z:Bool)=>Wj.c x y z i λaa ab=>And (r ab) <| q aa ab))) λac=>If (b<0) (ac true g) (Nz 8 <| ac ((b.tmod 8) != 0) g)))):XD.c a b c d e:=Wa Tryz.func116 (x:=XD.h) (R0 f)
def Zs.h:Hn:=.q .o1 (.q (.q (.o 12) (.q .o1 (.c (.q .o6 .l) .l))) .aM)
theorem Zs.o {a:R2}{b:Int}{c:Hp}{d:aN}(e:bQ a λe=>bB e 1 c λf=>Nz 32<|bL (b.tdiv 32) λg=>Lk .i64 .s f g c λh=>If h.isSome (Nz 32 <| Ix (h.getD ⟨none,0,0⟩).a (h.getD ⟨none,0,0⟩).len (b.tmod 32) 1 λi=>bM i c λj=>d j c) (d 0 c)):Zs.c a b c d:=Wa Tryz.func117 (x:=Zs.h) (R0 e)
def Ka.h:Hn:=.q .o2 (.q (.q (.cV (.seq [.op,.op,.op,.dA false 2 [.op,.op]])) .aJ) (.q .o7 .l))
theorem Ka.o {a:Int}{b:Hp}{c:Option Addr->Int->Hp->Prop}(d:bY (λd e=>If d (c none 1 e) (Mk a a 2 160 [.bool false,.bool false] e λf g=>Nw (.map #[] 0) g λh i=>aV #[.slice f.a f.len f.cap,.map (some h.block),.I 0] 164 i λj k=>c (some j) 0 k)) λl=>If (a<1) (l true b) (l (decide (a>1024)) b)):Ka.c a b c:=Wa Tryz.func124 (x:=Ka.h) (R0 d)
def YH.h:Hn:=.q .o1 (.q (.q .o4 (.q .o2 .aJ)) (.q .o5 .aM))
theorem YH.o {a:R2}{b c:Int}{d:Hp}{e:aN}(f:XD.c a b 1 d λf g=>If (f != 0) (e f g) (Nz 8<|bL (b.tdiv 8) λh=>Zv.c a h c g λi=>e 0 i)):YH.c a b c d e:=Wa Tryz.func130 (x:=YH.h) (R0 f)
def Zv.h:Hn:=.q .o3 (.jc [] (.q (.oq 9) (.c (.q (.cV (.tail 7 (RI.ops 7) [.op])) (.q (.cV (.held true [6] (.tk [0,1,2,3,4] (.all [(5,.all [(6,.done)])])))) (.cV (.tail 13 (RI.ops 13) [.op])))) .l)) (.o 11))
theorem Zv.o {a:R2}{b c:Int}{d:Hp}{e:aP}(f:Nz 32<|bL (b.tdiv 32) λf=>Jn [] (λg=>bQ a λh=>bB h 1 g λi=>Lk .i64 .s i f g λj=>Nz 32 <| Ix (j.getD ⟨none,0,0⟩).a (j.getD ⟨none,0,0⟩).len (b.tmod 32) 1 λk=>dG k (.I c) g λl=>e l) λm=>bE a 0 d λo=>Ix o.a o.len f 2 λp=>aZ p 0 d λq=>aZ p 1 d λr=>j8 ((Addr.mk 1 0 none).add 0) d λs=>j8 ((Addr.mk 1 0 none).add 1) d λt=>If (!((q==s)&&((r==t)&&true))) (bE a 0 d λv=>j8 ((Addr.mk 1 0 none).add 0) d λw=>j8 ((Addr.mk 1 0 none).add 1) d λx=>Ix v.a v.len f 2 λy=>aR y 0 (.bool w) d λz=>aR y 1 (.bool x) z λaa=>dW aa λab=>bQ a λac=>gT ab .m (ac.add 1) λ(ad:Option Nat)=>Mk 32 32 8 3 [.I 0] aa λae af=>And (ab af) <| ld .i64 .s ad f ae af λag=>bD a 2 ag λai=>bI a 1 ag λak=>oC .i64 .s ak ag λal=>bQ a λam=>aR am 2 (.I (if al>ai then al else ai)) ag λan=>m an) (m d)):Zv.c a b c d e:=Wa Tryz.func169 (x:=Zv.h) (R0 f)
def XK.h:Hn:=.q .o1 (.q .o6 .l)
theorem XK.o {a:R2}{b c:Int}{d:Hp}{e:aN}(f:j8 ((Addr.mk 2 0 none).add 0) d λf=>j8 ((Addr.mk 2 0 none).add 1) d λg=>XX.c a b c f g d λh i=>e h i):XK.c a b c d e:=Wa Tryz.func193 (x:=XK.h) (R0 f)
def YJ.h:Hn:=.q .o1 (.q .o6 .l)
theorem YJ.o {a:R2}{b c:Int}{d:Hp}{e:aN}(f:j8 ((Addr.mk 0 0 none).add 0) d λf=>j8 ((Addr.mk 0 0 none).add 1) d λg=>XX.c a b c f g d λh i=>e h i):YJ.c a b c d e:=Wa Tryz.func197 (x:=YJ.h) (R0 f)
def XX.h:Hn:=.q .o2 (.q .o9 (.q (.k (.q .o3 (.c .aL (.q .o4 .aK)))) (.q .o5 .aM)))
theorem XX.o {a:R2}{b c:Int}{d e:Bool}{f:Hp}{g:aN}(h:aV #[.bool d,.bool e] 160 f λh i=>YZ.c a b c i λj k l=>If (k != 0) (g k l) (j8 ((Addr.mk 0 0 none).add 0) l λm=>j8 ((Addr.mk 0 0 none).add 1) l λn=>Wj.c j m n l λo p=>If o (g 7 p) (aZ h 0 p λq=>aZ h 1 p λr=>Y4.c a b c q r p λs=>g 0 s))):XX.c a b c d e f g:=Wa Tryz.func236 (x:=XX.h) (R0 h)
def YZ.h:Hn:=.q .o2 (.q (.k (.q .o4 (.c .aL (.q (.cV (.seq [.op,.op,.op,.dA false 2 [.op,.op],.op,.dA false 7 (RI.ops 7),.op,.dA false 9 (RI.ops 9),.op])) .aJ)))) (.q (.o 11) .l))
theorem YZ.o {a:R2}{b c:Int}{d:Hp}{e:Sl->Int->Hp->Prop}(f:Xr.c a d λf g=>If (!f) (e ⟨none,0,0⟩ 5 g) (bY (λh i=>bY (λj k=>bY (λl m=>If l (e ⟨none,0,0⟩ 1 m) (bE a 0 m λo=>bL (b+c) λp=>eX o 2 b p (o.cap:Nat) λq=>e q 0 m)) λr=>If j (r true k) (bE a 0 k λt=>bL (((t.len:Nat):Int)-b) λu=>r (decide (c>u)) k)) λv=>If h (v true i) (bE a 0 i λx=>v (decide (b>((x.len:Nat):Int))) i)) λy=>If (b<0) (y true g) (y (decide (c<1)) g))):YZ.c a b c d e:=Wa Tryz.func271 (x:=YZ.h) (R0 f)
def Y4.h:Hn:=.q .o1 (.q .o2 (.k (.loop [(8,.I)] (.q (.q .o5 (.c .l .l)) (.q (.k (.q (.cV (.tail 7 (RI.ops 7) [.op])) .o6)) .o3)))))
theorem Y4.o {a:R2}{b c:Int}{d e:Bool}{f:Hp}{g:aP}(h:aV #[.bool d,.bool e] 160 f λh i=>WR [bN] (λj=>j b i) λk (l:Int) m=>bL (b+c) λn=>If (l<n) (bQ a λo=>aX o 0 m λp=>aZ h 0 m λq=>aZ h 1 m λr=>Ix p.a p.len l 2 λs=>aR s 0 (.bool q) m λt=>aR s 1 (.bool r) t λu=>bI a 1 u λw=>mL .i64 .s w l u λx=>bL (l+1) λy=>k y x) (g m)):Y4.c a b c d e f g:=Wa Tryz.func272 (x:=Y4.h) (R0 h)
def Zr.h:Hn:=.q .o1 (.q .o9 (.q (.k (.q .o3 (.c .aL (.q .o3 .aK)))) (.q .o5 .aM)))
theorem Zr.o {a:R2}{b c:Int}{d:Hp}{e:aN}(f:YZ.c a b c d λf g h=>If (g != 0) (e g h) (Wg.c f ⟨301,#[],#[]⟩ h λi j=>If i (e 5 j) (j8 ((Addr.mk 2 0 none).add 0) j λk=>j8 ((Addr.mk 2 0 none).add 1) j λl=>Y4.c a b c k l j λm=>e 0 m))):Zr.c a b c d e:=Wa Tryz.func280 (x:=Zr.h) (R0 f)
def YQ.h:Hn:=.q .o2 (.q .o4 .l)
theorem YQ.o {a b:Bool}{c:Hp}{d:aO}(e:aV #[.bool a,.bool b] 160 c λe f=>aZ e 0 f λg=>aZ e 1 f λh=>j8 ((Addr.mk 0 0 none).add 0) f λi=>j8 ((Addr.mk 0 0 none).add 1) f λj=>d (!((g==i)&&((h==j)&&true))) f):YQ.c a b c d:=Wa Tryz.func301 (x:=YQ.h) (R0 e)
end Go.Proofs
namespace Go.Ar
open Go Go.Vc Go.Proofs
open Go.Bu (Zi)
variable {σ:Hp}{F:Rg}{p q r:Nat}{sp:Sp}
structure Gl (σ:Hp):Prop where
 c0:cell σ ⟨2,0,none⟩=some (.bool true)
 c1:cell σ ⟨2,1,none⟩=some (.bool false)
 u0:cell σ ⟨0,0,none⟩=some (.bool false)
 u1:cell σ ⟨0,1,none⟩=some (.bool false)
structure Gc (σ:Hp):Prop where
 d0:cell σ ⟨1,0,none⟩=some (.bool true)
 d1:cell σ ⟨1,1,none⟩=some (.bool true)
structure Gd (σ:Hp):Prop where
 lt:1<σ.size
def jh (F:Rg):Prop:=∀b,F b->b≠2/\b≠0
theorem Q2 {h:Hp}{b o:Nat}{v:Value}(hc:cell h ⟨b,o,none⟩=some v):b<h.size:=(Ma hc).1
theorem Gl.bU {σ':Hp}(g:Gl σ)(e:Ext F σ σ')(hF:jh F):Gl σ':=by
 have a:¬F 2:=λh=>(hF _ h).1 rfl;have b:¬F 0:=λh=>(hF _ h).2 rfl;exact⟨(QV e (Q2 g.c0) a).trans g.c0,(QV e (Q2 g.c1) a).trans g.c1,(QV e (Q2 g.u0) b).trans g.u0,(QV e (Q2 g.u1) b).trans g.u1⟩
theorem Gc.bU {σ':Hp}(g:Gc σ)(e:Ext F σ σ')(hF:¬F 1):Gc σ':=⟨(QV e (Q2 g.d0) hF).trans g.d0,(QV e (Q2 g.d1) hF).trans g.d1⟩
theorem Gc.bK {σ':Hp}(g:Gc σ)(e:bO σ σ'):Gc σ':=g.bU e id
theorem Gd.bU {σ':Hp}(g:Gd σ)(e:Ext F σ σ')(hF:¬F 1):Gd σ':=⟨vL g.lt e.1⟩
theorem Gd.bK {σ':Hp}(g:Gd σ)(e:bO σ σ'):Gd σ':=g.bU e id
theorem Gc.gd (g:Gc σ):Gd σ:=⟨Q2 g.d0⟩
theorem Gl.bK {σ':Hp}(g:Gl σ)(e:bO σ σ'):Gl σ':=g.bU e λ_ h=>h.elim
theorem jh.grow (hF:jh F)(g:Gl σ):jh (Grow F σ):=λb a=>by
 rcases a with h|h
 ·exact hF b h
 ·have e:=Q2 g.c0;have d:=Q2 g.u0;exact⟨O,O⟩
theorem jh.sub {G:Rg}(hF:jh F)(h:∀b,G b->F b):jh G:=λb a=>hF b (h b a)
def fN:Nat->Bool×Bool
 | 0=>(false,false)
 | 1=>(true,false)
 | _=>(true,true)
def ij (st:List Nat):List Value:=st.flatMap λx=>[.bool (fN x).1,.bool (fN x).2]
theorem Vv (l:List Nat):(ij l).length=2*l.length:=by
 induction l with
 | nil=>rfl
 | cons x l ih=>simp only[ij,mM,zJ,zQ,lU]at *;omega
theorem DC {l:List Nat}{i x:Nat}(h:l[i]?=some x):(ij l)[2*i]?=some (.bool (fN x).1)/\(ij l)[2*i+1]?=some (.bool (fN x).2):=by
 induction l generalizing i with
 | nil=>simp at h
 | cons y l ih=>
  have e:ij (y::l)=[.bool (fN y).1,.bool (fN y).2]++ij l:=by simp[ij]
  rw[e];cases i with
  | zero=>simp at h;subst h;simp
  | succ i=>
   have:=ih (i:=i) (by simpa using h);rw[show 2*(i+1)=2*i+2 by omega];simpa using this
theorem FB {l:List Nat}{i v:Nat}(h:i<l.length)(rest:List Value):((ij l++rest).set (2*i) (.bool (fN v).1)).set (2*i+1) (.bool (fN v).2)=ij (l.set i v)++rest:=by
 induction l generalizing i with
 | nil=>simp at h
 | cons y l ih=>
  have e:∀z m,ij (z::m)=.bool (fN z).1 :: .bool (fN z).2::ij m:=λz m=>by simp[ij]
  cases i with
  | zero=>simp[e]
  | succ i=>
   have:=ih (i:=i) (by simpa using h);rw[sK,e,e,show 2*(i+1)=2*i+1+1 by omega];simp only[lZ,sK];rw[this]
theorem Bo {x y:Nat}(hx:x<=2)(hy:y<=2):(((fN x).1==(fN y).1)&&(((fN x).2==(fN y).2)&&true))=(x==y):=by
 match x,y,hx,hy with
 | 0,0,_,_=>rfl
 | 1,1,_,_=>rfl
 | 2,2,_,_=>rfl
 | 0,1,_,_=>rfl
 | 0,2,_,_=>rfl
 | 1,0,_,_=>rfl
 | 1,2,_,_=>rfl
 | 2,0,_,_=>rfl
 | 2,1,_,_=>rfl
theorem Kl {α:Type}(x:Int×α)(l:List (Int×α))(k:Int):bV (x::l) k=if x.1=k then some x.2 else bV l k:=by
 unfold bV;rw[wh];by_cases h:x.1=k
 ·simp[h]
 ·have:(x.1==k)=false:=by simpa using h
  rw[this,zA h]
theorem Ns {α:Type}(l:List (Int×α))(n k:Int)(v:α):bV (l.map λx=>if x.1==n then(n,v)else x) k=if k=n then(if l.any (λx=>x.1==n)then some v else none)else bV l k:=by
 induction l with
 | nil=>simp[bV]
 | cons x l ih=>
  rw[zK,Kl,ih,Kl,List.any_cons];by_cases hx:x.1=n
  ·by_cases hk:k=n
   ·subst hk;simp[hx]
   ·have:¬n=k:=λe=>hk e.symm;simp[hx,hk,this]
  ·have a:(x.1==n)=false:=by simpa using hx
   simp only[a,zc,zz,yF];by_cases hk:k=n
   ·subst hk;simp[hx]
   ·simp[hk]
theorem Wjx {α:Type}(l:List (Int×α))(n k:Int)(v:α)(h:l.any (λx=>x.1==n)=false):bV (l++[(n,v)]) k=if k=n then some v else bV l k:=by
 induction l with
 | nil=>
  rw[qn,Kl];by_cases hk:k=n
  ·simp[hk]
  ·have:¬n=k:=λe=>hk e.symm;simp[hk,this,bV]
 | cons x l ih=>
  rw[List.any_cons,Bool.or_eq_false_iff]at h;rw[lZ,Kl,ih h.2,Kl];have a:¬x.1=n:=by simpa using h.1
  by_cases hk:k=n
  ·subst hk;simp[a]
  ·simp[hk]
theorem D4 {α:Type}(l:List (Int×α))(n k:Int)(v:α):bV (dE l n v) k=if k=n then some v else bV l k:=by
 unfold dE;cases h:l.any (λx=>x.1==n)
 ·rw[zA aA,Wjx l n k v h]
 ·rw[zB rfl,Ns,h];simp
theorem Iz {α:Type}(l:List (Int×α))(n k:Int):bV (cT l n) k=if k=n then none else bV l k:=by
 unfold cT
 induction l with
 | nil=>simp[bV]
 | cons x l ih=>
  rw[ri,Kl];by_cases hx:x.1=n
  ·have:(!(x.1==n))=false:=by simp[hx]
   rw[this];simp only[zc,zz,ih];by_cases hk:k=n
   ·simp[hk]
   ·have:¬x.1=k:=λe=>hk (e.symm.trans hx);simp[hk,this]
  ·have:(!(x.1==n))=true:=by simpa using hx
   rw[this,zB rfl,Kl,ih];by_cases hk:k=n
   ·subst hk;simp[hx]
   ·simp[hk]
theorem KK {α:Type}{l:List (Int×α)}{k:Int}{v:α}(h:bV l k=some v):(k,v)∈l:=by
 unfold bV at h;cases hf:l.find? (λx=>x.1==k)with
 | none=>rw[hf]at h;cases h
 | some x=>
  rw[hf]at h;have a:=tQ hf;have d:=uQ hf;have e:x.1=k:=by simpa using a
  have b:x.2=v:=by simpa using h
  rw[←e,←b];exact d
theorem MV {α:Type}{l:List (Int×α)}{k:Int}:(bV l k).isSome=true↔k∈l.map (·.1):=by
 unfold bV;rw[Option.isSome_map,BR];simp
def Fg (σ:Hp)(s:Sl)(b:Nat)(f:Nat->Int):Prop:=s.a=some ⟨b,0,none⟩/\s.len=32/\32<=s.cap/\∃cs,bW σ b cs/\32<=cs.length/\∀j,j<32->cs[j]?=some (.int .i64 (f j))
structure fM (σ:Hp) (F:Rg) (p q r:Nat) (l:List (Int×Sl)) (B:Nat->Nat) (sp:Sp):Prop where
 hd:∃cap,sp.st.length<=cap/\bW σ p [.slice (some ⟨q,0,none⟩) sp.st.length cap,.map (some r),.int .i64 (sp.pk:Int)]
 row:∃rest,bW σ q (ij sp.st++rest)
 map:dN σ r .i64 .s l
 keys:∀x:Int,(bV l x).isSome=true↔∃k:Nat,x=k/\sp.st[k]?=some 2
 wd:∀(k:Nat) s,bV l (k:Int)=some s->Fg σ s (B k) λj=>sp.wd (32*k+j)
 inj:∀k k':Nat,sp.st[k]?=some 2->sp.st[k']?=some 2->B k=B k'->k=k'
 out:∀k:Nat,sp.st[k]?=some 2->F (B k)/\B k≠p/\B k≠q/\B k≠r
 fs:F p/\F q/\F r/\p≠q/\p≠r/\q≠r
 zero:∀w:Nat,sp.st[w/32]?≠some 2->sp.wd w=0
 n1:1<=sp.st.length
 n2:sp.st.length<=1024
 qE:∀x∈sp.st,x<=2
 pk:sp.pk<=1024
def dD (σ:Hp)(F:Rg)(p:Nat)(sp:Sp):Prop:=∃q r l B,fM σ F p q r l B sp
theorem fM.entry {l:List (Int×Sl)}{B:Nat->Nat}(h:fM σ F p q r l B sp){k:Nat}(hk:sp.st[k]?=some 2):∃s,bV l (k:Int)=some s/\Fg σ s (B k) λj=>sp.wd (32*k+j):=by
 have:=(h.keys (k:Int)).2 ⟨k,rfl,hk⟩;obtain⟨s,a⟩:=pN.1 this;exact⟨s,a,h.wd k s a⟩
theorem fM.dL {l:List (Int×Sl)}{B:Nat->Nat}(h:fM σ F p q r l B sp){k:Nat}{s:Sl}(hs:bV l (k:Int)=some s):sp.st[k]?=some 2:=by
 obtain⟨k',e,a⟩:=(h.keys (k:Int)).1 (by rw[hs];rfl);have:k=k':=by omega
 subst this;exact a
theorem dD.loc:dR λσ F=>dD σ F p sp:=λσ J F G ⟨q,r,l,B,h⟩ N w=>by
 have d:∀{b:Nat} {g:List Value},bW σ b g->F b->bW J b g/\G b:=by
  rintro b g ⟨e,D⟩ E;have:=w b (bW.lt ⟨e,D⟩) E;exact⟨⟨e,this.2.trans D⟩,this.1⟩
 obtain⟨c,H,hd⟩:=h.hd;obtain⟨rest,a⟩:=h.row;obtain⟨K,u,A,L⟩:=h.map;have j:=w r (mT.1 A).1 h.fs.2.2.1;refine⟨q,r,l,B,⟨c,H,(d hd h.fs.1).1⟩,⟨rest,(d a h.fs.2.1).1⟩,⟨K,u,j.2.trans A,L⟩,h.keys,λk s i=>?_,h.inj,λk i=>?_,⟨(d hd h.fs.1).2,(d a h.fs.2.1).2,j.1,h.fs.2.2.2⟩,h.zero,h.n1,h.n2,h.qE,h.pk⟩
 ·obtain⟨x,z,C,g,m,y⟩:=h.wd k s i;exact⟨x,z,C,g,(d m (h.out k (h.dL i)).1).1,y⟩
 ·obtain⟨s,M,x,z,C,g,m,y⟩:=h.entry i;exact⟨(d m (h.out k i).1).2,(h.out k i).2⟩
theorem dD.bK {σ':Hp}(h:dD σ F p sp)(e:bO σ σ'):dD σ' F p sp:=dR.bK dD.loc h e
variable {l:List (Int×Sl)}{B:Nat->Nat}
theorem fM.rS (h:fM σ F p q r l B sp){K:Sl->Prop}(hK:∀cap,sp.st.length<=cap->K ⟨some ⟨q,0,none⟩,sp.st.length,cap⟩):jB (Addr.add ⟨p,0,none⟩ 0) σ K:=by
 obtain⟨c,a,hd⟩:=h.hd;exact hd.rS rfl (hK c a)
theorem fM.rM (h:fM σ F p q r l B sp){K:Option Nat->Prop}(hK:K (some r)):m0 (Addr.add ⟨p,0,none⟩ 1) σ K:=by
 obtain⟨c,a,hd⟩:=h.hd;exact hd.rM rfl hK
theorem fM.zx (h:fM σ F p q r l B sp){i x:Nat}(hx:sp.st[i]?=some x){K:Bool->Bool->Prop}(hK:K (fN x).1 (fN x).2):j8 (Addr.add ⟨q,2*i,none⟩ 0) σ λa=>j8 (Addr.add ⟨q,2*i,none⟩ 1) σ λb=>K a b:=by
 obtain⟨rest,d⟩:=h.row;have g:=(cS.1 hx).1;have e:=DC hx;refine d.rB (x:=(fN x).1) ?_ (d.rB (x:=(fN x).2) ?_ hK)
 ·rw[zr,zg (by rw[Vv];omega)];exact e.1
 ·rw[zg (by rw[Vv];omega)];exact e.2
theorem Hz (h:dD σ F p sp){R:aO}(hR:R true σ):Xr.c (aW p) σ R:=by
 refine Xr.o ?_;obtain⟨q,r,l,B,h⟩:=h;have:=h.n1;refine bY.intro (cJ rfl (aG (h.rS λcap _=>?_)));rw[zU aC];exact hR
theorem CX (h:dD σ F p sp){R:aN}(hR:R (sp.st.length:Int) σ):Xu.c (aW p) σ R:=by
 refine Xu.o ?_;have a:=h;obtain⟨q,r,l,B,h⟩:=h;exact Hz a (cF rfl (aG (h.rS λcap _=>hR)))
def KW (st:List Nat):Nat:=st.countP (· != 0)
theorem IV (h:dD σ F p sp){R:aN}(hR:R (KW sp.st:Int) σ):Xy.c (aW p) σ R:=by
 refine Xy.o ?_;have w:=h;obtain⟨q,r,l,B,h⟩:=h;have n2:=h.n2;refine CX w ?_;refine Kh (a:=bN) (bb:=bN) (λ(n t:Int) v=>∃i:Nat,t=(i:Int)/\i<=sp.st.length/\v=σ/\n=(KW (sp.st.take i):Int)) (λ_ t _=>sp.st.length-t.toNat) ⟨0,rfl,O,rfl,by simp[KW]⟩ ?_;rintro n t v ⟨i,rfl,C,rfl,rfl⟩;refine cH (λu=>?_) λA=>?_
 ·have d:i<sp.st.length:=by omega
  have g:sp.st[i]?=some sp.st[i]:=cL d;have j:=h.qE _ (zd d);have e:KW (sp.st.take (i+1))=KW (sp.st.take i)+if sp.st[i]=0 then 0 else 1:=by
   rw[zf,g];simp only[KW,uy,tO,qw,List.countP_nil,zG];by_cases h0:sp.st[i]=0<;>simp[h0]
  have z:KW (sp.st.take i)<=i:=zI uR aE;refine aG (h.rS λcap y=>ix O aC ?_);rw[add_lit,show 0+(i:Int).toNat*2=2*i by omega];obtain⟨rest,b⟩:=h.row;have s:=DC g;refine b.rB (x:=(fN sp.st[i]).1) (by rw[zr,zg (by rw[Vv];omega)];exact s.1) ?_;by_cases h0:sp.st[i]=0
  ·rw[zB h0]at e;have:(fN sp.st[i]).1=false:=by rw[h0];rfl
   exact cF this (bZ (m:=i+1) O O ⟨⟨i+1,rfl,O,rfl,by rw[e];rfl⟩,O⟩)
  ·rw[zA h0]at e;have:(fN sp.st[i]).1=true:=by
    match sp.st[i],h0 with
    | 0,h=>exact absurd rfl h
    | 1,_=>rfl
    | n+2,_=>rfl
   exact cJ this (bZ (m:=KW (sp.st.take i)+1) O O (bZ (m:=i+1) O O ⟨⟨i+1,rfl,O,rfl,by rw[e]⟩,O⟩))
 ·have:i=sp.st.length:=by omega
  subst this;rw[zm]at *;exact hR
theorem fM.sg (h:fM σ F p q r l B sp):l.length=sp.st.count 2:=by
 have m:=h.map.nodup;have j:(l.map (·.1)).Perm (((List.range sp.st.length).filter λk=>sp.st[k]?==some 2).map λk=>((k:Nat):Int)):=by
  rw[xo m]
  ·intro x;rw[←MV,h.keys];simp only[zD,zH,zW,zZ];constructor
   ·rintro⟨k,rfl,hk⟩;exact⟨k,⟨(cS.1 hk).1,hk⟩,rfl⟩
   ·rintro⟨k,⟨_,hk⟩,rfl⟩;exact⟨k,rfl,hk⟩
  ·have e:((List.range sp.st.length).filter λk=>sp.st[k]?==some 2).Pairwise (· ≠ ·):=List.Pairwise.sublist sk xB;exact List.Pairwise.map _ (λa b (d:a≠b) g=>d (by exact_mod_cast g)) e
 have i:=j.length_eq;simp only[za]at i;rw[i,←wW];have key:∀st:List Nat,(List.range st.length).countP (λk=>st[k]?==some 2)=st.count 2:=by
  intro st
  induction st with
  | nil=>rfl
  | cons x st ih=>
   rw[zQ,AB,qw,AI,List.count_cons,←ih]
   congr 1
 exact key sp.st
theorem EB (h:dD σ F p sp){R:aN}(hR:R (sp.st.count 2:Int) σ):Xs.c (aW p) σ R:=by
 refine Xs.o ?_;have a:=h;obtain⟨q,r,l,B,h⟩:=h;refine Hz a (cF rfl (aG (h.rM ⟨l,h.map,?_⟩)));rw[h.sg];exact hR
end Go.Ar
namespace Go.Ar
open Go Go.Vc Go.Proofs
open Go.Bu (Zi)
variable {σ:Hp}{F:Rg}{p q r:Nat}{sp:Sp}{l:List (Int×Sl)}{B:Nat->Nat}
theorem Oi (l:List Nat)(n:Nat):ij (l.take n)=(ij l).take (2*n):=by
 induction l generalizing n with
 | nil=>simp[ij]
 | cons y l ih=>
  have e:∀z m,ij (z::m)=.bool (fN z).1 :: .bool (fN z).2::ij m:=λz m=>by simp[ij]
  cases n with
  | zero=>simp[ij]
  | succ n=>
   rw[sL,e,e,ih,show 2*(n+1)=2*n+1+1 by omega];simp
theorem T0 (l:List Nat)(n:Nat):ij (l.drop n)=(ij l).drop (2*n):=by
 induction l generalizing n with
 | nil=>simp[ij]
 | cons y l ih=>
  have e:∀z m,ij (z::m)=.bool (fN z).1 :: .bool (fN z).2::ij m:=λz m=>by simp[ij]
  cases n with
  | zero=>simp[ij]
  | succ n=>
   rw[Av,e,ih,show 2*(n+1)=2*n+1+1 by omega];simp
theorem T8 (n v:Nat):ij (List.replicate n v)=(List.replicate n [Value.bool (fN v).1,.bool (fN v).2]).flatten:=by
 induction n with
 | zero=>rfl
 | succ n ih=>rw[xF,xF,vY,←ih];simp[ij]
theorem _root_.Go.Vc.cP.zx {s:Sl}{l:List Nat}(h:cP s 2 (ij l) σ F){i x:Nat}(hx:l[i]?=some x){K:Bool->Bool->Prop}(hK:K (fN x).1 (fN x).2) :
 Ix s.a s.len (i:Int) 2 λa=>j8 (a.add 0) σ λu=>j8 (a.add 1) σ λw=>K u w:=by
 have y:=(cS.1 hx).1;have j:=DC hx;obtain⟨b,o,g,p⟩:=h.cell j.1;obtain⟨r,o1,d,e⟩:=h.cell j.2;rw[g]at d;cases d;have m:=h.1;rw[Vv]at m;rw[g];refine ix O O ?_;rw[add_lit];refine lu ?_ (lu ?_ hK)<;>rw[add_lit]
 ·rw[show o+(i:Int).toNat*2+0=o+2*i by omega];exact p
 ·rw[show o+(i:Int).toNat*2+1=o+(2*i+1) by omega];exact e
theorem _root_.Go.Vc.cP.xl {s:Sl}{l:List Nat}(h:cP s 2 (ij l) σ F):s.len=l.length:=by
 have:=h.1;rw[Vv]at this;omega
theorem Sg {s:Sl}{xs:List Nat}(h:cP s 2 (ij xs) σ F)(hl:xs.length<=1000000)(h2:∀x∈xs,x<=2){v:Nat}(hv:v<=2){R:aN}
 (hR:∀(t:Int) σ',bO σ σ'->decide (t≥0)=xs.contains v->R t σ'):Wn.c s (fN v).1 (fN v).2 σ R:=by
 refine Wn.o ?_;have y:=h.xl;refine nw (cs:=[.bool (fN v).1,.bool (fN v).2]) λw G e A=>?_;have h:=aH.bK h e;refine ZP (a:=bN) (λ(t:Int) z=>∃i:Nat,t=(i:Int)/\i<=xs.length/\z=w/\∀j,j<i->xs[j]?≠some v) (λt _=>xs.length-t.toNat) ⟨0,rfl,O,rfl,λj g=>O⟩ ?_;rintro t z ⟨i,rfl,E,rfl,b⟩;refine cH (λC=>?_) λD=>?_
 ·have d:i<xs.length:=by omega
  have u:xs[i]?=some xs[i]:=cL d;refine A.rB rfl (A.rB rfl (h.zx u ?_));rw[Bo hv (h2 _ (zd d))];refine cN (λr=>?_) λr=>?_
  ·have:v=xs[i]:=by simpa using r
   refine hR _ _ e ?_;have B:xs.contains v=true:=by rw[this];simp
   rw[B,zU O]
  ·have p:¬v=xs[i]:=by simpa using r
   refine bZ (m:=i+1) O O ⟨⟨i+1,rfl,O,rfl,λj g=>?_⟩,O⟩;by_cases e:j=i
   ·subst e;rw[u];intro e2;cases e2;exact p rfl
   ·exact b j O
 ·refine hR _ _ e ?_;have:xs.contains v=false:=by
   simp only[sQ,decide_eq_false_iff_not];intro hm;obtain⟨j,g⟩:=zL hm;have:=(cS.1 g).1;exact b j O g
  rw[this];rfl
theorem G8 {s:Sl}{xs:List Nat}(h:cP s 2 (ij xs) σ F)(hl:xs.length<=1000000)(h2:∀x∈xs,x<=2){v:Nat}(hv:v<=2){R:aO}
 (hR:∀σ',bO σ σ'->R (xs.contains v) σ'):Wj.c s (fN v).1 (fN v).2 σ R:=by
 refine Wj.o ?_;refine nw (cs:=[.bool (fN v).1,.bool (fN v).2]) λw g e a=>a.rB rfl (a.rB rfl ?_);refine Sg (aH.bK h e) hl h2 hv λt σ' b d=>?_;rw[d];exact hR σ' (Ext.trans e b)
theorem RL (g:Gl σ){x:Nat}(hx:x<=2){R:aO}(hR:∀σ',bO σ σ'->R (x != 0) σ'):YQ.c (fN x).1 (fN x).2 σ R:=by
 refine YQ.o ?_;refine nw (cs:=[.bool (fN x).1,.bool (fN x).2]) λv d e a=>a.rB rfl (a.rB rfl ?_);have g:=g.bK e;refine lu (by rw[←g.u0];rfl) (lu (by rw[←g.u1];rfl) ?_);have b:(((fN x).1==false)&&(((fN x).2==false)&&true))=(x==0):=Bo hx (y:=0) O;rw[b];exact hR v e
theorem NH {s:Sl}{xs:List Nat}(h:cP s 2 (ij xs) σ F)(g:Gl σ)(hl:xs.length<=1000000)(h2:∀x∈xs,x<=2){R:aO}
 (hR:∀σ',bO σ σ'->R (xs.any (· != 0)) σ'):Wg.c s ⟨301,#[],#[]⟩ σ R:=by
 refine Wg.o ?_;refine Wm.o ?_;have B:=h.xl;refine ZP (a:=bN) (λ(t:Int) E=>∃i:Nat,t=(i:Int)/\i<=xs.length/\bO σ E/\∀(j x:Nat),j<i->xs[j]?=some x->x=0) (λt _=>xs.length-t.toNat) ⟨0,rfl,O,Ext.refl _ _,λj x r=>O⟩ ?_;rintro t w ⟨i,rfl,H,e,p⟩;refine cH (λD=>?_) λG=>?_
 ·have d:i<xs.length:=by omega
  have A:xs[i]?=some xs[i]:=cL d;refine(aH.bK h e).zx A ?_;refine Gf (all := #[.agg #[.bool (fN xs[i]).1,.bool (fN xs[i]).2]]) (by kernel_rfl) aA ?_;refine RL (g.bK e) (h2 _ (zd d)) λC z=>?_;refine cN (λy=>?_) λy=>?_
  ·have:xs.any (· != 0)=true:=zq.2 ⟨_,zd d,y⟩;have:=hR C (Ext.trans e z);rw[‹xs.any (· != 0)=true›]at this;show R (decide ((i:Int)≥0)) _;rw[zU O];exact this
  ·have u:xs[i]=0:=by simpa using y
   refine bZ (m:=i+1) O O ⟨⟨i+1,rfl,O,Ext.trans e z,λj x r b=>?_⟩,O⟩;by_cases e:j=i
   ·subst e;rw[A]at b;cases b;exact u
   ·exact p j x O b
 ·have:xs.any (· != 0)=false:=by
   rw[np];intro x hm;obtain⟨j,r⟩:=zL hm;have:=(cS.1 r).1;simpa using p j x O r
  have:=hR w e;rw[‹xs.any (· != 0)=false›]at this;exact this
theorem fM.part (h:fM σ F p q r l B sp){x y c:Nat}(hl:x+y<=sp.st.length):cP ⟨some ⟨q,2*x,none⟩,y,c⟩ 2 (ij ((sp.st.drop x).take y)) σ F:=by
 obtain⟨rest,b⟩:=h.row;have a:(ij ((sp.st.drop x).take y)).length=y*2:=by rw[Vv,zO,zt];omega
 refine⟨a,.inr ⟨q,2*x,_,h.fs.2.1,rfl,b.q,λj d=>?_⟩⟩;rw[a]at d;rw[zg (by rw[Vv];omega),Oi,T0,zY,zB O,zn]
theorem Fl (h:dD σ F p sp)(a m:Int){R:Sl->Int->Hp->Prop}(h0:Zi sp.st.length a m=false->R ⟨none,0,0⟩ 1 σ)
 (h1:∀(x y:Nat) s,a=x->m=y->1<=y->x+y<=sp.st.length->cP s 2 (ij ((sp.st.drop x).take y)) σ F->R s 0 σ):YZ.c (aW p) a m σ R:=by
 refine YZ.o ?_;have z:=h;obtain⟨q,r,l,B,h⟩:=h;have n2:=h.n2;have b:¬(0<=a/\1<=m/\m<=sp.st.length-a)->R ⟨none,0,0⟩ 1 σ:=λA=>h0 (by simp only[Zi,←vB];exact zb A);refine Hz z (cF rfl (bY.intro (cH (λw=>bY.intro (cJ rfl (bY.intro (cJ rfl (cJ rfl (b O)))))) λw=>?_)));refine bY.intro (cH (λi=>bY.intro (cJ rfl (cJ rfl (b O)))) λi=>aG (h.rS λcap d=>?_));simp only;refine bY.intro (cH (λg=>cJ rfl (b O)) λg=>?_);refine aG (h.rS λcap d=>ar aC aC ?_);simp only;refine cH (λj=>b O) λj=>?_;obtain⟨x,rfl⟩:=zk (show 0<=a by omega);obtain⟨y,rfl⟩:=zk (show 0<=m by omega);refine aG (h.rS λcap d=>bZ (m:=x+y) O O ?_);refine ji O aC (zC _) ?_;simp only;rw[zA O];refine h1 x y _ rfl rfl O O ?_;have:=h.part (x:=x) (y:=y) (c:=cap-x) O;have e:(Option.map (λ(u:Addr)=>u.add (x*2)) (some (⟨q,0,none⟩:Addr)))=some ⟨q,2*x,none⟩:=by
  simp only[zh,add_lit];congr 2;omega
 rw[e,D0];exact this
def Sp.kz (s:Sp)(k v:Nat):Sp:={s with st:=s.st.set k v,wd:=λw=>if k*32<=w/\w<(k+1)*32 then 0 else s.wd w}
theorem I7 {st:List Nat}(h:∀x∈st,x<=2){k v:Nat}(hv:v<=2):∀x∈st.set k v,x<=2:=by
 intro x hx;rcases wQ hx with h1|h1
 ·exact h x h1
 ·omega
theorem fM.kz (h:fM σ F p q r l B sp){k v:Nat}(hk:k<sp.st.length)(hv:v<=1){σ':Hp}(e:Ext (λb=>b=q\/b=r) σ σ'){rest:List Value}
 (hb:bW σ' q (ij (sp.st.set k v)++rest)) (hm:dN σ' r .i64 .s (cT l (k:Int))):fM σ' F p q r (cT l (k:Int)) B (sp.kz k v):=by
 have a:∀j:Nat,(sp.st.set k v)[j]?=some 2↔j≠k/\sp.st[j]?=some 2:=λj=>by
  rw[nq];by_cases hjk:k=j
  ·subst hjk;rw[zB rfl,zB hk];constructor
   ·intro h;have:v=2:=by simpa using h
    omega
   ·intro h;exact absurd rfl h.1
  ·rw[zA hjk];exact⟨λh=>⟨λe=>hjk e.symm,h⟩,λh=>h.2⟩
 obtain⟨c,C,hd⟩:=h.hd;have G:¬(p=q\/p=r):=by have:=h.fs;omega
 refine⟨⟨c,by simpa[Sp.kz]using C,by simpa[Sp.kz]using e.cA hd G⟩,⟨rest,hb⟩,hm,λx=>?_,λj s g=>?_,λj u z m=>?_,λj d=>?_,h.fs,λw y=>?_,by simpa[Sp.kz]using h.n1,by simpa[Sp.kz]using h.n2,I7 h.qE O,h.pk⟩
 ·rw[Iz];by_cases hx:x=(k:Int)
  ·rw[zB hx];constructor
   ·intro h;cases h
   ·rintro⟨j,rfl,d⟩;have:=(a j).1 d;omega
  ·rw[zA hx,h.keys];constructor
   ·rintro⟨j,rfl,d⟩;exact⟨j,rfl,(a j).2 ⟨O,d⟩⟩
   ·rintro⟨j,rfl,d⟩;exact⟨j,rfl,((a j).1 d).2⟩
 ·rw[Iz]at g;by_cases hx:(j:Int)=(k:Int)
  ·rw[zB hx]at g;cases g
  ·rw[zA hx]at g;obtain⟨D,M,J,A,H,L,K⟩:=h.wd j s g;have N:=h.out j (h.dL g);refine⟨D,M,J,A,e.cA H O,L,λi E=>?_⟩;rw[K i E];simp only[Sp.kz];rw[zA O]
 ·exact h.inj j u ((a j).1 z).2 ((a u).1 m).2
 ·exact h.out j ((a j).1 d).2
 ·simp only[Sp.kz]at y ⊢;by_cases hin:k*32<=w/\w<(k+1)*32
  ·rw[zB hin]
  ·rw[zA hin];refine h.zero w λm=>y ((a _).2 ⟨O,m⟩)
theorem Sp.qd (s:Sp)(a v:Nat):s.set a 0 v=s:=by
 have d:fZ s.st a (a+0) v=s.st:=by
  apply zp;intro i;rw[Hs];cases s.st[i]? with
  | none=>rfl
  | some x=>simp only[zh];rw[zA O]
 have b:(λw=>if a*32<=w/\w<(a+0)*32 then 0 else s.wd w)=s.wd:=by
  funext w;rw[zA O]
 simp only[Sp.set,d,b]
theorem Sp.pD (s:Sp)(a m v:Nat)(h:a+m<s.st.length):(s.set a m v).kz (a+m) v=s.set a (m+1) v:=by
 have d:(fZ s.st a (a+m) v).set (a+m) v=fZ s.st a (a+(m+1)) v:=by
  apply zp;intro i;rw[nq,Hs,Hs,Qr];by_cases hi:a+m=i
  ·subst hi;rw[zB rfl,zB h,cL h,zh,zB O]
  ·rw[zA hi];cases s.st[i]? with
   | none=>rfl
   | some x=>
    simp only[zh];by_cases hin:a<=i/\i<a+m
    ·rw[zB hin,zB O]
    ·rw[zA hin,zA O]
 have b:(λw=>if(a+m)*32<=w/\w<(a+m+1)*32 then 0 else(if a*32<=w/\w<(a+m)*32 then 0 else s.wd w))=λw=>if a*32<=w/\w<(a+(m+1))*32 then 0 else s.wd w:=by
  funext w
  by_cases d:(a+m)*32<=w/\w<(a+m+1)*32
  ·rw[zB d,zB O]
  ·rw[zA d];by_cases b:a*32<=w/\w<(a+m)*32
   ·rw[zB b,zB O]
   ·rw[zA b,zA O]
 simp only[Sp.set,Sp.kz,d,b]
theorem E6 (h:dD σ F p sp){x y v:Nat}(hl:x+y<=sp.st.length)(hv:v<=1){R:aP}(hR:∀σ',Ext F σ σ'->dD σ' F p (sp.set x y v)->R σ') :
 Y4.c (aW p) x y (fN v).1 (fN v).2 σ R:=by
 refine Y4.o ?_;have V:sp.st.length<=1024:=by obtain⟨q,r,l,B,h⟩:=h;exact h.n2
 have z:dD σ (Cut F σ) p sp:=dR.cut dD.loc h;refine nw (cs:=[.bool (fN v).1,.bool (fN v).2]) λu hz e g=>?_;have S:=z.bK e;refine ZP (a:=bN) (λ(t:Int) w=>∃i:Nat,t=((x+i:Nat):Int)/\i<=y/\Ext (Cut F σ) u w/\bW w σ.size [.bool (fN v).1,.bool (fN v).2]/\dD w (Cut F σ) p (sp.set x i v)) (λt _=>x+y-t.toNat)
  ⟨0,rfl,O,Ext.refl _ _,g,by rw[Sp.qd];exact S⟩ ?_
 rintro t w ⟨i,rfl,hi,M,j,q,r,l,B,d⟩;refine bZ (m:=x+y) O O (cH (λU=>?_) λW=>?_)
 ·have J:(sp.set x i v).st.length=sp.st.length:=Qr _ _ _ _;refine aG (d.rS λcap L=>j.rB rfl (j.rB rfl (ix O aC ?_)));rw[add_lit,show 0+((x+i:Nat):Int).toNat*2=2*(x+i) by omega];obtain⟨rest,s⟩:=d.row;have K:x+i<(sp.set x i v).st.length:=by omega
  refine s.s1 (by rw[zJ,Vv];omega) λZ o1 X=>X.s1 (by rw[nM,zJ,Vv];omega) λw2 o2 P=>?_;rw[zr,FB K]at P;have D:Ext (· = q) w w2:=o1.ext.trans o2.ext;obtain⟨c,Y,hd⟩:=d.hd;have C:=D.cA hd d.fs.2.2.2.1;refine aG (C.rM rfl ⟨l,D.gN d.map (λe=>d.fs.2.2.2.2.2 e.symm),λw3 A _ E=>?_⟩);have o3:=A r rfl;have H:Ext (λb=>b=q\/b=r) w w3:=(D.sub λb g=>.inl g).trans (o3.ext.sub λb g=>.inr g);have N:=d.kz K hv H (Wp o3 P d.fs.2.2.2.2.2) E;rw[Sp.pD _ _ _ _ O]at N;have G:Ext (Cut F σ) w w3:=H.sub λb g=>by
   rcases g with rfl|rfl
   ·exact d.fs.2.1
   ·exact d.fs.2.2.1
  refine bZ (m:=x+(i+1)) O O ⟨⟨i+1,rfl,O,M.trans G,G.cA j λQ=>by have:=Q.2;omega,_,_,_,_,N⟩,O⟩
 ·have:i=y:=by omega
  subst this;refine hR w (Ext.cut (e.to.trans M)) (dR.mono dD.loc ⟨q,r,l,B,d⟩ λb _ g=>g.1)
theorem Γ (h:dD σ F p sp)(g:Gl σ)(hF:jh F)(a m:Int){R:aN}(hR:∀σ',Ext F σ σ'->dD σ' F p (gF sp a m)->R (fI sp a m) σ') :
 Zr.c (aW p) a m σ R:=by
 refine Zr.o ?_;have u:(∀x∈sp.st,x<=2)/\sp.st.length<=1024:=by obtain⟨q,r,l,B,h⟩:=h;exact⟨h.qE,h.n2⟩
 refine Fl h a m (λj=>?_) λx y s H E M D A=>?_
 ·have d:fI sp a m=1:=by unfold fI;rw[j];rfl
  have i:gF sp a m=sp:=by unfold gF;rw[d];rfl
  have:=hR σ (Ext.refl _ _);rw[d,i]at this;exact cJ rfl (this h)
 ·subst H;subst E;have j:Zi sp.st.length (x:Int) (y:Int)=true:=by simp only[Zi,zF,zR];omega
  refine cF rfl (NH A g (by rw[zO,zt];omega) (λz J=>u.1 z (qZ (m7 J))) λL d=>?_);have e:fI sp x y=if((sp.st.drop x).take y).any (· != 0)then 5 else 0:=by unfold fI;rw[j];rfl
  refine cN (λb=>?_) λb=>?_
  ·rw[b]at e;have i:gF sp x y=sp:=by unfold gF;rw[e];rfl
   have:=hR L (bO.to d);rw[e,i]at this;exact this (h.bK d)
  ·rw[b]at e;have i:gF sp x y=sp.set x y 1:=by unfold gF;rw[e];rfl
   have w:=g.bK d;refine lu (by rw[←w.c0];rfl) (lu (by rw[←w.c1];rfl) ?_);refine E6 (v:=1) (h.bK d) D O λG C K=>?_;have:=hR G (Ext.trans (bO.to d) C);rw[e,i]at this;exact this K
theorem Lz (h:dD σ F p sp)(g:Gl σ)(hF:jh F)(a m:Int){v:Nat}(hv:v<=1){R:aN}(hR:∀σ',Ext F σ σ'->dD σ' F p (dX sp a m v)->R (fF sp a m) σ') :
 XX.c (aW p) a m (fN v).1 (fN v).2 σ R:=by
 refine XX.o ?_;have J:(∀x∈sp.st,x<=2)/\sp.st.length<=1024:=by obtain⟨q,r,l,B,h⟩:=h;exact⟨h.qE,h.n2⟩
 have D:dD σ (Cut F σ) p sp:=dR.cut dD.loc h;refine nw (cs:=[.bool (fN v).1,.bool (fN v).2]) λu M e K=>?_;have G:=D.bK e;have d:∀w s',dD w (Cut F σ) p s'->dD w F p s':=λw s' h=>dR.mono dD.loc h λb _ K=>K.1;refine Fl G a m (λH=>?_) λx y s W S Y Q N=>?_
 ·have j:fF sp a m=1:=by unfold fF;rw[H];rfl
  have E:dX sp a m v=sp:=by unfold dX;rw[j];rfl
  have:=hR u (bO.to e);rw[j,E]at this;exact cJ rfl (this (d _ _ G))
 ·subst W;subst S;have H:Zi sp.st.length (x:Int) (y:Int)=true:=by simp only[Zi,zF,zR];omega
  have L:=g.bK e;refine cF rfl (lu (by rw[←L.u0];rfl) (lu (by rw[←L.u1];rfl) ?_));refine G8 (v:=0) N (by rw[zO,zt];omega) (λz M=>J.1 z (qZ (m7 M))) O λU j=>?_;have A:fF sp x y=if((sp.st.drop x).take y).contains 0 then 7 else 0:=by unfold fF;rw[H];rfl
  refine cN (λi=>?_) λi=>?_
  ·rw[i]at A;have E:dX sp x y v=sp:=by unfold dX;rw[A];rfl
   have:=hR U (bO.to (Ext.trans e j));rw[A,E]at this;exact this (d _ _ (G.bK j))
  ·rw[i]at A;have E:dX sp x y v=sp.set x y v:=by unfold dX;rw[A];rfl
   have C:=Ext.cA j K id;refine C.rB rfl (C.rB rfl ?_);refine E6 (G.bK j) Q hv λV P X=>?_;have:=hR V (Ext.cut (Ext.trans (bO.to (Ext.trans e j)) P));rw[A,E]at this;exact this (d _ _ X)
theorem RU (h:dD σ F p sp)(g:Gl σ)(hF:jh F)(a m:Int){R:aN}(hR:∀σ',Ext F σ σ'->dD σ' F p (dX sp a m 0)->R (fF sp a m) σ') :
 YJ.c (aW p) a m σ R:=by
 refine YJ.o ?_;exact lu (n:=(fN 0).1) g.u0 (lu (n:=(fN 0).2) g.u1 (Lz (v:=0) h g hF a m O hR))
theorem RJ (h:dD σ F p sp)(g:Gl σ)(hF:jh F)(a m:Int){R:aN}(hR:∀σ',Ext F σ σ'->dD σ' F p (dX sp a m 1)->R (fF sp a m) σ') :
 XK.c (aW p) a m σ R:=by
 refine XK.o ?_;exact lu (n:=(fN 1).1) g.c0 (lu (n:=(fN 1).2) g.c1 (Lz (v:=1) h g hF a m O hR))
end Go.Ar