/- Texts joined. -/
import Derived.Lib.Overlaps
import Derived.Laws.Externs
import Derived.Test.YtkabjcanamcbeaaGreatDoorL2
set_option linter.unusedVariables false
set_option linter.unusedSimpArgs false
namespace Go.Ar
open Go Go.Vc Go.Proofs
open Go.Bu (Zg)
variable {σ:Hp}{F:Rg}{p q:Nat}{st:List Nat}
structure gL (σ:Hp) (p q:Nat) (st:List Nat):Prop where
 hd:∃cap,st.length<=cap/\bX σ p [.slice (some ⟨q,0,none⟩) st.length cap]
 row:∃rest,bX σ q (ints st++rest)
 ne:p≠q
 n1:16<=st.length
 n2:st.length<=1024
 n3:st.length%16=0
theorem gL.bU {σ':Hp}(h:gL σ p q st)(e:Ext F σ σ')(hp:¬F p)(hq:¬F q):gL σ' p q st:=
 ⟨by obtain⟨c,a,b⟩:=h.hd;exact⟨c,a,e.bV b hp⟩,by obtain⟨r,a⟩:=h.row;exact⟨r,e.bV a hq⟩,h.ne,h.n1,h.n2,h.n3⟩
theorem gL.bK {σ':Hp}(h:gL σ p q st)(e:bO σ σ'):gL σ' p q st:=h.bU e id id
theorem gL.lt (h:gL σ p q st):p<σ.size/\q<σ.size:=by
 obtain⟨_,_,b⟩:=h.hd;obtain⟨_,a⟩:=h.row;exact⟨b.lt,a.lt⟩
theorem gL.rS (h:gL σ p q st){K:Sl->Prop}(hK:∀cap,st.length<=cap->K ⟨some ⟨q,0,none⟩,st.length,cap⟩):kG (Addr.add ⟨p,0,none⟩ 0) σ K:=by
 obtain⟨c,b,a⟩:=h.hd;exact a.rS rfl (hK c b)
theorem gL.part (h:gL σ p q st){s:Sl}{a n:Nat}(ha:s.a=some ⟨q,a,none⟩)(hn:s.len=n)(hl:a+n<=st.length):cT s 1 (ints ((st.drop a).take n)) σ (· = q):=by
 obtain⟨r,e⟩:=h.row;have b:((st.drop a).take n).length=n:=by simp;omega
 refine e.gE ha (by rw[QP,b,hn];simp) λj d=>?_;rw[QP,b]at d;rw[zh (by rw[QP];omega)];simp[ints,zb,d,zq]
theorem WlC {s:Sl}{xs:List Nat}(h:cT s 1 (ints xs) σ F)(hl:xs.length<=1000000)(v:Nat){R:aN}(hR:R ((xs.count v:Nat):Int) σ):ZL.c s v σ R:=by
 refine ZL.o ?_;have p:=h.lB;refine KA (a:=bN) (bb:=bN) (λ(n t:Int) j=>∃i:Nat,t=(i:Int)/\i<=xs.length/\n=(((xs.take i).count v:Nat):Int)/\j=σ) (λ_ t _=>xs.length-t.toNat) ⟨0,rfl,O,by simp,rfl⟩ ?_;rintro n t j ⟨i,rfl,y,rfl,rfl⟩;refine cI (λu=>?_) λw=>?_
 ·have g:i<xs.length:=by omega
  have r:xs[i]?=some xs[i]:=cM g;have e:(xs.take (i+1)).count v=(xs.take i).count v+if xs[i]=v then 1 else 0:=by
   rw[zl,r,wV,wP,List.count_singleton]
   congr 1
   by_cases h:xs[i]=v<;>simp[h]
  have x:(xs.take i).count v<=i:=zJ y9 aE;refine h.sI r (cU (λd=>?_) λd=>?_)
  ·have b:xs[i]=v:=by rw[lP]at d;simpa using d
   rw[zB b]at e;exact cA (m:=(xs.take i).count v+1) O O (cA (m:=i+1) O O ⟨⟨i+1,rfl,O,by rw[e],rfl⟩,O⟩)
  ·have b:¬xs[i]=v:=by rw[lP]at d;simpa using d
   rw[zA b,zt]at e;exact cA (m:=i+1) O O ⟨⟨i+1,rfl,O,congrArg _ e.symm,rfl⟩,O⟩
 ·have:i=xs.length:=by omega
  subst this;rw[zo]at *;exact hR
theorem kS {b o n c:Nat}{cs:List Value}(hb:bX σ b cs)(hl:o+n<=cs.length)(hn:n<=1000000)(v:Nat){R:aP}
 (hR:∀σ',QJ σ σ' b->bX σ' b (cs.take o++List.replicate n (.int .i64 (v:Int))++cs.drop (o+n))->R σ'):Qu.c ⟨some ⟨b,o,none⟩,n,c⟩ v σ R:=by
 refine Qu.o ?_;refine ZV (a:=bN) (λ(t:Int) p=>∃i:Nat,t=(i:Int)/\i<=n/\QJ σ p b/\bX p b (cs.take o++List.replicate i (.int .i64 (v:Int))++cs.drop (o+i))) (λt _=>n-t.toNat) ⟨0,rfl,O,⟨rfl,λ_ _=>rfl⟩,by simpa using hb⟩ ?_;rintro t p ⟨i,rfl,y,s,g⟩;refine cI (λr=>?_) λu=>?_
 ·simp only at r;refine ix O aC ?_;rw[add_lit];refine g.s0 aE λx j d=>?_;refine cA (m:=i+1) O O ⟨⟨i+1,rfl,O,⟨j.1.trans s.1,λk w=>(j.2 k w).trans (s.2 k w)⟩,?_⟩,O⟩;have:(cs.take o++List.replicate i (Value.int .i64 (v:Int))++cs.drop (o+i)).set (o+(i:Int).toNat*1) (Value.int .i64 (v:Int))=cs.take o++List.replicate (i+1) (Value.int .i64 (v:Int))++cs.drop (o+(i+1)):=by
   rw[Ci _ _ aE];have e:o+(i:Int).toNat*1-(cs.take o++List.replicate i (Value.int .i64 (v:Int))).length=0:=by simp;omega
   rw[e,ur O,List.set_cons_zero,DV];simp[mE,ug]
  rw[this]at d;exact d
 ·simp only at u;have:i=n:=by omega
  subst this;exact hR p s g
theorem gL.fill (h:gL σ p q st){a n:Nat}{r:List Value}{σ':Hp}{v:Nat}(hrow:bX σ q (ints st++r))(hl:a+n<=st.length)(ho:QJ σ σ' q)
 (hb:bX σ' q ((ints st++r).take a++List.replicate n (.int .i64 (v:Int))++(ints st++r).drop (a+n))):gL σ' p q (fX st a (a+n) v):=by
 obtain⟨c,g,e⟩:=h.hd;have b:=Qp st a (a+n) v;refine⟨⟨c,by rw[b];exact g,?_⟩,⟨r,?_⟩,h.ne,by rw[b];exact h.n1,by rw[b];exact h.n2,by rw[b];exact h.n3⟩
 ·rw[b];exact Ws ho e h.ne
 ·rw[Pv O hl,Vv,Vv];have d:(ints st++r).take a=ints (st.take a):=by
   rw[tT (by rw[QP];omega)];simp[ints]
  have i:(ints st++r).drop (a+n)=ints (st.drop (a+n))++r:=by
   rw[List.drop_append_of_le_length (by rw[QP];omega)];simp[ints]
  have j:ints (List.replicate (a+n-a) v)=List.replicate n (.int .i64 (v:Int)):=by
   rw[EV];simp[ints]
  rw[d,i]at hb;rw[j];simpa[mE]using hb
theorem gL.kS (h:gL σ p q st){a n c:Nat}(hl:a+n<=st.length)(v:Nat){R:aP}(hR:∀σ',Ext (· = q) σ σ'->gL σ' p q (fX st a (a+n) v)->R σ') :
 Qu.c ⟨some ⟨q,a,none⟩,n,c⟩ v σ R:=by
 obtain⟨r,b⟩:=h.row;have:=h.n2;exact Ar.kS b (by simp[QP];omega) O v λσ' d e=>hR σ' d.ext (h.fill b hl d e)
theorem HY (h:gL σ p q st){R:aO}(hR:R true σ):WW.c (aW p) σ R:=by
 refine WW.o ?_;refine bZ.intro (cJ rfl (aG (h.rS λcap _=>?_)));have:=h.n1;rw[zT aC];exact hR
theorem DA (h:gL σ p q st){R:aN}(hR:R ((st.length/16:Nat):Int) σ):XN.c (aW p) σ R:=by
 refine XN.o ?_;have:=h.n2;refine aG (h.rS λcap _=>nz aB ?_);refine cA (m:=st.length/16) ?_ O hR;rw[Yb O];simp
theorem yF (h:gL σ p q st){k:Nat}(hk:16*k+16<=st.length){R:Sl->Hp->Prop}(hR:∀c,R ⟨some ⟨q,16*k,none⟩,16,c⟩ σ):Xm.c (aW p) (k:Int) σ R:=by
 refine Xm.o ?_;have:=h.n2;refine aG (h.rS λcap a=>?_);refine cA (m:=16*k) O O (cA (m:=k+1) O O (cA (m:=16*k+16) O O ?_));refine jV O aC aC ?_;have e:16*k+16-16*k=16:=by omega
 rw[zA aC,e];simp only[zj,add_lit,rE,zI];exact hR _
theorem JV (h:gL σ p q st)(k:Int){R:Sl->Int->Hp->Prop}(h1:∀(x:Nat) c,k=(x:Int)->16*x+16<=st.length->R ⟨some ⟨q,16*x,none⟩,16,c⟩ 0 σ)(h0:yc st.length k=false->R ⟨none,0,0⟩ 1 σ) :
 XZ.c (aW p) k σ R:=by
 refine XZ.o ?_;have n3:=h.n3;refine HY h (cG rfl (bZ.intro (cI (λa=>cJ rfl (h0 ?_)) λa=>DA h ?_)))
 ·simp[yc];omega
 ·refine cI (λd=>h0 ?_) λb=>?_
  ·simp[yc];omega
  ·obtain⟨x,rfl⟩:=zn (show 0<=k by omega);exact yF h O λc=>h1 x c rfl O
theorem UV {n x:Nat}(h:16*x+16<=n):yc n (x:Int)=true:=by simp[yc];omega
theorem gL.first (h:gL σ p q st){x c:Nat}(hx:16*x+16<=st.length){K:Int->Prop}(hK:K ((st.getD (16*x) 0:Nat):Int)) :
 Ix (some ⟨q,16*x,none⟩) 16 0 1 λa=>fL .i64 a σ K:=by
 have b:=h.part (s:=⟨some ⟨q,16*x,none⟩,16,c⟩) (n:=16) rfl rfl hx;refine b.sI (i:=0) (x:=st.getD (16*x) 0) ?_ hK;simp[zb,zq,zL];rw[cM O];simp
theorem gL.jH (h:gL σ p q st){x c v:Nat}(hx:16*x+16<=st.length){R:aN}(hR:R ((gD st (16*x) (16*x+16) v:Nat):Int) σ):ZL.c ⟨some ⟨q,16*x,none⟩,16,c⟩ v σ R:=by
 refine WlC (h.part (n:=16) rfl rfl hx) aE v ?_;have e:gD st (16*x) (16*x+16) v=((st.drop (16*x)).take 16).count v:=by simp[gD]
 rw[e]at hR;exact hR
theorem SG (h:gL σ p q st){x c:Nat}(hx:16*x+16<=st.length){R:aO}(hR:R (yu st x) σ):Kb.c ⟨some ⟨q,16*x,none⟩,16,c⟩ σ R:=by
 refine Kb.o ?_;refine h.first (c:=c) hx (bZ.intro ?_);unfold yu at hR;rw[FG];cases e1:(st.getD (16*x) 0 != 0)
 ·rw[e1]at hR;exact cG rfl hR
 ·rw[e1]at hR;refine cJ rfl (h.jH (v:=1) hx ?_);rw[y5];exact hR
theorem FC (h:gL σ p q st){x c:Nat}(hx:16*x+16<=st.length){R:aN}(hR:R ((Vb st x:Nat):Int) σ):QF.c ⟨some ⟨q,16*x,none⟩,16,c⟩ σ R:=by
 refine QF.o ?_;refine h.jH (v:=1) hx (cU (λb=>?_) λb=>h.jH (v:=3) hx ?_)
 ·have a:gD st (16*x) (16*x+16) 1=0:=by simpa using b
  simpa[Vb,a]using hR
 ·have a:¬gD st (16*x) (16*x+16) 1=0:=by simpa using b
  refine cI (λe=>?_) λe=>?_
  ·have d:0<gD st (16*x) (16*x+16) 3:=by omega
   simpa[Vb,a,d]using hR
  ·have d:¬0<gD st (16*x) (16*x+16) 3:=by omega
   simpa[Vb,a,d]using hR
theorem Rz (h:gL σ p q st)(k:Int){R:aN}(hR:∀σ',Ext (· = q) σ σ'->gL σ' p q (kN st k)->R (nU st k) σ'):Ye.c (aW p) k σ R:=by
 refine Ye.o ?_;refine JV h k (λx c g j=>?_) λg=>?_
 ·subst g;have b:=UV j;refine cG rfl (h.first (c:=c) j (cU (λi=>?_) λi=>?_))
  ·have m:¬st.getD (16*x) 0=0:=by simpa using i
   have:nU st (x:Int)=5:=by simp only[nU,b,dE,zW,zA m]
   have a:kN st (x:Int)=st:=by simp[kN,this]
   have:=hR σ (Ext.refl _ _);rw[a]at this;simpa[*]using this h
  ·have m:st.getD (16*x) 0=0:=by simpa using i
   have d:nU st (x:Int)=0:=by simp only[nU,b,dE,zW,m]
   have a:kN st (x:Int)=fX st (16*x) (16*x+16) 3:=by simp[kN,d]
   refine h.kS j 3 λσ' e r=>?_;have:=hR σ' e;rw[d,a]at this;exact this r
 ·have d:nU st k=1:=by simp[nU,g]
  have a:kN st k=st:=by simp[kN,d]
  refine cJ rfl ?_;have:=hR σ (Ext.refl _ _);rw[d,a]at this;exact this h
theorem Nl {s:Sl}{xs:List Nat}(h:cT s 1 (ints xs) σ F)(hl:xs.length<=1000000)(v:Nat){R:aN}(h1:∀i:Nat,xs[i]?=some v->(∀j:Nat,j<i->xs[j]?≠some v)->R (i:Int) σ)(h0:v∉xs->R (-1) σ) :
 WJ.c s (v:Int) σ R:=by
 refine WJ.o ?_;have x:=h.lB;refine ZV (a:=bN) (λ(t:Int) w=>∃i:Nat,t=(i:Int)/\i<=xs.length/\w=σ/\∀j,j<i->xs[j]?≠some v) (λt _=>xs.length-t.toNat) ⟨0,rfl,O,rfl,λj d=>O⟩ ?_;rintro t w ⟨i,rfl,B,rfl,b⟩;refine cI (λy=>?_) λz=>?_
 ·have p:i<xs.length:=by omega
  have u:xs[i]?=some xs[i]:=cM p;refine h.sI u ?_;rw[lP];refine cU (λr=>?_) λr=>?_
  ·have:v=xs[i]:=by simpa using r
   exact h1 i (by rw[u,this]) b
  ·have g:¬v=xs[i]:=by simpa using r
   refine cA (m:=i+1) O O ⟨⟨i+1,rfl,O,rfl,λj d=>?_⟩,O⟩;by_cases e:j=i
   ·subst e;rw[u];intro e2;cases e2;exact g rfl
   ·exact b j O
 ·refine h0 λA=>?_;obtain⟨j,d⟩:=zM A;have:=(cQ.1 d).1;exact b j O d
theorem Wfa {s:Sl}{xs:List Nat}(h:cT s 1 (ints xs) σ F)(hl:xs.length<=1000000)(v:Nat){R:aO}(hR:R (xs.contains v) σ):Wo.c s (v:Int) σ R:=by
 refine Wo.o ?_;refine Nl h hl v (λi a _=>?_) λb=>?_
 ·have:xs.contains v=true:=by simpa using zE a
  rw[this]at hR;rw[zT O];exact hR
 ·have:xs.contains v=false:=by simpa using b
  rw[this]at hR;exact hR
theorem Web {s:Sl}{xs:List Int}(h:cT s 1 (xs.map (Value.int .i64)) σ F)(hl:xs.length<=1000000000)(v:Int){R:aO}(hR:R (xs.contains v) σ):Wo.c s v σ R:=by
 refine Wo.o ?_;refine WJ.o ?_;have w:s.len=xs.length:=by have:=h.1;simp at this;omega
 refine ZV (a:=bN) (λ(t:Int) u=>∃i:Nat,t=(i:Int)/\i<=xs.length/\u=σ/\∀j,j<i->xs[j]?≠some v) (λt _=>xs.length-t.toNat) ⟨0,rfl,O,rfl,λj d=>O⟩ ?_;rintro t u ⟨i,rfl,A,rfl,b⟩;refine cI (λy=>?_) λz=>?_
 ·have p:i<xs.length:=by omega
  have x:xs[i]?=some xs[i]:=cM p;refine h.tj x (cU (λr=>?_) λr=>?_)
  ·have e:v=xs[i]:=by simpa using r
   have:xs.contains v=true:=by rw[e];simp
   rw[this]at hR;show R (decide ((i:Int)≥0)) _;rw[zT O];exact hR
  ·have g:¬v=xs[i]:=by simpa using r
   refine cA (m:=i+1) O O ⟨⟨i+1,rfl,O,rfl,λj d=>?_⟩,O⟩;by_cases e:j=i
   ·subst e;rw[x];intro e2;cases e2;exact g rfl
   ·exact b j O
 ·have:xs.contains v=false:=by
   simp only[wy,decide_eq_false_iff_not];intro hm;obtain⟨j,d⟩:=zM hm;have:=(cQ.1 d).1;exact b j O d
  rw[this]at hR;exact hR
def Jj (f:Fv)(p:Nat->Bool)(σ:Hp):Prop:=∀(x:Nat) (σ':Hp) (R:aO),bO σ σ'->(∀σ'',bO σ' σ''->R (p x) σ'')->V2 Tryz.prog f [.int .i64 (x:Int)] [.one .b] σ' R
theorem Pz {s:Sl}{xs:List Nat}(h:cT s 1 (ints xs) σ F)(hl:xs.length<=1000000){f:Fv}{pr:Nat->Bool}(hf:Jj f pr σ){R:aO}(hR:∀σ',bO σ σ'->R (xs.any pr) σ') :
 Wz.c s f σ R:=by
 refine Wz.o ?_;refine W0.o ?_;have y:=h.lB;refine ZV (a:=bN) (λ(t:Int) w=>∃i:Nat,t=(i:Int)/\i<=xs.length/\bO σ w/\∀j x,j<i->xs[j]?=some x->pr x=false) (λt _=>xs.length-t.toNat) ⟨0,rfl,O,Ext.refl _ _,λj x r=>O⟩ ?_;rintro t w ⟨i,rfl,C,e,g⟩;refine cI (λz=>?_) λA=>?_
 ·have d:i<xs.length:=by omega
  have p:xs[i]?=some xs[i]:=cM d;refine(aH.bK h e).sI p (hf _ _ _ e λB u=>?_);cases hp:pr xs[i]
  ·refine cG rfl (cA (m:=i+1) O O ⟨⟨i+1,rfl,O,e.trans u,λj x r b=>?_⟩,O⟩);by_cases e3:j=i
   ·subst e3;rw[p]at b;cases b;exact hp
   ·exact g j x O b
  ·refine cJ rfl ?_;have:xs.any pr=true:=zw.2 ⟨_,zf d,hp⟩;show R (decide ((i:Int)≥0)) _;rw[zT O,←this];exact hR _ (e.trans u)
 ·have:xs.any pr=false:=by
   rw[p8];intro x p;obtain⟨j,r⟩:=zM p;have:=(cQ.1 r).1;simp[g j x O r]
  show R (decide ((-1:Int)≥0)) _;rw[show decide ((-1:Int)≥0)=false from rfl,←this];exact hR _ e
theorem RW (h:gL σ p q st)(k:Int){R:aN}(hR:∀σ',Ext (· = q) σ σ'->gL σ' p q (lD st k)->R (oY st k) σ'):Xj.c (aW p) k σ R:=by
 refine Xj.o ?_;refine JV h k (λx c g i=>?_) λg=>?_
 ·subst g;have d:=UV i;refine cG rfl (SG h i ?_);cases hi:yu st x
  ·have a:oY st (x:Int)=5:=by simp[oY,d,hi]
   have b:lD st (x:Int)=st:=by simp[lD,a]
   have:=hR σ (Ext.refl _ _);rw[a,b]at this;exact cJ rfl (this h)
  ·have a:oY st (x:Int)=0:=by simp[oY,d,hi]
   have b:lD st (x:Int)=fX st (16*x) (16*x+16) 0:=by simp[lD,a]
   refine cG rfl (h.kS i 0 λσ' e j=>?_);have:=hR σ' e;rw[a,b]at this;exact this j
 ·have a:oY st k=1:=by simp[oY,g]
  have b:lD st k=st:=by simp[lD,a]
  refine cJ rfl ?_;have:=hR σ (Ext.refl _ _);rw[a,b]at this;exact this h
theorem WkD {c:Nat}{s:Sl}{fr:List Nat}{σ0:Hp}(hb:bX σ0 c [.slice s.a s.len s.cap])(hs:cT s 1 (ints fr) σ0 F)(hl:fr.length<=1000):Jj ⟨269,#[],#[.pointer (some ⟨c,0,none⟩)]⟩ (λx=>!fr.contains x) σ0:=by
 intro x σ' R e hR;refine Gm (all := #[.int .i64 (x:Int),.pointer (some ⟨c,0,none⟩)]) (by kernel_rfl) aA ?_;refine YK.o ?_;refine(e.bV hb id).Cv rfl ?_;exact Wfa (aH.bK hs e) O x (hR _ (Ext.refl _ _))
theorem Ii (h:gL σ p q st)(a m:Int)(v:Nat){s:Sl}{fr:List Nat}(hs:cT s 1 (ints fr) σ F)(hl:fr.length<=1000){R:aN}(hR:∀σ',Ext (· = q) σ σ'->gL σ' p q (V8 st a m v fr)->R (sr st a m fr) σ') :
 Xs.c (aW p) a m v s σ R:=by
 refine Xs.o ?_;have n2:=h.n2;have S:=h.lt.2;refine nw (cs:=[.slice s.a s.len s.cap]) λv1 Q u N=>?_;have g:=h.bK u;have d:¬(0<=a/\1<=m/\m<=st.length-a)->R 1 v1:=λK=>by
  have b:Zg st.length a m=false:=by simp only[Zg,←yj];exact zg K
  have e:sr st a m fr=1:=by simp[sr,b]
  have r:V8 st a m v fr=st:=by simp[V8,e]
  have:=hR v1 u.to;rw[e,r]at this;exact this g
 refine HY g (cG rfl (bZ.intro ?_));refine cI (λE=>bZ.intro (cJ rfl (bZ.intro (cJ rfl (cJ rfl (d O)))))) λE=>?_;refine bZ.intro (cI (λJ=>bZ.intro (cJ rfl (cJ rfl (d O)))) λJ=>?_);refine aG (g.rS λcap A=>bZ.intro (cI (λC=>cJ rfl (d (by simp only at *;omega))) λC=>?_));simp only at C;refine aG (g.rS λcap A=>ar aC aC (cI (λD=>d (by simp only at *;omega)) λD=>?_));simp only at D;obtain⟨x,rfl⟩:=zn (show 0<=a by omega);obtain⟨y,rfl⟩:=zn (show 0<=m by omega);have j:x+y<=st.length:=by omega
 have b:Zg st.length (x:Int) (y:Int)=true:=by simp only[Zg,zG,zV];omega
 refine aG (g.rS λcap A=>cA (m:=x+y) O O (jV O aC aC ?_));rw[zA aC];simp only[zj,add_lit,rE,zI];have H:x+y-x=y:=by omega
 rw[H];have G:=g.part (s:=⟨some ⟨q,x,none⟩,y,cap-x⟩) (n:=y) rfl rfl j;refine Pz G aE (WkD (s:=s) N (aH.bK hs u) hl) λP r=>?_;have B:=g.bK r;have i:((st.drop x).take y).any (λz=>!fr.contains z) = !yi st x y fr:=by
  rw[yi,List.all_eq_not_any_not,Bool.not_not]
 rw[i];cases hA:yi st x y fr
 ·have e:sr st (x:Int) (y:Int) fr=5:=by simp[sr,b,hA]
  have w:V8 st (x:Int) (y:Int) v fr=st:=by simp[V8,e]
  have:=hR P (u.to.trans r.to);rw[e,w]at this;exact cJ rfl (this B)
 ·have e:sr st (x:Int) (y:Int) fr=0:=by simp[sr,b,hA]
  have w:V8 st (x:Int) (y:Int) v fr=fX st x (x+y) v:=by simp[V8,e]
  refine cG rfl (B.kS j v λv3 L M=>?_);have:=hR v3 (u.to.trans (r.to.trans L));rw[e,w]at this;exact this M
theorem Ax {h:Hp}{b:Nat}{xs:List Nat}{n c:Nat}(hb:bX h b (ints xs))(hn:n=xs.length):cT ⟨some ⟨b,0,none⟩,n,c⟩ 1 (ints xs) h (· = b):=
 hb.gE (o:=0) rfl (by rw[QP];simp[hn]) λj _=>by rw[zI]
theorem TC (h:gL σ p q st)(a m:Int){R:aN}(hR:∀σ',Ext (· = q) σ σ'->gL σ' p q (V8 st a m 1 [2,3])->R (sr st a m [2,3]) σ'):XO.c (aW p) a m σ R:=by
 refine XO.o ?_;refine nw (cs:=ints [2,3]) λv i e g=>?_;exact Ii (h.bK e) a m 1 (Ax g rfl) aA λσ' b d=>hR σ' (e.to.trans b) d
theorem WkA (h:gL σ p q st)(a m:Int){R:aN}(hR:∀σ',Ext (· = q) σ σ'->gL σ' p q (V8 st a m 2 [1])->R (sr st a m [1]) σ'):XD.c (aW p) a m σ R:=by
 refine XD.o ?_;refine nw (cs:=ints [1]) λv i e g=>?_;exact Ii (h.bK e) a m 2 (Ax g rfl) aA λσ' b d=>hR σ' (e.to.trans b) d
theorem OU (h:gL σ p q st)(a m:Int){R:aN}(hR:∀σ',Ext (· = q) σ σ'->gL σ' p q (V8 st a m 3 [2])->R (sr st a m [2]) σ'):W8.c (aW p) a m σ R:=by
 refine W8.o ?_;refine nw (cs:=ints [2]) λv i e g=>?_;exact Ii (h.bK e) a m 3 (Ax g rfl) aA λσ' b d=>hR σ' (e.to.trans b) d
def BS (st:List Nat)(x:Int):Int:=if 0<=x/\x<st.length then((st.getD x.toNat 0:Nat):Int)else -1
theorem SX (h:gL σ p q st)(x:Int){R:aN}(hR:R (BS st x) σ):X8.c (aW p) x σ R:=by
 refine X8.o ?_;have n2:=h.n2;unfold BS at hR;refine HY h (bZ.intro (cG rfl (bZ.intro (cI (λi=>cJ rfl ?_) λi=>aG (h.rS λcap g=>cI (λb=>?_) λb=>?_)))))
 ·rw[zA O]at hR;exact hR
 ·simp only at b;rw[zA O]at hR;exact hR
 ·simp only at b;rw[zB O]at hR;obtain⟨y,rfl⟩:=zn (show 0<=x by omega);refine aG (h.rS λcap g=>?_);have d:=h.part (s:=⟨some ⟨q,0,none⟩,st.length,cap⟩) (a:=0) (n:=st.length) rfl rfl O;rw[List.drop_zero,zo]at d;have e:y<st.length:=by omega
  refine d.sI (cM e) ?_;simpa[zL,cM e]using hR
theorem HC {s:Sl}{vs:List Value}(h:cT s 1 vs σ F)(h1:∀v∈vs,dP v=true)(hl:s.len<=1000000){R:Sl->Hp->Prop}
 (hR:∀s' σ',s'.len=s.len->bO σ σ'->bS s' 1 vs σ' (λb=>σ.size<=b)->R s' σ'):WH.c s σ R:=by
 refine WH.o ?_;exact BM h aB rfl h1 aB hl hR
theorem H9 (n:Nat)(P:Nat->Bool):(List.range (n+1)).filter P=(List.range n).filter P++(if P n then[n]else[]):=by
 rw[mD,yw]
 congr 1
 cases h:P n<;>simp[h]
theorem Wk3 (h:gL σ p q st)(k:Nat){R:Sl->Hp->Prop}(hR:∀s σ',bO σ σ'->bS s 1 (ints (Kt st k)) σ' (λb=>σ.size<=b)->R s σ'):X2.c (aW p) (k:Int) σ R:=by
 refine X2.o ?_;have n2:=h.n2;refine HY h (cG rfl (DA h ?_));refine KA (a:=.s) (bb:=bN) (λ(out:Sl) (t:Int) u=>∃i:Nat,t=(i:Int)/\i<=st.length/16/\bO σ u/\bS out 1 (ints ((List.range i).filter λh=>st.getD (16*h) 0 != 0&&Vb st h==k)) u (λb=>σ.size<=b))
  (λ_ t _=>st.length/16-t.toNat) ⟨0,rfl,O,Ext.refl _ _,bS.nil _ _ _ _⟩ ?_
 rintro out t u ⟨i,rfl,M,e,d⟩;have A:=h.bK e;refine cI (λE=>?_) λG=>?_
 ·have y:16*i+16<=st.length:=by omega
  refine yF A y λc=>A.first (c:=c) y (bZ.intro ?_);have D:=d.lB;have H:((List.range i).filter λh=>st.getD (16*h) 0 != 0&&Vb st h==k).length<=i:=zJ (qB _ _) aA;have next:∀(r:Bool),r=(st.getD (16*i) 0 != 0&&Vb st i==k)->If r
   (Nw (.cells #[.int .i64 (i:Int)] 3 (0,0)) u λB J=>App out 1 8 3 [.int .i64 0] ⟨some B,1,1⟩ J λw x=>Ar .i64 ((i:Int)+1) λg=>
    (∃j:Nat,g=(j:Int)/\j<=st.length/16/\bO σ x/\bS w 1 (ints ((List.range j).filter λh=>st.getD (16*h) 0 != 0&&Vb st h==k)) x (λb=>σ.size<=b))/\st.length/16-g.toNat<st.length/16-(i:Int).toNat)
   (Ar .i64 ((i:Int)+1) λg=>(∃j:Nat,g=(j:Int)/\j<=st.length/16/\bO σ u/\bS out 1 (ints ((List.range j).filter λh=>st.getD (16*h) 0 != 0&&Vb st h==k)) u (λb=>σ.size<=b))/\st.length/16-g.toNat<st.length/16-(i:Int).toNat):=by
   intro r hr;have z:=H9 i λh=>st.getD (16*h) 0 != 0&&Vb st h==k;rw[←hr]at z;cases r
   ·refine cG rfl (cA (m:=i+1) O O ⟨⟨i+1,rfl,O,e,?_⟩,O⟩);rw[z];simpa using d
   ·refine cJ rfl (d.push (vs:=[.int .i64 (i:Int)]) (λb L=>zJ e.1 L) rfl rfl (by simp[dP]) O O λN x K F C=>?_);refine cA (m:=i+1) O O ⟨⟨i+1,rfl,O,Ext.fresh e F λ_ h=>h,?_⟩,O⟩;rw[z,Vv];exact C
  rw[FG];cases e1:(st.getD (16*i) 0 != 0)
  ·exact cG rfl (next false (by rw[e1];rfl))
  ·refine cJ rfl (FC A y ?_);rw[lP];exact next _ (by rw[e1];rfl)
 ·have:i=st.length/16:=by omega
  subst this;exact hR _ _ e d
theorem Wk9 (h:gL σ p q st){R:Sl->Hp->Prop}(hR:∀s σ',bO σ σ'->bS s 1 (ints (Kt st 0)) σ' (λb=>σ.size<=b)->R s σ'):Yw.c (aW p) σ R:=by
 refine Yw.o ?_;exact Wk3 h 0 hR
theorem PO {n:Nat}(h1:16<=n)(h2:n<=1024)(h3:n%16=0){R:Option Addr->Int->Hp->Prop}(hR:∀σ' p q,bO σ σ'->σ.size<=p->σ.size<=q->gL σ' p q (List.replicate n 0)->R (some ⟨p,0,none⟩) 0 σ'):KJ.c (n:Int) σ R:=by
 refine KJ.o ?_;refine bZ.intro (fJ O (bZ.intro (fJ O (nz aB ?_))));rw[Kj O];have:(((n:Int)%16) != 0)=false:=by
  have:((n:Int)%16)=0:=by omega
  rw[this];rfl
 rw[this];refine cG rfl (mk O O λv j e b=>nw (cs:=[.slice (some ⟨σ.size,0,none⟩) n n]) λm g d a=>?_);have i:(List.replicate n [Value.int .i64 0]).flatten=ints (List.replicate n 0):=by
  have:[Value.int .i64 0]=ints [0]:=rfl;rw[this];clear b hR
  induction n with
  | zero=>rfl
  | succ n ih=>simp[Bj,ints]
 rw[i]at b;refine hR _ _ _ (e.trans d) O (zD _) ⟨⟨n,by simp,by simpa using a⟩,⟨[],by simpa using d.bV b id⟩,O,by simpa using h1,by simpa using h2,by simpa using h3⟩
end Go.Ar
namespace Go.Proofs
open Go.Vc
set_option maxRecDepth 100000
def ZG.h:Hn:=.q .o1 (.q (.q .o3 .aJ) (.q (.cV (.tail 10 (RI.ops 10) [.op])) .l))
theorem ZG.o {a:R2}{b:Hp}{c:Int->Int->Hp->Prop}(d:aV #[.I 0,.I 0] 92 b λd e=>Yv.c a e λf g=>If (!f) (aR d 0 (.I 0) g λh=>aR d 1 (.I 0) h λi=>aQ d 0 i λj=>aQ d 1 i λk=>c j k i) (bD a 0 g λm=>bQ a λn=>bM ((n.add 1).add 1) g λo=>aR d 0 (.I m) g λp=>aR d 1 (.I o) p λq=>aQ d 0 q λr=>aQ d 1 q λs=>c r s q)):ZG.c a b c:=Wa Tryz.func138 (x:=ZG.h) (R0 d)
def XW.h:Hn:=.q .o1 (.q (.q .o3 .aK) (.q .o6 .l))
theorem XW.o {a:R2}{b:Hp}{c:aN}(d:Yv.c a b λd e=>If (!d) (c 0 e) (bE a 4 e λg=>c ((g.len:Nat):Int) e)):XW.c a b c:=Wa Tryz.func141 (x:=XW.h) (R0 d)
def Yi.h:Hn:=.q .o2 (.q (.q .o3 .aJ) (.q .o5 (.q (.q (.cV (.iH false [] [(32,.one .b)] (.take 0 (.take 1 (.all [(2,.take 3 (.take 4 (.split 18 (.take 5 (.take 6 (.take 7 (.take 8 (.take 9 (.take 10 (.take 11 (.take 12 (.take 13 (.take 14 (.take 15 (.take 16 (.take 17 (.take 18 (.done))))))))))))))) (.take 5 (.take 6 (.take 7 (.take 8 (.take 11 (.take 12 (.take 13 (.take 14 (.all [(9,.take 10 (.all [(15,.take 16 (.take 17 (.take 18 (.done))))])),(15,.all [(9,.take 10 (.take 16 (.take 17 (.take 18 (.done)))))])]))))))))))))]))))) .aJ) (.q .o9 .l))))
theorem Yi.o {a:R2}{b:Int}{c:Hp}{d:Int->Int->Hp->Prop}(e:Yv.c a c λe f=>If (!e) (d 0 5 f) (Yz.c a 0 f λg h=>bL (b-g) λi=>Jn [.b] (λ(j:Bool) k=>If j (d 0 8 k) (bQ a λl=>bM ((l.add 1).add 0) k λm=>Nz m<|bL (i.tdiv m) λn=>d n 0 k)) λo=>Yz.c a 0 h λp q=>If (b<p) (o true q) (bQ a λr=>bQ a λs=>(aX r 4 q λt=>bM ((s.add 1).add 0) q λu=>bL (((t.len:Nat):Int)*u) λv=>o (decide (i≥v)) q) ∧ (bM ((s.add 1).add 0) q λw=>aX r 4 q λx=>bL (((x.len:Nat):Int)*w) λy=>o (decide (i≥y)) q)))):Yi.c a b c d:=Wa Tryz.func146 (x:=Yi.h) (R0 e)
def Yv.h:Hn:=.q .o1 (.q (.cV (.seq [.op,.op,.op,.dB true 6 (RI.ops 6),.op])) .l)
theorem Yv.o {a:R2}{b:Hp}{c:aO}(d:bZ (λd e=>c d e) λf=>If (!a.isNone) (bE a 4 b λh=>f (decide (((h.len:Nat):Int)>0)) b) (f false b)):Yv.c a b c:=Wa Tryz.func200 (x:=Yv.h) (R0 d)
def Yz.h:Hn:=.q .o1 (.q (.oq 14) .l)
theorem Yz.o {a:R2}{b:Int}{c:Hp}{d:aN}(e:bQ a λe=>aQ e 0 c λf=>bL (f*256) λg=>bQ a λh=>bM ((h.add 1).add 0) c λi=>bL (b*i) λj=>bL (g+j) λk=>d k c):Yz.c a b c d:=Wa Tryz.func202 (x:=Yz.h) (R0 e)
def KK.h:Hn:=.q .o3 (.q .o7 (.q (.q (.cV (.seq [.op,.op,.op,.dB false 2 [.op,.op],.op,.dB false 5 (RI.ops 5)])) .aJ) (.q (.cV (.held true [] (.tk [0,1,2] (.all [(3,.take 4 (.all [(5,.take 6 (.take 7 (.done)))]))])))) .l)))
theorem KK.o {a b c d:Int}{e:Hp}{f:Option Addr->Int->Hp->Prop}(g:aV #[.I b,.I c,.I d] 31 e λg h=>aQ g 0 h λi=>aQ g 1 h λj=>aQ g 2 h λk=>Ze.c i j k h λl m n=>bZ (λo p=>bZ (λq r=>If q (f none 1 r) (dT r λs=>aS s g 0 λt=>aS s g 1 λu=>aS s g 2 λv=>Mk l l 8 3 [.I 0] r λw x=>And (s x) <| aV #[.I a,.I t,.I u,.I v,.slice w.a w.len w.cap,.I 0] 296 x λy z=>And (s z) <| f (some y) 0 z)) λaa=>If o (aa true p) (aQ g 1 p λab=>bL (1024-ab) λac=>aa (decide (a>ac)) p)) λad=>If (m != 0) (ad true n) (ad (decide (a<0)) n)):KK.c a b c d e f:=Wa Tryz.func256 (x:=KK.h) (R0 g)
def ZK.h:Hn:=.q .o1 (.q .o8 (.q (.k (.q .o3 (.c .aL (.q .o9 .aK)))) (.q .o4 .aM)))
theorem ZK.o {a:R2}{b:Int}{c:Hp}{d:aN}(e:Yg.c a b c λe f g=>If (f != 0) (d f g) (bQ a λh=>aX h 4 g λi=>Ix i.a i.len e 1 λj=>bM j g λk=>If (k==0) (d 9 g) (aV #[.I e] 3 g λl m=>Zu.c a 0 ⟨some l,1,1⟩ m λn=>d 0 n))):ZK.c a b c d:=Wa Tryz.func275 (x:=ZK.h) (R0 e)
def ZE.h:Hn:=.q .o2 (.q (.q .o3 .aJ) (.q .o6 (.q (.q .o2 .aJ) (.q .o4 (.q .o5 .l)))))
theorem ZE.o {a:R2}{b:Hp}{c:Int->Int->Hp->Prop}(d:Yv.c a b λd e=>If (!d) (c 0 5 e) (bE a 4 e λg=>WJ.c g 0 e λh i=>If (h<0) (c 0 6 i) (aV #[.I h] 3 i λj k=>Zu.c a 1 ⟨some j,1,1⟩ k λl=>Yz.c a h l λm n=>c m 0 n))):ZE.c a b c:=Wa Tryz.func277 (x:=ZE.h) (R0 d)
def YH.h:Hn:=.q .o2 (.q .o8 (.q (.q .o2 (.c (.q .o3 .l) .l)) (.q .fR .l)))
theorem YH.o {a:R2}{b:Int}{c:Hp}{d:Bool->Int->Hp->Prop}(e:Yg.c a b c λe f g=>If (f != 0) (d false f g) (bQ a λh=>aX h 4 g λi=>Ix i.a i.len e 1 λj=>bM j g λk=>d (k==1) 0 g)):YH.c a b c d:=Wa Tryz.func285 (x:=YH.h) (R0 e)
def Yg.h:Hn:=.q .o2 (.q .o8 (.q (.q (.cV (.seq [.op,.op,.op,.dB true 5 (RI.ops 5)])) .aJ) (.q .o4 .l)))
theorem Yg.o {a:R2}{b:Int}{c:Hp}{d:Int->Int->Hp->Prop}(e:Yi.c a b c λe f g=>bZ (λh i=>If h (d 0 8 i) (d e f i)) λj=>If (f==0) (Yz.c a e g λk l=>j (k != b) l) (j false g)):Yg.c a b c d:=Wa Tryz.func297 (x:=Yg.h) (R0 e)
def Zu.h:Hn:=.q .o3 (.k (.loop [(10,.I)] (.q .o1 (.q (.c .l .l) (.q (.k (.q .o3 (.q (.cV (.tail 16 (RI.ops 16) [.op])) .o8))) .o2)))))
theorem Zu.o {a:R2}{b:Int}{c:Sl}{d:Hp}{e:aP}(f:Xb [bN] (λf=>f 0 d) λg (h:Int) i=>If (h<((c.len:Nat):Int)) (Ix c.a c.len h 1 λj=>bM j i λk=>bD a 5 i λm=>bE a 4 i λo=>Ix o.a o.len k 1 λp=>bM p i λq=>bL (b-q) λr=>bL (m+r) λs=>bQ a λt=>aR t 5 (.I s) i λu=>bE a 4 u λw=>Ix w.a w.len k 1 λx=>cY x (.I b) u λy=>bL (h+1) λz=>g z y) (e i)):Zu.c a b c d e:=Wa Tryz.func298 (x:=Zu.h) (R0 f)
end Go.Proofs
namespace Go.Ar
open Go Go.Vc Go.Proofs
variable {σ:Hp}{F:Rg}{p q:Nat}{c:bY}{s:cH}
def r7 (tk:List Bool):List Nat:=tk.map λb=>if b then 1 else 0
theorem AD (tk:List Bool):(r7 tk).length=tk.length:=by simp[r7]
theorem Gs {tk:List Bool}{i:Nat}{b:Bool}(h:tk[i]?=some b):(r7 tk)[i]?=some (if b then 1 else 0):=by simp[r7,h]
theorem Wnu (tk:List Bool)(i:Nat)(b:Bool):r7 (tk.set i b)=(r7 tk).set i (if b then 1 else 0):=by simp[r7,wQ]
structure iN (σ:Hp) (p q:Nat) (c:bY) (s:cH):Prop where
 hd:∃cap,c.n<=cap/\bX σ p [.int .i64 (s.st:Int),.int .i64 (c.size:Int),.int .i64 (c.aF:Int),.int .i64 (c.batch:Int),.slice (some ⟨q,0,none⟩) c.n cap,.int .i64 (s.many:Int)]
 row:∃rest,bX σ q (ints (r7 s.tk)++rest)
 ne:p≠q
 len:s.tk.length=c.n
 ok:c.ok
 fit:s.st+c.aF<=1024
theorem iN.bU {σ':Hp}(h:iN σ p q c s)(e:Ext F σ σ')(hp:¬F p)(hq:¬F q):iN σ' p q c s:=
 ⟨by obtain⟨c,a,b⟩:=h.hd;exact⟨c,a,e.bV b hp⟩,by obtain⟨r,a⟩:=h.row;exact⟨r,e.bV a hq⟩,h.ne,h.len,h.ok,h.fit⟩
theorem iN.bK {σ':Hp}(h:iN σ p q c s)(e:bO σ σ'):iN σ' p q c s:=h.bU e id id
theorem iN.lt (h:iN σ p q c s):p<σ.size/\q<σ.size:=by
 obtain⟨_,_,b⟩:=h.hd;obtain⟨_,a⟩:=h.row;exact⟨b.lt,a.lt⟩
theorem iN.rS (h:iN σ p q c s){K:Sl->Prop}(hK:∀cap,c.n<=cap->K ⟨some ⟨q,0,none⟩,c.n,cap⟩):kG (Addr.add ⟨p,0,none⟩ 4) σ K:=by
 obtain⟨a,d,b⟩:=h.hd;exact b.rS rfl (hK a d)
theorem iN.rI (h:iN σ p q c s){i:Nat}{x:Int}(hx:∀a b:Value,([.int .i64 (s.st:Int),.int .i64 (c.size:Int),.int .i64 (c.aF:Int),.int .i64 (c.batch:Int),a,.int .i64 (s.many:Int)]:List Value)[0+i]?=some (.int .i64 x)){K:Int->Prop}(hK:K x):fL .i64 (Addr.add ⟨p,0,none⟩ i) σ K:=by
 obtain⟨e,g,d⟩:=h.hd;exact d.rI (hx _ .nilFunc) hK
theorem iN.gG (h:iN σ p q c s){i j:Nat}{x:Int}(hx:∀a b:Value,([.int .i64 (s.st:Int),.int .i64 (c.size:Int),.int .i64 (c.aF:Int),.int .i64 (c.batch:Int),a,.int .i64 (s.many:Int)]:List Value)[0+i+j]?=some (.int .i64 x)){K:Int->Prop}(hK:K x):fL .i64 (Addr.add (Addr.add ⟨p,0,none⟩ i) j) σ K:=by
 obtain⟨e,g,d⟩:=h.hd;exact d.gG (hx _ .nilFunc) hK
theorem iN.oO (h:iN σ p q c s)(cap:Nat):cT ⟨some ⟨q,0,none⟩,c.n,cap⟩ 1 (ints (r7 s.tk)) σ (· = q):=by
 obtain⟨r,a⟩:=h.row;refine a.gE (o:=0) rfl (by rw[QP,AD,h.len];simp) λj b=>?_;rw[zI,zh b]
theorem BI (h:iN σ p q c s){R:aO}(hR:R true σ):Yv.c (aW p) σ R:=by
 refine Yv.o ?_;refine bZ.intro (cJ rfl (aG (h.rS λcap _=>?_)));have:=h.ok.qY;rw[zT aC];exact hR
theorem Mx (h:iN σ p q c s){R:aN}(hR:R (c.n:Int) σ):XW.c (aW p) σ R:=by
 refine XW.o ?_;exact BI h (cG rfl (aG (h.rS λcap _=>hR)))
theorem CS (h:iN σ p q c s)(i:Nat)(hi:i<=1000){R:aN}(hR:R ((at_ c s i:Nat):Int) σ):Yz.c (aW p) (i:Int) σ R:=by
 refine Yz.o ?_;have a:=h.ok;unfold bY.ok at a;have:=h.fit;have b:i*c.size<=1000*512:=nC hi O;refine aG (h.rI (λ_ _=>rfl) (cA (m:=s.st*256) aA O (aG (h.gG (λ_ _=>rfl) ?_))));exact cA (m:=i*c.size) aA O (cA (m:=at_ c s i) (by simp[at_]) (by unfold at_;omega) hR)
theorem Ev (h:iN σ p q c s)(x:Int)(hx2:x<=9223372036854775807){R:Int->Int->Hp->Prop}(h1:∀i,idx c s x=some i->R (i:Int) 0 σ)(h0:idx c s x=none->R 0 8 σ):Yi.c (aW p) x σ R:=by
 refine Yi.o ?_;have A:=h.ok;unfold bY.ok at A;have C:=h.ok.lI;have j:=h.fit;have a:=h.len;have E:c.n*c.size<=128*512:=nC C O;refine BI h (cG rfl (CS h 0 O ?_));have w:at_ c s 0=s.st*256:=by simp[at_]
 rw[w];refine C6 ?_;refine Jn.intro (CS h 0 O ?_);rw[w];refine cI (λz=>cJ rfl (h0 ?_)) λB=>?_
 ·unfold idx;rw[zB O]
 ·rw[US O O];obtain⟨y,D⟩:=zn (show 0<=x by omega);have key:If (decide (x-((s.st*256:Nat):Int)≥((c.n*c.size:Nat):Int))) (R 0 8 σ)
   (bQ (some ⟨p,0,none⟩) λe=>fL .i64 ((e.add 1).add 0) σ λd=>Nz d<|Ar .i64 ((x-((s.st*256:Nat):Int)).tdiv d) λg=>R g 0 σ):=by
   refine cI (λu=>h0 ?_) λr=>aG (h.gG (λ_ _=>rfl) (nz O ?_))
   ·unfold idx;rw[a,zB O]
   ·have:idx c s x=some ((x-((s.st*256:Nat):Int)).toNat/c.size):=by unfold idx;rw[a,zA O]
    refine cA (m:=(x-((s.st*256:Nat):Int)).toNat/c.size) ?_ ?_ (h1 _ this)
    ·rw[Yb O];have:x-((s.st*256:Nat):Int)=(((x-((s.st*256:Nat):Int)).toNat:Nat):Int):=by omega
     rw[this];simp
    ·have:=Nat.div_le_self (x-((s.st*256:Nat):Int)).toNat c.size;omega
  refine aG (aG ⟨h.rS λcap b=>h.gG (λ_ _=>rfl) (cA (m:=c.n*c.size) aA O key),h.gG (λ_ _=>rfl) (h.rS λcap b=>cA (m:=c.n*c.size) aA O key)⟩)
theorem Ju (h:iN σ p q c s)(x:Int)(hx2:x<=9223372036854775807){R:Int->Int->Hp->Prop}(h1:∀i,obj c s x=some i->i<c.n->R (i:Int) 0 σ)(h0:obj c s x=none->R 0 8 σ):Yg.c (aW p) x σ R:=by
 refine Yg.o ?_;have g:=h.ok;unfold bY.ok at g;have j:=h.ok.lI;refine Ev h x hx2 (λi b=>bZ.intro (cJ rfl ?_)) λb=>bZ.intro (cG rfl (cG rfl (h0 (by unfold obj;rw[b]))));have a:=((Uf O).1 b).2.2;rw[h.len]at a;refine CS h i O (cU (λd=>h0 ?_) λd=>h1 i ?_ a)
 ·have:¬x=((at_ c s i:Nat):Int):=λe=>by rw[e]at d;simp at d
  unfold obj;rw[b];simp[this]
 ·have:x=((at_ c s i:Nat):Int):=by
   have:((at_ c s i:Nat):Int)=x:=by simpa using d
   exact this.symm
  unfold obj;rw[b];simp[this]
def cH.is (s:cH)(i:Nat):Bool:=s.tk.getD i false
theorem cH.pv {s:cH}{i:Nat}(hi:i<s.tk.length):s.tk[i]?=some (s.is i):=by
 simp[cH.is,zL,cM hi]
theorem SL (h:iN σ p q c s)(x:Int)(hx2:x<=9223372036854775807){R:Bool->Int->Hp->Prop}(h1:∀i,obj c s x=some i->R (s.is i) 0 σ)(h0:obj c s x=none->R false 8 σ):YH.c (aW p) x σ R:=by
 refine YH.o ?_;refine Ju h x hx2 (λi b a=>cG rfl (aG (h.rS λcap d=>?_))) λb=>cJ rfl (h0 b);rw[←h.len]at a;refine(h.oO cap).sI (Gs (cH.pv a)) ?_;have:=h1 i b;cases hb:s.is i<;>rw[hb]at this<;>simpa using this
theorem Co {s:cH}{i:Nat}(hi:i<s.tk.length)(v:Bool):((s.put i v).many:Int)=s.many+((if v then 1 else 0)-(if s.is i then 1 else 0)):=by
 have key:∀(l:List Bool) (i:Nat) (b:Bool),l[i]?=some b->(((l.set i v).count true:Nat):Int)=(l.count true:Nat)+((if v then 1 else 0)-(if b then 1 else 0)):=by
  intro l
  induction l with
  | nil=>intro i b h;simp at h
  | cons x l ih=>
   intro i b h;cases i with
   | zero=>
    simp at h;subst h;cases v<;>cases x<;>simp[yS]<;>omega
   | succ i=>
    have:=ih i b (by simpa using h);simp only[vZ,yS]
    push_cast
    omega
 exact key s.tk i _ (cH.pv hi)
theorem HT (s:cH):s.many<=s.tk.length:=y9
theorem JO (h:iN σ p q c s){i:Nat}(hi:i<c.n)(v:Bool){sl:Sl}{G:Rg}(hs:cT sl 1 (ints [i]) σ G){R:aP}(hR:∀σ',Ext (λb=>b=p\/b=q) σ σ'->iN σ' p q c (s.put i v)->R σ') :
 Zu.c (aW p) (if v then 1 else 0) sl σ R:=by
 refine Zu.o ?_;have J:sl.len=1:=hs.lB;have Q:=h.ok.lI;have H:=h.len;have P:=HT s;have A:i<s.tk.length:=by omega
 have j:=Co A v;refine ZV (a:=bN) (λ(t:Int) C=>t=0/\C=σ\/t=1/\Ext (λb=>b=p\/b=q) σ C/\iN C p q c (s.put i v)) (λt _=>1-t.toNat) (.inl ⟨rfl,rfl⟩) ?_;rintro t C (⟨rfl,rfl⟩|⟨rfl,e,K⟩)
 ·refine oK O ?_;refine hs.sI (i:=0) (x:=i) rfl (aG (h.rI (λ_ _=>rfl) (aG (h.rS λcap E=>?_))));refine(h.oO cap).sI (Gs (cH.pv A)) ?_;have N:(0:Int)<=(if v then 1 else 0)/\(if v then(1:Int)else 0)<=1:=by cases v<;>simp
  have M:(0:Int)<=((if s.is i then 1 else 0:Nat):Int)/\((if s.is i then 1 else 0:Nat):Int)<=1:=by cases s.is i<;>simp
  have d:((if s.is i then 1 else 0:Nat):Int)=(if s.is i then 1 else 0):=by cases s.is i<;>rfl
  refine ar O O (ar O O (aG ?_));obtain⟨L,D,hd⟩:=h.hd;obtain⟨r,z⟩:=h.row;refine hd.s1 aA λS w B=>?_;have g:=Ws w z (Ne.symm h.ne);refine aG (B.rS rfl (ix O aC ?_));rw[add_lit];refine g.s0 (by simp[QP,AD];omega) λU u y=>?_;refine cA (m:=1) O O ⟨.inr ⟨rfl,?_,?_⟩,by decide⟩
  ·exact(Ext.eR (F:=λb=>b=p\/b=q) w (.inl rfl)).trans (Ext.eR u (.inr rfl))
  ·refine⟨⟨L,D,?_⟩,⟨r,?_⟩,h.ne,by simp[cH.put,h.len],h.ok,h.fit⟩
   ·have:=Ws u B h.ne;rw[j,←d];exact this
   ·have e:(ints (r7 s.tk)++r).set (0+(i:Int).toNat*1) (.int .i64 (if v then 1 else 0))=ints (r7 (s.put i v).tk)++r:=by
     rw[List.set_append_left _ _ (by simp[QP,AD];omega)]
     congr 1
     simp only[cH.put,Wnu,ints,wQ];have:(0+(i:Int).toNat*1)=i:=by omega
     rw[this]
     congr 1
     cases v<;>rfl
    rw[e]at y;exact y
 ·exact fJ O (hR _ e K)
theorem RO (h:iN σ p q c s){x:Int}{i:Nat}(hx2:x<=9223372036854775807)(ho:obj c s x=some i)(ht:s.is i=true){R:aN}(hR:∀σ',Ext (λb=>b=p\/b=q) σ σ'->iN σ' p q c (s.put i false)->R 0 σ') :
 ZK.c (aW p) x σ R:=by
 refine ZK.o ?_;refine Ju h x hx2 (λj m d=>cG rfl (aG (h.rS λcap g=>?_))) λr=>by rw[ho]at r;cases r
 rw[ho]at m;cases m;have a:i<s.tk.length:=by rw[h.len];exact d
 refine(h.oO cap).sI (Gs (cH.pv a)) ?_;rw[ht];refine cG rfl (nw (cs:=ints [i]) λv z e w=>?_);have A:=h.lt;exact JO (h.bK e) d false (Ax w rfl) λσ' u y=>hR σ' (e.to.trans u) y
theorem TT (h:iN σ p q c s){i:Nat}(hlow:low s=some i){R:Int->Int->Hp->Prop}(hR:∀σ',Ext (λb=>b=p\/b=q) σ σ'->iN σ' p q c (s.put i true)->R ((at_ c s i:Nat):Int) 0 σ') :
 ZE.c (aW p) σ R:=by
 refine ZE.o ?_;have E:=h.ok.lI;have a:=rJ.1 hlow;obtain⟨m,B,C⟩:=a;have g:s.tk[i]=false:=by simpa using B
 refine BI h (cG rfl (aG (h.rS λcap z=>?_)));refine Nl (h.oO cap) (by simp[AD,h.len];omega) 0 (λj w d=>?_) λd=>?_
 ·have x:j<s.tk.length:=by
   have:=(cQ.1 w).1
   rwa [AD]at this
  have r:j=i:=by
   rcases ui j i with h1|h1|h1
   ·have:=C j h1;rw[Gs (cM x)]at w;have:s.tk[j]=true:=by simpa using this
    simp[this]at w
   ·exact h1
   ·exact absurd (by rw[Gs (cM m),g];rfl) (d i h1)
  subst r;rw[h.len]at m;refine fJ O (nw (cs:=ints [j]) λv D e u=>?_);refine JO (h.bK e) m true (Ax u rfl) λσ' A y=>CS y j O (hR σ' (e.to.trans A) y)
 ·exfalso;apply d;exact zE (i:=i) (by rw[Gs (cM m),g];rfl)
theorem JI (h:iN σ p q c s){R:Int->Int->Hp->Prop}(hR:∀σ',bO σ σ'->R (s.st:Int) (c.aF:Int) σ'):ZG.c (aW p) σ R:=by
 refine ZG.o ?_;refine nw (cs:=[.int .i64 0,.int .i64 0]) λv u e m=>?_;have d:=h.bK e;refine BI d (cG rfl (aG (d.rI (λ_ _=>rfl) (aG (d.gG (λ_ _=>rfl) ?_)))));refine m.s1 aA λw j g=>g.s1 aA λv3 b a=>?_;refine a.rI rfl (a.rI rfl (hR _ ?_));exact Ext.fresh (Ext.fresh e (Ext.eR (F:=(· = σ.size)) j rfl) λi r=>O) (Ext.eR (F:=(· = σ.size)) b rfl) λi r=>by omega
theorem Se (n:Nat):(List.replicate n [Value.int .i64 0]).flatten=ints (List.replicate n 0):=by
 induction n with
 | zero=>rfl
 | succ n ih=>simp only[Bj,yW,ih];rfl
theorem SF (hc:c.ok){st:Nat}(hf:st+c.aF<=1024){R:Option Addr->Int->Hp->Prop}(hR:∀σ' p q,bO σ σ'->σ.size<=p->σ.size<=q->iN σ' p q c ⟨st,List.replicate c.n false⟩->R (some ⟨p,0,none⟩) 0 σ') :
 KK.c (st:Int) c.size c.aF c.batch σ R:=by
 refine KK.o ?_;have C:=hc;unfold bY.ok at C;have Q:=hc.lI;refine nw (cs:=[.int .i64 c.size,.int .i64 c.aF,.int .i64 c.batch]) λv M e y=>?_;refine y.rI rfl (y.rI rfl (y.rI rfl (UU _ _ _ (λg E J F G B A=>?_) λw=>?_)))
 case refine_2=>rw[(UM c).2 hc]at w;cases w
 have:g=c:=by
  obtain⟨a,b,d⟩:=c;obtain⟨P,L,N⟩:=g;simp only at J F G
  congr 1<;>omega
 subst this;have i:=A.bV y id;refine bZ.intro (cG rfl (bZ.intro (fJ O (i.rI rfl (cA (m:=1024-g.aF) O O (fJ O ?_))))));refine⟨λx=>bX x σ.size [.int .i64 g.size,.int .i64 g.aF,.int .i64 g.batch],i,⟨_,λx s=>by rw[add_lit,s.cell];rfl,⟨_,λx s=>by rw[add_lit,s.cell];rfl,⟨_,λx s=>by rw[add_lit,s.cell];rfl,?_⟩⟩⟩⟩;refine mk O O λS K r u=>⟨r.bV i id,nw (cs:=[.int .i64 (st:Int),.int .i64 g.size,.int .i64 g.aF,.int .i64 g.batch,.slice (some ⟨B.size,0,none⟩) g.n g.n,.int .i64 0]) λv3 D j z=>⟨(r.trans j).bV i id,?_⟩⟩;rw[Se]at u;have H:=A.1;refine hR _ _ _ (((e.trans A).trans r).trans j) O (show σ.size<=B.size by omega) ⟨⟨g.n,zD _,?_⟩,⟨[],?_⟩,O,by simp,hc,hf⟩
 ·have:cH.many ⟨st,List.replicate g.n false⟩=0:=by simp[cH.many,CX]
  rw[this];exact z
 ·have:r7 (List.replicate g.n false)=List.replicate g.n 0:=by simp[r7]
  rw[this,lZ];exact j.bV u id
end Go.Ar
namespace Go.Proofs
open Go.Vc
set_option maxRecDepth 100000
def X6.h:Hn:=.q .o1 (.q (.q .o3 .aK) (.q .o1 (.q (.q .o6 (.k (.loop [(3,.one .s),(14,.I)] (.q .o1 (.q (.c .l .l) (.q (.k (.q .o4 .o7)) .o2)))))) .aL)))
theorem X6.o {a:R2}{b:Hp}{c:Sl->Hp->Prop}(d:WC.c a b λd e=>If (!d) (c ⟨none,0,0⟩ e) (bE a 3 e λg=>Xb [.s,bN] (λh=>h ⟨none,0,0⟩ 0 e) λi (j:Sl) (k:Int) l=>If (k<((g.len:Nat):Int)) (Ix g.a g.len k 3 λm=>aQ m 0 l λn=>aQ m 1 l λo=>aY m 2 l λp=>aV #[.I 0,.I 0,.pointer none] 210 l λq r=>aR q 0 (.I n) r λs=>aR q 1 (.I o) s λt=>aR q 2 (.pointer p) t λu=>aY q 2 u λv=>ZG.c v u λw x y=>aV #[.I w,.I x] 92 y λz aa=>App j 2 16 92 [.I 0,.I 0] ⟨some z,1,1⟩ aa λab ac=>bL (k+1) λad=>i ab ad ac) (c j l))):X6.c a b c:=Wa Tryz.func107 (x:=X6.h) (R0 d)
def YD.h:Hn:=.q .o1 (.q (.q .o3 .aK) (.q .o1 (.q (.q .o6 (.k (.loop [(3,.I),(14,.I)] (.q .o1 (.q (.c .l .l) (.q (.k (.q .o4 (.cV (.held true [] (.tk [0,1,2,4,5,6] (.all [(3,.tk [7,8,9] (.done))])))))) .o2)))))) .aL)))
theorem YD.o {a:R2}{b:Hp}{c:aN}(d:WC.c a b λd e=>If (!d) (c 0 e) (bE a 3 e λg=>Xb [bN,bN] (λh=>h 0 0 e) λi (j:Int) (k:Int) l=>If (k<((g.len:Nat):Int)) (Ix g.a g.len k 3 λm=>aQ m 0 l λn=>aQ m 1 l λo=>aY m 2 l λp=>aV #[.I 0,.I 0,.pointer none] 210 l λq r=>aR q 0 (.I n) r λs=>aR q 1 (.I o) s λt=>aR q 2 (.pointer p) t λu=>dT u λv=>aU v q 2 λw=>gW v bN ((q.add 0).add 0) λ(x:Int)=>XW.c w u λy z=>And (v z) <| bL (y-x) λaa=>bL (j+aa) λab=>bL (k+1) λac=>i ab ac z) (c j l))):YD.c a b c:=Wa Tryz.func109 (x:=YD.h) (R0 d)
def YB.h:Hn:=.q .o2 (.q (.q .o3 .aJ) (.q .o4 (.q (.q .o2 .aJ) (.q (.o 11) (.q (.oq 16) .l)))))
theorem YB.o {a:R2}{b:Int}{c:Hp}{d:Int->Int->Hp->Prop}(e:WC.c a c λe f=>If (!e) (d 0 5 f) (XU.c a b f λg h=>If g.isNone (d 0 8 h) (bF g 2 h λj=>Yi.c j b h λk l m=>bQ g λn=>bM ((n.add 0).add 1) m λo=>bL (o*256) λp=>bQ a λq=>bM ((q.add 0).add 0) m λr=>bL (k*r) λs=>bL (p+s) λt=>d t 0 m))):YB.c a b c d:=Wa Tryz.func115 (x:=YB.h) (R0 e)
def WC.h:Hn:=.q .o1 (.q (.cV (.seq [.op,.op,.op,.dB true 6 (RI.ops 6),.op])) .l)
theorem WC.o {a:R2}{b:Hp}{c:aO}(d:bZ (λd e=>c d e) λf=>If (!a.isNone) (bQ a λg=>bM ((g.add 0).add 0) b λh=>f (decide (h>0)) b) (f false b)):WC.c a b c:=Wa Tryz.func137 (x:=WC.h) (R0 d)
def XU.h:Hn:=.q .o1 (.q (.q .o6 (.k (.loop [(13,.I)] (.q .o1 (.q (.c .l .l) (.q (.k (.q .o2 (.q (.o 15) (.q .o2 (.c (.q .o7 .l) .l))))) .o2)))))) .aM)
theorem XU.o {a:R2}{b:Int}{c:Hp}{d:Option Addr->Hp->Prop}(e:bQ a λe=>aX e 3 c λf=>Xb [bN] (λg=>g 0 c) λh (i:Int) j=>If (i<((f.len:Nat):Int)) (bE a 3 j λl=>Ix l.a l.len i 3 λm=>aY m 2 j λn=>Yi.c n b j λo p q=>If (p==0) (bE a 3 q λs=>Ix s.a s.len i 3 λt=>d (some t) q) (bL (i+1) λu=>h u q)) (d none j)):XU.c a b c d:=Wa Tryz.func145 (x:=XU.h) (R0 e)
def Qg.h:Hn:=.q .o3 (.q (.q .o7 (.q .o2 .aJ)) (.q .o5 .l))
theorem Qg.o {a b c:Int}{d:Hp}{e:Option Addr->Int->Hp->Prop}(f:aV #[.I a,.I b,.I c] 31 d λf g=>aQ f 0 g λh=>aQ f 1 g λi=>aQ f 2 g λj=>Ze.c h i j g λk l m=>If (l != 0) (e none 1 m) (aQ f 0 m λn=>aQ f 1 m λo=>aQ f 2 m λp=>aV #[.I n,.I o,.I p,.slice none 0 0] 205 m λq r=>e (some q) 0 r)):Qg.c a b c d e:=Wa Tryz.func156 (x:=Qg.h) (R0 f)
def WZ.h:Hn:=.q .o1 (.q (.q .o3 .aK) (.q .o1 (.q .fR .aL)))
theorem WZ.o {a:R2}{b:Hp}{c:Sl->Hp->Prop}(d:WC.c a b λd e=>If (!d) (c ⟨none,0,0⟩ e) (aV #[.slice none 0 0] 51 e λf g=>bQ a λh=>aX h 3 g λi=>Wf.c i ⟨228,#[],#[.pointer (some f)]⟩ g λj k=>bQ a λl=>aR l 3 (.slice j.a j.len j.cap) k λm=>kG f m λn=>c n m)):WZ.c a b c:=Wa Tryz.func190 (x:=WZ.h) (R0 d)
def Xf.h:Hn:=.q .o2 (.q (.k (.q .o4 (.c .aL (.q .o3 .aJ)))) (.q .o1 (.q (.k (.loop [(6,.one .s)] (.q (.q .o4 (.c .l .l)) (.k (.q .o7 (.q (.q .o2 (.c .l .l)) .o5)))))) (.q .o3 .l))))
theorem Xf.o {a:R2}{b:Int}{c:Hp}{d:Sl->Int->Hp->Prop}(e:WC.c a c λe f=>If (!e) (d ⟨none,0,0⟩ 5 f) (If (b<0) (d ⟨none,0,0⟩ 1 f) (Xb [.s] (λg=>g ⟨none,0,0⟩ f) λh (i:Sl) j=>If (((i.len:Nat):Int)<b) (Y5.c a j λk l m=>If (!l) (d i 0 m) (aV #[.I k] 3 m λn o=>App i 1 8 3 [.I 0] ⟨some n,1,1⟩ o λp q=>h p q)) (d i 0 j)))):Xf.c a b c d:=Wa Tryz.func214 (x:=Xf.h) (R0 e)
def Y3.h:Hn:=.q .o1 (.q (.q .o3 .aK) (.q (.o 11) (.q (.q .o2 .aJ) (.q (.q .o6 (.k (.loop [(31,.I)] (.q .o1 (.q (.c .l .l) (.q (.k (.q .o4 (.q (.oq 17) .aK))) .o2)))))) (.q (.o 11) (.q (.o 15) .aM))))))
theorem Y3.o {a:R2}{b:Int}{c:Hp}{d:aN}(e:WC.c a c λe f=>If (!e) (d 5 f) (bQ a λg=>bM ((g.add 0).add 0) f λh=>bM ((g.add 0).add 1) f λi=>bM ((g.add 0).add 2) f λj=>KK.c b h i j f λk l m=>If (l != 0) (d l m) (bE a 3 m λo=>Xb [bN] (λp=>p 0 m) λq (r:Int) s=>If (r<((o.len:Nat):Int)) (Ix o.a o.len r 3 λt=>aQ t 0 s λu=>aQ t 1 s λv=>aY t 2 s λw=>aV #[.I 0,.I 0,.pointer none] 210 s λx y=>aR x 0 (.I u) y λz=>aR x 1 (.I v) z λaa=>aR x 2 (.pointer w) aa λab=>bM ((x.add 0).add 1) ab λac=>bM ((x.add 0).add 1) ab λad=>bL ((if b>ac then b else ac)-(if b<ad then b else ad)) λae=>bQ a λaf=>bM ((af.add 0).add 1) ab λag=>If (ae<ag) (d 9 ab) (bL (r+1) λah=>q ah ab)) (bE a 3 s λaj=>Wb.c aj b ⟨258,#[],#[]⟩ s λak al am=>bE a 3 am λao=>aV #[.I 0,.I b,.pointer k] 210 am λap aq=>Wh.c ao ak ⟨some ap,1,1⟩ aq λar au=>bQ a λav=>aR av 3 (.slice ar.a ar.len ar.cap) au λaw=>d 0 aw)))):Y3.c a b c d:=Wa Tryz.func216 (x:=Y3.h) (R0 e)
def Yc.h:Hn:=.q .o2 (.kX [] (.q .o4 (.c (.cV (.held true [6] (.tk [0,1,2] (.all [(3,.all [(4,.all [(5,.all [(6,.done)])])])])))) .l)) (.q .o5 .l))
theorem Yc.o {a b:Int}{c:R2}{d:Addr}{e:Hp}{f:aO}(g:aV #[.I a,.I b,.pointer c] 210 e λg h=>Jn [] (λi=>bM ((g.add 0).add 0) i λj=>f (j==0) i) λk=>bM ((g.add 0).add 0) h λl=>If (l==0) (dT h λm=>gW m .s d λ(n:Sl)=>aU m g 2 λo=>ZG.c o h λp q r=>And (m r) <| aV #[.I p,.I q] 92 r λs t=>And (m t) <| App n 2 16 92 [.I 0,.I 0] ⟨some s,1,1⟩ t λu v=>And (m v) <| cY d (.slice u.a u.len u.cap) v λw=>k w) (k h)):Yc.c a b c d e f:=Wa Tryz.func228 (x:=Yc.h) (R0 g)
def Y9.h:Hn:=.q .o2 (.q (.q .o3 .aJ) (.q .o1 (.q (.q .o3 (.k (.loop [(6,.one .b),(19,.I)] (.q .o1 (.q (.c .l .l) (.q (.k (.q .o5 (.q .o8 (.q (.q .o2 (.c (.q .o3 .l) .l)) (.cV (.seq [.op,.op,.dB false 2 [.op,.op],.op,.dB false 5 (RI.ops 5),.op])))))) .o2)))))) (.q (.q .o1 .aJ) (.q (.q .o3 (.k (.loop [(49,.I)] (.q .o1 (.q (.c .l .l) (.q (.k (.q .o3 (.q .o4 (.q .o6 .fR)))) .o2)))))) (.q .o4 .l))))))
theorem Y9.o {a:R2}{b:Sl}{c:Hp}{d:Sl->Int->Hp->Prop}(e:WC.c a c λe f=>If (!e) (d ⟨none,0,0⟩ 5 f) (Xb [.b,bN] (λg=>g false 0 f) λh (i:Bool) (j:Int) k=>If (j<((b.len:Nat):Int)) (Ix b.a b.len j 1 λl=>bM l k λm=>W9.c a m k λn o p=>If (o != 0) (d ⟨none,0,0⟩ o p) (bZ (λq r=>bZ (λs t=>bL (j+1) λu=>h s u t) λv=>If q (v true r) (eX b 1 0 j (b.cap:Nat) λw=>Wo.c w m r λx y=>v x y)) λz=>If i (z true p) (z (!n) p))) (If i (d ⟨none,0,0⟩ 9 k) (Xb [bN] (λaa=>aa 0 k) λab (ac:Int) ad=>If (ac<((b.len:Nat):Int)) (Ix b.a b.len ac 1 λae=>bM ae ad λaf=>XU.c a af ad λag ah=>bF ag 2 ah λaj=>ZK.c aj af ah λak al=>bQ ag λam=>bM ((am.add 0).add 0) al λan=>bL (an-1) λao=>bQ ag λap=>cY ((ap.add 0).add 0) (.I ao) al λaq=>bL (ac+1) λar=>ab ar aq) (WZ.c a ad λau av=>d au 0 av))))):Y9.c a b c d:=Wa Tryz.func246 (x:=Y9.h) (R0 e)
def Y5.h:Hn:=.q .o2 (.q .o1 (.q (.q .o6 (.k (.loop [(4,.one .p),(14,.I)] (.q .o1 (.q (.c .l .l) (.q (.k (.q .o2 (.q .o7 (.q (.cV (.iH true [] [(48,.one .b)] (.tk [0,1,2,3,4,5,6,7,8] (.all [(9,.take 10 (.take 11 (.split 34 (.take 12 (.take 13 (.take 14 (.split 37 (.take 15 (.take 16 (.take 17 (.take 18 (.take 19 (.take 20 (.take 21 (.take 22 (.take 23 (.take 24 (.take 25 (.done)))))))))))) (.take 15 (.take 16 (.take 17 (.take 19 (.take 20 (.take 21 (.all [(18,.all [(22,.all [(23,.take 24 (.take 25 (.done)))])]),(22,.all [(18,.all [(23,.take 24 (.take 25 (.done)))])])]))))))))))) (.take 12 (.take 13 (.take 14 (.take 15 (.take 16 (.take 17 (.take 18 (.take 19 (.take 20 (.take 21 (.take 22 (.take 23 (.take 24 (.take 25 (.done))))))))))))))))))])))) (.c .o2 .l))))) .o2)))))) (.q (.q .o2 .aJ) (.q .fR (.q .fR (.q .o3 .l))))))
theorem Y5.o {a:R2}{b:Hp}{c:Int->Bool->Hp->Prop}(d:bQ a λd=>aX d 3 b λe=>Xb [.p,bN] (λf=>f none 0 b) λg (h:R2) (i:Int) j=>If (i<((e.len:Nat):Int)) (bE a 3 j λl=>Ix l.a l.len i 3 λm=>Jn [.b] (λ(n:Bool) o=>If n (bL (i+1) λp=>g (some m) p o) (bL (i+1) λq=>g h q o)) λr=>dT j λs=>bQ (some m) λt=>gW s bN ((t.add 0).add 0) λ(u:Int)=>bQ (some m) λv=>aU s v 2 λw=>XW.c w j λx y=>And (s y) <| If (u<x) (If h.isNone (r true y) (bQ (some m) λz=>bQ h λaa=>(bM ((z.add 0).add 0) y λab=>bM ((z.add 0).add 1) y λac=>And (s y) <| bM ((aa.add 0).add 0) y λad=>bM ((aa.add 0).add 1) y λae=>And (s y) <| W6.c ab ac ad ae y λaf ag=>And (s ag) <| r af ag) ∧ (bM ((aa.add 0).add 0) y λah=>bM ((aa.add 0).add 1) y λai=>And (s y) <| bM ((z.add 0).add 0) y λaj=>bM ((z.add 0).add 1) y λak=>And (s y) <| W6.c aj ak ah ai y λal am=>And (s am) <| r al am))) (r false y)) (If h.isNone (c 0 false j) (bF h 2 j λao=>ZE.c ao j λap aq ar=>bQ h λau=>bM ((au.add 0).add 0) ar λav=>bL (av+1) λaw=>bQ h λax=>cY ((ax.add 0).add 0) (.I aw) ar λay=>c ap true ay))):Y5.c a b c:=Wa Tryz.func251 (x:=Y5.h) (R0 d)
def YZ.h:Hn:=.q .o2 (.q .o6 .l)
theorem YZ.o {a b:Int}{c:R2}{d:Int}{e:Hp}{f:aN}(g:aV #[.I a,.I b,.pointer c] 210 e λg h=>bM ((g.add 0).add 1) h λi=>bL (i-d) λj=>f j h):YZ.c a b c d e f:=Wa Tryz.func258 (x:=YZ.h) (R0 g)
def W9.h:Hn:=.q .o2 (.q (.q .o3 .aJ) (.q .o4 (.q (.q .o2 .aJ) (.q .fR .l))))
theorem W9.o {a:R2}{b:Int}{c:Hp}{d:Bool->Int->Hp->Prop}(e:WC.c a c λe f=>If (!e) (d false 5 f) (XU.c a b f λg h=>If g.isNone (d false 8 h) (bF g 2 h λj=>YH.c j b h λk l m=>d k l m))):W9.c a b c d:=Wa Tryz.func263 (x:=W9.h) (R0 e)
def W6.h:Hn:=.q .o3 (.q (.cV (.seq [.op,.op,.op,.op,.op,.op,.dB false 12 [.op,.op,.op,.op,.op,.op,.dB true 5 (RI.ops 5)],.op])) .l)
theorem W6.o {a b c d:Int}{e:Hp}{f:aO}(g:aV #[.I a,.I b] 207 e λg h=>aV #[.I c,.I d] 207 h λi j=>aQ g 0 j λk=>aQ i 0 j λl=>bZ (λm n=>f m n) λo=>If (k>l) (o true j) (aQ g 0 j λp=>aQ i 0 j λq=>bZ (λr s=>o r s) λt=>If (p==q) (aQ g 1 j λu=>aQ i 1 j λv=>t (decide (u<v)) j) (t false j))):W6.c a b c d e f:=Wa Tryz.func276 (x:=W6.h) (R0 g)
end Go.Proofs
namespace Go.Ar
open Go Go.Vc Go.Proofs
variable {σ:Hp}{F:Rg}{p:Nat}{c:bY}{ps:List (Nat×Nat)}{ss:List cH}
def eJ (ps:List (Nat×Nat)):List Nat:=ps.flatMap λx=>[x.1,x.2]
theorem Hx {ps:List (Nat×Nat)}{b:Nat}:b∈eJ ps↔∃x∈ps,b=x.1\/b=x.2:=by simp[eJ]
def dW:List (Nat×Nat)->List cH->List Value
 | x::ps,s::ss=>.int .i64 (s.many:Int) :: .int .i64 (s.st:Int) :: .pointer (some ⟨x.1,0,none⟩)::dW ps ss
 | _,_=>[]
theorem Kg:∀{ps:List (Nat×Nat)} {ss:List cH},ps.length=ss.length->(dW ps ss).length=3*ss.length
 | [],[],_=>rfl
 | x::ps,s::ss,h=>by simp only[dW,zN]at *;rw[Kg O];omega
theorem QB:∀{ps:List (Nat×Nat)} {ss:List cH} {i:Nat} {x:Nat×Nat} {s:cH},ps[i]?=some x->ss[i]?=some s →
 (dW ps ss)[3*i]?=some (.int .i64 (s.many:Int))/\(dW ps ss)[3*i+1]?=some (.int .i64 (s.st:Int))/\(dW ps ss)[3*i+2]?=some (.pointer (some ⟨x.1,0,none⟩))
 | [],_,_,_,_,h,_=>by simp at h
 | _::_,[],_,_,_,_,h=>by simp at h
 | y::ps,t::ss,0,x,s,h1,h2=>by simp at h1 h2;subst h1;subst h2;simp[dW]
 | y::ps,t::ss,i+1,x,s,h1,h2=>by
  have:=QB (ps:=ps) (ss:=ss) (i:=i) (by simpa using h1) (by simpa using h2);simp only[dW];rw[show 3*(i+1)=3*i+3 by omega];simpa using this
theorem Vy:∀{ps ps':List (Nat×Nat)} {ss ss':List cH},ps.length=ss.length->dW (ps++ps') (ss++ss')=dW ps ss++dW ps' ss'
 | [],_,[],_,_=>rfl
 | x::ps,_,s::ss,_,h=>by simp only[oR,dW,Vy (ps:=ps) (ss:=ss) (by simpa using h)]
theorem N9:∀{ps:List (Nat×Nat)} {ss:List cH},∀v∈dW ps ss,dP v=true
 | [],_,v,h=>by simp[dW]at h
 | _::_,[],v,h=>by simp[dW]at h
 | x::ps,s::ss,v,h=>by
  simp only[dW,zR]at h;rcases h with rfl|rfl|rfl|h
  ·rfl
  ·rfl
  ·rfl
  ·exact N9 v h
structure fC (σ:Hp) (F:Rg) (p:Nat) (c:bY) (ps:List (Nat×Nat)) (ss:List cH):Prop where
 hd:∃sl:Sl,bX σ p [.int .i64 (c.size:Int),.int .i64 (c.aF:Int),.int .i64 (c.batch:Int),.slice sl.a sl.len sl.cap]/\bS sl 3 (dW ps ss) σ (λb=>F b/\b≠p/\b∉eJ ps)
 sp:∀(i:Nat) (x:Nat×Nat) s,ps[i]?=some x->ss[i]?=some s->iN σ x.1 x.2 c s
 fp:F p
 fb:∀b∈eJ ps,F b
 nd:(p::eJ ps).Nodup
 len:ps.length=ss.length
 ok:c.ok
 tL:ss.Pairwise (λa b=>a.st<b.st)
theorem fC.loc:dS λσ F=>fC σ F p c ps ss:=λσ D F G h E m=>by
 obtain⟨sl,a,u⟩:=h.hd;have bU:∀b,b<σ.size->F b->D[b]?=σ[b]? := λb a d=>(m b a d).2;have y:∀{b:Nat} {cs:List Value},bX σ b cs->F b->bX D b cs:=by
  rintro b cs ⟨e,C⟩ d;exact⟨e,(bU b (bX.lt ⟨e,C⟩) d).trans C⟩
 have lt:∀b∈eJ ps,b<σ.size:=by
  intro b a;obtain⟨x,j,w⟩:=Hx.1 a;obtain⟨i,B⟩:=zM j;have A:=(cQ.1 B).1;have:=(h.sp i x _ B (cM (by rw[←h.len];exact A))).lt;rcases w with rfl|rfl
  ·exact this.1
  ·exact this.2
 refine⟨⟨sl,y a h.fp,bS.loc _ _ _ _ _ _ _ u E λb a d=>⟨⟨(m b a d.1).1,d.2⟩,(m b a d.1).2⟩⟩,λi x s j z=>?_,(m p a.lt h.fp).1,λb a=>(m b (lt b a) (h.fb b a)).1,h.nd,h.len,h.ok,h.tL⟩;have g:=h.sp i x s j z;have L:x.1∈eJ ps:=Hx.2 ⟨x,zE j,.inl rfl⟩;have J:x.2∈eJ ps:=Hx.2 ⟨x,zE j,.inr rfl⟩;obtain⟨K,H,hd⟩:=g.hd;obtain⟨r,u⟩:=g.row;exact⟨⟨K,H,y hd (h.fb _ L)⟩,⟨r,y u (h.fb _ J)⟩,g.ne,g.len,g.ok,g.fit⟩
theorem fC.bK {σ':Hp}(h:fC σ F p c ps ss)(e:bO σ σ'):fC σ' F p c ps ss:=dS.bK fC.loc h e
theorem fC.oD (h:fC σ F p c ps ss):ss.length<=1024:=by
 have key:∀i (hi:i<ss.length),i<=ss[i].st:=by
  intro i
  induction i with
  | zero=>intro _;omega
  | succ i ih=>
   intro hi;have d:=ih O;have b:=nB.1 h.tL i (i+1) O hi O;omega
 rcases AF ss.length with h0|h0
 ·omega
 ·have a:ss.length-1<ss.length:=by omega
  have d:=key _ a;have e:ss.length-1<ps.length:=by rw[h.len];exact a
  have b:=(h.sp _ _ _ (cM e) (cM a)).fit;have:=h.ok.2.2.2.1;omega
structure wC (σ:Hp) (F:Rg) (p:Nat) (ps:List (Nat×Nat)) (ss:List cH) (sl:Sl) (rb:Nat) (cs:List Value):Prop where
 a:sl.a=some ⟨rb,0,none⟩
 bV:bX σ rb cs
 fr:F rb/\rb≠p/\rb∉eJ ps
 get:∀{j:Nat} {v:Value},(dW ps ss)[j]?=some v->cs[j]?=some v
 Ik:3*ss.length<=cs.length
theorem fC.sl (h:fC σ F p c ps ss):∃sl:Sl,bX σ p [.int .i64 (c.size:Int),.int .i64 (c.aF:Int),.int .i64 (c.batch:Int),.slice sl.a sl.len sl.cap]/\sl.len=ss.length/\(ss≠[]->∃rb cs,wC σ F p ps ss sl rb cs):=by
 obtain⟨sl,m,i⟩:=h.hd;have r:=i.1;rw[Kg h.len]at r;refine⟨sl,m,O,λe=>?_⟩;have g:0<ss.length:=uf.2 e;rcases i.2 with⟨h0,_⟩|⟨b,cs,hq,ha,hbb,hle,hcl,ht⟩
 ·omega
 ·refine⟨b,cs,ha,hbb,hq,λ{j v} d=>?_,?_⟩
  ·rw[←ht,zb]at d;split at d
   ·exact d
   ·cases d
  ·have:=congrArg List.length ht;rw[zP,Kg h.len]at this;omega
theorem fC.kF (h:fC σ F p c ps ss){i:Nat}(hi:i<ss.length):∃x s,ps[i]?=some x/\ss[i]?=some s/\iN σ x.1 x.2 c s:=by
 have a:i<ps.length:=by rw[h.len];exact hi
 have b:ps[i]?=some ps[i]:=cM a;exact⟨_,_,b,cM hi,h.sp i _ _ b (cM hi)⟩
theorem Vi (h:fC σ F p c ps ss){R:aO}(hR:R true σ):WC.c (aW p) σ R:=by
 refine WC.o ?_;obtain⟨sl,b,e,d⟩:=h.sl;have a:=h.ok;unfold bY.ok at a;refine bZ.intro (cJ rfl (aG (b.gG rfl ?_)));rw[zT O];exact hR
def iX (x:Int):Prop:=x<=9223372036854775807
theorem Ey (h:fC σ F p c ps ss)(x:Int)(hx:iX x){R:Option Addr->Hp->Prop}(h0:nZ c ss x=none->R none σ)
 (h1:∀(i:Nat) sl rb cs,nZ c ss x=some i->i<ss.length->bX σ p [.int .i64 (c.size:Int),.int .i64 (c.aF:Int),.int .i64 (c.batch:Int),.slice sl.a sl.len sl.cap]->wC σ F p ps ss sl rb cs->R (some ⟨rb,3*i,none⟩) σ):XU.c (aW p) x σ R:=by
 refine XU.o ?_;obtain⟨sl,A,S,L⟩:=h.sl;have G:=h.oD;refine aG (A.rS rfl ?_);refine ZV (a:=bN) (λ(t:Int) D=>∃i:Nat,t=(i:Int)/\i<=ss.length/\D=σ/\∀(j:Nat) s,j<i->ss[j]?=some s->idx c s x=none) (λt _=>ss.length-t.toNat) ⟨0,rfl,O,rfl,λj s y=>O⟩ ?_;rintro t D ⟨i,rfl,Q,rfl,w⟩;refine cI (λB=>?_) λC=>?_
 ·simp only at B;have b:i<ss.length:=by omega
  obtain⟨N,s,J,z,M⟩:=h.kF b;obtain⟨rb,cs,E⟩:=L (by rintro rfl;simp at b);have H:=QB J z;refine aG (A.rS rfl ?_);rw[E.a];refine ix O O ?_;rw[add_lit];refine E.bV.rP (x:=some ⟨N.1,0,none⟩) ?_ ?_
  ·have:=E.get H.2.2;rw[show 0+(i:Int).toNat*3+2=3*i+2 by omega];exact this
  have g:∀r,idx c s x=some r->nZ c ss x=some i:=by
   intro r u;refine rJ.2 ⟨b,?_,λj y=>?_⟩
   ·have:ss[i]=s:=by rw[cM b]at z;simpa using z
    rw[this,u];rfl
   ·rw[w j _ y (cM O)];simp
  refine Ev M x hx (λr u=>cJ rfl (aG (A.rS rfl ?_))) λP=>cG rfl ?_
  ·rw[E.a];refine ix O O ?_;rw[add_lit,show 0+(i:Int).toNat*3=3*i by omega];exact h1 i sl rb cs (g r u) b A E
  ·refine cA (m:=i+1) O O ⟨⟨i+1,rfl,O,rfl,λj K y d=>?_⟩,O⟩;by_cases e:j=i
   ·subst e;rw[z]at d;cases d;exact P
   ·exact w j K O d
 ·refine h0 ?_;refine y8.2 λs z=>?_;obtain⟨j,y⟩:=zM z;have:=(cQ.1 y).1;rw[w j s (by simp only at C;omega) y];rfl
theorem V6 {x:Int}{k:Nat}{s:cH}(hk:nZ c ss x=some k)(hs:ss[k]?=some s):eI c ss x=(obj c s x).map s.is:=by
 unfold eI;rw[hk];simp only[hs];rfl
theorem FJ {x:Int}(hk:nZ c ss x=none):eI c ss x=none:=by unfold eI;rw[hk]
theorem LY (h:fC σ F p c ps ss)(x:Int)(hx:iX x){R:Bool->Int->Hp->Prop}(h1:∀b,eI c ss x=some b->R b 0 σ)(h0:eI c ss x=none->R false 8 σ):W9.c (aW p) x σ R:=by
 refine W9.o ?_;refine Vi h (cG rfl (Ey h x hx (λd=>cJ rfl (h0 (FJ d))) λi sl A B a z C E=>cG rfl (aG ?_)));obtain⟨y,s,w,g,u⟩:=h.kF z;have m:=QB w g;refine E.bV.rP (x:=some ⟨y.1,0,none⟩) (E.get m.2.2) ?_;have e:=V6 a g;exact SL u x hx (λj r=>h1 _ (by rw[e,r];rfl)) λd=>h0 (by rw[e,d];rfl)
theorem Gb {x:Int}{k:Nat}{s:cH}(hk:nZ c ss x=some k)(hs:ss[k]?=some s):uZ c ss x=(idx c s x).map (at_ c s):=by
 unfold uZ;rw[hk];simp only[hs]
theorem Nv {x:Int}(hk:nZ c ss x=none):uZ c ss x=none:=by unfold uZ;rw[hk]
theorem O8 {x:Int}{k:Nat}{s:cH}(hk:nZ c ss x=some k)(hs:ss[k]?=some s):∃i,idx c s x=some i:=by
 obtain⟨b,a,_⟩:=rJ.1 hk;have:ss[k]=s:=by rw[cM b]at hs;simpa using hs
 rw[this]at a;exact tf.1 a
theorem SB (h:fC σ F p c ps ss)(x:Int)(hx:iX x){R:Int->Int->Hp->Prop}(h1:∀a,uZ c ss x=some a->R (a:Int) 0 σ)(h0:uZ c ss x=none->R 0 8 σ):YB.c (aW p) x σ R:=by
 refine YB.o ?_;refine Vi h (cG rfl (Ey h x hx (λe=>cJ rfl (h0 (Nv e))) λi sl J M d D G E=>cG rfl (aG ?_)));obtain⟨H,s,C,w,u⟩:=h.kF D;have y:=QB C w;obtain⟨r,g⟩:=O8 d w;have A:=Gb d w;have B:=h.ok;unfold bY.ok at B;have j:=((Uf O).1 g).2.2;rw[u.len]at j;have e:=h.ok.lI;have z:=u.fit;have L:r*c.size<=128*512:=nC O O;refine E.bV.rP (x:=some ⟨H.1,0,none⟩) (E.get y.2.2) ?_;refine Ev u x hx (λK b=>?_) λe=>by rw[g]at e;cases e
 rw[g]at b;cases b;refine aG (E.bV.gG (x:=s.st) (E.get y.2.1) (cA (m:=s.st*256) aA O (aG (G.gG rfl ?_))));refine cA (m:=r*c.size) aA O (cA (m:=at_ c s r) (by simp[at_]) (by unfold at_;omega) (h1 _ (by rw[A,g];rfl)))
theorem xf {h:Hp}{rb i:Nat}{cs:List Value}{x y:Int}{z:Option Addr}{e:Nat}(hb:bX h rb cs)(h0:cs[3*i]?=some (.int .i64 x))(h1:cs[3*i+1]?=some (.int .i64 y))(h2:cs[3*i+2]?=some (.pointer z))
 {K:Int->Int->Option Addr->Prop} (hK:K x y z):fL .i64 (Addr.add ⟨rb,3*i,none⟩ 0) h λu=>fL .i64 (Addr.add ⟨rb,3*i,none⟩ 1) h λv=>fY (Addr.add ⟨rb,3*i,none⟩ 2) h λw=>K u v w:=
 hb.rI h0 (hb.rI h1 (hb.rP h2 hK))
theorem Dg {h:Hp}{x y:Int}{z:Option Addr}{e:Nat}{K:Addr->Hp->Prop}(hK:∀h',bO h h'->bX h' h.size [.int .i64 x,.int .i64 y,.pointer z]->K ⟨h.size,0,none⟩ h') :
 Nw (.cells #[.int .i64 0,.int .i64 0,.pointer none] e (0,0)) h λn v=>cY (n.add 0) (.int .i64 x) v λv1=>cY (n.add 1) (.int .i64 y) v1 λv2=>cY (n.add 2) (.pointer z) v2 λv3=>K n v3:=by
 refine nw (cs:=[.int .i64 0,.int .i64 0,.pointer none]) λv m e j=>j.s1 aA λv1 o1 d=>d.s1 aA λv2 o2 g=>g.s1 aA λv3 o3 b=>?_;refine hK v3 ?_ b;exact Ext.fresh (Ext.fresh (Ext.fresh e o1.ext λi a=>O) o2.ext λi a=>O) o3.ext λi a=>by omega
theorem Wnc (h:fC σ F p c ps ss){R:aN}(hR:∀σ',bO σ σ'->R (Q6 ss:Int) σ'):YD.c (aW p) σ R:=by
 refine YD.o ?_;obtain⟨sl,M,V,G⟩:=h.sl;have B:=h.oD;have U:=h.ok.lI;refine Vi h (cG rfl (aG (M.rS rfl ?_)));refine KA (a:=bN) (bb:=bN) (λ(n t:Int) u=>∃i:Nat,t=(i:Int)/\i<=ss.length/\bO σ u/\n=(Q6 (ss.take i):Int)/\Q6 (ss.take i)<=128*i) (λ_ t _=>ss.length-t.toNat) ⟨0,rfl,O,Ext.refl _ _,by simp[Q6],by simp[Q6]⟩ ?_;rintro n t u ⟨i,rfl,P,e,rfl,L⟩;refine cI (λj=>?_) λw=>?_
 ·simp only at j;have g:i<ss.length:=by omega
  obtain⟨H,s,C,A,d⟩:=h.kF g;obtain⟨N,S,E⟩:=G (by rintro rfl;simp at g);have r:=QB C A;rw[E.a];refine ix O O ?_;rw[add_lit,show 0+(i:Int).toNat*3=3*i by omega];refine xf (e:=0) (e.bV E.bV id) (E.get r.1) (E.get r.2.1) (E.get r.2.2) (Dg λQ z y=>?_);have x:=(d.bK e).bK z;refine⟨λb=>bX b u.size [.int .i64 s.many,.int .i64 s.st,.pointer (some ⟨H.1,0,none⟩)],y,⟨_,λb d=>by rw[add_lit,d.cell];rfl,⟨_,λb d=>by rw[add_lit,add_lit,d.cell];rfl,?_⟩⟩⟩;refine Mx x ⟨y,?_⟩;have J:=HT s;have K:=d.len;have D:Q6 (ss.take (i+1))=Q6 (ss.take i)+(c.n-s.many):=by
   rw[zl,A];simp only[Q6,wV,zy,zH,uB,uv,zS,List.sum_nil];omega
  refine cA (m:=c.n-s.many) O O (cA (m:=Q6 (ss.take (i+1))) O O (cA (m:=i+1) O O ⟨⟨i+1,rfl,O,e.trans z,rfl,O⟩,O⟩))
 ·have:i=ss.length:=by simp only at w;omega
  subst this;rw[zo]at *;exact hR _ e
def iP (c:bY)(l:List Nat):List Value:=l.flatMap λ(s:Nat)=>[.int .i64 (s:Int),.int .i64 (c.aF:Int)]
theorem Io (c:bY)(l:List Nat):(iP c l).length=2*l.length:=by
 induction l with
 | nil=>rfl
 | cons x l ih=>simp only[iP,qb,zK,zN,pz]at *;omega
theorem Wkm (h:fC σ F p c ps ss){R:Sl->Hp->Prop}(hR:∀s σ',bO σ σ'->bS s 2 (iP c (ss.map (·.st))) σ' (λb=>σ.size<=b)->R s σ'):X6.c (aW p) σ R:=by
 refine X6.o ?_;obtain⟨sl,C,hl,N⟩:=h.sl;have J:=h.oD;refine Vi h (cG rfl (aG (C.rS rfl ?_)));refine KA (a:=.s) (bb:=bN) (λ(out:Sl) (t:Int) y=>∃i:Nat,t=(i:Int)/\i<=ss.length/\bO σ y/\bS out 2 (iP c ((ss.take i).map (·.st))) y (λb=>σ.size<=b)) (λ_ t _=>ss.length-t.toNat) ⟨0,rfl,O,Ext.refl _ _,bS.nil _ _ _ _⟩ ?_;rintro out t y ⟨i,rfl,U,e,g⟩;refine cI (λw=>?_) λz=>?_
 ·simp only at w;have r:i<ss.length:=by omega
  obtain⟨X,s,L,H,P⟩:=h.kF r;obtain⟨S,W,E⟩:=N (by rintro rfl;simp at r);have x:=QB L H;rw[E.a];refine ix O O ?_;rw[add_lit,show 0+(i:Int).toNat*3=3*i by omega];refine xf (e:=0) (e.bV E.bV id) (E.get x.1) (E.get x.2.1) (E.get x.2.2) (Dg λV A M=>M.rP rfl ?_);have B:=(P.bK e).bK A;refine JI B λZ G=>?_;have j:=(e.trans A).trans G;have d:=aI.bK (aI.bK g A) G;have u:=d.1;rw[Io,zX,zP]at u;refine d.push (vs:=[.int .i64 (s.st:Int),.int .i64 (c.aF:Int)]) (λb C=>zJ j.1 C) rfl rfl (by simp[dP]) O O λs' Y Q K D=>?_;refine cA (m:=i+1) O O ⟨⟨i+1,rfl,O,Ext.fresh j K λ_ h=>h,?_⟩,O⟩;rw[zl,H];simp only[iP,wV,zy,zH,uB,IB,qb,List.flatMap_nil,lZ]at *;exact D
 ·have:i=ss.length:=by simp only at z;omega
  subst this;rw[zo]at *;exact hR _ _ e g
theorem WoI (hc:c.ok){R:Option Addr->Int->Hp->Prop}(hR:∀σ' p,bO σ σ'->σ.size<=p->p<σ'.size->fC σ' (· = p) p c [] []->R (some ⟨p,0,none⟩) 0 σ'):Qg.c c.size c.aF c.batch σ R:=by
 refine Qg.o ?_;refine nw (cs:=[.int .i64 c.size,.int .i64 c.aF,.int .i64 c.batch]) λv s e d=>?_;refine d.rI rfl (d.rI rfl (d.rI rfl (UU _ _ _ (λu m z w x y i=>?_) λb=>?_)))
 case refine_2=>rw[(UM c).2 hc]at b;cases b
 have a:=i.bV d id;refine cG rfl (a.rI rfl (a.rI rfl (a.rI rfl (nw (cs:=[.int .i64 c.size,.int .i64 c.aF,.int .i64 c.batch,.slice none 0 0]) λA r j g=>?_))));exact hR _ _ ((e.trans i).trans j) (by have:=i.1;omega) O ⟨⟨⟨none,0,0⟩,g,bS.nil _ _ _ _⟩,by simp,rfl,by simp[eJ],by simp[eJ],rfl,hc,by simp⟩
theorem WjL (a b a' b':Nat){R:aO}(hR:∀σ',bO σ σ'->R (decide (a>a')||(a==a'&&decide (b<b'))) σ'):W6.c (a:Int) (b:Int) (a':Int) (b':Int) σ R:=by
 refine W6.o ?_;refine nw (cs:=[.int .i64 a,.int .i64 b]) λv s e r=>nw (cs:=[.int .i64 a',.int .i64 b']) λu p m i=>?_;have g:=m.bV r id;have d:=hR _ (e.trans m);refine g.rI rfl (i.rI rfl (bZ.intro (cI (λh=>?_) λh=>?_)))
 ·have:decide (a>a')=true:=by simpa using h
  rw[this,Bool.true_or]at d;exact d
 ·have:decide (a>a')=false:=by simpa using h
  rw[this,CP]at d;refine g.rI rfl (i.rI rfl (bZ.intro ?_));rw[lP];refine cU (λj=>?_) λj=>?_
  ·rw[j,xT]at d;refine g.rI rfl (i.rI rfl ?_);have:decide ((b:Int)<(b':Int))=decide (b<b'):=by rw[decide_eq_decide];omega
   rw[this];exact d
  ·rw[j,xj]at d;exact d
theorem QX:∀{i k:Nat},Zw ss i=some k->k<i/\∃s,ss[k]?=some s/\s.many<s.tk.length
 | 0,_,h=>by simp[Zw]at h
 | i+1,k,h=>by
  have up:Zw ss i=some k->k<i+1/\∃s,ss[k]?=some s/\s.many<s.tk.length:=λh=>by
   have:=QX h;exact⟨O,this.2⟩
  simp only[Zw]at h;split at h
  ·rename_i x hx;split at h
   ·rename_i hlt;have a:i<i+1/\∃s,ss[i]?=some s/\s.many<s.tk.length:=⟨O,x,hx,hlt⟩;split at h
    ·rename_i j hj;split at h
     ·split at h
      ·cases h;exact a
      ·cases h;exact up hj
     ·cases h;exact a
    ·cases h;exact a
   ·exact up h
  ·exact up h
theorem Ct {s:cH}(h:s.many<s.tk.length):∃i,low s=some i/\i<s.tk.length/\s.is i=false:=by
 unfold low;cases hf:s.tk.findIdx? (· == false)with
 | some i=>
  obtain⟨a,b,_⟩:=rJ.1 hf;refine⟨i,rfl,a,?_⟩;have:s.tk[i]=false:=by simpa using b
  simp[cH.is,zL,cM a,this]
 | none=>
  exfalso;have d:=y8.1 hf;have:s.many=s.tk.length:=by
   unfold cH.many;rw[List.count_eq_length];intro x hx;have:=d x hx;cases x
   ·simp at this
   ·rfl
  omega
theorem Ot:∀{ps:List (Nat×Nat)} {ss:List cH} {k:Nat} {s s':cH},ps.length=ss.length->ss[k]?=some s->s'.st=s.st->dW ps (ss.set k s')=(dW ps ss).set (3*k) (.int .i64 (s'.many:Int))
 | [],[],_,_,_,_,h,_=>by simp at h
 | [],_::_,_,_,_,h,_,_=>by simp at h
 | _::_,[],_,_,_,_,h,_=>by simp at h
 | x::ps,t::ss,0,s,s',_,h,e=>by simp at h;subst h;simp[dW,e]
 | x::ps,t::ss,k+1,s,s',hl,h,e=>by
  simp only[vZ,dW];rw[Ot (ps:=ps) (ss:=ss) (s:=s) (by simpa using hl) (by simpa using h) e];rw[show 3*(k+1)=3*k+1+1+1 by omega];simp
theorem Pm {h:Hp}{b:Nat}{cs cs':List Value}(h1:bX h b cs)(h2:bX h b cs'):cs=cs':=by
 obtain⟨e,d⟩:=h1;obtain⟨g,a⟩:=h2;rw[d]at a;simp only[Option.some.injEq,Obj.cells.injEq]at a;simpa using congrArg Array.toList a.1
theorem QC {x:Nat×Nat}{i:Nat}(hx:ps[i]?=some x):x.1∈eJ ps/\x.2∈eJ ps:=
 ⟨Hx.2 ⟨x,zE hx,.inl rfl⟩,Hx.2 ⟨x,zE hx,.inr rfl⟩⟩
theorem L7:∀{ps:List (Nat×Nat)},(eJ ps).Nodup->∀{i j:Nat} {x y:Nat×Nat},ps[i]?=some x->ps[j]?=some y->i≠j->∀b,(b=x.1\/b=x.2)->¬(b=y.1\/b=y.2)
 | [],_,_,_,_,_,h,_,_=>by simp at h
 | z::ps,hn,i,j,x,y,h1,h2,hij=>by
  have hn':z.1∉eJ ps/\z.2∉eJ ps/\z.1≠z.2/\(eJ ps).Nodup:=by
   simp only[eJ,qb,oR,sU,zr,zR,not_or]at hn;exact⟨hn.1.2,hn.2.1,hn.1.1,hn.2.2⟩
  intro b hb hb'
  match i,j,hij with
  | 0,0,h=>exact h rfl
  | 0,j+1,_=>
   simp at h1;subst h1;have:=QC (ps:=ps) (i:=j) (by simpa using h2);rcases hb with rfl|rfl<;>rcases hb' with e|e<;>rw[e]at hn'<;>simp[this]at hn'
  | i+1,0,_=>
   simp at h2;subst h2;have:=QC (ps:=ps) (i:=i) (by simpa using h1);rcases hb with rfl|rfl<;>rcases hb' with e|e<;>rw[←e]at hn'<;>simp[this]at hn'
  | i+1,j+1,h=>exact L7 hn'.2.2.2 (by simpa using h1) (by simpa using h2) O b hb hb'
theorem fC.tI (h:fC σ F p c ps ss){k:Nat}{x:Nat×Nat}{s s':cH}(hx:ps[k]?=some x)(hs:ss[k]?=some s)(hst:s'.st=s.st){σ1:Hp}(e1:Ext (λb=>b=x.1\/b=x.2) σ σ1)(hS:iN σ1 x.1 x.2 c s')
 {sl:Sl} {rb:Nat} {cs:List Value} (hb:bX σ p [.int .i64 (c.size:Int),.int .i64 (c.aF:Int),.int .i64 (c.batch:Int),.slice sl.a sl.len sl.cap]) (E:wC σ F p ps ss sl rb cs)
 {K:aP} (hK:∀σ2,Ext F σ σ2->fC σ2 F p c ps (ss.set k s')->K σ2):cY ⟨rb,3*k,none⟩ (.int .i64 (s'.many:Int)) σ1 K:=by
 obtain⟨rh,G,P⟩:=h.hd;have C:rh=sl:=by
  have:=Pm G hb;simp at this;obtain⟨a,n,c⟩:=sl;obtain⟨W,U,V⟩:=rh;simp at this ⊢;exact this
 subst C;have g:=QC hx;have e:=h.nd;simp only[zr]at e;have r:=(cQ.1 hs).1;have B:=(bS.loc rh 3 (dW ps ss)).bU P e1 λb hb S=>λd=>S.2.2 (by rcases d with rfl|rfl;exact g.1;exact g.2);have L:=e1.bV hb λd=>e.1 (by rcases d with h|h<;>rw[h];exact g.1;exact g.2)
 refine B.st (j:=3*k) (by rw[Kg h.len];omega) (λb u=>by rw[E.a]at u;cases u;rfl) λσ2 D H=>?_;have J:Ext F σ σ2:=(e1.sub λi A=>h.fb i (by rcases A with rfl|rfl;exact g.1;exact g.2)).trans (D.sub λi A=>A.1);refine hK σ2 J ⟨⟨rh,D.bV L λd=>d.2.1 rfl,?_⟩,λi y t m z=>?_,h.fp,h.fb,h.nd,by simpa using h.len,h.ok,?_⟩
 ·rw[Ot h.len hs hst];exact H
 ·have w:=QC m;have Q:iN σ1 y.1 y.2 c t:=by
   by_cases hik:i=k
   ·subst hik;rw[hx]at m;cases m;rw[zO r]at z;cases z;exact hS
   ·rw[zm (Ne.symm hik)]at z;have M:=L7 e.2 m hx hik;exact(h.sp i y t m z).bU e1 (M _ (.inl rfl)) (M _ (.inr rfl))
  exact Q.bU D (λd=>d.2.2 w.1) (λd=>d.2.2 w.2)
 ·have:(ss.set k s').map (·.st)=ss.map (·.st):=by
   apply lX;intro i;simp only[zi];by_cases hik:i=k
   ·subst hik;rw[zO r,hs];simp[hst]
   ·rw[zm (Ne.symm hik)]
  have N:=h.tL;rw[←py (f:=cH.st) (R:=(· < ·))]at N ⊢;rw[this];exact N
theorem O3 (h:fC σ F p c ps ss){R:Int->Bool->Hp->Prop}(h1:∀x ss',kE c ss=some (x,ss')->∀σ',Ext F σ σ'->fC σ' F p c ps ss'->R (x:Int) true σ')(h0:kE c ss=none->∀σ',bO σ σ'->R 0 false σ') :
 Y5.c (aW p) σ R:=by
 refine Y5.o ?_;obtain⟨sl,hb,hl,hr⟩:=h.sl;have hfew:=h.oD;have hn:=h.ok.lI;obtain⟨d,cs,E⟩:∃d cs,ss≠[]->wC σ F p ps ss sl d cs:=by
  by_cases hne:ss=[]
  ·exact⟨0,[],λh=>absurd hne h⟩
  ·obtain⟨d,cs,E⟩:=hr hne;exact⟨d,cs,λ_=>E⟩
 refine aG (hb.rS rfl ?_);refine KA (a:=.p) (bb:=bN) (λ(qG:Option Addr) (t:Int) D=>∃i:Nat,t=(i:Int)/\i<=ss.length/\bO σ D/\qG=(Zw ss i).map λk=>⟨d,3*k,none⟩) (λ_ t _=>ss.length-t.toNat) ⟨0,rfl,O,Ext.refl _ _,rfl⟩ ?_;rintro qG t D ⟨i,rfl,hi,e,rfl⟩;refine cI (λV=>?_) λS=>?_
 ·simp only at V;have M:i<ss.length:=by omega
  have E:=E (by rintro rfl;simp at M);obtain⟨P,s,K,H,w⟩:=h.kF M;have z:=QB K H;have aa:=w.len;refine aG ((e.bV hb id).rS rfl ?_);rw[E.a];refine ix O O ?_;rw[add_lit,show 0+(i:Int).toNat*3=3*i by omega];have Eb:=e.bV E.bV id;have B:Zw ss (i+1)=if s.many<s.tk.length then(match Zw ss i with
   | some j=>match ss[j]? with
    | some y=>if AT s y then some i else some j
    | none=>some i
   | none=>some i)else Zw ss i:=by
   simp only[Zw,H];rfl
  have J:∀(r:Bool) (v:Hp),bO σ v->(if r then some i else Zw ss i)=Zw ss (i+1) →
   If r (Ar .i64 ((i:Int)+1) λb=>(∃j:Nat,b=(j:Int)/\j<=ss.length/\bO σ v/\some (⟨d,3*i,none⟩:Addr)=(Zw ss j).map λk=>⟨d,3*k,none⟩)/\ss.length-b.toNat<ss.length-(i:Int).toNat)
    (Ar .i64 ((i:Int)+1) λb=>(∃j:Nat,b=(j:Int)/\j<=ss.length/\bO σ v/\((Zw ss i).map λk=>(⟨d,3*k,none⟩:Addr))=(Zw ss j).map λk=>⟨d,3*k,none⟩)/\ss.length-b.toNat<ss.length-(i:Int).toNat):=by
   intro r v ev hr';cases r
   ·refine cG rfl (cA (m:=i+1) O O ⟨⟨i+1,rfl,O,ev,?_⟩,O⟩);rw[←hr'];rfl
   ·refine cJ rfl (cA (m:=i+1) O O ⟨⟨i+1,rfl,O,ev,?_⟩,O⟩);rw[←hr'];rfl
  refine Jn.intro ⟨λG=>bX G d cs,Eb,aG ⟨_,λG w=>by rw[add_lit,add_lit,w.cell];exact E.get z.1,aG ⟨_,λG w=>by rw[add_lit,w.cell];exact E.get z.2.2,?_⟩⟩⟩;refine Mx (w.bK e) ⟨Eb,?_⟩;refine cI (λhlt2=>?_) λhge2=>?_
  ·have X:s.many<s.tk.length:=by omega
   rw[zB X]at B;cases hbf:Zw ss i with
   | none=>
    rw[hbf]at B J;exact cJ rfl (J true D e B.symm)
   | some j=>
    rw[hbf]at B J;obtain⟨hji,y,hy,hym⟩:=QX hbf;simp only[hy]at B;have Y:j<ps.length:=by rw[h.len];omega
    have A:=QB (cM Y) hy;have fin:W6.c (s.many:Int) (s.st:Int) (y.many:Int) (y.st:Int) D λQ v3=>bX v3 d cs ∧
     If Q (Ar .i64 ((i:Int)+1) λb=>(∃j:Nat,b=(j:Int)/\j<=ss.length/\bO σ v3/\some (⟨d,3*i,none⟩:Addr)=(Zw ss j).map λk=>⟨d,3*k,none⟩)/\ss.length-b.toNat<ss.length-(i:Int).toNat)
      (Ar .i64 ((i:Int)+1) λb=>(∃j':Nat,b=(j':Int)/\j'<=ss.length/\bO σ v3/\((some j).map λk=>(⟨d,3*k,none⟩:Addr))=(Zw ss j').map λk=>⟨d,3*k,none⟩)/\ss.length-b.toNat<ss.length-(i:Int).toNat):=by
     refine WjL _ _ _ _ λv3 e3=>⟨e3.bV Eb id,J _ v3 (e.trans e3) ?_⟩;rw[B];rfl
    refine cG rfl (aG (aG ⟨?_,?_⟩))
    ·exact Eb.gG (E.get z.1) (Eb.gG (E.get z.2.1) ⟨Eb,Eb.gG (E.get A.1) (Eb.gG (E.get A.2.1) ⟨Eb,fin⟩)⟩)
    ·exact Eb.gG (E.get A.1) (Eb.gG (E.get A.2.1) ⟨Eb,Eb.gG (E.get z.1) (Eb.gG (E.get z.2.1) ⟨Eb,fin⟩)⟩)
  ·have X:¬s.many<s.tk.length:=by omega
   rw[zA X]at B;exact J false D e B.symm
 ·have W:i=ss.length:=by simp only at S;omega
  subst W;cases hbf:Zw ss ss.length with
  | none=>
   refine cJ rfl (h0 ?_ _ e);simp[kE,qG,hbf]
  | some k=>
   obtain⟨hk,s,H,hsm⟩:=QX hbf;have E:=E (by rintro rfl;simp at hk);obtain⟨P,s',K,L,w⟩:=h.kF hk;rw[H]at L;cases L;have z:=QB K H;obtain⟨r,C,Z,ab⟩:=Ct hsm;have D:=h.bK e;have one:kE c ss=some (at_ c s r,ss.set k (s.put r true)):=by simp[kE,qG,hbf,H,C]
   have E':wC _ F p ps ss sl d cs:=⟨E.a,e.bV E.bV id,E.fr,E.get,E.Ik⟩;refine cG rfl (aG (E'.bV.rP (x:=some ⟨P.1,0,none⟩) (E.get z.2.2) ?_));refine TT (w.bK e) C λv5 e5 ac=>aG ?_;have N:=QC K;have U:¬(d=P.1\/d=P.2):=λhh=>E.fr.2.2 (by rcases hh with h|h<;>rw[h];exact N.1;exact N.2)
   have hml:=HT s;have g:=Co Z true;rw[ab]at g;have u:(s.put r true).many=s.many+1:=by simp at g;omega
   have aa:=w.len;refine(e5.bV E'.bV U).gG (E.get z.1) (cA (m:=s.many+1) O O (aG ?_));rw[add_lit,add_lit,zt,zt,←u];exact D.tI (s':=s.put r true) K H rfl e5 ac (e.bV hb id) E' λv6 e6 h6=>h1 _ _ one v6 (e.to.trans e6) h6
theorem Wjp {k:Nat}{s s':cH}(hs:ss[k]?=some s):Q6 (ss.set k s')+(s.tk.length-s.many)=Q6 ss+(s'.tk.length-s'.many):=by
 unfold Q6
 induction ss generalizing k with
 | nil=>simp at hs
 | cons x ss ih=>
  cases k with
  | zero=>simp at hs;subst hs;simp;omega
  | succ k=>
   have:=ih (by simpa using hs);simp only[vZ,zH,zS];omega
theorem Wjl {x:Nat}{ss':List cH}(h:kE c ss=some (x,ss')):Q6 ss'+1=Q6 ss:=by
 unfold kE at h;split at h
 ·rename_i k hk;obtain⟨_,s,j,d⟩:=QX hk;rw[j]at h;simp only at h;split at h
  ·rename_i i hi;cases h;obtain⟨r,e,b,a⟩:=Ct d;rw[hi]at e;cases e;have m:=Wjp (s':=s.put i true) j;have g:=Co b true;rw[a]at g;have p:(s.put i true).tk.length=s.tk.length:=by simp[cH.put]
   simp at g;omega
  ·cases h
 ·cases h
theorem fC.room (h:fC σ F p c ps ss):Q6 ss<=131072:=by
 have key:∀l:List cH,(∀s∈l,s.tk.length<=128)->Q6 l<=128*l.length:=by
  intro l
  induction l with
  | nil=>intro _;simp[Q6]
  | cons x l ih=>
   intro hl;have r:=hl x aA;have m:=ih λs d=>hl s (by simp[d]);simp only[Q6,zH,zS,zN]at *;omega
 have:=key ss λs d=>by
  obtain⟨i,e⟩:=zM d;have b:=(cQ.1 e).1;obtain⟨x,j,_,a,g⟩:=h.kF b;rw[e]at a;cases a;rw[g.len];exact h.ok.lI
 have:=h.oD;omega
theorem Gk {m:Nat}{x:Nat}{ss':List cH}(h:kE c ss=some (x,ss')):Ki c (m+1) ss=(x::(Ki c m ss').1,(Ki c m ss').2):=by
 simp[Ki,h]
theorem Rf (h:fC σ F p c ps ss)(m:Int)(hm:0<=m){R:Sl->Int->Hp->Prop}
 (hR:∀s σ',Ext F σ σ'->bS s 1 (ints (Ki c m.toNat ss).1) σ' (λb=>σ.size<=b)->fC σ' (Cut F σ) p c ps (Ki c m.toNat ss).2->R s 0 σ'):Xf.c (aW p) m σ R:=by
 refine Xf.o ?_;have h:=fC.loc.cut h;have G:=fC.room h;refine Vi h (cG rfl (fJ O ?_));refine ZV (a:=.s) (λ(out:Sl) C=>∃j d,Ext F σ C/\bS out 1 (ints j) C (λb=>σ.size<=b)/\fC C (Cut F σ) p c ps d/\j.length<=m.toNat/\j.length+Q6 d=Q6 ss/\Ki c m.toNat ss=(j++(Ki c (m.toNat-j.length) d).1,(Ki c (m.toNat-j.length) d).2))
  (λout _=>m.toNat-out.len) ⟨[],ss,Ext.refl _ _,bS.nil _ _ _ _,h,by simp,by simp,by simp⟩ ?_
 rintro out C ⟨j,d,e,g,H,Y,V,r⟩;have Q:=g.lB;refine cI (λS=>?_) λX=>?_
 ·have u:m.toNat-j.length=(m.toNat-(j.length+1))+1:=by omega
  refine O3 H (λx L w v2 B J=>cG rfl ?_) λz v2 B=>cJ rfl ?_
  ·have D:Ext F σ v2:=e.trans (B.sub λi K=>K.1);have y:=aI.bU g B λb _ E P=>by have:=P.2;omega
   refine y.push (vs:=[.int .i64 (x:Int)]) (λb E=>zJ D.1 E) rfl rfl (by simp[dP]) O O λs' v4 W N M=>?_;have Z:=Wjl w;refine⟨⟨j++[x],L,D.fH N λi K=>.inr K,by rw[Vv];exact M,fC.loc.bU J N λb _ E P=>(by have:=E.2;omega),by simp;omega,by simp;omega,?_⟩,O⟩;rw[r,u,Gk w];simp
  ·have:Ki c (m.toNat-j.length) d=([],d):=by rw[u];simp[Ki,z]
   rw[this]at r;have A:=hR out v2 (e.trans B.to);rw[r,lZ]at A;exact A (aI.bK g B) (H.bK B)
 ·have U:m.toNat-j.length=0:=by omega
  rw[U]at r;have A:=hR out C e;rw[r]at A;simp only[Ki,lZ]at A;exact A g H
theorem TV (h:fC σ F p c ps ss)(m:Int)(hm:m<0){R:Sl->Int->Hp->Prop}(hR:R ⟨none,0,0⟩ 1 σ):Xf.c (aW p) m σ R:=by
 refine Xf.o ?_;exact Vi h (cG rfl (oK O hR))
def jY:List (Nat×Nat)->List cH->List (Nat×Nat)
 | x::ps,s::ss=>if s.many != 0 then x::jY ps ss else jY ps ss
 | _,_=>[]
theorem Ga:∀{ps:List (Nat×Nat)} {ss:List cH},ps.length=ss.length->(jY ps ss).length=(cK ss).length
 | [],[],_=>rfl
 | x::ps,s::ss,h=>by
  have ih:=Ga (ps:=ps) (ss:=ss) (by simpa using h);simp only[jY,cK,sA]at *;split<;>simp[ih]
theorem Eh:∀{ps:List (Nat×Nat)} {ss:List cH},(jY ps ss).Sublist ps
 | [],_=>by simp[jY]
 | _::_,[]=>by simp[jY]
 | x::ps,s::ss=>by
  simp only[jY];split
  ·exact Eh.cons_cons x
  ·exact Eh.cons x
theorem LK:∀{ps ps':List (Nat×Nat)} {ss ss':List cH},ps.length=ss.length->jY (ps++ps') (ss++ss')=jY ps ss++jY ps' ss'
 | [],_,[],_,_=>rfl
 | x::ps,_,s::ss,_,h=>by
  simp only[oR,jY,LK (ps:=ps) (ss:=ss) (by simpa using h)];split<;>rfl
theorem LA:∀{ps:List (Nat×Nat)} {ss:List cH} {i:Nat} {x:Nat×Nat} {s:cH},ps.length=ss.length->(jY ps ss)[i]?=some x->(cK ss)[i]?=some s->∃j:Nat,ps[j]?=some x/\ss[j]?=some s
 | [],[],_,_,_,_,h,_=>by simp[jY]at h
 | y::ps,t::ss,i,x,s,hl,h1,h2=>by
  have ih:=λi=>LA (ps:=ps) (ss:=ss) (i:=i) (x:=x) (s:=s) (by simpa using hl);simp only[jY,cK,sA]at h1 h2;cases hm:(t.many != 0)
  ·rw[hm]at h1 h2;obtain⟨j,a,b⟩:=ih i h1 h2;exact⟨j+1,by simpa using a,by simpa using b⟩
  ·rw[hm]at h1 h2;cases i with
   | zero=>simp at h1 h2;exact⟨0,by simp[h1],by simp[h2]⟩
   | succ i=>
    obtain⟨j,a,b⟩:=ih i (by simpa using h1) (by simpa[cK]using h2);exact⟨j+1,by simpa using a,by simpa using b⟩
theorem Wdh (a b:List cH):cK (a++b)=cK a++cK b:=by simp[cK]
theorem Wdy (a b:List cH):Z8 (a++b)=Z8 a++Z8 b:=by simp[Z8]
theorem Υ (c:bY)(a b:List Nat):iP c (a++b)=iP c a++iP c b:=by simp[iP]
theorem Δ {a b:List (Nat×Nat)}(h:a.Sublist b):(eJ a).Sublist (eJ b):=by
 induction h with
 | slnil=>exact List.Sublist.refl _
 | cons x _ ih=>exact(ih.cons _).cons _
 | cons_cons x _ ih=>exact(ih.cons_cons _).cons_cons _
theorem Jf {h:Hp}{Q:Rg}{n3:Nat}{o:Sl}{l:List Nat}{x1 x2:Nat}{s:cH}(hb:bX h n3 [.slice o.a o.len o.cap])(hrow:bS o 2 (iP c l) h Q)(hQ:∀b,Q b->n3<b)(hl:l.length<=2000)(hS:iN h x1 x2 c s){R:aO}
 (hR:∀h' o',Ext (λb=>b=n3\/Q b) h h'->bX h' n3 [.slice (Sl.a o') o'.len o'.cap]->bS o' 2 (iP c (l++if s.many=0 then[s.st]else[])) h' (Grow Q h)->R (s.many==0) h') :
 V2 Tryz.prog ⟨228,#[],#[.pointer (some ⟨n3,0,none⟩)]⟩ [.agg #[.int .i64 (s.many:Int),.int .i64 (s.st:Int),.pointer (some ⟨x1,0,none⟩)]] [.one .b] h R:=by
 refine Gm (all := #[.agg #[.int .i64 (s.many:Int),.int .i64 (s.st:Int),.pointer (some ⟨x1,0,none⟩)],.pointer (some ⟨n3,0,none⟩)]) (by kernel_rfl) aA ?_;refine Yc.o ?_;refine nw (cs:=[.int .i64 (s.many:Int),.int .i64 (s.st:Int),.pointer (some ⟨x1,0,none⟩)]) λv Z e d=>?_;have Y:=hb.lt;have m:=e.bV hb id;have hrow:=(bS.loc o 2 (iP c l)).mono hrow (G:=λb=>Q b/\b<h.size) λb hb A=>⟨A,hb⟩;refine Jn.intro (d.gG rfl ?_);rw[y5];refine cU (λJ=>?_) λJ=>?_
 ·have r:s.many=0:=by simpa using J
  rw[zB r]at hR;refine⟨λh'=>bX h' h.size [.int .i64 (s.many:Int),.int .i64 (s.st:Int),.pointer (some ⟨x1,0,none⟩)]/\bX h' n3 [.slice o.a o.len o.cap],⟨d,m⟩,⟨o,λh' hS=>by rw[hS.2.cell];rfl,⟨some ⟨x1,0,none⟩,λh' hS=>by rw[add_lit,hS.1.cell];rfl,?_⟩⟩⟩;refine JI (hS.bK e) λv2 p=>⟨⟨p.bV d id,p.bV m id⟩,?_⟩;have y:=e.trans p;have g:=aI.bK hrow y;have z:=g.1;rw[Io]at z;refine nw (cs:=[.int .i64 (s.st:Int),.int .i64 (c.aF:Int)]) λv3 V x D=>⟨⟨(p.trans x).bV d id,(p.trans x).bV m id⟩,?_⟩;have w:=aI.bK g x;have U:=y.1;refine w.app (ys:=[.int .i64 (s.st:Int),.int .i64 (c.aF:Int)]) rfl rfl ?_ (by simp[dP]) ?_ ?_ qW λS K P B E=>?_
  ·intro j u hu;rw[add_lit,zI,D.cell];exact hu
  ·simp only;have:(o.len+1)*16<=2001*16:=nC O O;omega
  ·simp only;omega
  ·have L:bX K h.size [.int .i64 (s.many:Int),.int .i64 (s.st:Int),.pointer (some ⟨x1,0,none⟩)]:=B.bV ((p.trans x).bV d id) λC=>by have:=C.2;omega
   have M:bX K n3 [.slice o.a o.len o.cap]:=B.bV ((p.trans x).bV m id) λC=>by have:=hQ _ C.1;omega
   refine⟨⟨L,M⟩,M.s0 aA λv5 o5 W=>(Ws o5 L O).gG rfl ?_⟩;have H:Ext (λb=>b=n3\/Q b) h v5:=(bO.to ((e.trans p).trans x)).trans (B.sub λi F=>.inr F.1)|>.trans (o5.ext.sub λi F=>.inl F);rw[y5];refine hR v5 S H W ?_;rw[Υ];have:iP c [s.st]=[.int .i64 (s.st:Int),.int .i64 (c.aF:Int)]:=rfl;rw[this];have X:=aI.mono E (G:=Grow Q h) λb _ N=>by
    rcases N with h|h
    ·exact .inl h.1
    ·exact .inr O
   exact aI.bU X o5.ext λb _ A he=>by
    rcases A with h|h
    ·have:=hQ _ h;omega
    ·omega
 ·have r:¬s.many=0:=by simpa using J
  rw[zA r,lZ]at hR;refine d.gG rfl ?_;rw[y5];exact hR v o e.to m (aI.bK (aI.mono hrow λb _ A=>.inl A.1) e)
def BZ (n3:Nat)(c:bY)(l:List Nat)(h:Hp):Prop:=∃o:Sl,bX h n3 [.slice o.a o.len o.cap]/\bS o 2 (iP c l) h (λb=>n3<b)
theorem FI {A D:List Value}{x y z:Value}{k:Nat}(hk:k=A.length)(hD:3<=D.length):(((A++D).set k x).set (k+1) y).set (k+2) z=A++[x,y,z]++D.drop 3:=by
 subst hk
 match D,hD with
 | d0::d1::d2::D,_=>simp[List.set_append]
theorem H8 {i:Nat}{s:cH}(hs:ss[i]?=some s):Z8 (ss.take (i+1))=Z8 (ss.take i)++(if s.many=0 then[s.st]else[]):=by
 rw[zl,hs,Wdy]
 congr 1
 by_cases hm:s.many=0<;>simp[Z8,hm]
theorem Gh {i:Nat}{s:cH}(hs:ss[i]?=some s):cK (ss.take (i+1))=cK (ss.take i)++(if s.many=0 then[]else[s]):=by
 rw[zl,hs,Wdh]
 congr 1
 by_cases hm:s.many=0<;>simp[cK,hm]
theorem FE {i:Nat}{x:Nat×Nat}{s:cH}(hl:ps.length=ss.length)(hx:ps[i]?=some x)(hs:ss[i]?=some s):jY (ps.take (i+1)) (ss.take (i+1))=jY (ps.take i) (ss.take i)++(if s.many=0 then[]else[x]):=by
 rw[zl,zl,hs,hx,LK (by simp[hl])]
 congr 1
 by_cases hm:s.many=0<;>simp[jY,hm]
theorem SO (l:List cH):(Z8 l).length<=l.length:=by unfold Z8;rw[zX];exact qB _ _
theorem OT (l:List cH):(cK l).length<=l.length:=qB _ _
theorem Wj4 (h:fC σ F p c ps ss){sl:Sl}{rb n3:Nat}{cs:List Value}{σ1:Hp}(e1:bO σ σ1)(hlen:sl.len=ss.length)(hn3:σ.size<=n3)(hE:ss≠[]->wC σ F p ps ss sl rb cs/\sl.len<=sl.cap/\cs.length=sl.cap*3)(h0:BZ n3 c [] σ1){R:Sl->Hp->Prop}
 (hR:∀h' rh,Ext (λb=>F b/\b≠p/\b∉eJ ps\/n3<=b) σ1 h'->BZ n3 c (Z8 ss) h'->(rh=sl/\Z8 ss=[]/\cK ss=ss/\jY ps ss=ps/\Ext (λb=>n3<=b) σ1 h'\/(bS rh 3 (dW (jY ps ss) (cK ss)) h' (λb=>F b/\b≠p/\b∉eJ ps)))->R rh h') :
 Wf.c sl ⟨228,#[],#[.pointer (some ⟨n3,0,none⟩)]⟩ σ1 R:=by
 refine Wf.o ?_;refine Wi.o ?_;have hfew:=h.oD;have r:=h.len;refine ZV (a:=bN) (λ(t:Int) h'=>∃i:Nat,t=(i:Int)/\i<=ss.length/\Ext (λb=>n3<=b) σ1 h'/\BZ n3 c [] h'/\Z8 (ss.take i)=[]/\cK (ss.take i)=ss.take i/\jY (ps.take i) (ss.take i)=ps.take i) (λt _=>ss.length-t.toNat) ⟨0,rfl,O,Ext.refl _ _,h0,by simp[Z8],by simp[cK],by simp[jY]⟩ ?_;rintro t h' ⟨i,rfl,hi,e,⟨o,P,af⟩,q1,q2,q3⟩;have eo:∀{v:Hp},Ext (λb=>n3<=b) σ1 v->Ext (λb=>n3<=b) σ v:=λe=>e1.to.trans e;refine cI (λhlt=>?_) λhge=>?_
 ·have ae:i<ss.length:=by omega
  obtain⟨E,hcap,hcl⟩:=hE (by rintro rfl;simp at ae);obtain⟨xx,s,hp,M,hS⟩:=h.kF ae;have eg:=QB hp M;have hrl:=E.bV.lt;have hSl:=hS.lt;rw[E.a];refine ix O O ?_;rw[add_lit,show 0+(i:Int).toNat*3=3*i by omega];refine xf (e:=0) ((eo e).bV E.bV O) (E.get eg.1) (E.get eg.2.1) (E.get eg.2.2) ?_;have hn3h:n3<h'.size:=P.lt;refine Jf P af (λb h=>h) aA (hS.bU (eo e) O O) λh2 o2 e2 Y A=>?_;have e2:Ext (λb=>n3<=b) h' h2:=e2.sub λb g=>by omega
  have A:=aI.mono A (G:=λb=>n3<b) λb _ g=>by
   rcases g with h|h
   ·exact h
   ·omega
  refine cU (λhm=>?_) λhm=>?_
  ·-- the first that goes
   have x:s.many=0:=by simpa using hm
   rw[zB x,sU]at A;have D:((i:Int)==(-1))=false:=by rw[qA];omega
   show If ((i:Int)==(-1)) _ _;refine cG D (cA (m:=i+1) O O ?_);have q1':Z8 (ss.take (i+1))=[s.st]:=by rw[H8 M,q1,zB x];rfl
   have V:cK (ss.take (i+1))=ss.take i:=by rw[Gh M,q2,zB x,lZ]
   have q3':jY (ps.take (i+1)) (ss.take (i+1))=ps.take i:=by rw[FE r hp M,q3,zB x,lZ]
   have hke:∀k,k<=ss.length->(dW (jY (ps.take k) (ss.take k)) (cK (ss.take k))).length=3*(cK (ss.take k)).length:=λk _=>Kg (Ga (by simp[r]));have Eb2:bX h2 rb cs:=(eo (e.trans e2)).bV E.bV O;refine KA (a:=bN) (bb:=bN) (λ(i1 j1:Int) v=>∃j:Nat,j1=(j:Int)/\i<j/\j<=ss.length/\i1=((cK (ss.take j)).length:Int)/\(cK (ss.take j)).length<j/\Ext (λb=>b=rb\/n3<=b) σ1 v/\BZ n3 c (Z8 (ss.take j)) v ∧
    bX v rb (dW (jY (ps.take j) (ss.take j)) (cK (ss.take j))++cs.drop (3*(cK (ss.take j)).length))) (λ_ j1 _=>ss.length-j1.toNat) ?_ ?_
   ·refine⟨i+1,rfl,O,O,?_,?_,(e.trans e2).sub λb g=>.inr g,?_,?_⟩
    ·rw[V,zP];omega
    ·rw[V,zP];omega
    ·rw[q1'];exact⟨o2,Y,A⟩
    ·rw[V,q3',zP,uF O];have:dW (ps.take i) (ss.take i)++cs.drop (3*i)=cs:=by
      have h1:(dW (ps.take i) (ss.take i)).length=3*i:=by rw[Kg (by simp[r]),zP];omega
      apply lX;intro k;rcases pA k (3*i)with hk|hk
      ·rw[zh O];have h2:(dW ps ss)[k]?=(dW (ps.take i) (ss.take i))[k]? := by
        conv=>lhs;rw[←qL i ps,←qL i ss,Vy (by simp[r])]
        rw[zh O]
       rw[←h2];have h3:k<(dW ps ss).length:=by rw[Kg r];omega
       rw[cM h3];exact(E.get (cM h3)).symm
      ·rw[zp O,zq,h1]
       congr 1;omega
     rw[this];exact Eb2
   ·rintro i1 j1 v ⟨j,rfl,hij,hj,rfl,hKj,ev,⟨o3,B,K⟩,z⟩;have y:=hke j hj;have evo:Ext (λb=>b=rb\/n3<=b) σ v:=e1.to.trans ev;refine cI (λhlt2=>?_) λhge2=>?_
    ·have hj':j<ss.length:=by omega
     obtain⟨yy,u,U,H,aa⟩:=h.kF hj';have Q:=QB U H;have hSul:=aa.lt;have ab:=QC U;refine ix O O ?_;rw[add_lit,show 0+(j:Int).toNat*3=3*j by omega];have get:∀d,d<3->∀w,(dW ps ss)[3*j+d]?=some w->(dW (jY (ps.take j) (ss.take j)) (cK (ss.take j))++cs.drop (3*(cK (ss.take j)).length))[3*j+d]?=some w:=by
      intro d hd w hw;rw[zp O,zq,y,show 3*(cK (ss.take j)).length+(3*j+d-3*(cK (ss.take j)).length)=3*j+d by omega];exact E.get hw
     refine xf (e:=0) z (get 0 O _ Q.1) (get 1 O _ Q.2.1) (get 2 O _ Q.2.2) (Dg λv5 W b5=>b5.rI rfl (b5.rI rfl (b5.rP rfl ?_)));have hn3v:n3<v.size:=B.lt;have X:=aI.mono K (G:=λb=>n3<b/\b<v.size) λb g hf=>⟨hf,g⟩;have J:=SO (ss.take j);rw[zP]at J;refine Jf (W.bV B id) (aI.bK X W) (λb g=>g.1) O ((aa.bU evo (λN=>by rcases N with h|h;exact E.fr.2.2 (h▸ab.1);omega) (λN=>by rcases N with h|h;exact E.fr.2.2 (h▸ab.2);omega)).bK W) λv6 o6 e6 ad C=>?_;have hsz5:=W.1;have C:=aI.mono C (G:=λb=>n3<b) λb _ g=>by
      rcases g with h|h
      ·exact h.1
      ·omega
     have b6:bX v6 v.size [.int .i64 (u.many:Int),.int .i64 (u.st:Int),.pointer (some ⟨yy.1,0,none⟩)]:=e6.bV b5 λN=>by rcases N with h|h;omega;have:=h.2;omega
     have hrb:rb<σ.size:=E.bV.lt;have L:=e6.bV (W.bV z id) λN=>by rcases N with h|h;omega;have:=h.1;omega
     have ac:Ext (λb=>b=rb\/n3<=b) σ1 v6:=(ev.trans W.to).trans (e6.sub λb g=>by rcases g with h|h;omega;have:=h.1;omega);rw[←H8 H]at C;have st:=Gh H;have kt:=FE r U H;by_cases hum:u.many=0
     ·rw[zB hum,lZ]at st kt;have:(u.many==0)=true:=by simp[hum]
      rw[this];refine cG rfl (cA (m:=j+1) O O ⟨⟨j+1,rfl,O,O,?_,?_,ac,⟨o6,ad,C⟩,?_⟩,O⟩)
      ·rw[st]
      ·rw[st];omega
      ·rw[st,kt];exact L
     ·rw[zA hum]at st kt;have:(u.many==0)=false:=by simp[hum]
      rw[this];refine cJ rfl (b6.rI rfl (b6.rI rfl (b6.rP rfl (ix O O ?_))));rw[add_lit,show 0+((cK (ss.take j)).length:Int).toNat*3=3*(cK (ss.take j)).length by omega];have hlen6:(dW (jY (ps.take j) (ss.take j)) (cK (ss.take j))++cs.drop (3*(cK (ss.take j)).length)).length=cs.length:=by
       rw[zK,y,zu];omega
      refine L.s1 O λv7 o7 b7=>b7.s1 aE λv8 o8 b8=>b8.s1 aE λv9 o9 b9=>?_;rw[zt,FI y.symm (by rw[zu];omega),List.drop_drop]at b9;have ev9:Ext (λb=>b=rb\/n3<=b) σ1 v9:=((ac.trans (o7.ext.sub λb g=>.inl g)).trans (o8.ext.sub λb g=>.inl g)).trans (o9.ext.sub λb g=>.inl g);have Z:Ext (· = rb) v6 v9:=(o7.ext.trans o8.ext).trans o9.ext;refine cA (m:=(cK (ss.take j)).length+1) O O (cA (m:=j+1) O O ⟨⟨j+1,rfl,O,O,?_,?_,ev9,⟨o6,Z.bV ad O,aI.bU C Z λb _ g he=>O⟩,?_⟩,O⟩)
      ·rw[st];simp
      ·rw[st];simp;omega
      ·rw[st,kt,Vy (Ga (by simp[r]))];simp only[zK,zN,pz,dW];rw[show 3*((cK (ss.take j)).length+(0+1))=3*(cK (ss.take j)).length+3 by omega];exact b9
    ·have hjj:j=ss.length:=by omega
     subst hjj;rw[zo]at *;have S:ps.take ss.length=ps:=by rw[←r,zo]
     rw[S]at z y;have J:=OT ss;refine jV O O O ?_;have hK3:3*(cK ss).length<=cs.length:=by omega
     have hlt3:(cK ss).length<ss.length:=hKj;rw[zA O];simp only[E.a,zj,add_lit,zI];refine⟨by simp[dP],?_⟩;simp only;have hz:(List.replicate (sl.len-(cK ss).length) [Value.int .i64 0,.int .i64 0,.pointer none]).flatten.length=3*(sl.len-(cK ss).length):=by
      rw[ye,wX,yp];simp;omega
     refine Ul (o:=(cK ss).length*3) (i:=0) z (by rw[hz,zK,y,zu];omega) λv10 fR b10=>?_;refine jV (lo:=0) O O O ?_;have ev10:Ext (λb=>b=rb\/n3<=b) σ1 v10:=ev.trans (fR.ext.sub λb g=>.inl g);refine hR v10 _ (ev10.sub λb g=>?_) ⟨o3,Ws fR B (by have:=E.bV.lt;omega),aI.bU K fR.ext λb _ g he=>by have:=E.bV.lt;omega⟩ (.inr ?_)
     ·rcases g with rfl|h
      ·exact .inl E.fr
      ·exact .inr h
     ·refine⟨by rw[Kg (Ga r)];simp;omega,.inr ⟨rb,_,E.fr,?_,b10,?_,?_,?_⟩⟩
      ·simp only[E.a];split<;>simp[add_lit]
      ·simp only;omega
      ·simp only[zK,zP,zu,hz,y];omega
      ·rw[Kg (Ga r),zt,show(cK ss).length*3=3*(cK ss).length by omega];rw[mE,tT (by rw[zP,zK,y];omega),BV,Nat.min_self];rw[tT O,qx O]
  ·have x:¬s.many=0:=by simpa using hm
   rw[zA x,lZ]at A;refine cA (m:=i+1) O O ⟨⟨i+1,rfl,O,e.trans e2,⟨o2,Y,A⟩,?_,?_,?_⟩,O⟩
   ·rw[H8 M,q1,zA x];rfl
   ·rw[Gh M,q2,zA x,zl,M];rfl
   ·rw[FE r hp M,q3,zA x,zl,hp];rfl
 ·have hii:i=ss.length:=by omega
  subst hii;rw[zo]at *;have S:ps.take ss.length=ps:=by rw[←r,zo]
  rw[S]at q3;have D:((-1:Int)==(-1))=true:=rfl;refine cJ D (hR h' sl (e.sub λb g=>.inr g) ?_ (.inl ⟨rfl,q1,q2,q3,e⟩));rw[q1];exact⟨o,P,af⟩
theorem fC.rh (h:fC σ F p c ps ss):∃sl:Sl,bX σ p [.int .i64 (c.size:Int),.int .i64 (c.aF:Int),.int .i64 (c.batch:Int),.slice sl.a sl.len sl.cap]/\sl.len=ss.length/\bS sl 3 (dW ps ss) σ (λb=>F b/\b≠p/\b∉eJ ps) ∧
 ∃rb cs,(ss≠[]->wC σ F p ps ss sl rb cs/\sl.len<=sl.cap/\cs.length=sl.cap*3):=by
 obtain⟨sl,i,e⟩:=h.hd;have m:=e.1;rw[Kg h.len]at m;refine⟨sl,i,O,e,?_⟩;rcases e.2 with⟨h0,_⟩|⟨b,cs,hq,ha,hbb,hle,hcl,ht⟩
 ·exact⟨0,[],λg=>by have:=uf.2 g;omega⟩
 ·refine⟨b,cs,λ_=>⟨⟨ha,hbb,hq,λ{j v} d=>?_,?_⟩,hle,hcl⟩⟩
  ·rw[←ht,zb]at d;split at d
   ·exact d
   ·cases d
  ·have:=congrArg List.length ht;rw[zP,Kg h.len]at this;omega
theorem JT (h:fC σ F p c ps ss){R:Sl->Hp->Prop}
 (hR:∀o σ',Ext F σ σ'->bS o 2 (iP c (Z8 ss)) σ' (λb=>σ.size<=b)->fC σ' (Cut F σ) p c (jY ps ss) (cK ss)->R o σ'):WZ.c (aW p) σ R:=by
 refine WZ.o ?_;have h:=fC.loc.cut h;obtain⟨sl,a,C,z,V,cs,Q⟩:=h.rh;refine Vi h (cG rfl (nw (cs:=[.slice none 0 0]) λX N u J=>aG ((u.bV a id).rS rfl ?_)));refine Wj4 h u C (zD _) Q ⟨⟨none,0,0⟩,J,bS.nil _ _ _ _⟩ λW rh G ⟨o,w,D⟩ r=>aG ?_;have M:=a.lt;have e:=h.nd;have d:=Δ (Eh (ps:=ps) (ss:=ss));simp only[zr]at e;refine(G.bV (u.bV a id) λH=>by rcases H with h|h;exact h.2.1 rfl;omega).s1 aA λv3 o3 K=>?_;have A:=Ws o3 w (by have:=w.lt;omega);refine A.Cv rfl (hR o v3 ?_ (aI.bU (aI.mono D λb _ a=>O) o3.ext λb _ a g=>O) ?_)
 ·refine(u.to.fH G λb a=>?_).fH o3.ext λb a=>?_
  ·rcases a with h|h
   ·exact .inl h.1.1
   ·exact .inr h
  ·subst a;exact .inl h.fp.1
 ·have y:∀b,b∈eJ ps->b<σ.size->¬(Cut F σ b/\b≠p/\b∉eJ ps\/σ.size<=b):=λb a P H=>by
   rcases H with h|h
   ·exact h.2.2 a
   ·omega
  refine⟨⟨rh,K,?_⟩,λi x s S U=>?_,h.fp,λb a=>h.fb b (d.subset a),?_,Ga h.len,h.ok,h.tL.sublist vU⟩
  ·rcases r with⟨rfl,_,q2,q3,ex⟩|hr
   ·rw[q2,q3];exact aI.bU (aI.bU (aI.bK z u) ex λb _ a g=>by have:=a.1.2;omega) o3.ext λb _ a g=>a.2.1 g
   ·exact aI.bU (aI.mono hr λb _ a=>⟨a.1,a.2.1,λm=>a.2.2 (d.subset m)⟩) o3.ext λb _ a g=>a.2.1 g
  ·obtain⟨j,B,E⟩:=LA h.len S U;have L:=h.sp j x s B E;have m:=QC B;have C:=L.lt;exact((L.bK u).bU G (y _ m.1 C.1) (y _ m.2 C.2)).bU o3.ext (λg=>e.1 (g▸m.1)) (λg=>e.1 (g▸m.2))
  ·simp only[zr];exact⟨λm=>e.1 (d.subset m),e.2.sublist d⟩
theorem Wnq {x:Int}{k i:Nat}{s:cH}(hc:0<c.size)(hk:nZ c ss x=some k)(hs:ss[k]?=some s)(v:Bool)(y:Int):nZ c (ss.set k (s.put i v)) y=nZ c ss y:=by
 have a:∀t:cH,∀j w z,idx c (t.put j w) z=idx c t z:=λt j w z=>by unfold idx cH.put;simp only[sx]
 unfold nZ;have b:=(cQ.1 hs).1;have:(ss.set k (s.put i v)).map (λs=>(idx c s y).isSome)=ss.map (λs=>(idx c s y).isSome):=by
  apply lX;intro j;simp only[zi];by_cases hjk:j=k
  ·subst hjk;rw[zO b,hs];simp[a]
  ·rw[zm (Ne.symm hjk)]
 have d:∀l:List cH,l.findIdx? (λs=>(idx c s y).isSome)=(l.map λs=>(idx c s y).isSome).findIdx? id:=λl=>by rw[List.findIdx?_map];rfl
 rw[d,d,this]
def nK (c:bY)(ss:List cH)(xs:List Int):Prop:=(∀x∈xs,eI c ss x=some true)/\xs.Nodup
theorem CI {x:Int}{b:Bool}(h:eI c ss x=some b):∃k s i,nZ c ss x=some k/\ss[k]?=some s/\obj c s x=some i/\s.is i=b:=by
 unfold eI at h;split at h
 ·rename_i k hk;split at h
  ·rename_i s hs;cases ho:obj c s x with
   | none=>rw[ho]at h;cases h
   | some i=>rw[ho]at h;exact⟨k,s,i,hk,hs,ho,by simpa[cH.is]using h⟩
  ·cases h
 ·cases h
theorem Dk {x:Int}{k i:Nat}{s:cH}(hk:nZ c ss x=some k)(hs:ss[k]?=some s)(ho:obj c s x=some i):fQ c ss x=ss.set k (s.put i false):=by
 simp[fQ,hk,hs,ho]
theorem WhO {x y:Int}(hc:0<c.size)(hx:eI c ss x=some true)(hne:y≠x):eI c (fQ c ss x) y=eI c ss y:=by
 obtain⟨k,s,i,u,d,A,_⟩:=CI hx;rw[Dk u d A];have r:=(cQ.1 d).1;have a:=Wnq hc u d false (i:=i) y;have p:∀t:cH,∀j w z,obj c (t.put j w) z=obj c t z:=λt j w z=>by unfold obj idx at_ cH.put;simp only[sx]
 cases hy:nZ c ss y with
 | none=>rw[FJ (a.trans hy),FJ hy]
 | some m=>
  by_cases hmk:m=k
  ·subst hmk;rw[V6 (a.trans hy) (zO r),V6 hy d,p];cases hoy:obj c s y with
   | none=>rfl
   | some j=>
    simp only[zj,Option.some.injEq];have g:i≠j:=λe=>by
     subst e;exact hne (((UX hc).1 hoy).1.trans ((UX hc).1 A).1.symm)
    simp[cH.is,cH.put,zL,zm g]
  ·have b:m<ss.length:=(rJ.1 hy).1;rw[V6 (a.trans hy) ((zm (Ne.symm hmk)).trans (cM b)),V6 hy (cM b)]
theorem nK.next {x:Int}{xs:List Int}(hc:0<c.size)(h:nK c ss (x::xs)):nK c (fQ c ss x) xs:=by
 have b:=zr.1 h.2;refine⟨λy a=>?_,b.2⟩;rw[WhO hc (h.1 x aA) λe=>b.1 (e▸a)];exact h.1 y (by simp[a])
theorem J6 {xs:List Int}(h:jM c ss xs=0):nK c ss xs:=by
 unfold jM at h;split at h
 ·cases h
 ·rename_i h1;split at h
  ·cases h
  ·rename_i h2;simp only[rO,not_or,uR,p8,Bool.not_eq_false',zV,zY]at h1 h2;refine⟨λx d=>?_,h2.2⟩;have a:=h1 x d;have b:=h2.1 x d;cases ht:eI c ss x with
   | none=>rw[ht]at a;simp at a
   | some v=>
    cases v
    ·rw[ht]at b;exact absurd rfl b
    ·rfl
theorem Whj {sl:Sl}{xs:List Int}{X:Rg}(h:fC σ F p c ps ss)(hs:cT sl 1 (xs.map (Value.int .i64)) σ X)(hX:∀b,X b->¬F b)(hi:∀x∈xs,iX x)(hA:nK c ss xs)(hl:xs.length<=1000000){K:aP}
 (hK:∀σ',Ext F σ σ'->fC σ' F p c ps (xs.foldl (fQ c) ss)->K σ') :
 Xb [bN] (λI1=>I1 0 σ) λJ3 (t49:Int) v6=>If (decide (t49<((sl.len:Nat):Int))) (Ix sl.a sl.len t49 1 λa51=>fL .i64 a51 v6 λaddr1=>
  XU.c (aW p) addr1 v6 λvx v7=>bQ vx λa57=>fY (a57.add 2) v7 λt59=>ZK.c t59 addr1 v7 λt61 v8=>bQ vx λa63=>fL .i64 ((a63.add 0).add 0) v8 λt66=>
  Ar .i64 (t66-1) λt67=>bQ vx λa68=>cY ((a68.add 0).add 0) (.int .i64 t67) v8 λv9=>Ar .i64 (t49+1) λt71=>J3 t71 v9) (K v6):=by
 have hlen:sl.len=xs.length:=by have:=hs.1;simp at this;omega
 have D:0<c.size:=by have:=h.ok.1;omega
 refine ZV (a:=bN) (λ(t:Int) L=>∃(i:Nat) (r:List cH),t=(i:Int)/\i<=xs.length/\Ext F σ L/\fC L F p c ps r/\nK c r (xs.drop i)/\(xs.drop i).foldl (fQ c) r=xs.foldl (fQ c) ss) (λt _=>xs.length-t.toNat) ⟨0,ss,rfl,O,Ext.refl _ _,h,by simpa using hA,by simp⟩ ?_;rintro t L ⟨i,r,rfl,hil,e,N,y,G⟩;refine cI (λhlt=>?_) λhge=>?_
 ·have w:i<xs.length:=by omega
  have hx:xs[i]?=some xs[i]:=cM w;have hd:xs.drop i=xs[i]::xs.drop (i+1):=ur w;rw[hd]at y G;refine(aH.bU hs e λb _ Y hF=>hX b Y hF).tj hx ?_;obtain⟨k,s,j,M,g,J,z⟩:=CI (y.1 xs[i] nE);have B:=hi xs[i] (zf w);refine Ey N xs[i] B (λZ=>by rw[M]at Z;cases Z) λk' rh rb cs H U Y E=>aG ?_;rw[M]at H;cases H;obtain⟨Q,s',R,A,W⟩:=N.kF U;rw[g]at A;cases A;have eg:=QB R g;have hj:=((UX D).1 J).2;refine E.bV.rP (x:=some ⟨Q.1,0,none⟩) (E.get eg.2.2) ?_;refine RO W B J z λv8 e8 V=>aG ?_;have C:=QC R;have S:¬(rb=Q.1\/rb=Q.2):=λhh=>E.fr.2.2 (by rcases hh with h|h<;>rw[h];exact C.1;exact C.2)
  have hml:=HT s;have d:=Co hj false;rw[z]at d;have hsl:=W.len;have hnl:=W.ok.lI;have u:((s.put j false).many:Int)=s.many-1:=by simp at d;omega
  refine(e8.bV E.bV S).gG (E.get eg.1) (ar O O (aG ?_));simp only[add_lit,zt];rw[←u];refine N.tI (s':=s.put j false) R g rfl e8 V Y E λv9 e9 P=>?_;refine cA (m:=i+1) O O ⟨⟨i+1,_,rfl,O,e.trans e9,P,?_,?_⟩,O⟩
  ·have:=nK.next D y
   rwa [Dk M g J]at this
  ·rw[oE,Dk M g J]at G;exact G
 ·have:i=xs.length:=by omega
  subst this;rw[List.drop_length,List.foldl_nil]at G;subst G;exact hK L e N
theorem Wn8 (h:fC σ F p c ps ss){sl:Sl}{xs:List Int}{X:Rg}(hs:cT sl 1 (xs.map (Value.int .i64)) σ X)(hX:∀b,X b->¬F b)(hi:∀x∈xs,iX x)(hl:xs.length<=1000000)(hcap:sl.len<=sl.cap){R:Sl->Int->Hp->Prop}
 (h0:jM c ss xs≠0->R ⟨none,0,0⟩ (jM c ss xs) σ)
 (h1:jM c ss xs=0->∀o σ',Ext F σ σ'->bS o 2 (iP c (Z8 (xs.foldl (fQ c) ss))) σ' (λb=>σ.size<=b)->fC σ' (Cut F σ) p c (jY ps (xs.foldl (fQ c) ss)) (cK (xs.foldl (fQ c) ss))->R o 0 σ') :
 Y9.c (aW p) sl σ R:=by
 refine Y9.o ?_;have hlen:sl.len=xs.length:=by have:=hs.1;simp at this;omega
 refine Vi h (cG rfl ?_);have Q:∀i,(xs.take i).any (λx=>eI c ss x==some false)=true\/¬(xs.take i).Nodup->(∀x∈xs,(eI c ss x).isSome=true)->jM c ss xs=9:=by
  intro i d hall;unfold jM;rw[zA,zB]
  ·rcases d with d|d
   ·rw[zw]at d;obtain⟨x,u,V⟩:=d;have:xs.any (λx=>eI c ss x==some false)=true:=zw.2 ⟨x,qt u,V⟩;rw[this];rfl
   ·have:¬xs.Nodup:=λE=>d (E.sublist (El _ _));simp[this]
  ·simp only[uR,p8];intro x u;have:=hall x u;cases ht:eI c ss x
   ·rw[ht]at this;cases this
   ·simp
 refine KA (a:=.b) (bb:=bN) (λ(Q:Bool) (t:Int) B=>∃i:Nat,t=(i:Int)/\i<=xs.length/\B=σ/\(∀x∈xs.take i,(eI c ss x).isSome=true)/\(Q=true↔(xs.take i).any (λx=>eI c ss x==some false)=true\/¬(xs.take i).Nodup)) (λ_ t _=>xs.length-t.toNat)
  ⟨0,rfl,O,rfl,by simp,by simp⟩ ?_
 rintro w t B ⟨i,rfl,hil,rfl,g,D⟩;refine cI (λhlt=>?_) λhge=>?_
 ·have C:i<xs.length:=by omega
  have u:xs[i]?=some xs[i]:=cM C;have P:=hi xs[i] (zf C);have H:xs.take (i+1)=xs.take i++[xs[i]]:=by rw[zl,u];rfl
  refine hs.tj u (LY h xs[i] P (λb d=>cG rfl ?_) λE=>cJ rfl ?_)
  ·have A:∀x∈xs.take (i+1),(eI c ss x).isSome=true:=by
    rw[H];intro x u;rcases zU.1 u with h1|h1
    ·exact g x h1
    ·simp at h1;subst h1;rw[d];rfl
   have fin:∀K:Bool,(K=true↔(xs.take (i+1)).any (λx=>eI c ss x==some false)=true\/¬(xs.take (i+1)).Nodup)->Ar .i64 ((i:Int)+1) λs=>
    (∃j:Nat,s=(j:Int)/\j<=xs.length/\B=B/\(∀x∈xs.take j,(eI c ss x).isSome=true)/\(K=true↔(xs.take j).any (λx=>eI c ss x==some false)=true\/¬(xs.take j).Nodup))/\xs.length-s.toNat<xs.length-(i:Int).toNat:=
    λK W=>cA (m:=i+1) O O ⟨⟨i+1,rfl,O,rfl,A,W⟩,O⟩
   have N:∀y:Int,(xs.take i++[y]).Nodup↔(xs.take i).Nodup/\y∉xs.take i:=λy=>by
    rw[qQ];constructor
    ·exact λh=>⟨h.1,λM=>h.2.2 y M y aA rfl⟩
    ·exact λh=>⟨h.1,by simp,λa ha z hz e=>by simp at hz;subst hz;exact h.2 (e▸ha)⟩
   have ex:(xs.take (i+1)).any (λx=>eI c ss x==some false)=true\/¬(xs.take (i+1)).Nodup↔(w=true\/b=false)\/xs[i]∈xs.take i:=by
    rw[H,N,List.any_append,D];simp only[C1,List.any_nil,Bool.or_false,rO,d];have S:((some b==some false)=true)↔b=false:=by cases b<;>simp
    rw[S];constructor
    ·rintro((h|h)|h)
     ·exact .inl (.inl (.inl h))
     ·exact .inl (.inr h)
     ·by_cases E:(xs.take i).Nodup
      ·by_cases M:xs[i]∈xs.take i
       ·exact .inr M
       ·exact absurd ⟨E,M⟩ h
      ·exact .inl (.inl (.inr E))
    ·rintro(((h|h)|h)|h)
     ·exact .inl (.inl h)
     ·exact .inr λL=>h L.1
     ·exact .inl (.inr h)
     ·exact .inr λL=>L.2 h
   have J1:∀r:Bool,(r=true↔w=true\/b=false)->bZ (λK v4=>Ar .i64 ((i:Int)+1) λs=>
    (∃j:Nat,s=(j:Int)/\j<=xs.length/\v4=B/\(∀x∈xs.take j,(eI c ss x).isSome=true)/\(K=true↔(xs.take j).any (λx=>eI c ss x==some false)=true\/¬(xs.take j).Nodup))/\xs.length-s.toNat<xs.length-(i:Int).toNat) λJ2=>
    If r (J2 true B) (eX sl 1 0 (i:Int) (sl.cap:Nat) λab=>Wo.c ab xs[i] B λaa v5=>J2 aa v5):=by
    intro r hr;refine bZ.intro ?_;cases r
    ·refine cG rfl ?_;refine jV (lo:=0) O O O ?_;have G:cT ⟨if sl.cap=0 then sl.a else sl.a.map (·.add (0*1)),i-0,sl.cap-0⟩ 1 ((xs.take i).map (Value.int .i64)) B X:=by
      refine⟨by simp;omega,?_⟩;rcases hs.2 with h0|⟨b',o',cs',hf',ha',hb',hc'⟩
      ·left;have:xs=[]:=by simpa using h0
       simp[this]
      ·refine .inr ⟨b',o',cs',hf',?_,hb',λj hj=>?_⟩
       ·rw[zA O,ha'];simp[add_lit]
       ·simp only[zX,zP]at hj;rw[hc' j aE,List.map_take,zb,zB O]
     refine Web G aE _ (fin _ ?_);rw[ex,←hr];simp
    ·refine cJ rfl (fin true ?_);rw[ex,←hr];simp
   refine bZ.intro ?_;cases w
   ·refine cG rfl (J1 _ ?_);cases b<;>simp
   ·exact cJ rfl (J1 _ aA)
  ·have:jM c ss xs=8:=by
    unfold jM;rw[zB];exact zw.2 ⟨xs[i],zf C,by rw[E];rfl⟩
   have h0:=h0 (by rw[this];decide);rw[this]at h0;exact h0
 ·have:i=xs.length:=by omega
  subst this;rw[zo]at *;cases w
  ·refine cG rfl ?_;have hE:jM c ss xs=0:=by
    unfold jM;have Y:¬(xs.any (λx=>eI c ss x==some false)=true\/¬xs.Nodup):=λL=>by have:=D.2 L;cases this
    rw[zA,zA]
    ·simp only[not_or,uR,Decidable.not_not]at Y;rw[Y.1];simp[Y.2]
    ·simp only[uR,p8];intro x u;have:=g x u;cases ht:eI c ss x
     ·rw[ht]at this;cases this
     ·simp
   refine Whj (fC.loc.cut h) hs (λb d hf=>hX b d hf.1) hi (J6 hE) hl λv6 e6 Z=>?_;refine JT Z λo v10 ac U J=>?_;exact h1 hE o v10 ((e6.trans ac).sub λb d=>d.1) (aI.mono U λb _ d=>zJ e6.1 d) (fC.loc.mono J λb _ d=>d.1)
  ·refine cJ rfl ?_;have h9:=Q xs.length (by rw[zo];exact D.1 rfl) g;have h0:=h0 (by rw[h9];decide);rw[h9]at h0;exact h0
theorem WeS {x y:Sl}{a o b o':Nat}{cs ds:List Value}(hx:x.a=some ⟨a,o,none⟩)(hy:y.a=some ⟨b,o',none⟩)(ha:bX σ a cs)(hb:bX σ b ds)(hne:a≠b)(hd:ds≠[]){K:aO}(hK:K false σ) :
 xK Tryz.prog 282 [.slice x.a x.len x.cap,.slice y.a y.len y.cap] σ K:=by
 rintro w rfl;obtain⟨g,ha⟩:=ha;obtain⟨d,hb⟩:=hb;refine⟨false,w,?_,.refl _,hK⟩;rw[hx,hy,run_callFunc_extern Tryz.func282 (by kernel_rfl) (by kernel_rfl) (by kernel_rfl) (e:=Extern.SlicesOverlaps.overlaps #[203,203] #[4]) (by kernel_rfl)];have:=Lib.run_overlaps_apart (P:=Tryz.prog) w 203 4 210 Tryz.underlying203 3 Tryz.sizeOf210
  ⟨a,o,none⟩ ⟨b,o',none⟩ x.len x.cap y.len y.cap hne g d cs.length ds.length (by simp[World.shape?,ha]) (by simp[World.shape?,hb]) (by simpa using hd) (by simp[World.frozen?,ha]) (by simp[World.frozen?,ha])
 rw[this];rfl
theorem WiJ {Q:Rg}{s:Sl}{xs:List Value}{i m vb:Nat}{x y z:Value}(h:bS s 3 xs σ Q)(hlen:s.len=m)(hm:m<=2000)(hi:i<=m)(hv:bX σ vb [x,y,z])(hvb:¬Q vb)(h1:∀v∈xs,dP v=true)(h2:dP x=true/\dP y=true/\dP z=true)
 {R:Sl->Hp->Prop} (hR:∀s' σ',Ext Q σ σ'->bS s' 3 (xs.take (3*i)++[x,y,z]++xs.drop (3*i)) σ' (Grow Q σ)->R s' σ') :
 Wh.c s (i:Int) ⟨some ⟨vb,0,none⟩,1,1⟩ σ R:=by
 refine Wh.o ?_;have hxl:=h.1;have hcap:s.len<=s.cap:=by
  rcases h.2 with⟨h0,h0'⟩|⟨b,cs,_,_,_,N,_⟩
  ·omega
  ·exact N
 have ac:Rd σ (some ⟨vb,0,none⟩) [x,y,z]:=by
  intro j u hu;rw[add_lit,zI,hv.cell];exact hu
 have W:∀v∈[x,y,z],dP v=true:=by simp[h2]
 refine jV O O O (cG rfl (cU (λhe=>?_) λhe=>?_))
 ·have hie:i=m:=by
   have:(i:Int)=((s.len:Nat):Int):=by simpa using he
   omega
  refine h.app (ys:=[x,y,z]) rfl rfl ac W aD aD qW λs' h' hl' e' aa=>hR s' h' e' ?_
  rw[qx O,List.drop_of_length_le O,lZ];exact aa
 ·have hie:i<m:=by
   have:¬(i:Int)=((s.len:Nat):Int):=by simpa using he
   omega
  obtain⟨b,cs,U,ha,G,N,J,ht⟩:∃b cs,Q b/\s.a=some ⟨b,0,none⟩/\bX σ b cs/\s.len<=s.cap/\cs.length=s.cap*3/\cs.take xs.length=xs:=by
   rcases h.2 with⟨h0,_⟩|h
   ·omega
   ·exact h
  have K:vb≠b:=λe=>hvb (e▸U);have w:∀j v,xs[j]?=some v->cs[j]?=some v:=λj v p=>by
   rw[←ht,zb]at p;split at p
   ·exact p
   ·cases p
  refine cA (m:=m+1) aD O (cI (λhgt=>?_) λhle2=>?_)
  ·-- no room: a new row
   refine jV (lo:=0) O O O (cA (m:=m+1) aD O (cA (m:=m+1-i) O O ?_))
   have D:¬s.cap=0:=by omega
   rw[zA D];simp only[ha,zj,add_lit,yL,zt,Nat.sub_zero];refine⟨O,xs.take (3*i),by rw[zP];simp only;omega,?_,by simp[dP],by simp only;omega,by simp only;omega,O,λab=>by simp only at ab;omega,λ_ cc P=>?_⟩
   ·intro j v p;rw[add_lit,zI,G.cell];rw[zb]at p;split at p
    ·exact w j v p
    ·cases p
   simp only[dE]at P ⊢;have X:i+(m+1-i)=m+1:=by omega
   rw[X]at P ⊢;refine nw λv2 hz2 e2 Z=>?_;have B:∀k,(List.replicate k [Value.int .i64 0,.int .i64 0,.pointer none]).flatten.length=3*k:=λk=>by
    rw[ye,wX,yp];simp;omega
   have g:(xs.take (3*i)).length=3*i:=by rw[zP];omega
   refine jV aD aD aD ?_
   have hv2:=e2.bV hv id;have n1:(if cc=i then(some ⟨σ.size,0,none⟩:Option Addr)else(some ⟨σ.size,0,none⟩:Option Addr).map (·.add (i*3)))=some ⟨σ.size,i*3,none⟩:=by
    have:¬cc=i:=by omega
    rw[zA this];simp[add_lit]
   rw[n1];refine⟨[x,y,z],by simp only;rw[uF O];rfl,?_,W,?_⟩
   ·intro j u hu;rw[add_lit,zI,hv2.cell];exact hu
   simp only;refine Ul (o:=i*3) (i:=0) Z (by simp only[zK,g,B,zN,pz];omega) λv3 o3 S=>?_;refine cA (m:=i+1) aD O (jV aD aD aD (jV O O O ?_))
   have M:bX v3 b cs:=Ws o3 (e2.bV G id) (by have:=G.lt;omega);have d:(xs.drop (3*i)).length=3*(m-i):=by rw[zu];omega
   refine⟨xs.drop (3*i),by simp only;rw[uF O,d];omega,?_,λv hv=>h1 v (uV hv),?_⟩
   ·have r:¬s.cap=i:=by omega
    rw[zA r];simp only[ha,zj,add_lit];intro j v p;rw[add_lit,M.cell];rw[zq]at p;have:=w _ _ p;rw[show 0+i*3+j=3*i+j by omega];exact this
   have hbig:(xs.take (3*i)++(List.replicate (m+1-i) [Value.int .i64 0,.int .i64 0,.pointer none]).flatten++(List.replicate (cc-(m+1)) [Value.int .i64 0,.int .i64 0,.pointer none]).flatten).length=3*cc:=by
    simp only[zK,g,B];omega
   have tk:∀L:List Value,((xs.take (3*i)++(List.replicate (m+1-i) [Value.int .i64 0,.int .i64 0,.pointer none]).flatten++(List.replicate (cc-(m+1)) [Value.int .i64 0,.int .i64 0,.pointer none]).flatten).take (3*i))=xs.take (3*i):=λ_=>by
    rw[mE,tT O,qx O]
   have fin:∀v4,QJ v3 v4 σ.size->bX v4 σ.size ((xs.take (3*i)++[x,y,z])++xs.drop (3*i)++((xs.take (3*i)++(List.replicate (m+1-i) [Value.int .i64 0,.int .i64 0,.pointer none]).flatten++(List.replicate (cc-(m+1)) [Value.int .i64 0,.int .i64 0,.pointer none]).flatten).drop (3*i+3)).drop (3*(m-i)))->R ⟨some ⟨σ.size,0,none⟩,m+1,cc⟩ v4:=by
    intro v4 o4 A;refine hR _ v4 ?_ ⟨?_,.inr ⟨σ.size,_,.inr (zD _),rfl,A,by simp only;omega,?_,?_⟩⟩
    ·exact((e2.to.fH o3.ext λi hi=>by subst hi;exact .inr (zD _)).fH o4.ext λi hi=>by subst hi;exact .inr (zD _))
    ·simp only[zK,g,d,zN,pz];omega
    ·simp only[zK,g,d,zN,pz,zu,B];omega
    ·rw[mE (xs.take (3*i)++[x,y,z]),←mE,C7];rfl
   have e3:(xs.take (3*i)++(List.replicate (m+1-i) [Value.int .i64 0,.int .i64 0,.pointer none]).flatten++(List.replicate (cc-(m+1)) [Value.int .i64 0,.int .i64 0,.pointer none]).flatten).take (i*3+0)=xs.take (3*i):=by
    rw[show i*3+0=3*i by omega];exact tk []
   rw[e3]at S;have E:(xs.take (3*i)++[x,y,z]++(xs.take (3*i)++(List.replicate (m+1-i) [Value.int .i64 0,.int .i64 0,.pointer none]).flatten++(List.replicate (cc-(m+1)) [Value.int .i64 0,.int .i64 0,.pointer none]).flatten).drop (i*3+0 + [x,y,z].length)).length=3*cc:=by
    simp only[zK,zu,g,B,zN,pz];omega
   by_cases r:cc=i+1
   ·exfalso;omega
   ·rw[zA r];simp only[zj,add_lit,zI];refine Ul (o:=(i+1)*3) (i:=0) S (by rw[E,d];omega) λv4 o4 A=>fin v4 o4 ?_;have q1:(i+1)*3+0=(xs.take (3*i)++[x,y,z]).length:=by rw[zK,g];simp;omega
    have q2:(i+1)*3+0+(xs.drop (3*i)).length=(xs.take (3*i)++[x,y,z]).length+3*(m-i):=by rw[d,q1]
    rw[q2,q1,C7,List.drop_append]at A
    ·rw[List.drop_of_length_le (show(xs.take (3*i)++[x,y,z]).length<=(xs.take (3*i)++[x,y,z]).length+3*(m-i) by omega),sU]at A;have q3:i*3+0 + [x,y,z].length=3*i+3:=by simp;omega
     rw[q3]at A;have q4:(xs.take (3*i)++[x,y,z]).length+3*(m-i)-(xs.take (3*i)++[x,y,z]).length=3*(m-i):=by omega
     rw[q4]at A;exact A
    ·rfl
  ·-- room: the rest moves
   have hle3:m+1<=s.cap:=by omega
   have D:¬s.cap=0:=by omega
   have r:¬s.cap=i:=by omega
   refine cA (m:=m+1) aD O (jV (lo:=0) O O O ?_)
   rw[zA D];simp only[ha,zj,add_lit,yL,zt,Nat.sub_zero];refine cA (m:=i+1) aD O (jV aD aD aD ?_)
   have C:cs.take (3*m)=xs:=by rw[←hlen,show 3*s.len=xs.length by omega];exact ht
   have V:∃o',(if s.cap=i+1 then(some ⟨b,0,none⟩:Option Addr)else(some ⟨b,0,none⟩:Option Addr).map (·.add ((i+1)*3)))=some ⟨b,o',none⟩:=by
    split
    ·exact⟨0,rfl⟩
    ·exact⟨_,by simp[add_lit];rfl⟩
   obtain⟨o',V⟩:=V;refine WeS (x:=⟨some ⟨vb,0,none⟩,1,1⟩) (a:=vb) (o:=0) (b:=b) rfl V hv G K (λe=>by rw[e]at J;simp at J;omega) (cJ rfl ?_);refine cA (m:=i+1) aD O (jV aD aD aD (jV aD aD aD ?_))
   have H:¬s.cap=i+1:=by omega
   rw[zA H,zA r];simp only[zj,add_lit,zI];have d:(xs.drop (3*i)).length=3*(m-i):=by rw[zu];omega
   refine⟨xs.drop (3*i),by simp only;rw[Nat.min_eq_right O,d];omega,?_,λv hv=>h1 v (uV hv),?_⟩
   ·intro j v p;rw[add_lit,G.cell];rw[zq]at p;have:=w _ _ p;rw[show i*3+j=3*i+j by omega];exact this
   refine Ul (o:=(i+1)*3) (i:=0) G (by rw[d];omega) λv3 o3 S=>?_;refine jV aD aD aD ?_
   rw[zA r];simp only[zj,add_lit,zI];have Y:=Ws o3 hv K;refine⟨[x,y,z],by simp only;rw[uF O];rfl,?_,W,?_⟩
   ·intro j u hu;rw[add_lit,zI,Y.cell];exact hu
   have hl3:(cs.take ((i+1)*3+0)++xs.drop (3*i)++cs.drop ((i+1)*3+0+(xs.drop (3*i)).length)).length=cs.length:=by
    simp only[zK,zP,zu,d];omega
   refine Ul (o:=i*3) (i:=0) S (by rw[hl3];simp;omega) λv4 o4 A=>?_;have a1:(cs.take ((i+1)*3+0)).length=3*i+3:=by rw[zP];omega
   have g:(xs.take (3*i)).length=3*i:=by rw[zP];omega
   have p1:(cs.take ((i+1)*3+0)++xs.drop (3*i)++cs.drop ((i+1)*3+0+(xs.drop (3*i)).length)).take (i*3+0)=xs.take (3*i):=by
    rw[mE,tT O,BV,uF O,←C,BV,uF O]
    congr 1;omega
   have p2:(cs.take ((i+1)*3+0)++xs.drop (3*i)++cs.drop ((i+1)*3+0+(xs.drop (3*i)).length)).drop (i*3+0 + [x,y,z].length)=xs.drop (3*i)++cs.drop ((i+1)*3+0+(xs.drop (3*i)).length):=by
    rw[mE,List.drop_left'];rw[a1];simp;omega
   rw[p1,p2,←mE]at A;refine hR _ v4 ((Ext.eR (F:=Q) o3 U).trans (Ext.eR o4 U)) ⟨?_,.inr ⟨b,_,.inl U,rfl,A,aD,?_,?_⟩⟩
   ·simp only[zK,g,zN,pz,d];omega
   ·simp only[zK,g,zu,zN,pz,d];omega
   ·rw[C7];rfl
def Zx (ss:List cH)(st:Nat):Nat:=(ss.takeWhile (λs=>s.st<st)).length
theorem GO (l:List cH)(P:cH->Bool):l.takeWhile P=l.take (l.takeWhile P).length/\l.dropWhile P=l.drop (l.takeWhile P).length:=by
 induction l with
 | nil=>simp
 | cons x l ih=>
  simp only[Ap,FP];cases P x
  ·simp
  ·simp only[zW,zN,vK,CD];exact⟨by rw[←ih.1],ih.2⟩
theorem AY (c:bY)(ss:List cH)(st:Nat):iQ c ss st=ss.take (Zx ss st)++⟨st,List.replicate c.n false⟩::ss.drop (Zx ss st):=by
 have:=GO ss (λs=>decide (s.st<st));unfold iQ Zx;rw[this.2,←this.1]
theorem Gr (hs:ss.Pairwise (λa b=>a.st<b.st))(st:Nat):Zx ss st<=ss.length/\∀(i:Nat) s,ss[i]?=some s->(s.st<st↔i<Zx ss st):=by
 unfold Zx
 induction ss with
 | nil=>simp
 | cons x ss ih=>
  have e:=pB.1 hs;obtain⟨j,g⟩:=ih e.2;simp only[Ap];by_cases hx:x.st<st
  ·simp only[hx,decide_true,zW,zN];refine⟨O,λi s d=>?_⟩;cases i with
   | zero=>simp at d;subst d;simp[hx]
   | succ i=>have:=g i s (by simpa using d);omega
  ·simp only[hx,decide_false,zd,zz,pz,Nat.zero_le,Nat.not_lt_zero,iff_false,yb];intro i s d;cases i with
   | zero=>simp at d;subst d;exact hx
   | succ i=>
    have:=e.1 s (zE (i:=i) (by simpa using d));omega
theorem WiK (h:fC σ F p c ps ss){σ1:Hp}(e1:bO σ σ1){sl:Sl}{rb:Nat}{cs:List Value}(hl:sl.len=ss.length)(hE:ss≠[]->wC σ F p ps ss sl rb cs)(st:Nat)(hst:st<=1024){R:Int->Bool->Hp->Prop}(hR:∀σ' b,bO σ1 σ'->R (Zx ss st:Int) b σ') :
 Wb.c sl (st:Int) ⟨258,#[],#[]⟩ σ1 R:=by
 refine Wb.o ?_;have U:=h.oD;obtain⟨H,mC⟩:=Gr h.tL st;have D:∀(k:Nat) (x:Nat×Nat) s (v:Hp) (K:aN),ps[k]?=some x->ss[k]?=some s->bO σ1 v->(∀A,bO v A->K ((s.st:Int)-(st:Int)) A) →
  V2 Tryz.prog ⟨258,#[],#[]⟩ [.agg #[.int .i64 (s.many:Int),.int .i64 (s.st:Int),.pointer (some ⟨x.1,0,none⟩)],.int .i64 (st:Int)] [.one bN] v K:=by
  intro k x s v K y r ev hK;refine Gm (all := #[.agg #[.int .i64 (s.many:Int),.int .i64 (s.st:Int),.pointer (some ⟨x.1,0,none⟩)],.int .i64 (st:Int)]) (by kernel_rfl) aA ?_;refine YZ.o ?_;have hf:=(h.sp k x s y r).fit;refine nw (cs:=[.int .i64 (s.many:Int),.int .i64 (s.st:Int),.pointer (some ⟨x.1,0,none⟩)]) λW hz e M=>M.gG rfl (ar O O (hK W e))
 refine KA (a:=bN) (bb:=bN) (λ(i j:Int) v=>∃a b:Nat,i=(a:Int)/\j=(b:Int)/\a<=Zx ss st/\Zx ss st<=b/\b<=ss.length/\bO σ1 v) (λi j _=>j.toNat-i.toNat) ⟨0,ss.length,rfl,by rw[hl],O,H,O,Ext.refl _ _⟩ ?_;rintro i j v ⟨a,b,rfl,rfl,Z,M,z,ev⟩;have C:bO σ v:=e1.trans ev;refine cI (λV=>?_) λY=>?_
 ·have u:ss≠[]:=by rintro rfl;simp at z;omega
  have E:=hE u;refine cA (m:=a+b) O O ?_;have hw:IntKind.u64.wrap ((a+b:Nat):Int)=((a+b:Nat):Int):=by
   unfold IntKind.wrap;simp[IntKind.bits,IntKind.signed];omega
  refine C6 ?_;rw[hw];refine nn O ?_;have J:min (1:Int).toNat IntKind.u64.bits=1:=by decide
  rw[J,ME];have B:(((a+b:Nat):Int)/2^1)=(((a+b)/2:Nat):Int):=by omega
  refine cA (m:=(a+b)/2) B O ?_;have d:(a+b)/2<ss.length:=by omega
  obtain⟨x,s,y,r,X⟩:=h.kF d;have w:=QB y r;rw[E.a];refine ix O O ?_;rw[add_lit,show 0+(((a+b)/2:Nat):Int).toNat*3=3*((a+b)/2) by omega];refine xf (e:=0) (C.bV E.bV id) (E.get w.1) (E.get w.2.1) (E.get w.2.2) (D _ x s v _ y r ev λA G=>?_);have g:=mC _ s r;show If (decide (((s.st:Int)-(st:Int))<0)) _ _;refine cI (λP=>?_) λQ=>?_
  ·exact cA (m:=(a+b)/2+1) O O ⟨⟨_,b,rfl,rfl,by have:=g.1 O;omega,M,z,ev.trans G⟩,O⟩
  ·exact⟨⟨a,_,rfl,rfl,Z,by
    apply Classical.byContradiction;intro hc;have:=g.2 O;omega,O,ev.trans G⟩,O⟩
 ·have L:a=Zx ss st:=by omega
  subst L;refine bZ.intro (cI (λS=>?_) λN=>hR v _ ev);have d:Zx ss st<ss.length:=by omega
  have u:ss≠[]:=by rintro rfl;simp at d
  have E:=hE u;obtain⟨x,s,y,r,X⟩:=h.kF d;have w:=QB y r;rw[E.a];refine ix O O ?_;rw[add_lit,show 0+(Zx ss st:Int).toNat*3=3*Zx ss st by omega];refine xf (e:=0) (C.bV E.bV id) (E.get w.1) (E.get w.2.1) (E.get w.2.2) (D _ x s v _ y r ev λA G=>hR A _ (ev.trans G))
theorem RX (h:fC σ F p c ps ss){st:Nat}(hf:st+c.aF<=1024){R:aN}(h9:G5 c ss st=9->∀σ',bO σ σ'->R 9 σ')
 (h0:G5 c ss st=0->∀σ' ps',Ext F σ σ'->fC σ' (Grow F σ) p c ps' (iQ c ss st)->R 0 σ'):Y3.c (aW p) (st:Int) σ R:=by
 refine Y3.o ?_;have h:=fC.loc.cut h;obtain⟨sl,d,hl,ad,rb,cs,hE⟩:=h.rh;have hfew:=h.oD;have hc:=h.ok;have hck:=hc;unfold bY.ok at hck;refine Vi h (cG rfl (aG (d.gG rfl (d.gG rfl (d.gG rfl ?_)))));refine SF hc hf λv1 A M e1 hpn hqn Q=>cG rfl (aG ((e1.bV d id).rS rfl ?_));have hplt:=d.lt;refine ZV (a:=bN) (λ(t:Int) v=>∃i:Nat,t=(i:Int)/\i<=ss.length/\bO v1 v/\∀(j:Nat) s,j<i->ss[j]?=some s->¬max s.st st-min s.st st<c.aF) (λt _=>ss.length-t.toNat) ⟨0,rfl,O,Ext.refl _ _,λj s y=>O⟩ ?_;rintro t v ⟨i,rfl,X,ev,P⟩;have w:=e1.trans ev;refine cI (λae=>?_) λhge=>?_
 ·simp only at ae;have af:i<ss.length:=by omega
  obtain⟨E,hcap,hcl⟩:=hE (by rintro rfl;simp at af);obtain⟨x,s,z,g,hS⟩:=h.kF af;have eg:=QB z g;have hsf:=hS.fit;rw[E.a];refine ix O O ?_;rw[add_lit,show 0+(i:Int).toNat*3=3*i by omega];refine xf (e:=0) (w.bV E.bV id) (E.get eg.1) (E.get eg.2.1) (E.get eg.2.2) (Dg λv6 e6 b6=>b6.gG rfl (b6.gG rfl ?_));have hd:(if(st:Int)>(s.st:Int)then(st:Int)else(s.st:Int))-(if(st:Int)<(s.st:Int)then(st:Int)else(s.st:Int))=((max s.st st-min s.st st:Nat):Int):=by
   split<;>split<;>omega
  refine cA (m:=max s.st st-min s.st st) hd O (aG (((w.trans e6).bV d id).gG rfl ?_));refine cI (λhlt2=>h9 ?_ _ (w.trans e6)) λhge2=>?_
  ·unfold G5;rw[zB];exact zw.2 ⟨s,zE g,by simpa using(by omega:max s.st st-min s.st st<c.aF)⟩
  ·refine cA (m:=i+1) O O ⟨⟨i+1,rfl,O,ev.trans e6,λj s' y U=>?_⟩,O⟩;by_cases e:j=i
   ·subst e;rw[g]at U;cases U;omega
   ·exact P j s' O U
 ·have hii:i=ss.length:=by simp only at hge;omega
  subst hii;have hE0:G5 c ss st=0:=by
   unfold G5;rw[zA];simp only[uR,p8,zV];intro s g;obtain⟨j,y⟩:=zM g;exact P j s (cQ.1 y).1 y
  refine aG ((w.bV d id).rS rfl ?_);refine WiK h w hl (λV=>(hE V).1) st O λv7 bb e7=>aG (((w.trans e7).bV d id).rS rfl ?_);have Y:=w.trans e7;obtain⟨hp1,mC⟩:=Gr h.tL st;refine nw (cs:=[.int .i64 0,.int .i64 st,.pointer (some ⟨A,0,none⟩)]) λv8 hz8 e8 hb8=>?_;have J:=Y.trans e8;have N:=aI.bK ad J;have hsz7:=Y.1;refine WiJ N hl O hp1 hb8 (λr=>by have:=r.1.2;omega) N9 ⟨rfl,rfl,rfl⟩ λs' v9 e9 hr9=>aG ?_;have hb9:=e9.bV (J.bV d id) λr=>r.2.1 rfl;refine hb9.s1 aA λv10 fR ag=>?_;have H:=h.len;have B:=h.nd;simp only[zr]at B;have ae:=Q.lt;have hsz1:=(ev.trans e7).trans e8 |>.1;have D:∀b∈eJ ps,b<σ.size:=λb d=>(h.fb b d).2;have Z:∀{a b s'},iN v8 a b c s'->¬(Cut F σ a/\a≠p/\a∉eJ ps)->¬(Cut F σ b/\b≠p/\b∉eJ ps)->a≠p->b≠p->iN v10 a b c s':=λhS n1 n2 m1 m2=>(hS.bU e9 n1 n2).bU fR.ext m1 m2;have ac:=((Q.bK ev).bK e7).bK e8;have ab:dW (ps.take (Zx ss st)++(A,M)::ps.drop (Zx ss st)) (ss.take (Zx ss st)++⟨st,List.replicate c.n false⟩::ss.drop (Zx ss st)) =
   (dW ps ss).take (3*Zx ss st)++[.int .i64 0,.int .i64 st,.pointer (some ⟨A,0,none⟩)]++(dW ps ss).drop (3*Zx ss st):=by
   rw[Vy (by simp[H])];have u:dW ps ss=dW (ps.take (Zx ss st)) (ss.take (Zx ss st))++dW (ps.drop (Zx ss st)) (ss.drop (Zx ss st)):=by
    rw[←Vy (by simp[H]),qL,qL]
   have h2:(dW (ps.take (Zx ss st)) (ss.take (Zx ss st))).length=3*Zx ss st:=by rw[Kg (by simp[H]),zP];omega
   rw[u,C7 h2,List.drop_left' h2,mE];have:cH.many ⟨st,List.replicate c.n false⟩=0:=by simp[cH.many,CX]
   simp[dW,this]
  refine h0 hE0 v10 (ps.take (Zx ss st)++(A,M)::ps.drop (Zx ss st)) ?_ ?_
  ·refine(((bO.to J).trans (e9.sub λb d=>d.1.1))).trans (fR.ext.sub λb d=>d▸h.fp.1)
  ·have C:(eJ (ps.take (Zx ss st)++(A,M)::ps.drop (Zx ss st))).Perm (A::M::eJ ps):=by
    have:eJ ps=eJ (ps.take (Zx ss st))++eJ (ps.drop (Zx ss st)):=by
     conv=>lhs;rw[←qL (Zx ss st) ps]
     simp only[eJ,IB]
    rw[this];have h3:eJ (ps.take (Zx ss st)++(A,M)::ps.drop (Zx ss st))=eJ (ps.take (Zx ss st))++A::M::eJ (ps.drop (Zx ss st)):=by simp[eJ]
    rw[h3];exact List.perm_middle.trans ((List.perm_middle).cons A)
   have S:∀b,b∈eJ (ps.take (Zx ss st)++(A,M)::ps.drop (Zx ss st))↔b=A\/b=M\/b∈eJ ps:=by
    intro b;rw[C.mem_iff];simp
   refine⟨⟨s',ag,?_⟩,λi x s z g=>?_,.inl h.fp.1,λb d=>?_,?_,?_,hc,?_⟩
   ·rw[AY,ab];refine aI.bU (aI.mono hr9 λb _ d=>?_) fR.ext λb _ d he=>d.2.1 he;rw[S];rcases d with d|d
    ·exact⟨.inl d.1.1,d.2.1,λr=>by
      rcases r with h|h|h
      ·have:=d.1.2;omega
      ·have:=d.1.2;omega
      ·exact d.2.2 h⟩
    ·exact⟨.inr O,O,λr=>by
      rcases r with h|h|h
      ·omega
      ·omega
      ·have:=D b h;omega⟩
   ·rw[AY]at g;have L:(ps.take (Zx ss st)).length=Zx ss st:=by rw[zP];omega
    have K:(ss.take (Zx ss st)).length=Zx ss st:=by rw[zP];omega
    have aa:∀j:Nat,ps[j]?=some x->ss[j]?=some s->iN v10 x.1 x.2 c s:=λj u h2=>by
     have G:=QC u;exact Z ((h.sp j x s u h2).bK J) (λr=>r.2.2 G.1) (λr=>r.2.2 G.2) (λe=>B.1 (e▸G.1)) (λe=>B.1 (e▸G.2))
    rcases ui i (Zx ss st)with hlt'|heq|hgt
    ·rw[zh O,zb,zB hlt']at z g;exact aa i z g
    ·rw[zp O]at z g;rw[L,heq,tB]at z;rw[K,heq,tB]at g;simp at z g;subst z;subst g;exact Z ac (λr=>by have:=r.1.2;simp only at this;omega) (λr=>by have:=r.1.2;simp only at this;omega) aC aC
    ·rw[zp O]at z g;rw[L]at z;rw[K]at g;obtain⟨k,hk⟩:∃k,i-Zx ss st=k+1:=⟨i-Zx ss st-1,O⟩;rw[hk,Dx,zq]at z g;exact aa _ z g
   ·rcases(S b).1 d with u|u|u
    ·subst u;exact .inr hpn
    ·subst u;exact .inr hqn
    ·exact .inl (h.fb b u).1
   ·simp only[zr];refine⟨λG=>?_,?_⟩
    ·rcases(S p).1 G with u|u|u
     ·omega
     ·omega
     ·exact B.1 u
    ·rw[C.nodup_iff];simp only[zr,zR,not_or];have V:=Q.ne;exact⟨⟨V,λG=>by have:=D _ G;omega⟩,λG=>by have:=D _ G;omega,B.2⟩
   ·rw[AY];simp[H]
   ·rw[AY];rw[tZ];have W:=h.tL;refine⟨W.sublist (El _ _),pB.2 ⟨λs g=>?_,W.sublist (Ig _ _)⟩,λa ha b d=>?_⟩
    ·obtain⟨j,y⟩:=zM g;rw[zq]at y;have u:=mC _ s y;have h2:s.st≠st:=λe=>by
      have:=P (Zx ss st+j) s (cQ.1 y).1 y;rw[e]at this;simp at this;omega
     show st<s.st;omega
    ·obtain⟨i,X⟩:=zM ha;rw[zb]at X;split at X
     ·rename_i hlt';have hat:=(mC i a X).2 hlt';rcases zR.1 d with rfl|d
      ·exact hat
      ·obtain⟨j,y⟩:=zM d;rw[zq]at y;obtain⟨hi1,hi2⟩:=cQ.1 X;obtain⟨hj1,hj2⟩:=cQ.1 y;have:=nB.1 W i (Zx ss st+j) hi1 hj1 O;rw[hi2,hj2]at this;exact this
     ·cases X
end Go.Ar
namespace Go.Proofs
open Go.Vc
set_option maxRecDepth 100000
def W4.h:Hn:=.q .o1 (.q (.q .o3 .aK) (.q .o6 .l))
theorem W4.o {a:R2}{b:Hp}{c:Sl->Hp->Prop}(d:WM.c a b λd e=>If (!d) (c ⟨none,0,0⟩ e) (bE a 3 e λg=>XB.c g e λh i=>c h i)):W4.c a b c:=Wa Tryz.func108 (x:=W4.h) (R0 d)
def WM.h:Hn:=.q .o1 (.q (.cV (.seq [.op,.op,.op,.dB true 5 (RI.ops 5),.op])) .l)
theorem WM.o {a:R2}{b:Hp}{c:aO}(d:bZ (λd e=>c d e) λf=>If (!a.isNone) (bD a 0 b λh=>f (decide (h>0)) b) (f false b)):WM.c a b c:=Wa Tryz.func139 (x:=WM.h) (R0 d)
def Z1.h:Hn:=.q .o2 (.q (.q (.cV (.seq [.op,.op,.op,.dB false 2 [.op,.op],.op,.dB false 2 [.op,.op],.op,.dB false 2 [.op,.op]])) .aJ) (.q .o6 .l))
theorem Z1.o {a b:Int}{c:Hp}{d:Option Addr->Int->Hp->Prop}(e:bZ (λe f=>bZ (λg h=>bZ (λi j=>If i (d none 1 j) (aV #[.I a,.I b,.I 0,.slice none 0 0] 215 j λk l=>d (some k) 0 l)) λm=>If g (m true h) (m (decide (b>8)) h)) λn=>If e (n true f) (n (decide (b<0)) f)) λo=>If (a<1) (o true c) (o (decide (a>32)) c)):Z1.c a b c d:=Wa Tryz.func157 (x:=Z1.h) (R0 e)
def Xo.h:Hn:=.q .o1 (.q .o4 .l)
theorem Xo.o {a:R2}{b:Hp}{c:Sl->Hp->Prop}(d:XM.c a ⟨245,#[],#[]⟩ b λd e=>c d e):Xo.c a b c:=Wa Tryz.func198 (x:=Xo.h) (R0 d)
def WD.h:Hn:=.q .o2 (.q (.k (.q .o4 (.c .aL (.q .o7 .aJ)))) (.q .o7 (.q .o8 (.q .fR (.q .fR (.q .o3 .l))))))
theorem WD.o {a:R2}{b:Hp}{c:Sl->Int->Hp->Prop}(d:WM.c a b λd e=>If (!d) (c ⟨none,0,0⟩ 5 e) (bE a 3 e λg=>If (((g.len:Nat):Int)==0) (c ⟨none,0,0⟩ 4 e) (bQ a λh=>aX h 3 e λi=>bL (((i.len:Nat):Int)-1) λj=>bE a 3 e λl=>Ix l.a l.len j 1 λm=>kG m e λn=>bQ a λo=>aX o 3 e λp=>eX p 1 0 j (p.cap:Nat) λq=>bQ a λr=>aR r 3 (.slice q.a q.len q.cap) e λs=>bD a 2 s λu=>bQ a λv=>aR v 2 (.I (if j<u then j else u)) s λw=>c n 0 w))):WD.c a b c:=Wa Tryz.func213 (x:=WD.h) (R0 d)
def XM.h:Hn:=.q .o2 (.q (.q .o3 .aK) (.q .o5 (.q .o8 (.q (.o 11) (.q .o9 .aL)))))
theorem XM.o {a:R2}{b:Fv}{c:Hp}{d:Sl->Hp->Prop}(e:aV #[.func (.func b.f) b.first b.captured] 325 c λe f=>WM.c a f λg h=>If (!g) (d ⟨none,0,0⟩ h) (Ep (e.add 0) h λi=>V2 Tryz.prog i [.pointer a] [.I] h λj k=>bE a 3 k λm=>eX m 1 0 j j λn=>bQ a λo=>aX o 3 k λp=>eX p 1 j (p.len:Nat) (p.cap:Nat) λq=>WQ.c q k λr s=>bQ a λt=>aR t 3 (.slice r.a r.len r.cap) s λu=>bE a 3 u λw=>bQ a λx=>aR x 2 (.I ((w.len:Nat):Int)) u λy=>d n y)):XM.c a b c d:=Wa Tryz.func244 (x:=XM.h) (R0 e)
def XK.h:Hn:=.q .o1 (.q .o7 .l)
theorem XK.o {a:R2}{b:Hp}{c:aN}(d:bQ a λd=>aQ d 2 b λe=>bL (e+1) λf=>Nz 2<|bL (f.tdiv 2) λg=>c g b):XK.c a b c:=Wa Tryz.func245 (x:=XK.h) (R0 d)
def Xd.h:Hn:=.q .o2 (.q (.k (.q .o4 (.c .aL (.q .o8 (.c .aL (.q (.oq 11) .aJ)))))) (.q (.cV (.held true [8,11] (.tk [0,1,2,3,4,5] (.all [(6,.all [(7,.all [(8,.take 9 (.take 10 (.all [(11,.done)])))])])])))) .aL))
theorem Xd.o {a:R2}{b:Sl}{c:Hp}{d:Bool->Int->Hp->Prop}(e:WM.c a c λe f=>If (!e) (d false 5 f) (bD a 0 f λh=>If (((b.len:Nat):Int) != h) (d false 1 f) (bE a 3 f λj=>bD a 1 f λl=>If (((j.len:Nat):Int)≥l) (d false 0 f) (dT f λm=>bQ a λn=>aT m n 3 λo=>WH.c b f λp q=>And (m q) <| aV #[.slice p.a p.len p.cap] 69 q λr s=>And (m s) <| App o 1 24 69 [.slice none 0 0] ⟨some r,1,1⟩ s λt u=>bQ a λv=>aR v 3 (.slice t.a t.len t.cap) u λw=>d true 0 w)))):Xd.c a b c d:=Wa Tryz.func264 (x:=Xd.h) (R0 e)
end Go.Proofs
namespace Go.Ar
open Go Go.Vc Go.Proofs
variable {σ:Hp}{F:Rg}{p batch room:Nat}{t:fT}
def qU (s:Sl):Value:=.slice s.a s.len s.cap
def Wv (xs:List Int):List Value:=xs.map (Value.int .i64)
theorem Vm {l:List Int}:∀v∈Wv l,dP v=true:=by
 intro v hv;simp only[Wv,zC]at hv;obtain⟨x,_,rfl⟩:=hv;rfl
theorem WlI {l:List Sl}:∀v∈l.map qU,dP v=true:=by
 intro v hv;simp only[zC]at hv;obtain⟨x,_,rfl⟩:=hv;rfl
def sy (sls:List Sl)(bs:List (List Int))(σ:Hp)(D:Rg):Prop:=sls.length=bs.length/\∀(i:Nat) s xs,sls[i]?=some s->bs[i]?=some xs->cT s 1 (Wv xs) σ D/\s.len<=s.cap
theorem sy.loc (sls:List Sl)(bs:List (List Int)):dS (sy sls bs):=λσ j F G h e g=>⟨h.1,λi s a d b=>⟨cT.loc _ _ _ _ _ _ _ (h.2 i s a d b).1 e g,(h.2 i s a d b).2⟩⟩
def Dj (sls:List Sl):Prop:=sls.Pairwise λs t=>∀a a',s.a=some a->t.a=some a'->a.block≠a'.block
def oB (s:Sl)(b:Nat):Prop:=∃a,s.a=some a/\a.block=b
theorem _root_.Go.Vc.cT.C4 {s:Sl}{sz:Nat}{xs:List Value}{D:Rg}(h:cT s sz xs σ D):cT s sz xs σ λb=>D b/\oB s b:=
 ⟨h.1,h.2.imp id λ⟨b,o,d,e,a,r⟩=>⟨b,o,d,⟨e,_,a,rfl⟩,a,r⟩⟩
theorem _root_.Go.Vc.cT.bV {s:Sl}{sz:Nat}{xs:List Value}{D:Rg}(h:cT s sz xs σ D)(hx:xs≠[]){b:Nat}(hb:oB s b):D b/\b<σ.size:=by
 rcases h.2 with h0|⟨b',o,cs,hq,ha,hc,_⟩
 ·exact absurd h0 hx
 ·obtain⟨a,d,rfl⟩:=hb;rw[ha]at d;cases d;exact⟨hq,hc.lt⟩
theorem Dj.snoc {sls:List Sl}{bs:List (List Int)}{D:Rg}{z:Nat}{s':Sl}{xs:List Value}{v:Hp}(h:Dj sls)(hB:sy sls bs σ D)(hne:∀xs∈bs,xs≠[])(hz:∀b,D b->b<z)(hs:bS s' 1 xs v λb=>z<=b)(hx:xs≠[]):Dj (sls++[s']):=by
 refine tZ.2 ⟨h,List.pairwise_singleton _ _,λs e u j a x r p=>?_⟩;rw[zZ]at j;subst j;obtain⟨i,m⟩:=zM e;have g:=(cQ.1 m).1;have d:bs[i]?=some (bs[i]'(by rw[←hB.1];exact g)):=cM _;have w:=((hB.2 i s _ m d).1.bV (by simp only[Wv,ne_eq,Df];exact hne _ (zE d)) ⟨a,r,rfl⟩).1;have y:=(hs.gE.bV hx ⟨x,p,rfl⟩).1;have:=hz _ w;omega
structure iT (σ:Hp) (F:Rg) (p batch room:Nat) (t:fT):Prop where
 mem:∃(sl:Sl) (sls:List Sl) (D:Rg),bX σ p [.int .i64 (batch:Int),.int .i64 (room:Int),.int .i64 (t.low:Int),.slice sl.a sl.len sl.cap]/\bS sl 1 (sls.map qU) σ (λb=>F b/\b≠p/\¬D b)/\sy sls t.bs σ D/\(∀b,D b->F b/\b≠p)/\Dj sls
 fp:F p
 b1:1<=batch/\batch<=32
 r1:room<=8
 oD:t.bs.length<=room
 low:t.low<=t.bs.length
 all:∀xs∈t.bs,xs.length=batch
theorem iT.loc:dS λσ F=>iT σ F p batch room t:=λσ x F G h m d=>by
 obtain⟨sl,i,D,a,w,s,j,u⟩:=h.mem;refine⟨⟨sl,i,λb=>D b/\b<σ.size,?_,?_,?_,λb a=>⟨(d b a.2 (j b a.1).1).1,(j b a.1).2⟩,u⟩,(d p a.lt h.fp).1,h.b1,h.r1,h.oD,h.low,h.all⟩
 ·obtain⟨e,r⟩:=a;exact⟨e,(d p (bX.lt ⟨e,r⟩) h.fp).2.trans r⟩
 ·exact bS.loc _ _ _ _ _ _ _ w m λb a g=>⟨⟨(d b a g.1).1,g.2.1,λhd=>g.2.2 hd.1⟩,(d b a g.1).2⟩
 ·exact sy.loc _ _ _ _ _ _ s m λb a hd=>⟨⟨hd,a⟩,(d b a (j b hd).1).2⟩
theorem iT.bK {σ':Hp}(h:iT σ F p batch room t)(e:bO σ σ'):iT σ' F p batch room t:=dS.bK iT.loc h e
theorem HG (h:iT σ F p batch room t){R:aO}(hR:R true σ):WM.c (aW p) σ R:=by
 refine WM.o ?_;obtain⟨sl,b,D,a,_⟩:=h.mem;have:=h.b1;refine bZ.intro (cJ rfl (aG (a.rI rfl ?_)));rw[zT O];exact hR
theorem _root_.Go.Vc.cT.Dt {s:Sl}{F:Rg}{sls:List Sl}(h:cT s 1 (sls.map qU) σ F){i:Nat}{x:Sl}(hx:sls[i]?=some x){K:Sl->Prop}(hK:K x):Ix s.a s.len (i:Int) 1 λa=>kG a σ K:=by
 have m:=(cQ.1 hx).1;obtain⟨b,o,e,d⟩:=h.cell (j:=i) (v:=qU x) (by simp[hx]);have g:=h.1;rw[zX]at g;rw[e];refine ix O O ?_;rw[add_lit];exact rm (by simpa[qU]using d) hK
theorem R8 (h1:1<=batch)(h2:batch<=32)(h3:room<=8){R:Option Addr->Int->Hp->Prop}(hR:∀σ' p,bO σ σ'->σ.size<=p->p<σ'.size->iT σ' (· = p) p batch room ⟨0,[]⟩->R (some ⟨p,0,none⟩) 0 σ'):Z1.c batch room σ R:=by
 refine Z1.o ?_;refine bZ.intro (fJ O (bZ.intro (fJ O (bZ.intro (fJ O (fJ O ?_))))));refine nw (cs:=[.int .i64 batch,.int .i64 room,.int .i64 0,.slice none 0 0]) λv g e a=>?_;exact hR v _ e (zD _) O ⟨⟨⟨none,0,0⟩,[],λ_=>False,a,bS.nil _ _ _ _,⟨rfl,λi s d h=>by simp at h⟩,λb h=>h.elim,List.Pairwise.nil⟩,rfl,⟨h1,h2⟩,h3,by simp,by simp,by simp⟩
theorem Wjo (h:iT σ F p batch room t){sl:Sl}{xs:List Int}{X:Rg}(hs:cT sl 1 (Wv xs) σ X)(hl:xs.length<=1000000){R:Bool->Int->Hp->Prop}(h1:xs.length≠batch->R false 1 σ)(h2:xs.length=batch->room<=t.bs.length->R false 0 σ)
 (h3:xs.length=batch->t.bs.length<room->∀σ',Ext F σ σ'->iT σ' (Grow F σ) p batch room {t with bs:=t.bs++[xs]}->R true 0 σ'):Xd.c (aW p) sl σ R:=by
 refine Xd.o ?_;have h:=iT.loc.cut h;obtain⟨H,w,D,d,hr,B,M,hJ⟩:=h.mem;have r:sl.len=xs.length:=by have:=hs.1;simp[Wv]at this;omega
 have hso:H.len=t.bs.length:=by have:=hr.1;rw[zX,B.1]at this;omega
 have hr8:=h.r1;have hb1:=h.b1;refine HG h (cG rfl (aG (d.rI rfl ?_)));rw[xH];refine cU (λz=>h1 (by rw[←r];simpa using z)) λab=>?_;have g:xs.length=batch:=by rw[←r];simpa using ab
 refine aG (d.rS rfl (aG (d.rI rfl (cI (λV=>h2 g (by simp only at V;omega)) λN=>?_))));simp only at N;refine⟨λh'=>bX h' p [.int .i64 (batch:Int),.int .i64 (room:Int),.int .i64 (t.low:Int),.slice H.a H.len H.cap],d,aG ⟨H,λh' S=>by rw[add_lit,S.cell];rfl,?_⟩⟩;refine HC hs Vm O λC v1 hl1 y A=>⟨y.bV d id,?_⟩;refine nw (cs:=[.slice C.a C.len C.cap]) λv2 hz2 E aa=>⟨(y.trans E).bV d id,?_⟩;have Z:=aI.bK (aI.bK hr y) E;refine Z.app (ys:=[qU C]) rfl rfl ?_ (by simp[dP,qU]) ?_ ?_ qW λs2 v3 hl3 Q U=>aG ?_
 ·intro j u hu;rw[add_lit,zI,aa.cell];exact hu
 ·simp only;have:(H.len+1)*24<=9*24:=nC O O;omega
 ·simp only;omega
 ·have P:=Q.bV ((y.trans E).bV d id) λL=>L.2.1 rfl;have hplt:=d.lt;have hs1:=y.1;refine P.s1 aA λv4 o4 Y=>h3 g O v4 ?_ ?_
  ·exact((bO.to (y.trans E)).trans (Q.sub λb d=>d.1.1)).trans (o4.ext.sub λb d=>d▸h.fp.1)
  ·refine⟨⟨s2,w++[C],λb=>D b/\b<σ.size\/σ.size<=b/\b<v1.size,Y,?_,⟨by simp[B.1],λi s ys x m=>?_⟩,λb d=>?_,?_⟩,.inl h.fp.1,h.b1,h.r1,by simp;omega,by have:=h.low;simp;omega,λys m=>?_⟩
   ·rw[zy];refine aI.bU (aI.mono U λb _ d=>?_) o4.ext λb _ d W=>d.2.1 W;rcases d with d|d
    ·exact⟨.inl d.1.1,d.2.1,λhd=>by
      rcases hd with hd|hd
      ·exact d.2.2 hd.1
      ·have:=d.1.2;omega⟩
    ·exact⟨.inr O,O,λhd=>by rcases hd with hd|hd<;>omega⟩
   ·have mv:∀{s:Sl} {ys:List Int} {G:Rg},cT s 1 (Wv ys) v2 G->(∀b,G b->b≠p/\¬(Cut F σ b/\b≠p/\¬D b))->cT s 1 (Wv ys) v4 G:=λS hn=>
     aH.bU (aH.bU S Q λb _ d=>(hn b d).2) o4.ext λb _ d W=>(hn b d).1 W
    rcases pA i w.length with hi'|hi'
    ·rw[zh hi']at x;rw[zh (by rw[←B.1];exact hi')]at m;obtain⟨k1,k2⟩:=B.2 i s ys x m;refine⟨aH.mono (mv (aH.bK (aH.bK (aH.mono k1 (G:=λb=>D b/\b<σ.size) λb d hd=>⟨hd,d⟩) y) E) λb hd=>⟨(M b hd.1).2,λL=>L.2.2 hd.1⟩) λb _ hd=>.inl hd,k2⟩
    ·rw[zp hi']at x;rw[zp (by rw[←B.1];exact hi')]at m;have K:i-w.length=0:=by
      have:=(cQ.1 x).1;simp at this;omega
     rw[K]at x;rw[show i-t.bs.length=0 by rw[←B.1];exact K]at m;simp at x m;subst x;subst m;have J:C.len<=C.cap:=by
      rcases A.2 with⟨q1,q2⟩|⟨_,_,_,_,_,q,_⟩
      ·omega
      ·exact q
     refine⟨aH.mono (mv (aH.bK (aH.mono A.gE (G:=λb=>σ.size<=b/\b<v1.size) λb d hd=>⟨hd,d⟩) E) λb hd=>⟨O,λL=>by have:=L.1.2;omega⟩) λb _ hd=>.inr hd,J⟩
   ·rcases d with hd|hd
    ·exact⟨.inl (M b hd.1).1.1,(M b hd.1).2⟩
    ·exact⟨.inr hd.1,O⟩
   ·have z:∀ys∈t.bs,ys≠[]:=λys m e=>by have:=iT.all ‹_› ys m;rw[e]at this;simp at this;omega
    exact hJ.snoc B z (λb hd=>(M b hd).1.2) A (by simp only[Wv,ne_eq,Df];intro e;rw[e]at g;simp at g;omega)
   ·rcases zU.1 m with h|h
    ·exact iT.all ‹_› ys h
    ·simp at h;subst h;exact g
theorem Pg (h:iT σ F p batch room t)(h0:t.bs=[]){R:Sl->Int->Hp->Prop}(hR:R ⟨none,0,0⟩ 4 σ):WD.c (aW p) σ R:=by
 refine WD.o ?_;obtain⟨g,e,D,i,b,d,m,j⟩:=h.mem;have a:g.len=t.bs.length:=by have:=b.1;rw[zX,d.1]at this;omega
 refine HG h (cG rfl (aG (i.rS rfl (cJ ?_ hR))));simp[a,h0]
theorem TE (h:iT σ F p batch room t)(h0:t.bs≠[]){R:Sl->Int->Hp->Prop}(hR:∀out σ',Ext F σ σ'->(∀b,oB out b->F b)->cT out 1 (Wv (t.bs.getLast?.getD [])) σ' (oB out)->out.len<=out.cap->iT σ' (λb=>F b/\¬oB out b) p batch room t.rem->R out 0 σ'):WD.c (aW p) σ R:=by
 refine WD.o ?_;obtain⟨S,g,D,d,J,y,B,V⟩:=h.mem;have hso:S.len=t.bs.length:=by have:=J.1;rw[zX,y.1]at this;omega
 have Z:=uf.2 h0;have hr8:=h.r1;have hfw:=h.oD;have aa:=h.low;have N:t.bs.length-1<g.length:=by rw[y.1];omega
 obtain⟨o,K⟩:∃o,g[t.bs.length-1]?=some o:=⟨_,cM N⟩;have j:t.bs[t.bs.length-1]?=some (t.bs.getLast?.getD []):=by
  rw[List.getLast?_eq_getElem?,cM O];rfl
 obtain⟨W,k2⟩:=y.2 _ o _ K j;refine HG h (cG rfl (aG (d.rS rfl (cG ?_ ?_))))
 ·simp only[qA];omega
 refine aG (d.rS rfl (cA (m:=t.bs.length-1) aC O (aG (d.rS rfl ?_))));refine J.gE.Dt K (aG (d.rS rfl ?_));have X:S.len<=S.cap:=by
  rcases J.2 with⟨q1,q2⟩|⟨_,_,_,_,_,q,_⟩
  ·omega
  ·exact q
 refine jV (lo:=0) O aD aD (aG (d.s1 aA λv1 o1 C=>aG (C.rI rfl (aG ?_))))
 refine C.s1 aA λv2 o2 r=>?_;have u:Ext (· = p) σ v2:=o1.ext.trans o2.ext;have E:(if((t.bs.length-1:Nat):Int)<(t.low:Int)then((t.bs.length-1:Nat):Int)else(t.low:Int))=((min t.low (t.bs.length-1):Nat):Int):=by split<;>omega
 rw[E]at r;have P:∀z∈t.bs,z≠[]:=λz w e=>by have Y:=h.all z w;have h2:=h.b1;rw[e]at Y;simp at Y;omega
 have x:∀b,oB o b->D b:=λb d=>(W.bV (by simp only[Wv,ne_eq,Df];exact P _ (zE j)) d).1;refine hR o v2 (u.sub λb d=>d▸h.fp) (λb d=>(B b (x b d)).1) (aH.mono (aH.bU W u λb _ d G=>(B b d).2 G).C4 λb _ hd=>hd.2) k2 ⟨⟨_,g.dropLast,λb=>D b/\¬oB o b,r,?_,⟨by simp[y.1,fT.rem],λi s z H w=>?_⟩,λb hd=>⟨⟨(B b hd.1).1,hd.2⟩,(B b hd.1).2⟩,List.Pairwise.sublist (List.dropLast_sublist _) V⟩,⟨h.fp,λd=>(B p (x p d)).2 rfl⟩,h.b1,h.r1,by simp[fT.rem];omega,by simp[fT.rem];omega,λz w=>h.all z (List.dropLast_subset _ w)⟩
 ·refine aI.bU ?_ u λb _ d G=>d.2.1 G;refine⟨by simp[y.1],?_⟩;rcases J.2 with⟨q1,q2⟩|⟨b,cs,hq,U,hbb,hle,hcl,ht⟩
  ·omega
  ·refine .inr ⟨b,cs,⟨⟨hq.1,λd=>hq.2.2 (x b d)⟩,hq.2.1,λhd=>hq.2.2 hd.1⟩,?_,hbb,by simp only;omega,by simp only;omega,?_⟩
   ·simp only[U];split<;>simp[add_lit]
   ·simp only[zX]at ht ⊢;have hd:g.dropLast.map qU=(g.map qU).take (g.length-1):=by rw[BO,List.map_take]
    rw[hd,←ht,BV,En]
    congr 1;omega
 ·have A:i<t.bs.length-1:=by
   have:=(cQ.1 w).1;simpa[fT.rem]using this
  rw[BO,zb]at H;simp only[fT.rem,BO,zb]at w;rw[zB (by rw[y.1];exact A)]at H;rw[zB A]at w;obtain⟨m1,m2⟩:=y.2 i s z H w;refine⟨aH.mono (aH.bU m1 u λb _ d G=>(B b d).2 G).C4 λb _ d=>⟨d.1,λr=>?_⟩,m2⟩;obtain⟨a,U,e1⟩:=d.2;obtain⟨a',M,e2⟩:=r;obtain⟨Q,rfl⟩:=cQ.1 H;obtain⟨L,rfl⟩:=cQ.1 K;exact nB.1 V i _ Q L A a a' U M (e1.trans e2.symm)
theorem WhC {s:Sl}{vs:List Value}(h:cT s 1 vs σ F)(h1:∀v∈vs,dP v=true)(hl:s.len<=1000000){R:Sl->Hp->Prop}
 (hR:∀s' σ',s'.len=s.len->bO σ σ'->bS s' 1 vs σ' (λb=>σ.size<=b)->R s' σ'):WQ.c s σ R:=by
 refine WQ.o ?_;exact BM h aB rfl h1 aB hl hR
def wJ (out:Sl)(bs:List (List Int))(σ:Hp)(G:Rg):Prop:=∃sls:List Sl,cT out 1 (sls.map qU) σ G/\sy sls bs σ G
theorem wJ.loc (out:Sl)(bs:List (List Int)):dS (wJ out bs):=λσ i F G ⟨a,g,e⟩ b d=>⟨a,cT.loc _ _ _ _ _ _ _ g b d,sy.loc _ _ _ _ _ _ e b d⟩
theorem Wnf (h:iT σ F p batch room t){R:Sl->Hp->Prop}(hR:∀out σ',Ext F σ σ'->wJ out t.out σ' F->iT σ' (Grow F σ) p batch room t.tick->R out σ'):Xo.c (aW p) σ R:=by
 refine Xo.o ?_;refine XM.o ?_;have H:=h;have h:=iT.loc.cut h;obtain⟨w,d,D,e,U,A,M,hJ⟩:=h.mem;have aa:w.len=t.bs.length:=by have:=U.1;rw[zX,A.1]at this;omega
 have hr8:=h.r1;have hfw:=h.oD;have hlow:=h.low;obtain⟨n,E⟩:∃n,n=(t.low+1)/2:=⟨_,rfl⟩;have hnl:n<=t.bs.length:=by omega
 refine nw (cs:=[.func (.func 245) #[] #[]]) λv1 hz1 z W=>?_;have h1:=h.bK z;have u:=z.bV e id;refine HG h1 (cG rfl ?_);refine⟨⟨245,#[],#[]⟩,by rw[add_lit,W.cell];rfl,?_⟩;refine Gm (all := #[.pointer (some ⟨p,0,none⟩)]) (by kernel_rfl) aA ?_;refine XK.o ?_;refine aG (u.rI rfl (cA (m:=t.low+1) O O (nz aB (cA (m:=n) (by rw[Yb O];omega) O ?_))));refine aG (u.rS rfl ?_);have hcap:w.len<=w.cap:=by
  rcases U.2 with⟨q1,q2⟩|⟨_,_,_,_,_,q,_⟩
  ·omega
  ·exact q
 have N:=aI.bK U z;have Z:=(sy.loc _ _).bK A z;refine jV (lo:=0) O O aD (aG (u.rS rfl (jV aD aD aD ?_)))
 have x:∀(s:Sl) (a m:Nat),(s.len=m)->a+m<=d.length->(m=0\/∀b,w.a=some ⟨b,0,none⟩->s.a=some ⟨b,a,none⟩)->cT s 1 (((d.drop a).take m).map qU) v1 (λb=>Cut F σ b/\b≠p/\¬D b):=by
  intro s a m hs ham hsa;refine⟨by simp;omega,?_⟩;rcases AF m with h0|h0
  ·left;subst h0;simp
  ·rcases N.gE.2 with q|⟨b,o,cs,q1,q2,q3,q4⟩
   ·have:d=[]:=by simpa using q
    subst this;simp at ham;omega
   ·rcases N.2 with⟨z1,z2⟩|⟨b',cs',w1,w2,w3,w4,w5,w6⟩
    ·rw[A.1]at ham;omega
    ·rcases hsa with hm|hsa
     ·omega
     ·refine .inr ⟨b',a,cs',w1,hsa b' w2,w3.q,λj hj=>?_⟩;simp only[zX,zP,zu]at hj;have:cs'[a+j]?=(d.map qU)[a+j]? := by
       rw[←w6,zb,zB (by rw[zX];omega)]
      rw[this];simp only[zi,zb,zq];rw[zB O]
 have hso2:w.len=d.length:=by rw[A.1];exact aa
 refine WhC (x _ n (d.length-n) aC O ?_) WlI aC λs' v3 Y C L=>?_
 ·by_cases hz:w.cap=n
  ·left;omega
  ·right;intro b hbs;simp only[zA hz,hbs];simp[add_lit]
 have X:=C.bV u id;refine aG (X.s1 aA λv4 o4 J=>aG (J.rS rfl (aG (J.s1 aA λv5 o5 K=>?_))));have g:Ext (· = p) v3 v5:=o4.ext.trans o5.ext;have hs1:=z.1;have hs3:=C.1;have hplt:=e.lt;have S:(d.drop 0).take n=d.take n:=by simp
 refine hR _ v5 ?_ ⟨d.take n,?_,?_⟩ ⟨⟨s',d.drop n,λb=>D b/\b<σ.size,?_,?_,?_,?_,List.Pairwise.sublist (Ig _ _) hJ⟩,.inl H.fp,h.b1,h.r1,?_,?_,?_⟩
 ·exact(bO.to (z.trans C)).trans (g.sub λb e=>e▸H.fp)
 ·have:=x ⟨if n=0 then w.a else w.a.map (·.add (0*1)),n-0,n-0⟩ 0 n aA O (by
   by_cases hz:n=0
   ·exact .inl hz
   ·right;intro b hbs;simp only[zA hz,hbs];simp[add_lit])
  rw[S]at this;exact aH.mono (aH.bU (aH.bK this C) g λb _ e B=>e.2.1 B) λb _ e=>e.1.1
 ·refine⟨by simp[A.1,fT.out,E],λi s P y r=>?_⟩;simp only[fT.out,←E]at r;rw[zb]at y r;split at y
  ·rename_i hin;rw[zB hin]at r;obtain⟨V,Q⟩:=Z.2 i s P y r;exact⟨aH.mono (aH.bU (aH.bK V C) g λb _ e B=>(M b e).2 B) λb _ e=>(M b e).1.1,Q⟩
  ·cases y
 ·have:((s'.len:Nat):Int)=((t.tick.low:Nat):Int):=by
   rw[Y];simp only[fT.tick,zu,←E];omega
  rw[this]at K;exact K
 ·have hh:((d.drop n).take (d.length-n))=d.drop n:=qx aA;rw[hh]at L;refine aI.bU (aI.mono L λb _ e=>?_) g λb _ e B=>e.2.1 B;exact⟨.inr O,O,λhd=>O⟩
 ·refine⟨by simp[A.1,fT.tick,E],λi s P y r=>?_⟩;simp only[fT.tick,←E]at r;rw[zq]at y r;obtain⟨V,Q⟩:=A.2 _ s P y r;exact⟨aH.bU (aH.bK (aH.bK (aH.mono V (G:=λb=>D b/\b<σ.size) λb e hd=>⟨hd,e⟩) z) C) g λb _ e B=>(M b e.1).2 B,Q⟩
 ·exact λb hd=>⟨.inl (M b hd.1).1.1,(M b hd.1).2⟩
 ·simp only[fT.tick,zu];omega
 ·simp[fT.tick]
 ·exact λP r=>h.all P (uV r)
theorem TU {n:Nat}(hn:n<=1000000){R:Sl->Hp->Prop}(hR:∀s' σ',bO σ σ'->bS s' 1 [] σ' (λb=>σ.size<=b)->R s' σ'):XI.c ⟨none,0,0⟩ (n:Int) σ R:=by
 refine XI.o ?_;refine Jn.intro (fJ O (cA (m:=0) aA O (cA (m:=n) aA O (cI (λe=>?_) λu=>hR _ _ (Ext.refl _ _) (bS.nil _ _ _ _)))));refine jV (lo:=0) (hi:=0) (mx:=0) O O aA ?_;refine⟨O,[],by simp,by simp[Rd],by simp[dP],by simp only[dE];omega,by simp only[dE];omega,O,λa=>by simp only[dE]at a;omega,λg cc p=>?_⟩;refine nw λr j s d=>?_;simp only[dE]at *;have i:n<=cc:=by omega
 refine jV (lo:=0) (hi:=0) (mx:=cc) O O aC (hR _ r s ⟨by simp,.inr ⟨σ.size,_,zD _,?_,d,by simp,?_,by simp⟩⟩)
 ·simp only;split<;>simp[add_lit]
 ·simp only[sU,zK,ye,wX,yp,zN,pz,Nat.sub_zero];omega
theorem JG (bs:List (List Int)){i:Nat}{xs:List Int}(h:bs[i]?=some xs):(bs.take (i+1)).flatten=(bs.take i).flatten++xs:=by
 rw[zl,h];simp
theorem iT.flat (h:iT σ F p batch room t):t.bs.flatten.length<=256:=by
 have key:∀l:List (List Int),(∀a∈l,a.length=batch)->l.flatten.length=batch*l.length:=by
  intro l
  induction l with
  | nil=>intro _;simp
  | cons x l ih=>
   intro hl;rw[yW,zK,hl x aA,ih λa d=>hl a (by simp[d]),zN,Nat.mul_add];omega
 rw[key t.bs h.all];have b:=h.b1;have e:=h.oD;have g:=h.r1;have:batch*t.bs.length<=32*8:=nC b.2 O;omega
theorem Oj (bs:List (List Int))(i:Nat):(bs.take i).flatten.length<=bs.flatten.length:=by
 conv=>rhs;rw[←qL i bs,D7,zK]
 omega
theorem P3 (h:iT σ F p batch room t){R:Sl->Hp->Prop}(hR:∀s' σ',bO σ σ'->s'.len=t.bs.flatten.length->bS s' 1 (Wv t.bs.flatten) σ' (λb=>σ.size<=b)->R s' σ'):W4.c (aW p) σ R:=by
 refine W4.o ?_;have Q:=h.flat;obtain⟨so,j,D,K,G,B,hD,hJ⟩:=h.mem;have W:so.len=t.bs.length:=by have:=G.1;rw[zX,B.1]at this;omega
 have Y:=h.oD;have Z:=h.r1;refine HG h (cG rfl (aG (K.rS rfl ?_)));refine XB.o ?_;refine KA (a:=bN) (bb:=bN) (λ(n u:Int) v=>∃i:Nat,u=(i:Int)/\i<=t.bs.length/\v=σ/\n=(((t.bs.take i).flatten.length:Nat):Int)) (λ_ u _=>t.bs.length-u.toNat) ⟨0,rfl,O,rfl,by simp⟩ ?_;rintro n u v ⟨i,rfl,P,rfl,rfl⟩;refine cI (λx=>?_) λz=>?_
 ·simp only at x;have d:i<t.bs.length:=by omega
  have r:i<j.length:=by rw[B.1];exact d
  refine G.gE.Dt (cM r) ?_;obtain⟨E,N⟩:=B.2 i _ _ (cM r) (cM d);have A:j[i].len=t.bs[i].length:=by have:=E.1;simp[Wv]at this;omega
  have C:=JG t.bs (cM d);have L:=Oj t.bs (i+1);refine cA (m:=(t.bs.take (i+1)).flatten.length) (by rw[C,zK,A];omega) O (fJ O (cA (m:=i+1) O O ⟨⟨i+1,rfl,O,rfl,rfl⟩,O⟩))
 ·have y:i=t.bs.length:=by simp only at z;omega
  subst y;rw[zo];refine TU O λs1 v1 U H=>?_;refine KA (a:=.s) (bb:=bN) (λ(s:Sl) (u:Int) w=>∃i:Nat,u=(i:Int)/\i<=t.bs.length/\bO v w/\bS s 1 (Wv (t.bs.take i).flatten) w (λb=>v.size<=b)) (λ_ u _=>t.bs.length-u.toNat) ⟨0,rfl,O,U,by simpa[Wv]using H⟩ ?_;rintro s u w ⟨i,rfl,P,e,g⟩;refine cI (λx=>?_) λz=>?_
  ·simp only at x;have d:i<t.bs.length:=by omega
   have r:i<j.length:=by rw[B.1];exact d
   refine(aI.bK G e).gE.Dt (cM r) ?_;obtain⟨E,N⟩:=B.2 i _ _ (cM r) (cM d);have A:j[i].len=t.bs[i].length:=by have:=E.1;simp[Wv]at this;omega
   have S:=h.all _ (zf d);have hb1:=h.b1;have C:=JG t.bs (cM d);have L:=Oj t.bs (i+1);have X:s.len=(t.bs.take i).flatten.length:=by have:=g.1;simp only[Wv,zX]at this;omega
   rw[C,zK]at L;refine g.app (ys:=Wv t.bs[i]) rfl (by simp[Wv];omega) (aH.bK E e).rd Vm ?_ O O λs' w' V M J=>?_
   ·have:(s.len+j[i].len)*8<=512*8:=nC O O;omega
   ·refine cA (m:=i+1) O O ⟨⟨i+1,rfl,O,Ext.fresh e M λ_ h=>h,?_⟩,O⟩;rw[C];have:Wv ((t.bs.take i).flatten++t.bs[i])=Wv (t.bs.take i).flatten++Wv t.bs[i]:=by simp[Wv]
    rw[this];exact aI.mono J λb _ K=>by
     rcases K with h|h
     ·exact h
     ·exact zJ e.1 h
  ·have y:i=t.bs.length:=by simp only at z;omega
   subst y;rw[zo]at g;exact hR s w e (by have:=g.1;simp only[Wv,zX]at this;omega) g
end Go.Ar
namespace Go.Ar
open Go Go.Vc Go.Proofs
open Go.Bu (Zg)
variable {σ:Hp}{F:Rg}{p:Nat}{ow:Nat->Nat}
end Go.Ar
namespace Go.Proofs
open Go.Vc
set_option maxRecDepth 100000
def XF.h:Hn:=.q .o1 (.q .o1 (.q (.q .o3 (.k (.loop [(3,.I),(7,.I)] (.q .o1 (.q (.c .l .l) (.q (.k (.q .o2 (.q .o8 (.c .o3 .l)))) .o2)))))) .aL))
theorem XF.o {a:R2}{b:Hp}{c:aN}(d:Xt.c a b λd e=>Xb [bN,bN] (λf=>f 0 0 e) λg (h:Int) (i:Int) j=>If (i<d) (bE a 0 j λl=>Ix l.a l.len i 2 λm=>aZ m 0 j λn=>If n (bL (h+1) λo=>bL (i+1) λp=>g o p j) (bL (i+1) λq=>g h q j)) (c h j)):XF.c a b c:=Wa Tryz.func71 (x:=XF.h) (R0 d)
def Xv.h:Hn:=.q .o1 (.q (.q .o3 .aK) (.q .o6 .l))
theorem Xv.o {a:R2}{b:Hp}{c:aN}(d:Xx.c a b λd e=>If (!d) (c 0 e) (bI a 1 e λg=>rF .i64 .s g e λh=>c h e)):Xv.c a b c:=Wa Tryz.func72 (x:=Xv.h) (R0 d)
def Xt.h:Hn:=.q .o1 (.q (.q .o3 .aK) (.q .o6 .l))
theorem Xt.o {a:R2}{b:Hp}{c:aN}(d:Xx.c a b λd e=>If (!d) (c 0 e) (bE a 0 e λg=>c ((g.len:Nat):Int) e)):Xt.c a b c:=Wa Tryz.func103 (x:=Xt.h) (R0 d)
def Xx.h:Hn:=.q .o1 (.q (.cV (.seq [.op,.op,.op,.dB true 6 (RI.ops 6),.op])) .l)
theorem Xx.o {a:R2}{b:Hp}{c:aO}(d:bZ (λd e=>c d e) λf=>If (!a.isNone) (bE a 0 b λh=>f (decide (((h.len:Nat):Int)>0)) b) (f false b)):Xx.c a b c:=Wa Tryz.func104 (x:=Xx.h) (R0 d)
def X3.h:Hn:=.q .o1 (.q (.k (.q .o4 (.c .aM (.q .o3 (.c .aM (.q (.cV (.seq [.op,.op,.op,.dB false 3 (RI.ops 3),.op])) .aK)))))) (.q .fR (.q (.q (.cV (.iH true [] [(50,.one .b)] (.tk [0,1,2,3,4,5,6,7] (.split 39 (.tk [8,9,10,11,12,13,14,15,16,17,18] (.done)) (.tk [8,9,10,11,12,13,14,15,16] (.all [(17,.take 18 (.done))])))))) .aK) .aM)))
theorem X3.o {a:R2}{b c:Int}{d:Hp}{e:aN}(f:Xx.c a d λf g=>If (!f) (e 5 g) (If (c==0) (e 0 g) (bZ (λh i=>If h (e 7 i) (Nz 256<|bL (b.tdiv 256) λj=>Nz 8<|bL (b.tdiv 8) λk=>bL (k+c) λl=>bL (l-1) λm=>Nz 32<|bL (m.tdiv 32) λn=>Jn [.b] (λ(o:Bool) p=>If o (e 7 p) (e 0 p)) λq=>dT i λr=>bQ a λs=>aT r s 0 λt=>If (n≥((t.len:Nat):Int)) (q true i) (bQ a λu=>aT r u 0 λv=>bL (n+1) λw=>eX v 2 j w (v.cap:Nat) λx=>gW r .b ((Addr.mk 0 0 none).add 0) λ(y:Bool)=>gW r .b ((Addr.mk 0 0 none).add 1) λ(z:Bool)=>Wj.c x y z i λaa ab=>And (r ab) <| q aa ab))) λac=>If (b<0) (ac true g) (Nz 8 <| ac ((b.tmod 8) != 0) g)))):X3.c a b c d e:=Wa Tryz.func116 (x:=X3.h) (R0 f)
def Q8.h:Hn:=.q .o2 (.q (.q (.cV (.seq [.op,.op,.op,.dB false 2 [.op,.op]])) .aJ) (.q .o7 .l))
theorem Q8.o {a:Int}{b:Hp}{c:Option Addr->Int->Hp->Prop}(d:bZ (λd e=>If d (c none 1 e) (Mk a a 2 160 [.bool false,.bool false] e λf g=>Nw (.map #[] 0) g λh i=>aV #[.slice f.a f.len f.cap,.map (some h.block),.I 0] 164 i λj k=>c (some j) 0 k)) λl=>If (a<1) (l true b) (l (decide (a>1024)) b)):Q8.c a b c:=Wa Tryz.func124 (x:=Q8.h) (R0 d)
def Yx.h:Hn:=.q .o1 (.q (.q .o4 (.q .o2 .aJ)) (.q .o5 .aM))
theorem Yx.o {a:R2}{b c:Int}{d:Hp}{e:aN}(f:X3.c a b 1 d λf g=>If (f != 0) (e f g) (Nz 8<|bL (b.tdiv 8) λh=>Zn.c a h c g λi=>e 0 i)):Yx.c a b c d e:=Wa Tryz.func130 (x:=Yx.h) (R0 f)
def Zn.h:Hn:=.q .o3 (.kX [] (.q (.oq 9) (.c (.q (.cV (.tail 7 (RI.ops 7) [.op])) (.q (.cV (.held true [6] (.tk [0,1,2,3,4] (.all [(5,.all [(6,.done)])])))) (.cV (.tail 13 (RI.ops 13) [.op])))) .l)) (.o 11))
theorem Zn.o {a:R2}{b c:Int}{d:Hp}{e:aP}(f:Nz 32<|bL (b.tdiv 32) λf=>Jn [] (λg=>bQ a λh=>bB h 1 g λi=>Lk .i64 .s i f g λj=>Nz 32 <| Ix (j.getD ⟨none,0,0⟩).a (j.getD ⟨none,0,0⟩).len (b.tmod 32) 1 λk=>cY k (.I c) g λl=>e l) λm=>bE a 0 d λo=>Ix o.a o.len f 2 λp=>aZ p 0 d λq=>aZ p 1 d λr=>mM ((Addr.mk 1 0 none).add 0) d λs=>mM ((Addr.mk 1 0 none).add 1) d λt=>If (!((q==s)&&((r==t)&&true))) (bE a 0 d λv=>mM ((Addr.mk 1 0 none).add 0) d λw=>mM ((Addr.mk 1 0 none).add 1) d λx=>Ix v.a v.len f 2 λy=>aR y 0 (.bool w) d λz=>aR y 1 (.bool x) z λaa=>dT aa λab=>bQ a λac=>gW ab .m (ac.add 1) λ(ad:Option Nat)=>Mk 32 32 8 3 [.I 0] aa λae af=>And (ab af) <| nO .i64 .s ad f ae af λag=>bD a 2 ag λai=>bI a 1 ag λak=>rF .i64 .s ak ag λal=>bQ a λam=>aR am 2 (.I (if al>ai then al else ai)) ag λan=>m an) (m d)):Zn.c a b c d e:=Wa Tryz.func169 (x:=Zn.h) (R0 f)
def XG.h:Hn:=.q .o1 (.q .o6 .l)
theorem XG.o {a:R2}{b c:Int}{d:Hp}{e:aN}(f:mM ((Addr.mk 2 0 none).add 0) d λf=>mM ((Addr.mk 2 0 none).add 1) d λg=>XV.c a b c f g d λh i=>e h i):XG.c a b c d e:=Wa Tryz.func193 (x:=XG.h) (R0 f)
def YF.h:Hn:=.q .o1 (.q .o6 .l)
theorem YF.o {a:R2}{b c:Int}{d:Hp}{e:aN}(f:mM ((Addr.mk 0 0 none).add 0) d λf=>mM ((Addr.mk 0 0 none).add 1) d λg=>XV.c a b c f g d λh i=>e h i):YF.c a b c d e:=Wa Tryz.func197 (x:=YF.h) (R0 f)
def XV.h:Hn:=.q .o2 (.q .o9 (.q (.k (.q .o3 (.c .aL (.q .o4 .aK)))) (.q .o5 .aM)))
theorem XV.o {a:R2}{b c:Int}{d e:Bool}{f:Hp}{g:aN}(h:aV #[.bool d,.bool e] 160 f λh i=>YV.c a b c i λj k l=>If (k != 0) (g k l) (mM ((Addr.mk 0 0 none).add 0) l λm=>mM ((Addr.mk 0 0 none).add 1) l λn=>Wj.c j m n l λo p=>If o (g 7 p) (aZ h 0 p λq=>aZ h 1 p λr=>YT.c a b c q r p λs=>g 0 s))):XV.c a b c d e f g:=Wa Tryz.func236 (x:=XV.h) (R0 h)
def YV.h:Hn:=.q .o2 (.q (.k (.q .o4 (.c .aL (.q (.cV (.seq [.op,.op,.op,.dB false 2 [.op,.op],.op,.dB false 7 (RI.ops 7),.op,.dB false 9 (RI.ops 9),.op])) .aJ)))) (.q (.o 11) .l))
theorem YV.o {a:R2}{b c:Int}{d:Hp}{e:Sl->Int->Hp->Prop}(f:Xx.c a d λf g=>If (!f) (e ⟨none,0,0⟩ 5 g) (bZ (λh i=>bZ (λj k=>bZ (λl m=>If l (e ⟨none,0,0⟩ 1 m) (bE a 0 m λo=>bL (b+c) λp=>eX o 2 b p (o.cap:Nat) λq=>e q 0 m)) λr=>If j (r true k) (bE a 0 k λt=>bL (((t.len:Nat):Int)-b) λu=>r (decide (c>u)) k)) λv=>If h (v true i) (bE a 0 i λx=>v (decide (b>((x.len:Nat):Int))) i)) λy=>If (b<0) (y true g) (y (decide (c<1)) g))):YV.c a b c d e:=Wa Tryz.func271 (x:=YV.h) (R0 f)
def YT.h:Hn:=.q .o1 (.q .o2 (.k (.loop [(8,.I)] (.q (.q .o5 (.c .l .l)) (.q (.k (.q (.cV (.tail 7 (RI.ops 7) [.op])) .o6)) .o3)))))
theorem YT.o {a:R2}{b c:Int}{d e:Bool}{f:Hp}{g:aP}(h:aV #[.bool d,.bool e] 160 f λh i=>Xb [bN] (λj=>j b i) λk (l:Int) m=>bL (b+c) λn=>If (l<n) (bQ a λo=>aX o 0 m λp=>aZ h 0 m λq=>aZ h 1 m λr=>Ix p.a p.len l 2 λs=>aR s 0 (.bool q) m λt=>aR s 1 (.bool r) t λu=>bI a 1 u λw=>pD .i64 .s w l u λx=>bL (l+1) λy=>k y x) (g m)):YT.c a b c d e f g:=Wa Tryz.func272 (x:=YT.h) (R0 h)
def Zp.h:Hn:=.q .o1 (.q .o9 (.q (.k (.q .o3 (.c .aL (.q .o3 .aK)))) (.q .o5 .aM)))
theorem Zp.o {a:R2}{b c:Int}{d:Hp}{e:aN}(f:YV.c a b c d λf g h=>If (g != 0) (e g h) (Wg.c f ⟨301,#[],#[]⟩ h λi j=>If i (e 5 j) (mM ((Addr.mk 2 0 none).add 0) j λk=>mM ((Addr.mk 2 0 none).add 1) j λl=>YT.c a b c k l j λm=>e 0 m))):Zp.c a b c d e:=Wa Tryz.func280 (x:=Zp.h) (R0 f)
def YO.h:Hn:=.q .o2 (.q .o4 .l)
theorem YO.o {a b:Bool}{c:Hp}{d:aO}(e:aV #[.bool a,.bool b] 160 c λe f=>aZ e 0 f λg=>aZ e 1 f λh=>mM ((Addr.mk 0 0 none).add 0) f λi=>mM ((Addr.mk 0 0 none).add 1) f λj=>d (!((g==i)&&((h==j)&&true))) f):YO.c a b c d:=Wa Tryz.func301 (x:=YO.h) (R0 e)
end Go.Proofs
namespace Go.Ar
open Go Go.Vc Go.Proofs
open Go.Bu (Zg)
variable {σ:Hp}{F:Rg}{p q r:Nat}{sp:Sp}
structure Gl (σ:Hp):Prop where
 c0:cell σ ⟨2,0,none⟩=some (.bool true)
 c1:cell σ ⟨2,1,none⟩=some (.bool false)
 u0:cell σ ⟨0,0,none⟩=some (.bool false)
 u1:cell σ ⟨0,1,none⟩=some (.bool false)
structure Gc (σ:Hp):Prop where
 d0:cell σ ⟨1,0,none⟩=some (.bool true)
 d1:cell σ ⟨1,1,none⟩=some (.bool true)
structure Gd (σ:Hp):Prop where
 lt:1<σ.size
def jS (F:Rg):Prop:=∀b,F b->b≠2/\b≠0
theorem Q4 {h:Hp}{b o:Nat}{v:Value}(hc:cell h ⟨b,o,none⟩=some v):b<h.size:=(NJ hc).1
theorem Gl.bU {σ':Hp}(g:Gl σ)(e:Ext F σ σ')(hF:jS F):Gl σ':=by
 have b:¬F 2:=λh=>(hF _ h).1 rfl;have a:¬F 0:=λh=>(hF _ h).2 rfl;exact⟨(Q0 e (Q4 g.c0) b).trans g.c0,(Q0 e (Q4 g.c1) b).trans g.c1,(Q0 e (Q4 g.u0) a).trans g.u0,(Q0 e (Q4 g.u1) a).trans g.u1⟩
theorem Gc.bU {σ':Hp}(g:Gc σ)(e:Ext F σ σ')(hF:¬F 1):Gc σ':=⟨(Q0 e (Q4 g.d0) hF).trans g.d0,(Q0 e (Q4 g.d1) hF).trans g.d1⟩
theorem Gc.bK {σ':Hp}(g:Gc σ)(e:bO σ σ'):Gc σ':=g.bU e id
theorem Gd.bU {σ':Hp}(g:Gd σ)(e:Ext F σ σ')(hF:¬F 1):Gd σ':=⟨yR g.lt e.1⟩
theorem Gd.bK {σ':Hp}(g:Gd σ)(e:bO σ σ'):Gd σ':=g.bU e id
theorem Gc.gd (g:Gc σ):Gd σ:=⟨Q4 g.d0⟩
theorem Gl.bK {σ':Hp}(g:Gl σ)(e:bO σ σ'):Gl σ':=g.bU e λ_ h=>h.elim
theorem jS.grow (hF:jS F)(g:Gl σ):jS (Grow F σ):=λb a=>by
 rcases a with h|h
 ·exact hF b h
 ·have e:=Q4 g.c0;have d:=Q4 g.u0;exact⟨O,O⟩
theorem jS.sub {G:Rg}(hF:jS F)(h:∀b,G b->F b):jS G:=λb a=>hF b (h b a)
def fP:Nat->Bool×Bool
 | 0=>(false,false)
 | 1=>(true,false)
 | _=>(true,true)
def iD (st:List Nat):List Value:=st.flatMap λx=>[.bool (fP x).1,.bool (fP x).2]
theorem Vw (l:List Nat):(iD l).length=2*l.length:=by
 induction l with
 | nil=>rfl
 | cons x l ih=>simp only[iD,qb,zK,zN,pz]at *;omega
theorem D3 {l:List Nat}{i x:Nat}(h:l[i]?=some x):(iD l)[2*i]?=some (.bool (fP x).1)/\(iD l)[2*i+1]?=some (.bool (fP x).2):=by
 induction l generalizing i with
 | nil=>simp at h
 | cons y l ih=>
  have e:iD (y::l)=[.bool (fP y).1,.bool (fP y).2]++iD l:=by simp[iD]
  rw[e];cases i with
  | zero=>simp at h;subst h;simp
  | succ i=>
   have:=ih (i:=i) (by simpa using h);rw[show 2*(i+1)=2*i+2 by omega];simpa using this
theorem LX {l:List Nat}{i v:Nat}(h:i<l.length)(rest:List Value):((iD l++rest).set (2*i) (.bool (fP v).1)).set (2*i+1) (.bool (fP v).2)=iD (l.set i v)++rest:=by
 induction l generalizing i with
 | nil=>simp at h
 | cons y l ih=>
  have e:∀z m,iD (z::m)=.bool (fP z).1 :: .bool (fP z).2::iD m:=λz m=>by simp[iD]
  cases i with
  | zero=>simp[e]
  | succ i=>
   have:=ih (i:=i) (by simpa using h);rw[vZ,e,e,show 2*(i+1)=2*i+1+1 by omega];simp only[oR,vZ];rw[this]
theorem Fm {x y:Nat}(hx:x<=2)(hy:y<=2):(((fP x).1==(fP y).1)&&(((fP x).2==(fP y).2)&&true))=(x==y):=by
 match x,y,hx,hy with
 | 0,0,_,_=>rfl
 | 1,1,_,_=>rfl
 | 2,2,_,_=>rfl
 | 0,1,_,_=>rfl
 | 0,2,_,_=>rfl
 | 1,0,_,_=>rfl
 | 1,2,_,_=>rfl
 | 2,0,_,_=>rfl
 | 2,1,_,_=>rfl
theorem Ks {α:Type}(x:Int×α)(l:List (Int×α))(k:Int):bW (x::l) k=if x.1=k then some x.2 else bW l k:=by
 unfold bW;rw[yK];by_cases h:x.1=k
 ·simp[h]
 ·have:(x.1==k)=false:=by simpa using h
  rw[this,zA h]
theorem WkH {α:Type}(l:List (Int×α))(n k:Int)(v:α):bW (l.map λx=>if x.1==n then(n,v)else x) k=if k=n then(if l.any (λx=>x.1==n)then some v else none)else bW l k:=by
 induction l with
 | nil=>simp[bW]
 | cons x l ih=>
  rw[zH,Ks,ih,Ks,C1];by_cases hx:x.1=n
  ·by_cases hk:k=n
   ·subst hk;simp[hx]
   ·have:¬n=k:=λe=>hk e.symm;simp[hx,hk,this]
  ·have a:(x.1==n)=false:=by simpa using hx
   simp only[a,zd,zz,CP];by_cases hk:k=n
   ·subst hk;simp[hx]
   ·simp[hk]
theorem P2 {α:Type}(l:List (Int×α))(n k:Int)(v:α)(h:l.any (λx=>x.1==n)=false):bW (l++[(n,v)]) k=if k=n then some v else bW l k:=by
 induction l with
 | nil=>
  rw[sU,Ks];by_cases hk:k=n
  ·simp[hk]
  ·have:¬n=k:=λe=>hk e.symm;simp[hk,this,bW]
 | cons x l ih=>
  rw[C1,Bool.or_eq_false_iff]at h;rw[oR,Ks,ih h.2,Ks];have a:¬x.1=n:=by simpa using h.1
  by_cases hk:k=n
  ·subst hk;simp[a]
  ·simp[hk]
theorem Eg {α:Type}(l:List (Int×α))(n k:Int)(v:α):bW (dG l n v) k=if k=n then some v else bW l k:=by
 unfold dG;cases h:l.any (λx=>x.1==n)
 ·rw[zA aA,P2 l n k v h]
 ·rw[zB rfl,WkH,h];simp
theorem JN {α:Type}(l:List (Int×α))(n k:Int):bW (cR l n) k=if k=n then none else bW l k:=by
 unfold cR
 induction l with
 | nil=>simp[bW]
 | cons x l ih=>
  rw[sA,Ks];by_cases hx:x.1=n
  ·have:(!(x.1==n))=false:=by simp[hx]
   rw[this];simp only[zd,zz,ih];by_cases hk:k=n
   ·simp[hk]
   ·have:¬x.1=k:=λe=>hk (e.symm.trans hx);simp[hk,this]
  ·have:(!(x.1==n))=true:=by simpa using hx
   rw[this,zB rfl,Ks,ih];by_cases hk:k=n
   ·subst hk;simp[hx]
   ·simp[hk]
theorem Vk {α:Type}{l:List (Int×α)}{k:Int}{v:α}(h:bW l k=some v):(k,v)∈l:=by
 unfold bW at h;cases hf:l.find? (λx=>x.1==k)with
 | none=>rw[hf]at h;cases h
 | some x=>
  rw[hf]at h;have b:=wk hf;have a:=wq hf;have d:x.1=k:=by simpa using b
  have e:x.2=v:=by simpa using h
  rw[←d,←e];exact a
theorem Wfb {α:Type}{l:List (Int×α)}{k:Int}:(bW l k).isSome=true↔k∈l.map (·.1):=by
 unfold bW;rw[Option.isSome_map,Dq];simp
def Oe (σ:Hp)(s:Sl)(b:Nat)(f:Nat->Int):Prop:=s.a=some ⟨b,0,none⟩/\s.len=32/\32<=s.cap/\∃cs,bX σ b cs/\32<=cs.length/\∀j,j<32->cs[j]?=some (.int .i64 (f j))
structure fO (σ:Hp) (F:Rg) (p q r:Nat) (l:List (Int×Sl)) (B:Nat->Nat) (sp:Sp):Prop where
 hd:∃cap,sp.st.length<=cap/\bX σ p [.slice (some ⟨q,0,none⟩) sp.st.length cap,.map (some r),.int .i64 (sp.pk:Int)]
 row:∃rest,bX σ q (iD sp.st++rest)
 map:dN σ r .i64 .s l
 keys:∀x:Int,(bW l x).isSome=true↔∃k:Nat,x=k/\sp.st[k]?=some 2
 wd:∀(k:Nat) s,bW l (k:Int)=some s->Oe σ s (B k) λj=>sp.wd (32*k+j)
 inj:∀k k':Nat,sp.st[k]?=some 2->sp.st[k']?=some 2->B k=B k'->k=k'
 out:∀k:Nat,sp.st[k]?=some 2->F (B k)/\B k≠p/\B k≠q/\B k≠r
 fs:F p/\F q/\F r/\p≠q/\p≠r/\q≠r
 zero:∀w:Nat,sp.st[w/32]?≠some 2->sp.wd w=0
 n1:1<=sp.st.length
 n2:sp.st.length<=1024
 ux:∀x∈sp.st,x<=2
 pk:sp.pk<=1024
def dI (σ:Hp)(F:Rg)(p:Nat)(sp:Sp):Prop:=∃q r l B,fO σ F p q r l B sp
theorem fO.entry {l:List (Int×Sl)}{B:Nat->Nat}(h:fO σ F p q r l B sp){k:Nat}(hk:sp.st[k]?=some 2):∃s,bW l (k:Int)=some s/\Oe σ s (B k) λj=>sp.wd (32*k+j):=by
 have:=(h.keys (k:Int)).2 ⟨k,rfl,hk⟩;obtain⟨s,a⟩:=tf.1 this;exact⟨s,a,h.wd k s a⟩
theorem fO.dL {l:List (Int×Sl)}{B:Nat->Nat}(h:fO σ F p q r l B sp){k:Nat}{s:Sl}(hs:bW l (k:Int)=some s):sp.st[k]?=some 2:=by
 obtain⟨k',e,a⟩:=(h.keys (k:Int)).1 (by rw[hs];rfl);have:k=k':=by omega
 subst this;exact a
theorem dI.loc:dS λσ F=>dI σ F p sp:=λσ M F G ⟨q,r,l,B,h⟩ N C=>by
 have i:∀{b:Nat} {g:List Value},bX σ b g->F b->bX M b g/\G b:=by
  rintro b g ⟨e,x⟩ L;have:=C b (bX.lt ⟨e,x⟩) L;exact⟨⟨e,this.2.trans x⟩,this.1⟩
 obtain⟨c,H,hd⟩:=h.hd;obtain⟨rest,a⟩:=h.row;obtain⟨E,m,w,J⟩:=h.map;have j:=C r (pJ.1 w).1 h.fs.2.2.1;refine⟨q,r,l,B,⟨c,H,(i hd h.fs.1).1⟩,⟨rest,(i a h.fs.2.1).1⟩,⟨E,m,j.2.trans w,J⟩,h.keys,λk s d=>?_,h.inj,λk d=>?_,⟨(i hd h.fs.1).2,(i a h.fs.2.1).2,j.1,h.fs.2.2.2⟩,h.zero,h.n1,h.n2,h.ux,h.pk⟩
 ·obtain⟨D,A,y,g,u,z⟩:=h.wd k s d;exact⟨D,A,y,g,(i u (h.out k (h.dL d)).1).1,z⟩
 ·obtain⟨s,K,D,A,y,g,u,z⟩:=h.entry d;exact⟨(i u (h.out k d).1).2,(h.out k d).2⟩
theorem dI.bK {σ':Hp}(h:dI σ F p sp)(e:bO σ σ'):dI σ' F p sp:=dS.bK dI.loc h e
variable {l:List (Int×Sl)}{B:Nat->Nat}
theorem fO.rS (h:fO σ F p q r l B sp){K:Sl->Prop}(hK:∀cap,sp.st.length<=cap->K ⟨some ⟨q,0,none⟩,sp.st.length,cap⟩):kG (Addr.add ⟨p,0,none⟩ 0) σ K:=by
 obtain⟨c,a,hd⟩:=h.hd;exact hd.rS rfl (hK c a)
theorem fO.rM (h:fO σ F p q r l B sp){K:Option Nat->Prop}(hK:K (some r)):qc (Addr.add ⟨p,0,none⟩ 1) σ K:=by
 obtain⟨c,a,hd⟩:=h.hd;exact hd.rM rfl hK
theorem fO.Cj (h:fO σ F p q r l B sp){i x:Nat}(hx:sp.st[i]?=some x){K:Bool->Bool->Prop}(hK:K (fP x).1 (fP x).2):mM (Addr.add ⟨q,2*i,none⟩ 0) σ λa=>mM (Addr.add ⟨q,2*i,none⟩ 1) σ λb=>K a b:=by
 obtain⟨rest,d⟩:=h.row;have g:=(cQ.1 hx).1;have e:=D3 hx;refine d.rB (x:=(fP x).1) ?_ (d.rB (x:=(fP x).2) ?_ hK)
 ·rw[zt,zh (by rw[Vw];omega)];exact e.1
 ·rw[zh (by rw[Vw];omega)];exact e.2
theorem HF (h:dI σ F p sp){R:aO}(hR:R true σ):Xx.c (aW p) σ R:=by
 refine Xx.o ?_;obtain⟨q,r,l,B,h⟩:=h;have:=h.n1;refine bZ.intro (cJ rfl (aG (h.rS λcap _=>?_)));rw[zT aC];exact hR
theorem EJ (h:dI σ F p sp){R:aN}(hR:R (sp.st.length:Int) σ):Xt.c (aW p) σ R:=by
 refine Xt.o ?_;have a:=h;obtain⟨q,r,l,B,h⟩:=h;exact HF a (cG rfl (aG (h.rS λcap _=>hR)))
def Qy (st:List Nat):Nat:=st.countP (· != 0)
theorem L5 (h:dI σ F p sp){R:aN}(hR:R (Qy sp.st:Int) σ):XF.c (aW p) σ R:=by
 refine XF.o ?_;have u:=h;obtain⟨q,r,l,B,h⟩:=h;have n2:=h.n2;refine EJ u ?_;refine KA (a:=bN) (bb:=bN) (λ(n t:Int) v=>∃i:Nat,t=(i:Int)/\i<=sp.st.length/\v=σ/\n=(Qy (sp.st.take i):Int)) (λ_ t _=>sp.st.length-t.toNat) ⟨0,rfl,O,rfl,by simp[Qy]⟩ ?_;rintro n t v ⟨i,rfl,C,rfl,rfl⟩;refine cI (λj=>?_) λw=>?_
 ·have d:i<sp.st.length:=by omega
  have g:sp.st[i]?=some sp.st[i]:=cM d;have y:=h.ux _ (zf d);have e:Qy (sp.st.take (i+1))=Qy (sp.st.take i)+if sp.st[i]=0 then 0 else 1:=by
   rw[zl,g];simp only[Qy,wV,yl,ud,List.countP_nil,zI];by_cases h0:sp.st[i]=0<;>simp[h0]
  have A:Qy (sp.st.take i)<=i:=zJ xS aE;refine aG (h.rS λcap s=>ix O aC ?_);rw[add_lit,show 0+(i:Int).toNat*2=2*i by omega];obtain⟨rest,b⟩:=h.row;have z:=D3 g;refine b.rB (x:=(fP sp.st[i]).1) (by rw[zt,zh (by rw[Vw];omega)];exact z.1) ?_;by_cases h0:sp.st[i]=0
  ·rw[zB h0]at e;have:(fP sp.st[i]).1=false:=by rw[h0];rfl
   exact cG this (cA (m:=i+1) O O ⟨⟨i+1,rfl,O,rfl,by rw[e];rfl⟩,O⟩)
  ·rw[zA h0]at e;have:(fP sp.st[i]).1=true:=by
    match sp.st[i],h0 with
    | 0,h=>exact absurd rfl h
    | 1,_=>rfl
    | n+2,_=>rfl
   exact cJ this (cA (m:=Qy (sp.st.take i)+1) O O (cA (m:=i+1) O O ⟨⟨i+1,rfl,O,rfl,by rw[e]⟩,O⟩))
 ·have:i=sp.st.length:=by omega
  subst this;rw[zo]at *;exact hR
theorem fO.vS (h:fO σ F p q r l B sp):l.length=sp.st.count 2:=by
 have m:=h.map.nodup;have j:(l.map (·.1)).Perm (((List.range sp.st.length).filter λk=>sp.st[k]?==some 2).map λk=>((k:Nat):Int)):=by
  rw[vJ m]
  ·intro x;rw[←Wfb,h.keys];simp only[zC,zF,zQ,zY];constructor
   ·rintro⟨k,rfl,hk⟩;exact⟨k,⟨(cQ.1 hk).1,hk⟩,rfl⟩
   ·rintro⟨k,⟨_,hk⟩,rfl⟩;exact⟨k,rfl,hk⟩
  ·have d:((List.range sp.st.length).filter λk=>sp.st[k]?==some 2).Pairwise (· ≠ ·):=List.Pairwise.sublist vU Am;exact List.Pairwise.map _ (λa b (g:a≠b) e=>g (by exact_mod_cast e)) d
 have i:=j.length_eq;simp only[zX]at i;rw[i,←Bp];have key:∀st:List Nat,(List.range st.length).countP (λk=>st[k]?==some 2)=st.count 2:=by
  intro st
  induction st with
  | nil=>rfl
  | cons x st ih=>
   rw[zN,y6,ud,BA,yS,←ih]
   congr 1
 exact key sp.st
theorem ET (h:dI σ F p sp){R:aN}(hR:R (sp.st.count 2:Int) σ):Xv.c (aW p) σ R:=by
 refine Xv.o ?_;have a:=h;obtain⟨q,r,l,B,h⟩:=h;refine HF a (cG rfl (aG (h.rM ⟨l,h.map,?_⟩)));rw[h.vS];exact hR
end Go.Ar
namespace Go.Ar
open Go Go.Vc Go.Proofs
open Go.Bu (Zg)
variable {σ:Hp}{F:Rg}{p q r:Nat}{sp:Sp}{l:List (Int×Sl)}{B:Nat->Nat}
theorem Pk (l:List Nat)(n:Nat):iD (l.take n)=(iD l).take (2*n):=by
 induction l generalizing n with
 | nil=>simp[iD]
 | cons y l ih=>
  have e:∀z m,iD (z::m)=.bool (fP z).1 :: .bool (fP z).2::iD m:=λz m=>by simp[iD]
  cases n with
  | zero=>simp[iD]
  | succ n=>
   rw[vK,e,e,ih,show 2*(n+1)=2*n+1+1 by omega];simp
theorem Wl3 (l:List Nat)(n:Nat):iD (l.drop n)=(iD l).drop (2*n):=by
 induction l generalizing n with
 | nil=>simp[iD]
 | cons y l ih=>
  have e:∀z m,iD (z::m)=.bool (fP z).1 :: .bool (fP z).2::iD m:=λz m=>by simp[iD]
  cases n with
  | zero=>simp[iD]
  | succ n=>
   rw[CD,e,ih,show 2*(n+1)=2*n+1+1 by omega];simp
theorem Woy (n v:Nat):iD (List.replicate n v)=(List.replicate n [Value.bool (fP v).1,.bool (fP v).2]).flatten:=by
 induction n with
 | zero=>rfl
 | succ n ih=>rw[Bj,Bj,yW,←ih];simp[iD]
theorem _root_.Go.Vc.cT.Cj {s:Sl}{l:List Nat}(h:cT s 2 (iD l) σ F){i x:Nat}(hx:l[i]?=some x){K:Bool->Bool->Prop}(hK:K (fP x).1 (fP x).2) :
 Ix s.a s.len (i:Int) 2 λa=>mM (a.add 0) σ λu=>mM (a.add 1) σ λw=>K u w:=by
 have y:=(cQ.1 hx).1;have g:=D3 hx;obtain⟨b,o,j,m⟩:=h.cell g.1;obtain⟨r,o1,d,e⟩:=h.cell g.2;rw[j]at d;cases d;have p:=h.1;rw[Vw]at p;rw[j];refine ix O O ?_;rw[add_lit];refine oH ?_ (oH ?_ hK)<;>rw[add_lit]
 ·rw[show o+(i:Int).toNat*2+0=o+2*i by omega];exact m
 ·rw[show o+(i:Int).toNat*2+1=o+(2*i+1) by omega];exact e
theorem _root_.Go.Vc.cT.Bf {s:Sl}{l:List Nat}(h:cT s 2 (iD l) σ F):s.len=l.length:=by
 have:=h.1;rw[Vw]at this;omega
theorem SN {s:Sl}{xs:List Nat}(h:cT s 2 (iD xs) σ F)(hl:xs.length<=1000000)(h2:∀x∈xs,x<=2){v:Nat}(hv:v<=2){R:aN}
 (hR:∀(t:Int) σ',bO σ σ'->decide (t≥0)=xs.contains v->R t σ'):Wn.c s (fP v).1 (fP v).2 σ R:=by
 refine Wn.o ?_;have y:=h.Bf;refine nw (cs:=[.bool (fP v).1,.bool (fP v).2]) λw E e A=>?_;have h:=aH.bK h e;refine ZV (a:=bN) (λ(t:Int) u=>∃i:Nat,t=(i:Int)/\i<=xs.length/\u=w/\∀j,j<i->xs[j]?≠some v) (λt _=>xs.length-t.toNat) ⟨0,rfl,O,rfl,λj g=>O⟩ ?_;rintro t u ⟨i,rfl,G,rfl,d⟩;refine cI (λB=>?_) λD=>?_
 ·have b:i<xs.length:=by omega
  have z:xs[i]?=some xs[i]:=cM b;refine A.rB rfl (A.rB rfl (h.Cj z ?_));rw[Fm hv (h2 _ (zf b))];refine cU (λr=>?_) λr=>?_
  ·have:v=xs[i]:=by simpa using r
   refine hR _ _ e ?_;have C:xs.contains v=true:=by rw[this];simp
   rw[C,zT O]
  ·have p:¬v=xs[i]:=by simpa using r
   refine cA (m:=i+1) O O ⟨⟨i+1,rfl,O,rfl,λj g=>?_⟩,O⟩;by_cases e:j=i
   ·subst e;rw[z];intro e2;cases e2;exact p rfl
   ·exact d j O
 ·refine hR _ _ e ?_;have:xs.contains v=false:=by
   simp only[wy,decide_eq_false_iff_not];intro hm;obtain⟨j,g⟩:=zM hm;have:=(cQ.1 g).1;exact d j O g
  rw[this];rfl
theorem GT {s:Sl}{xs:List Nat}(h:cT s 2 (iD xs) σ F)(hl:xs.length<=1000000)(h2:∀x∈xs,x<=2){v:Nat}(hv:v<=2){R:aO}
 (hR:∀σ',bO σ σ'->R (xs.contains v) σ'):Wj.c s (fP v).1 (fP v).2 σ R:=by
 refine Wj.o ?_;refine nw (cs:=[.bool (fP v).1,.bool (fP v).2]) λw g e a=>a.rB rfl (a.rB rfl ?_);refine SN (aH.bK h e) hl h2 hv λt σ' d b=>?_;rw[b];exact hR σ' (Ext.trans e d)
theorem WgT (g:Gl σ){x:Nat}(hx:x<=2){R:aO}(hR:∀σ',bO σ σ'->R (x != 0) σ'):YO.c (fP x).1 (fP x).2 σ R:=by
 refine YO.o ?_;refine nw (cs:=[.bool (fP x).1,.bool (fP x).2]) λv d e a=>a.rB rfl (a.rB rfl ?_);have g:=g.bK e;refine oH (by rw[←g.u0];rfl) (oH (by rw[←g.u1];rfl) ?_);have b:(((fP x).1==false)&&(((fP x).2==false)&&true))=(x==0):=Fm hx (y:=0) O;rw[b];exact hR v e
theorem Woc {s:Sl}{xs:List Nat}(h:cT s 2 (iD xs) σ F)(g:Gl σ)(hl:xs.length<=1000000)(h2:∀x∈xs,x<=2){R:aO}
 (hR:∀σ',bO σ σ'->R (xs.any (· != 0)) σ'):Wg.c s ⟨301,#[],#[]⟩ σ R:=by
 refine Wg.o ?_;refine Wm.o ?_;have A:=h.Bf;refine ZV (a:=bN) (λ(t:Int) D=>∃i:Nat,t=(i:Int)/\i<=xs.length/\bO σ D/\∀(j x:Nat),j<i->xs[j]?=some x->x=0) (λt _=>xs.length-t.toNat) ⟨0,rfl,O,Ext.refl _ _,λj x r=>O⟩ ?_;rintro t w ⟨i,rfl,H,e,p⟩;refine cI (λC=>?_) λE=>?_
 ·have b:i<xs.length:=by omega
  have B:xs[i]?=some xs[i]:=cM b;refine(aH.bK h e).Cj B ?_;refine Gm (all := #[.agg #[.bool (fP xs[i]).1,.bool (fP xs[i]).2]]) (by kernel_rfl) aA ?_;refine WgT (g.bK e) (h2 _ (zf b)) λG z=>?_;refine cU (λy=>?_) λy=>?_
  ·have:xs.any (· != 0)=true:=zw.2 ⟨_,zf b,y⟩;have:=hR G (Ext.trans e z);rw[‹xs.any (· != 0)=true›]at this;show R (decide ((i:Int)≥0)) _;rw[zT O];exact this
  ·have u:xs[i]=0:=by simpa using y
   refine cA (m:=i+1) O O ⟨⟨i+1,rfl,O,Ext.trans e z,λj x r d=>?_⟩,O⟩;by_cases e:j=i
   ·subst e;rw[B]at d;cases d;exact u
   ·exact p j x O d
 ·have:xs.any (· != 0)=false:=by
   rw[p8];intro x hm;obtain⟨j,r⟩:=zM hm;have:=(cQ.1 r).1;simpa using p j x O r
  have:=hR w e;rw[‹xs.any (· != 0)=false›]at this;exact this
theorem fO.part (h:fO σ F p q r l B sp){x y c:Nat}(hl:x+y<=sp.st.length):cT ⟨some ⟨q,2*x,none⟩,y,c⟩ 2 (iD ((sp.st.drop x).take y)) σ F:=by
 obtain⟨rest,b⟩:=h.row;have a:(iD ((sp.st.drop x).take y)).length=y*2:=by rw[Vw,zP,zu];omega
 refine⟨a,.inr ⟨q,2*x,_,h.fs.2.1,rfl,b.q,λj d=>?_⟩⟩;rw[a]at d;rw[zh (by rw[Vw];omega),Pk,Wl3,zb,zB O,zq]
theorem MX (h:dI σ F p sp)(a m:Int){R:Sl->Int->Hp->Prop}(h0:Zg sp.st.length a m=false->R ⟨none,0,0⟩ 1 σ)
 (h1:∀(x y:Nat) s,a=x->m=y->1<=y->x+y<=sp.st.length->cT s 2 (iD ((sp.st.drop x).take y)) σ F->R s 0 σ):YV.c (aW p) a m σ R:=by
 refine YV.o ?_;have i:=h;obtain⟨q,r,l,B,h⟩:=h;have n2:=h.n2;have b:¬(0<=a/\1<=m/\m<=sp.st.length-a)->R ⟨none,0,0⟩ 1 σ:=λA=>h0 (by simp only[Zg,←yj];exact zg A);refine HF i (cG rfl (bZ.intro (cI (λg=>bZ.intro (cJ rfl (bZ.intro (cJ rfl (cJ rfl (b O)))))) λg=>?_)));refine bZ.intro (cI (λz=>bZ.intro (cJ rfl (cJ rfl (b O)))) λz=>aG (h.rS λcap d=>?_));simp only;refine bZ.intro (cI (λj=>cJ rfl (b O)) λj=>?_);refine aG (h.rS λcap d=>ar aC aC ?_);simp only;refine cI (λw=>b O) λw=>?_;obtain⟨x,rfl⟩:=zn (show 0<=a by omega);obtain⟨y,rfl⟩:=zn (show 0<=m by omega);refine aG (h.rS λcap d=>cA (m:=x+y) O O ?_);refine jV O aC (zD _) ?_;simp only;rw[zA O];refine h1 x y _ rfl rfl O O ?_;have:=h.part (x:=x) (y:=y) (c:=cap-x) O;have e:(Option.map (λ(u:Addr)=>u.add (x*2)) (some (⟨q,0,none⟩:Addr)))=some ⟨q,2*x,none⟩:=by
  simp only[zj,add_lit];congr 2;omega
 rw[e,EV];exact this
def Sp.mF (s:Sp)(k v:Nat):Sp:={s with st:=s.st.set k v,wd:=λw=>if k*32<=w/\w<(k+1)*32 then 0 else s.wd w}
theorem J7 {st:List Nat}(h:∀x∈st,x<=2){k v:Nat}(hv:v<=2):∀x∈st.set k v,x<=2:=by
 intro x hx;rcases AE hx with h1|h1
 ·exact h x h1
 ·omega
theorem fO.mF (h:fO σ F p q r l B sp){k v:Nat}(hk:k<sp.st.length)(hv:v<=1){σ':Hp}(e:Ext (λb=>b=q\/b=r) σ σ'){rest:List Value}
 (hb:bX σ' q (iD (sp.st.set k v)++rest)) (hm:dN σ' r .i64 .s (cR l (k:Int))):fO σ' F p q r (cR l (k:Int)) B (sp.mF k v):=by
 have a:∀j:Nat,(sp.st.set k v)[j]?=some 2↔j≠k/\sp.st[j]?=some 2:=λj=>by
  rw[sj];by_cases hjk:k=j
  ·subst hjk;rw[zB rfl,zB hk];constructor
   ·intro h;have:v=2:=by simpa using h
    omega
   ·intro h;exact absurd rfl h.1
  ·rw[zA hjk];exact⟨λh=>⟨λe=>hjk e.symm,h⟩,λh=>h.2⟩
 obtain⟨c,z,hd⟩:=h.hd;have M:¬(p=q\/p=r):=by have:=h.fs;omega
 refine⟨⟨c,by simpa[Sp.mF]using z,by simpa[Sp.mF]using e.bV hd M⟩,⟨rest,hb⟩,hm,λx=>?_,λj s g=>?_,λj y G m=>?_,λj d=>?_,h.fs,λw u=>?_,by simpa[Sp.mF]using h.n1,by simpa[Sp.mF]using h.n2,J7 h.ux O,h.pk⟩
 ·rw[JN];by_cases hx:x=(k:Int)
  ·rw[zB hx];constructor
   ·intro h;cases h
   ·rintro⟨j,rfl,d⟩;have:=(a j).1 d;omega
  ·rw[zA hx,h.keys];constructor
   ·rintro⟨j,rfl,d⟩;exact⟨j,rfl,(a j).2 ⟨O,d⟩⟩
   ·rintro⟨j,rfl,d⟩;exact⟨j,rfl,((a j).1 d).2⟩
 ·rw[JN]at g;by_cases hx:(j:Int)=(k:Int)
  ·rw[zB hx]at g;cases g
  ·rw[zA hx]at g;obtain⟨L,K,E,J,A,H,C⟩:=h.wd j s g;have N:=h.out j (h.dL g);refine⟨L,K,E,J,e.bV A O,H,λi D=>?_⟩;rw[C i D];simp only[Sp.mF];rw[zA O]
 ·exact h.inj j y ((a j).1 G).2 ((a y).1 m).2
 ·exact h.out j ((a j).1 d).2
 ·simp only[Sp.mF]at u ⊢;by_cases hin:k*32<=w/\w<(k+1)*32
  ·rw[zB hin]
  ·rw[zA hin];refine h.zero w λm=>u ((a _).2 ⟨O,m⟩)
theorem Sp.sK (s:Sp)(a v:Nat):s.set a 0 v=s:=by
 have d:fX s.st a (a+0) v=s.st:=by
  apply lX;intro i;rw[HJ];cases s.st[i]? with
  | none=>rfl
  | some x=>simp only[zj];rw[zA O]
 have b:(λw=>if a*32<=w/\w<(a+0)*32 then 0 else s.wd w)=s.wd:=by
  funext w;rw[zA O]
 simp only[Sp.set,d,b]
theorem Sp.sX (s:Sp)(a m v:Nat)(h:a+m<s.st.length):(s.set a m v).mF (a+m) v=s.set a (m+1) v:=by
 have d:(fX s.st a (a+m) v).set (a+m) v=fX s.st a (a+(m+1)) v:=by
  apply lX;intro i;rw[sj,HJ,HJ,Qp];by_cases hi:a+m=i
  ·subst hi;rw[zB rfl,zB h,cM h,zj,zB O]
  ·rw[zA hi];cases s.st[i]? with
   | none=>rfl
   | some x=>
    simp only[zj];by_cases hin:a<=i/\i<a+m
    ·rw[zB hin,zB O]
    ·rw[zA hin,zA O]
 have b:(λw=>if(a+m)*32<=w/\w<(a+m+1)*32 then 0 else(if a*32<=w/\w<(a+m)*32 then 0 else s.wd w))=λw=>if a*32<=w/\w<(a+(m+1))*32 then 0 else s.wd w:=by
  funext w
  by_cases d:(a+m)*32<=w/\w<(a+m+1)*32
  ·rw[zB d,zB O]
  ·rw[zA d];by_cases b:a*32<=w/\w<(a+m)*32
   ·rw[zB b,zB O]
   ·rw[zA b,zA O]
 simp only[Sp.set,Sp.mF,d,b]
theorem JM (h:dI σ F p sp){x y v:Nat}(hl:x+y<=sp.st.length)(hv:v<=1){R:aP}(hR:∀σ',Ext F σ σ'->dI σ' F p (sp.set x y v)->R σ') :
 YT.c (aW p) x y (fP v).1 (fP v).2 σ R:=by
 refine YT.o ?_;have X:sp.st.length<=1024:=by obtain⟨q,r,l,B,h⟩:=h;exact h.n2
 have z:dI σ (Cut F σ) p sp:=dS.cut dI.loc h;refine nw (cs:=[.bool (fP v).1,.bool (fP v).2]) λu Z e g=>?_;have U:=z.bK e;refine ZV (a:=bN) (λ(t:Int) w=>∃i:Nat,t=((x+i:Nat):Int)/\i<=y/\Ext (Cut F σ) u w/\bX w σ.size [.bool (fP v).1,.bool (fP v).2]/\dI w (Cut F σ) p (sp.set x i v)) (λt _=>x+y-t.toNat)
  ⟨0,rfl,O,Ext.refl _ _,g,by rw[Sp.sK];exact U⟩ ?_
 rintro t w ⟨i,rfl,hi,L,j,q,r,l,B,d⟩;refine cA (m:=x+y) O O (cI (λQ=>?_) λW=>?_)
 ·have N:(sp.set x i v).st.length=sp.st.length:=Qp _ _ _ _;refine aG (d.rS λcap J=>j.rB rfl (j.rB rfl (ix O aC ?_)));rw[add_lit,show 0+((x+i:Nat):Int).toNat*2=2*(x+i) by omega];obtain⟨rest,s⟩:=d.row;have G:x+i<(sp.set x i v).st.length:=by omega
  refine s.s1 (by rw[zK,Vw];omega) λw1 o1 V=>V.s1 (by rw[sx,zK,Vw];omega) λw2 o2 K=>?_;rw[zt,LX G]at K;have E:Ext (· = q) w w2:=o1.ext.trans o2.ext;obtain⟨c,S,hd⟩:=d.hd;have C:=E.bV hd d.fs.2.2.2.1;refine aG (C.rM rfl ⟨l,E.gS d.map (λe=>d.fs.2.2.2.2.2 e.symm),λw3 A _ D=>?_⟩);have o3:=A r rfl;have H:Ext (λb=>b=q\/b=r) w w3:=(E.sub λb g=>.inl g).trans (o3.ext.sub λb g=>.inr g);have P:=d.mF G hv H (Ws o3 K d.fs.2.2.2.2.2) D;rw[Sp.sX _ _ _ _ O]at P;have M:Ext (Cut F σ) w w3:=H.sub λb g=>by
   rcases g with rfl|rfl
   ·exact d.fs.2.1
   ·exact d.fs.2.2.1
  refine cA (m:=x+(i+1)) O O ⟨⟨i+1,rfl,O,L.trans M,M.bV j λY=>by have:=Y.2;omega,_,_,_,_,P⟩,O⟩
 ·have:i=y:=by omega
  subst this;refine hR w (Ext.cut (e.to.trans L)) (dS.mono dI.loc ⟨q,r,l,B,d⟩ λb _ g=>g.1)
theorem RY (h:dI σ F p sp)(g:Gl σ)(hF:jS F)(a m:Int){R:aN}(hR:∀σ',Ext F σ σ'->dI σ' F p (gI sp a m)->R (fI sp a m) σ') :
 Zp.c (aW p) a m σ R:=by
 refine Zp.o ?_;have u:(∀x∈sp.st,x<=2)/\sp.st.length<=1024:=by obtain⟨q,r,l,B,h⟩:=h;exact⟨h.ux,h.n2⟩
 refine MX h a m (λj=>?_) λx y s H D M E K=>?_
 ·have d:fI sp a m=1:=by unfold fI;rw[j];rfl
  have i:gI sp a m=sp:=by unfold gI;rw[d];rfl
  have:=hR σ (Ext.refl _ _);rw[d,i]at this;exact cJ rfl (this h)
 ·subst H;subst D;have j:Zg sp.st.length (x:Int) (y:Int)=true:=by simp only[Zg,zG,zV];omega
  refine cG rfl (Woc K g (by rw[zP,zu];omega) (λz A=>u.1 z (uV (qt A))) λJ d=>?_);have e:fI sp x y=if((sp.st.drop x).take y).any (· != 0)then 5 else 0:=by unfold fI;rw[j];rfl
  refine cU (λb=>?_) λb=>?_
  ·rw[b]at e;have i:gI sp x y=sp:=by unfold gI;rw[e];rfl
   have:=hR J (bO.to d);rw[e,i]at this;exact this (h.bK d)
  ·rw[b]at e;have i:gI sp x y=sp.set x y 1:=by unfold gI;rw[e];rfl
   have w:=g.bK d;refine oH (by rw[←w.c0];rfl) (oH (by rw[←w.c1];rfl) ?_);refine JM (v:=1) (h.bK d) E O λL C G=>?_;have:=hR L (Ext.trans (bO.to d) C);rw[e,i]at this;exact this G
theorem JA (h:dI σ F p sp)(g:Gl σ)(hF:jS F)(a m:Int){v:Nat}(hv:v<=1){R:aN}(hR:∀σ',Ext F σ σ'->dI σ' F p (dX sp a m v)->R (fE sp a m) σ') :
 XV.c (aW p) a m (fP v).1 (fP v).2 σ R:=by
 refine XV.o ?_;have J:(∀x∈sp.st,x<=2)/\sp.st.length<=1024:=by obtain⟨q,r,l,B,h⟩:=h;exact⟨h.ux,h.n2⟩
 have D:dI σ (Cut F σ) p sp:=dS.cut dI.loc h;refine nw (cs:=[.bool (fP v).1,.bool (fP v).2]) λu L e K=>?_;have G:=D.bK e;have d:∀w s',dI w (Cut F σ) p s'->dI w F p s':=λw s' h=>dS.mono dI.loc h λb _ K=>K.1;refine MX G a m (λH=>?_) λx y s U P Y Q W=>?_
 ·have j:fE sp a m=1:=by unfold fE;rw[H];rfl
  have C:dX sp a m v=sp:=by unfold dX;rw[j];rfl
  have:=hR u (bO.to e);rw[j,C]at this;exact cJ rfl (this (d _ _ G))
 ·subst U;subst P;have H:Zg sp.st.length (x:Int) (y:Int)=true:=by simp only[Zg,zG,zV];omega
  have M:=g.bK e;refine cG rfl (oH (by rw[←M.u0];rfl) (oH (by rw[←M.u1];rfl) ?_));refine GT (v:=0) W (by rw[zP,zu];omega) (λz L=>J.1 z (uV (qt L))) O λV j=>?_;have A:fE sp x y=if((sp.st.drop x).take y).contains 0 then 7 else 0:=by unfold fE;rw[H];rfl
  refine cU (λi=>?_) λi=>?_
  ·rw[i]at A;have C:dX sp x y v=sp:=by unfold dX;rw[A];rfl
   have:=hR V (bO.to (Ext.trans e j));rw[A,C]at this;exact this (d _ _ (G.bK j))
  ·rw[i]at A;have C:dX sp x y v=sp.set x y v:=by unfold dX;rw[A];rfl
   have E:=Ext.bV j K id;refine E.rB rfl (E.rB rfl ?_);refine JM (G.bK j) Q hv λX N S=>?_;have:=hR X (Ext.cut (Ext.trans (bO.to (Ext.trans e j)) N));rw[A,C]at this;exact this (d _ _ S)
theorem Te (h:dI σ F p sp)(g:Gl σ)(hF:jS F)(a m:Int){R:aN}(hR:∀σ',Ext F σ σ'->dI σ' F p (dX sp a m 0)->R (fE sp a m) σ') :
 YF.c (aW p) a m σ R:=by
 refine YF.o ?_;exact oH (n:=(fP 0).1) g.u0 (oH (n:=(fP 0).2) g.u1 (JA (v:=0) h g hF a m O hR))
theorem WgP (h:dI σ F p sp)(g:Gl σ)(hF:jS F)(a m:Int){R:aN}(hR:∀σ',Ext F σ σ'->dI σ' F p (dX sp a m 1)->R (fE sp a m) σ') :
 XG.c (aW p) a m σ R:=by
 refine XG.o ?_;exact oH (n:=(fP 1).1) g.c0 (oH (n:=(fP 1).2) g.c1 (JA (v:=1) h g hF a m O hR))
end Go.Ar