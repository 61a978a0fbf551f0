/- Texts joined. -/
import Derived.Lib.Overlaps
import Derived.Laws.Externs
import Derived.Test.YtkabjcanamcbeaaGreatDoorP2
set_option linter.unusedVariables false
set_option linter.unusedSimpArgs false
namespace Go.Ar
open Go Go.Vc Go.Proofs
open Go.Bu (Zf)
variable {σ:Hp}{F:Rg}{p q:Nat}{st:List Nat}
structure TrH (σ:Hp) (p q:Nat) (st:List Nat):Prop where
 hd:∃cap,st.length<=cap/\Blk σ p [.slice (some ⟨q,0,none⟩) st.length cap]
 row:∃rest,Blk σ q (ints st++rest)
 ne:p≠q
 n1:16<=st.length
 n2:st.length<=1024
 n3:st.length%16=0
theorem TrH.keep {σ':Hp}(h:TrH σ p q st)(e:Ext F σ σ')(hp:¬F p)(hq:¬F q):TrH σ' p q st:=
 ⟨by obtain⟨c,a,b⟩:=h.hd;exact⟨c,a,e.blk b hp⟩,by obtain⟨r,a⟩:=h.row;exact⟨r,e.blk a hq⟩,h.ne,h.n1,h.n2,h.n3⟩
theorem TrH.keep0 {σ':Hp}(h:TrH σ p q st)(e:Ext0 σ σ'):TrH σ' p q st:=h.keep e id id
theorem TrH.lt (h:TrH σ p q st):p<σ.size/\q<σ.size:=by
 obtain⟨_,_,a⟩:=h.hd;obtain⟨_,b⟩:=h.row;exact⟨a.lt,b.lt⟩
theorem TrH.rS (h:TrH σ p q st){K:Sl->Prop}(hK:∀cap,st.length<=cap->K ⟨some ⟨q,0,none⟩,st.length,cap⟩):LdS (Addr.add ⟨p,0,none⟩ 0) σ K:=by
 obtain⟨c,a,b⟩:=h.hd;exact b.rS rfl (hK c a)
theorem TrH.part (h:TrH σ p q st){s:Sl}{a n:Nat}(ha:s.a=some ⟨q,a,none⟩)(hn:s.len=n)(hl:a+n<=st.length):SlR s 1 (ints ((st.drop a).take n)) σ (· = q):=by
 obtain⟨r,e⟩:=h.row;have b:((st.drop a).take n).length=n:=by simp;omega
 refine e.slR ha (by rw[QE,b,hn];simp) λj d=>?_;rw[QE,b]at d;rw[ze (by rw[QE];omega)];simp[ints,zX,d,zn]
theorem Wj7 {s:Sl}{xs:List Nat}(h:SlR s 1 (ints xs) σ F)(hl:xs.length<=1000000)(v:Nat){R:aN}(hR:R ((xs.count v:Nat):Int) σ):ZK.c s v σ R:=by
 refine ZK.o ?_;unfold ZK.v;have r:=h.lenN;refine Ko (a:=bN) (bb:=bN) (λ(n t:Int) p=>∃i:Nat,t=(i:Int)/\i<=xs.length/\n=(((xs.take i).count v:Nat):Int)/\p=σ) (λ_ t _=>xs.length-t.toNat) ⟨0,rfl,O,by simp,rfl⟩ ?_;rintro n t p ⟨i,rfl,y,rfl,rfl⟩;refine ifD (λw=>?_) λx=>?_
 ·have g:i<xs.length:=by omega
  have j:xs[i]?=some xs[i]:=gGe g;have e:(xs.take (i+1)).count v=(xs.take i).count v+if xs[i]=v then 1 else 0:=by
   rw[zh,j,zDG,zEF,List.count_singleton]
   congr 1
   by_cases h:xs[i]=v<;>simp[h]
  have u:(xs.take i).count v<=i:=zI zEG aE;refine h.ixN j (iff_ (λd=>?_) λd=>?_)
  ·have b:xs[i]=v:=by rw[beqN]at d;simpa using d
   rw[zB b]at e;exact arN (m:=(xs.take i).count v+1) O O (arN (m:=i+1) O O ⟨⟨i+1,rfl,O,by rw[e],rfl⟩,O⟩)
  ·have b:¬xs[i]=v:=by rw[beqN]at d;simpa using d
   rw[zA b,zp]at e;exact arN (m:=i+1) O O ⟨⟨i+1,rfl,O,congrArg _ e.symm,rfl⟩,O⟩
 ·have:i=xs.length:=by omega
  subst this;rw[zl]at *;exact hR
theorem fill_ok {b o n c:Nat}{cs:List Value}(hb:Blk σ b cs)(hl:o+n<=cs.length)(hn:n<=1000000)(v:Nat){R:aP}
 (hR:∀σ',QD σ σ' b->Blk σ' b (cs.take o++List.replicate n (.int .i64 (v:Int))++cs.drop (o+n))->R σ'):Qp.c ⟨some ⟨b,o,none⟩,n,c⟩ v σ R:=by
 refine Qp.o ?_;unfold Qp.v;refine ZS (a:=bN) (λ(t:Int) p=>∃i:Nat,t=(i:Int)/\i<=n/\QD σ p b/\Blk p b (cs.take o++List.replicate i (.int .i64 (v:Int))++cs.drop (o+i))) (λt _=>n-t.toNat) ⟨0,rfl,O,⟨rfl,λ_ _=>rfl⟩,by simpa using hb⟩ ?_;rintro t p ⟨i,rfl,x,r,g⟩;refine ifD (λs=>?_) λu=>?_
 ·simp only at s;refine ix O aC ?_;rw[add_lit];refine g.s0 aE λy j d=>?_;refine arN (m:=i+1) O O ⟨⟨i+1,rfl,O,⟨j.1.trans r.1,λk w=>(j.2 k w).trans (r.2 k w)⟩,?_⟩,O⟩;have:(cs.take o++List.replicate i (Value.int .i64 (v:Int))++cs.drop (o+i)).set (o+(i:Int).toNat*1) (Value.int .i64 (v:Int))=cs.take o++List.replicate (i+1) (Value.int .i64 (v:Int))++cs.drop (o+(i+1)):=by
   rw[zFL _ _ aE];have e:o+(i:Int).toNat*1-(cs.take o++List.replicate i (Value.int .i64 (v:Int))).length=0:=by simp;omega
   rw[e,zCE O,List.set_cons_zero,zGC];simp[zz,zCF]
  rw[this]at d;exact d
 ·simp only at u;have:i=n:=by omega
  subst this;exact hR p r g
theorem TrH.fill (h:TrH σ p q st){a n:Nat}{r:List Value}{σ':Hp}{v:Nat}(hrow:Blk σ q (ints st++r))(hl:a+n<=st.length)(ho:QD σ σ' q)
 (hb:Blk σ' q ((ints st++r).take a++List.replicate n (.int .i64 (v:Int))++(ints st++r).drop (a+n))):TrH σ' p q (setR st a (a+n) v):=by
 obtain⟨c,d,i⟩:=h.hd;have b:=Ql st a (a+n) v;refine⟨⟨c,by rw[b];exact d,?_⟩,⟨r,?_⟩,h.ne,by rw[b];exact h.n1,by rw[b];exact h.n2,by rw[b];exact h.n3⟩
 ·rw[b];exact Ws ho i h.ne
 ·rw[Wm0 O hl,Vd,Vd];have g:(ints st++r).take a=ints (st.take a):=by
   rw[zBX (by rw[QE];omega)];simp[ints]
  have e:(ints st++r).drop (a+n)=ints (st.drop (a+n))++r:=by
   rw[List.drop_append_of_le_length (by rw[QE];omega)];simp[ints]
  have j:ints (List.replicate (a+n-a) v)=List.replicate n (.int .i64 (v:Int)):=by
   rw[zGK];simp[ints]
  rw[g,e]at hb;rw[j];simpa[zz]using hb
theorem TrH.fill_ok (h:TrH σ p q st){a n c:Nat}(hl:a+n<=st.length)(v:Nat){R:aP}(hR:∀σ',Ext (· = q) σ σ'->TrH σ' p q (setR st a (a+n) v)->R σ') :
 Qp.c ⟨some ⟨q,a,none⟩,n,c⟩ v σ R:=by
 obtain⟨r,b⟩:=h.row;have:=h.n2;exact Ar.fill_ok b (by simp[QE];omega) O v λσ' d e=>hR σ' d.ext (h.fill b hl d e)
theorem Ht (h:TrH σ p q st){R:aO}(hR:R true σ):WW.c (aW p) σ R:=by
 refine WW.o ?_;unfold WW.v;refine JnB.intro (ifT rfl (nilP (h.rS λcap _=>?_)));have:=h.n1;rw[zW aC];exact hR
theorem Wjl (h:TrH σ p q st){R:aN}(hR:R ((st.length/16:Nat):Int) σ):XP.c (aW p) σ R:=by
 refine XP.o ?_;unfold XP.v;have:=h.n2;refine nilP (h.rS λcap _=>nz aB ?_);refine arN (m:=st.length/16) ?_ O hR;rw[YM O];simp
theorem WgP (h:TrH σ p q st){k:Nat}(hk:16*k+16<=st.length){R:Sl->Hp->Prop}(hR:∀c,R ⟨some ⟨q,16*k,none⟩,16,c⟩ σ):Xm.c (aW p) (k:Int) σ R:=by
 refine Xm.o ?_;unfold Xm.v;have:=h.n2;refine nilP (h.rS λcap a=>?_);refine arN (m:=16*k) O O (arN (m:=k+1) O O (arN (m:=16*k+16) O O ?_));refine slc O aC aC ?_;have e:16*k+16-16*k=16:=by omega
 rw[zA aC,e];simp only[zg,add_lit,zBI,zG];exact hR _
theorem Wjb (h:TrH σ p q st)(k:Int){R:Sl->Int->Hp->Prop}(h1:∀(x:Nat) c,k=(x:Int)->16*x+16<=st.length->R ⟨some ⟨q,16*x,none⟩,16,c⟩ 0 σ)(h0:War st.length k=false->R ⟨none,0,0⟩ 1 σ) :
 X1.c (aW p) k σ R:=by
 refine X1.o ?_;unfold X1.v;have n3:=h.n3;refine Ht h (ifF rfl (JnB.intro (ifD (λa=>ifT rfl (h0 ?_)) λa=>Wjl h ?_)))
 ·simp[War];omega
 ·refine ifD (λd=>h0 ?_) λb=>?_
  ·simp[War];omega
  ·obtain⟨x,rfl⟩:=zk (show 0<=k by omega);exact WgP h O λc=>h1 x c rfl O
theorem UE {n x:Nat}(h:16*x+16<=n):War n (x:Int)=true:=by simp[War];omega
theorem TrH.first (h:TrH σ p q st){x c:Nat}(hx:16*x+16<=st.length){K:Int->Prop}(hK:K ((st.getD (16*x) 0:Nat):Int)) :
 Ix (some ⟨q,16*x,none⟩) 16 0 1 λa=>LdI .i64 a σ K:=by
 have b:=h.part (s:=⟨some ⟨q,16*x,none⟩,16,c⟩) (n:=16) rfl rfl hx;refine b.ixN (i:=0) (x:=st.getD (16*x) 0) ?_ hK;simp[zX,zn,zM];rw[gGe O];simp
theorem TrH.cnt (h:TrH σ p q st){x c v:Nat}(hx:16*x+16<=st.length){R:aN}(hR:R ((cntR st (16*x) (16*x+16) v:Nat):Int) σ):ZK.c ⟨some ⟨q,16*x,none⟩,16,c⟩ v σ R:=by
 refine Wj7 (h.part (n:=16) rfl rfl hx) aE v ?_;have e:cntR st (16*x) (16*x+16) v=((st.drop (16*x)).take 16).count v:=by simp[cntR]
 rw[e]at hR;exact hR
theorem Wnu (h:TrH σ p q st){x c:Nat}(hx:16*x+16<=st.length){R:aO}(hR:R (WgM st x) σ):QZ.c ⟨some ⟨q,16*x,none⟩,16,c⟩ σ R:=by
 refine QZ.o ?_;unfold QZ.v;refine h.first (c:=c) hx (JnB.intro ?_);unfold WgM at hR;rw[WnP];cases e1:(st.getD (16*x) 0 != 0)
 ·rw[e1]at hR;exact ifF rfl hR
 ·rw[e1]at hR;refine ifT rfl (h.cnt (v:=1) hx ?_);rw[Wg3];exact hR
theorem WeM (h:TrH σ p q st){x c:Nat}(hx:16*x+16<=st.length){R:aN}(hR:R ((KN st x:Nat):Int) σ):Qx.c ⟨some ⟨q,16*x,none⟩,16,c⟩ σ R:=by
 refine Qx.o ?_;unfold Qx.v;refine h.cnt (v:=1) hx (iff_ (λb=>?_) λb=>h.cnt (v:=3) hx ?_)
 ·have a:cntR st (16*x) (16*x+16) 1=0:=by simpa using b
  simpa[KN,a]using hR
 ·have a:¬cntR st (16*x) (16*x+16) 1=0:=by simpa using b
  refine ifD (λe=>?_) λe=>?_
  ·have d:0<cntR st (16*x) (16*x+16) 3:=by omega
   simpa[KN,a,d]using hR
  ·have d:¬0<cntR st (16*x) (16*x+16) 3:=by omega
   simpa[KN,a,d]using hR
theorem WnL (h:TrH σ p q st)(k:Int){R:aN}(hR:∀σ',Ext (· = q) σ σ'->TrH σ' p q (addT st k)->R (addE st k) σ'):Yn.c (aW p) k σ R:=by
 refine Yn.o ?_;unfold Yn.v;refine Wjb h k (λx c g j=>?_) λg=>?_
 ·subst g;have b:=UE j;refine ifF rfl (h.first (c:=c) j (iff_ (λi=>?_) λi=>?_))
  ·have m:¬st.getD (16*x) 0=0:=by simpa using i
   have:addE st (x:Int)=5:=by simp only[addE,b,iTn,zS,zA m]
   have a:addT st (x:Int)=st:=by simp[addT,this]
   have:=hR σ (Ext.refl _ _);rw[a]at this;simpa[*]using this h
  ·have m:st.getD (16*x) 0=0:=by simpa using i
   have d:addE st (x:Int)=0:=by simp only[addE,b,iTn,zS,m]
   have a:addT st (x:Int)=setR st (16*x) (16*x+16) 3:=by simp[addT,d]
   refine h.fill_ok j 3 λσ' e r=>?_;have:=hR σ' e;rw[d,a]at this;exact this r
 ·have d:addE st k=1:=by simp[addE,g]
  have a:addT st k=st:=by simp[addT,d]
  refine ifT rfl ?_;have:=hR σ (Ext.refl _ _);rw[d,a]at this;exact this h
theorem Wf4 {s:Sl}{xs:List Nat}(h:SlR s 1 (ints xs) σ F)(hl:xs.length<=1000000)(v:Nat){R:aN}(h1:∀i:Nat,xs[i]?=some v->(∀j:Nat,j<i->xs[j]?≠some v)->R (i:Int) σ)(h0:v∉xs->R (-1) σ) :
 WG.c s (v:Int) σ R:=by
 refine WG.o ?_;unfold WG.v;have x:=h.lenN;refine ZS (a:=bN) (λ(t:Int) w=>∃i:Nat,t=(i:Int)/\i<=xs.length/\w=σ/\∀j,j<i->xs[j]?≠some v) (λt _=>xs.length-t.toNat) ⟨0,rfl,O,rfl,λj d=>O⟩ ?_;rintro t w ⟨i,rfl,B,rfl,b⟩;refine ifD (λz=>?_) λA=>?_
 ·have g:i<xs.length:=by omega
  have r:xs[i]?=some xs[i]:=gGe g;refine h.ixN r ?_;rw[beqN];refine iff_ (λp=>?_) λp=>?_
  ·have:v=xs[i]:=by simpa using p
   exact h1 i (by rw[r,this]) b
  ·have u:¬v=xs[i]:=by simpa using p
   refine arN (m:=i+1) O O ⟨⟨i+1,rfl,O,rfl,λj d=>?_⟩,O⟩;by_cases e:j=i
   ·subst e;rw[r];intro e2;cases e2;exact u rfl
   ·exact b j O
 ·refine h0 λy=>?_;obtain⟨j,d⟩:=zN y;have:=(gSi.1 d).1;exact b j O d
theorem We8 {s:Sl}{xs:List Nat}(h:SlR s 1 (ints xs) σ F)(hl:xs.length<=1000000)(v:Nat){R:aO}(hR:R (xs.contains v) σ):Wo.c s (v:Int) σ R:=by
 refine Wo.o ?_;unfold Wo.v;refine Wf4 h hl v (λi b _=>?_) λa=>?_
 ·have:xs.contains v=true:=by simpa using zE b
  rw[this]at hR;rw[zW O];exact hR
 ·have:xs.contains v=false:=by simpa using a
  rw[this]at hR;exact hR
theorem Wde {s:Sl}{xs:List Int}(h:SlR s 1 (xs.map (Value.int .i64)) σ F)(hl:xs.length<=1000000000)(v:Int){R:aO}(hR:R (xs.contains v) σ):Wo.c s v σ R:=by
 refine Wo.o ?_;unfold Wo.v;refine WG.o ?_;unfold WG.v;have x:s.len=xs.length:=by have:=h.1;simp at this;omega
 refine ZS (a:=bN) (λ(t:Int) w=>∃i:Nat,t=(i:Int)/\i<=xs.length/\w=σ/\∀j,j<i->xs[j]?≠some v) (λt _=>xs.length-t.toNat) ⟨0,rfl,O,rfl,λj d=>O⟩ ?_;rintro t w ⟨i,rfl,A,rfl,b⟩;refine ifD (λy=>?_) λz=>?_
 ·have g:i<xs.length:=by omega
  have u:xs[i]?=some xs[i]:=gGe g;refine h.ixI u (iff_ (λp=>?_) λp=>?_)
  ·have e:v=xs[i]:=by simpa using p
   have:xs.contains v=true:=by rw[e];simp
   rw[this]at hR;show R (decide ((i:Int)≥0)) _;rw[zW O];exact hR
  ·have r:¬v=xs[i]:=by simpa using p
   refine arN (m:=i+1) O O ⟨⟨i+1,rfl,O,rfl,λj d=>?_⟩,O⟩;by_cases e:j=i
   ·subst e;rw[u];intro e2;cases e2;exact r rfl
   ·exact b j O
 ·have:xs.contains v=false:=by
   simp only[zCW,decide_eq_false_iff_not];intro hm;obtain⟨j,d⟩:=zN hm;have:=(gSi.1 d).1;exact b j O d
  rw[this]at hR;exact hR
def WoI (f:Fv)(p:Nat->Bool)(σ:Hp):Prop:=∀(x:Nat) (σ':Hp) (R:aO),Ext0 σ σ'->(∀σ'',Ext0 σ' σ''->R (p x) σ'')->VK Tryz.prog f [.int .i64 (x:Int)] [.one .b] σ' R
theorem WaG {s:Sl}{xs:List Nat}(h:SlR s 1 (ints xs) σ F)(hl:xs.length<=1000000){f:Fv}{pr:Nat->Bool}(hf:WoI f pr σ){R:aO}(hR:∀σ',Ext0 σ σ'->R (xs.any pr) σ') :
 Wx.c s f σ R:=by
 refine Wx.o ?_;unfold Wx.v;refine WV.o ?_;unfold WV.v;have y:=h.lenN;refine ZS (a:=bN) (λ(t:Int) w=>∃i:Nat,t=(i:Int)/\i<=xs.length/\Ext0 σ w/\∀j x,j<i->xs[j]?=some x->pr x=false) (λt _=>xs.length-t.toNat) ⟨0,rfl,O,Ext.refl _ _,λj x r=>O⟩ ?_;rintro t w ⟨i,rfl,C,e,g⟩;refine ifD (λz=>?_) λA=>?_
 ·have d:i<xs.length:=by omega
  have p:xs[i]?=some xs[i]:=gGe d;refine(aH.keep0 h e).ixN p (hf _ _ _ e λB u=>?_);cases hp:pr xs[i]
  ·refine ifF rfl (arN (m:=i+1) O O ⟨⟨i+1,rfl,O,e.trans u,λj x r b=>?_⟩,O⟩);by_cases e3:j=i
   ·subst e3;rw[p]at b;cases b;exact hp
   ·exact g j x O b
  ·refine ifT rfl ?_;have:xs.any pr=true:=zw.2 ⟨_,zc d,hp⟩;show R (decide ((i:Int)≥0)) _;rw[zW O,←this];exact hR _ (e.trans u)
 ·have:xs.any pr=false:=by
   rw[zAX];intro x p;obtain⟨j,r⟩:=zN p;have:=(gSi.1 r).1;simp[g j x O r]
  show R (decide ((-1:Int)≥0)) _;rw[show decide ((-1:Int)≥0)=false from rfl,←this];exact hR _ e
theorem Wgk (h:TrH σ p q st)(k:Int){R:aN}(hR:∀σ',Ext (· = q) σ σ'->TrH σ' p q (remT st k)->R (remE st k) σ'):Xo.c (aW p) k σ R:=by
 refine Xo.o ?_;unfold Xo.v;refine Wjb h k (λx c g i=>?_) λg=>?_
 ·subst g;have d:=UE i;refine ifF rfl (Wnu h i ?_);cases hi:WgM st x
  ·have a:remE st (x:Int)=5:=by simp[remE,d,hi]
   have b:remT st (x:Int)=st:=by simp[remT,a]
   have:=hR σ (Ext.refl _ _);rw[a,b]at this;exact ifT rfl (this h)
  ·have a:remE st (x:Int)=0:=by simp[remE,d,hi]
   have b:remT st (x:Int)=setR st (16*x) (16*x+16) 0:=by simp[remT,a]
   refine ifF rfl (h.fill_ok i 0 λσ' e j=>?_);have:=hR σ' e;rw[a,b]at this;exact this j
 ·have a:remE st k=1:=by simp[remE,g]
  have b:remT st k=st:=by simp[remT,a]
  refine ifT rfl ?_;have:=hR σ (Ext.refl _ _);rw[a,b]at this;exact this h
theorem Wk6 {c:Nat}{s:Sl}{fr:List Nat}{σ0:Hp}(hb:Blk σ0 c [.slice s.a s.len s.cap])(hs:SlR s 1 (ints fr) σ0 F)(hl:fr.length<=1000):WoI ⟨269,#[],#[.pointer (some ⟨c,0,none⟩)]⟩ (λx=>!fr.contains x) σ0:=by
 intro x σ' R e hR;refine Gr (all := #[.int .i64 (x:Int),.pointer (some ⟨c,0,none⟩)]) (by kernel_rfl) aA ?_;refine YI.o ?_;unfold YI.v;refine(e.blk hb id).rS0 rfl ?_;exact We8 (aH.keep0 hs e) O x (hR _ (Ext.refl _ _))
theorem WeN (h:TrH σ p q st)(a m:Int)(v:Nat){s:Sl}{fr:List Nat}(hs:SlR s 1 (ints fr) σ F)(hl:fr.length<=1000){R:aN}(hR:∀σ',Ext (· = q) σ σ'->TrH σ' p q (VO st a m v fr)->R (GO st a m fr) σ') :
 Xq.c (aW p) a m v s σ R:=by
 refine Xq.o ?_;unfold Xq.v;have n2:=h.n2;have Q:=h.lt.2;refine nw (cs:=[.slice s.a s.len s.cap]) λv1 S r P=>?_;have g:=h.keep0 r;have b:¬(0<=a/\1<=m/\m<=st.length-a)->R 1 v1:=λM=>by
  have d:Zf st.length a m=false:=by simp only[Zf,←zED];exact zd M
  have e:GO st a m fr=1:=by simp[GO,d]
  have i:VO st a m v fr=st:=by simp[VO,e]
  have:=hR v1 r.to;rw[e,i]at this;exact this g
 refine Ht g (ifF rfl (JnB.intro ?_));refine ifD (λG=>JnB.intro (ifT rfl (JnB.intro (ifT rfl (ifT rfl (b O)))))) λG=>?_;refine JnB.intro (ifD (λJ=>JnB.intro (ifT rfl (ifT rfl (b O)))) λJ=>?_);refine nilP (g.rS λcap B=>JnB.intro (ifD (λD=>ifT rfl (b (by simp only at *;omega))) λD=>?_));simp only at D;refine nilP (g.rS λcap B=>ar aC aC (ifD (λC=>b (by simp only at *;omega)) λC=>?_));simp only at C;obtain⟨x,rfl⟩:=zk (show 0<=a by omega);obtain⟨y,rfl⟩:=zk (show 0<=m by omega);have j:x+y<=st.length:=by omega
 have d:Zf st.length (x:Int) (y:Int)=true:=by simp only[Zf,zF,zT];omega
 refine nilP (g.rS λcap B=>arN (m:=x+y) O O (slc O aC aC ?_));rw[zA aC];simp only[zg,add_lit,zBI,zG];have L:x+y-x=y:=by omega
 rw[L];have E:=g.part (s:=⟨some ⟨q,x,none⟩,y,cap-x⟩) (n:=y) rfl rfl j;refine WaG E aE (Wk6 (s:=s) P (aH.keep0 hs r) hl) λN i=>?_;have A:=g.keep0 i;have u:((st.drop x).take y).any (λz=>!fr.contains z) = !WgO st x y fr:=by
  rw[WgO,List.all_eq_not_any_not,Bool.not_not]
 rw[u];cases hA:WgO st x y fr
 ·have e:GO st (x:Int) (y:Int) fr=5:=by simp[GO,d,hA]
  have w:VO st (x:Int) (y:Int) v fr=st:=by simp[VO,e]
  have:=hR N (r.to.trans i.to);rw[e,w]at this;exact ifT rfl (this A)
 ·have e:GO st (x:Int) (y:Int) fr=0:=by simp[GO,d,hA]
  have w:VO st (x:Int) (y:Int) v fr=setR st x (x+y) v:=by simp[VO,e]
  refine ifF rfl (A.fill_ok j v λv3 H K=>?_);have:=hR v3 (r.to.trans (i.to.trans H));rw[e,w]at this;exact this K
theorem WaU {h:Hp}{b:Nat}{xs:List Nat}{n c:Nat}(hb:Blk h b (ints xs))(hn:n=xs.length):SlR ⟨some ⟨b,0,none⟩,n,c⟩ 1 (ints xs) h (· = b):=
 hb.slR (o:=0) rfl (by rw[QE];simp[hn]) λj _=>by rw[zG]
theorem WnX (h:TrH σ p q st)(a m:Int){R:aN}(hR:∀σ',Ext (· = q) σ σ'->TrH σ' p q (VO st a m 1 [2,3])->R (GO st a m [2,3]) σ'):XO.c (aW p) a m σ R:=by
 refine XO.o ?_;unfold XO.v;refine nw (cs:=ints [2,3]) λv i e g=>?_;exact WeN (h.keep0 e) a m 1 (WaU g rfl) aA λσ' b d=>hR σ' (e.to.trans b) d
theorem WlG (h:TrH σ p q st)(a m:Int){R:aN}(hR:∀σ',Ext (· = q) σ σ'->TrH σ' p q (VO st a m 2 [1])->R (GO st a m [1]) σ'):XF.c (aW p) a m σ R:=by
 refine XF.o ?_;unfold XF.v;refine nw (cs:=ints [1]) λv i e g=>?_;exact WeN (h.keep0 e) a m 2 (WaU g rfl) aA λσ' b d=>hR σ' (e.to.trans b) d
theorem WeY (h:TrH σ p q st)(a m:Int){R:aN}(hR:∀σ',Ext (· = q) σ σ'->TrH σ' p q (VO st a m 3 [2])->R (GO st a m [2]) σ'):Xb.c (aW p) a m σ R:=by
 refine Xb.o ?_;unfold Xb.v;refine nw (cs:=ints [2]) λv i e g=>?_;exact WeN (h.keep0 e) a m 3 (WaU g rfl) aA λσ' b d=>hR σ' (e.to.trans b) d
def stI (st:List Nat)(x:Int):Int:=if 0<=x/\x<st.length then((st.getD x.toNat 0:Nat):Int)else -1
theorem Whf (h:TrH σ p q st)(x:Int){R:aN}(hR:R (stI st x) σ):X9.c (aW p) x σ R:=by
 refine X9.o ?_;unfold X9.v;have n2:=h.n2;unfold stI at hR;refine Ht h (JnB.intro (ifF rfl (JnB.intro (ifD (λi=>ifT rfl ?_) λi=>nilP (h.rS λcap g=>ifD (λb=>?_) λb=>?_)))))
 ·rw[zA O]at hR;exact hR
 ·simp only at b;rw[zA O]at hR;exact hR
 ·simp only at b;rw[zB O]at hR;obtain⟨y,rfl⟩:=zk (show 0<=x by omega);refine nilP (h.rS λcap g=>?_);have d:=h.part (s:=⟨some ⟨q,0,none⟩,st.length,cap⟩) (a:=0) (n:=st.length) rfl rfl O;rw[List.drop_zero,zl]at d;have e:y<st.length:=by omega
  refine d.ixN (gGe e) ?_;simpa[zM,gGe e]using hR
theorem Hq {s:Sl}{vs:List Value}(h:SlR s 1 vs σ F)(h1:∀v∈vs,one1 v=true)(hl:s.len<=1000000){R:Sl->Hp->Prop}
 (hR:∀s' σ',s'.len=s.len->Ext0 σ σ'->RowR s' 1 vs σ' (λb=>σ.size<=b)->R s' σ'):WF.c s σ R:=by
 refine WF.o ?_;unfold WF.v;exact Wai h aB rfl h1 aB hl hR
theorem Gs (n:Nat)(P:Nat->Bool):(List.range (n+1)).filter P=(List.range n).filter P++(if P n then[n]else[]):=by
 rw[zAB,zEH]
 congr 1
 cases h:P n<;>simp[h]
theorem WjV (h:TrH σ p q st)(k:Nat){R:Sl->Hp->Prop}(hR:∀s σ',Ext0 σ σ'->RowR s 1 (ints (Ki st k)) σ' (λb=>σ.size<=b)->R s σ'):X5.c (aW p) (k:Int) σ R:=by
 refine X5.o ?_;unfold X5.v;have n2:=h.n2;refine Ht h (ifF rfl (Wjl h ?_));refine Ko (a:=.s) (bb:=bN) (λ(out:Sl) (t:Int) u=>∃i:Nat,t=(i:Int)/\i<=st.length/16/\Ext0 σ u/\RowR out 1 (ints ((List.range i).filter λh=>st.getD (16*h) 0 != 0&&KN st h==k)) u (λb=>σ.size<=b))
  (λ_ t _=>st.length/16-t.toNat) ⟨0,rfl,O,Ext.refl _ _,RowR.nil _ _ _ _⟩ ?_
 rintro out t u ⟨i,rfl,N,e,d⟩;have A:=h.keep0 e;refine ifD (λH=>?_) λK=>?_
 ·have B:16*i+16<=st.length:=by omega
  refine WgP A B λc=>A.first (c:=c) B (JnB.intro ?_);have D:=d.lenN;have G:((List.range i).filter λh=>st.getD (16*h) 0 != 0&&KN st h==k).length<=i:=zI (zBA _ _) aA;have next:∀(r:Bool),r=(st.getD (16*i) 0 != 0&&KN st i==k)->If r
   (Nw (.cells #[.int .i64 (i:Int)] 3 (0,0)) u λx F=>App out 1 8 3 [.int .i64 0] ⟨some x,1,1⟩ F λw z=>Ar .i64 ((i:Int)+1) λg=>
    (∃j:Nat,g=(j:Int)/\j<=st.length/16/\Ext0 σ z/\RowR w 1 (ints ((List.range j).filter λh=>st.getD (16*h) 0 != 0&&KN st h==k)) z (λb=>σ.size<=b))/\st.length/16-g.toNat<st.length/16-(i:Int).toNat)
   (Ar .i64 ((i:Int)+1) λg=>(∃j:Nat,g=(j:Int)/\j<=st.length/16/\Ext0 σ u/\RowR out 1 (ints ((List.range j).filter λh=>st.getD (16*h) 0 != 0&&KN st h==k)) u (λb=>σ.size<=b))/\st.length/16-g.toNat<st.length/16-(i:Int).toNat):=by
   intro r hr;have y:=Gs i λh=>st.getD (16*h) 0 != 0&&KN st h==k;rw[←hr]at y;cases r
   ·refine ifF rfl (arN (m:=i+1) O O ⟨⟨i+1,rfl,O,e,?_⟩,O⟩);rw[y];simpa using d
   ·refine ifT rfl (d.push (vs:=[.int .i64 (i:Int)]) (λb J=>zI e.1 J) rfl rfl (by simp[one1]) O O λM z E L C=>?_);refine arN (m:=i+1) O O ⟨⟨i+1,rfl,O,Ext.fresh e L λ_ h=>h,?_⟩,O⟩;rw[y,Vd];exact C
  rw[WnP];cases e1:(st.getD (16*i) 0 != 0)
  ·exact ifF rfl (next false (by rw[e1];rfl))
  ·refine ifT rfl (WeM A B ?_);rw[beqN];exact next _ (by rw[e1];rfl)
 ·have:i=st.length/16:=by omega
  subst this;exact hR _ _ e d
theorem Wlc (h:TrH σ p q st){R:Sl->Hp->Prop}(hR:∀s σ',Ext0 σ σ'->RowR s 1 (ints (Ki st 0)) σ' (λb=>σ.size<=b)->R s σ'):YD.c (aW p) σ R:=by
 refine YD.o ?_;unfold YD.v;exact WjV h 0 hR
theorem Wm3 {n:Nat}(h1:16<=n)(h2:n<=1024)(h3:n%16=0){R:Option Addr->Int->Hp->Prop}(hR:∀σ' p q,Ext0 σ σ'->σ.size<=p->σ.size<=q->TrH σ' p q (List.replicate n 0)->R (some ⟨p,0,none⟩) 0 σ'):Kw.c (n:Int) σ R:=by
 refine Kw.o ?_;unfold Kw.v;refine JnB.intro (ifDF O (JnB.intro (ifDF O (nz aB ?_))));rw[Q7 O];have:(((n:Int)%16) != 0)=false:=by
  have:((n:Int)%16)=0:=by omega
  rw[this];rfl
 rw[this];refine ifF rfl (mk O O λv m e b=>nw (cs:=[.slice (some ⟨σ.size,0,none⟩) n n]) λj i d a=>?_);have g:(List.replicate n [Value.int .i64 0]).flatten=ints (List.replicate n 0):=by
  have:[Value.int .i64 0]=ints [0]:=rfl;rw[this];clear b hR
  induction n with
  | zero=>rfl
  | succ n ih=>simp[zEU,ints]
 rw[g]at b;refine hR _ _ _ (e.trans d) O (zD _) ⟨⟨n,by simp,by simpa using a⟩,⟨[],by simpa using d.blk b id⟩,O,by simpa using h1,by simpa using h2,by simpa using h3⟩
end Go.Ar
namespace Go.Proofs
open Go.Vc
set_option maxRecDepth 100000
def ZJ.h:Hn:=.q .o1 (.q (.q .o3 .aJ) (.q (.reg (.tail 10 (RI.ops 10) [.op])) .l))
def ZJ.v (a:R2)(b:Hp)(c:Int->Int->Hp->Prop):Prop:=aV #[.I 0,.I 0] 92 b λd e=>YG.c a e λf g=>If (!f) (aR d 0 (.I 0) g λh=>aR d 1 (.I 0) h λi=>aQ d 0 i λj=>aQ d 1 i λk=>c j k i) (bD a 0 g λm=>NilP a λn=>bM ((n.add 1).add 1) g λo=>aR d 0 (.I m) g λp=>aR d 1 (.I o) p λq=>aQ d 0 q λr=>aQ d 1 q λs=>c r s q)
theorem ZJ.o {a b c}(d:ZJ.v a b c):ZJ.c a b c:=Wa Tryz.func138 (x:=ZJ.h) (R0 d)
def X0.h:Hn:=.q .o1 (.q (.q .o3 .aK) (.q .o6 .l))
def X0.v (a:R2)(b:Hp)(c:aN):Prop:=YG.c a b λd e=>If (!d) (c 0 e) (bE a 4 e λg=>c ((g.len:Nat):Int) e)
theorem X0.o {a b c}(d:X0.v a b c):X0.c a b c:=Wa Tryz.func141 (x:=X0.h) (R0 d)
def Yf.h:Hn:=.q .o2 (.q (.q .o3 .aJ) (.q .o5 (.q (.q (.reg (.heldJ false [] [(32,.one .b)] (.take 0 (.take 1 (.all [(2,.take 3 (.take 4 (.split 18 (.take 5 (.take 6 (.take 7 (.take 8 (.take 9 (.take 10 (.take 11 (.take 12 (.take 13 (.take 14 (.take 15 (.take 16 (.take 17 (.take 18 (.done))))))))))))))) (.take 5 (.take 6 (.take 7 (.take 8 (.take 11 (.take 12 (.take 13 (.take 14 (.all [(9,.take 10 (.all [(15,.take 16 (.take 17 (.take 18 (.done))))])),(15,.all [(9,.take 10 (.take 16 (.take 17 (.take 18 (.done)))))])]))))))))))))]))))) .aJ) (.q .o9 .l))))
def Yf.v (a:R2)(b:Int)(c:Hp)(d:Int->Int->Hp->Prop):Prop:=YG.c a c λe f=>If (!e) (d 0 5 f) (YA.c a 0 f λg h=>bL (b-g) λi=>Jn [.b] (λ(j:Bool) k=>If j (d 0 8 k) (NilP a λl=>bM ((l.add 1).add 0) k λm=>Nz m<|bL (i.tdiv m) λn=>d n 0 k)) λo=>YA.c a 0 h λp q=>If (b<p) (o true q) (NilP a λr=>NilP a λs=>(aX r 4 q λt=>bM ((s.add 1).add 0) q λu=>bL (((t.len:Nat):Int)*u) λv=>o (decide (i≥v)) q) ∧ (bM ((s.add 1).add 0) q λw=>aX r 4 q λx=>bL (((x.len:Nat):Int)*w) λy=>o (decide (i≥y)) q)))
theorem Yf.o {a b c d}(e:Yf.v a b c d):Yf.c a b c d:=Wa Tryz.func146 (x:=Yf.h) (R0 e)
def YG.h:Hn:=.q .o1 (.q (.reg (.seq [.op,.op,.op,.grd true 6 (RI.ops 6),.op])) .l)
def YG.v (a:R2)(b:Hp)(c:aO):Prop:=JnB (λd e=>c d e) λf=>If (!a.isNone) (bE a 4 b λh=>f (decide (((h.len:Nat):Int)>0)) b) (f false b)
theorem YG.o {a b c}(d:YG.v a b c):YG.c a b c:=Wa Tryz.func200 (x:=YG.h) (R0 d)
def YA.h:Hn:=.q .o1 (.q (.oq 14) .l)
def YA.v (a:R2)(b:Int)(c:Hp)(d:aN):Prop:=bD a 0 c λf=>bL (f*256) λg=>NilP a λh=>bM ((h.add 1).add 0) c λi=>bL (b*i) λj=>bL (g+j) λk=>d k c
theorem YA.o {a b c d}(e:YA.v a b c d):YA.c a b c d:=Wa Tryz.func202 (x:=YA.h) (R0 e)
def Kv.h:Hn:=.q .o3 (.q .o7 (.q (.q (.reg (.seq [.op,.op,.op,.grd false 2 [.op,.op],.op,.grd false 5 (RI.ops 5)])) .aJ) (.q (.reg (.held true [] (.tk [0,1,2] (.all [(3,.take 4 (.all [(5,.take 6 (.take 7 (.done)))]))])))) .l)))
def Kv.v (a b c d:Int)(e:Hp)(f:Option Addr->Int->Hp->Prop):Prop:=aV #[.I b,.I c,.I d] 31 e λg h=>aQ g 0 h λi=>aQ g 1 h λj=>aQ g 2 h λk=>Zd.c i j k h λl m n=>JnB (λo p=>JnB (λq r=>If q (f none 1 r) (Held r λs=>aS s g 0 λt=>aS s g 1 λu=>aS s g 2 λv=>Mk l l 8 3 [.I 0] r λw x=>And (s x) <| aV #[.I a,.I t,.I u,.I v,.slice w.a w.len w.cap,.I 0] 296 x λy z=>And (s z) <| f (some y) 0 z)) λaa=>If o (aa true p) (aQ g 1 p λab=>bL (1024-ab) λac=>aa (decide (a>ac)) p)) λad=>If (m != 0) (ad true n) (ad (decide (a<0)) n)
theorem Kv.o {a b c d e f}(g:Kv.v a b c d e f):Kv.c a b c d e f:=Wa Tryz.func256 (x:=Kv.h) (R0 g)
def ZF.h:Hn:=.q .o1 (.q .o8 (.q (.k (.q .o3 (.c .aL (.q .o9 .aK)))) (.q .o4 .aM)))
def ZF.v (a:R2)(b:Int)(c:Hp)(d:aN):Prop:=Yk.c a b c λe f g=>If (f != 0) (d f g) (bE a 4 g λi=>Ix i.a i.len e 1 λj=>bM j g λk=>If (k==0) (d 9 g) (aV #[.I e] 3 g λl m=>Zh.c a 0 ⟨some l,1,1⟩ m λn=>d 0 n))
theorem ZF.o {a b c d}(e:ZF.v a b c d):ZF.c a b c d:=Wa Tryz.func275 (x:=ZF.h) (R0 e)
def ZA.h:Hn:=.q .o2 (.q (.q .o3 .aJ) (.q .o6 (.q (.q .o2 .aJ) (.q .o4 (.q .o5 .l)))))
def ZA.v (a:R2)(b:Hp)(c:Int->Int->Hp->Prop):Prop:=YG.c a b λd e=>If (!d) (c 0 5 e) (bE a 4 e λg=>WG.c g 0 e λh i=>If (h<0) (c 0 6 i) (aV #[.I h] 3 i λj k=>Zh.c a 1 ⟨some j,1,1⟩ k λl=>YA.c a h l λm n=>c m 0 n))
theorem ZA.o {a b c}(d:ZA.v a b c):ZA.c a b c:=Wa Tryz.func277 (x:=ZA.h) (R0 d)
def Yv.h:Hn:=.q .o2 (.q .o8 (.q (.q .o2 (.c (.q .o3 .l) .l)) (.q .o10 .l)))
def Yv.v (a:R2)(b:Int)(c:Hp)(d:Bool->Int->Hp->Prop):Prop:=Yk.c a b c λe f g=>If (f != 0) (d false f g) (bE a 4 g λi=>Ix i.a i.len e 1 λj=>bM j g λk=>d (k==1) 0 g)
theorem Yv.o {a b c d}(e:Yv.v a b c d):Yv.c a b c d:=Wa Tryz.func285 (x:=Yv.h) (R0 e)
def Yk.h:Hn:=.q .o2 (.q .o8 (.q (.q (.reg (.seq [.op,.op,.op,.grd true 5 (RI.ops 5)])) .aJ) (.q .o4 .l)))
def Yk.v (a:R2)(b:Int)(c:Hp)(d:Int->Int->Hp->Prop):Prop:=Yf.c a b c λe f g=>JnB (λh i=>If h (d 0 8 i) (d e f i)) λj=>If (f==0) (YA.c a e g λk l=>j (k != b) l) (j false g)
theorem Yk.o {a b c d}(e:Yk.v a b c d):Yk.c a b c d:=Wa Tryz.func297 (x:=Yk.h) (R0 e)
def Zh.h:Hn:=.q .o3 (.k (.loop [(10,.I)] (.q .o1 (.q (.c .l .l) (.q (.k (.q .o3 (.q (.reg (.tail 16 (RI.ops 16) [.op])) .o8))) .o2)))))
def Zh.v (a:R2)(b:Int)(c:Sl)(d:Hp)(e:aP):Prop:=W8 [bN] (λf=>f 0 d) λg (h:Int) i=>If (h<((c.len:Nat):Int)) (Ix c.a c.len h 1 λj=>bM j i λk=>bD a 5 i λm=>bE a 4 i λo=>Ix o.a o.len k 1 λp=>bM p i λq=>bL (b-q) λr=>bL (m+r) λs=>NilP a λt=>aR t 5 (.I s) i λu=>bE a 4 u λw=>Ix w.a w.len k 1 λx=>St1 x (.I b) u λy=>bL (h+1) λz=>g z y) (e i)
theorem Zh.o {a b c d e}(f:Zh.v a b c d e):Zh.c a b c d e:=Wa Tryz.func298 (x:=Zh.h) (R0 f)
end Go.Proofs
namespace Go.Ar
open Go Go.Vc Go.Proofs
variable {σ:Hp}{F:Rg}{p q:Nat}{c:Cls}{s:SpA}
def tkN (tk:List Bool):List Nat:=tk.map λb=>if b then 1 else 0
theorem Wa7 (tk:List Bool):(tkN tk).length=tk.length:=by simp[tkN]
theorem HW {tk:List Bool}{i:Nat}{b:Bool}(h:tk[i]?=some b):(tkN tk)[i]?=some (if b then 1 else 0):=by simp[tkN,h]
theorem Wnw (tk:List Bool)(i:Nat)(b:Bool):tkN (tk.set i b)=(tkN tk).set i (if b then 1 else 0):=by simp[tkN,zDJ]
structure SpH (σ:Hp) (p q:Nat) (c:Cls) (s:SpA):Prop where
 hd:∃cap,c.n<=cap/\Blk σ p [.int .i64 (s.st:Int),.int .i64 (c.size:Int),.int .i64 (c.pages:Int),.int .i64 (c.batch:Int),.slice (some ⟨q,0,none⟩) c.n cap,.int .i64 (s.many:Int)]
 row:∃rest,Blk σ q (ints (tkN s.tk)++rest)
 ne:p≠q
 len:s.tk.length=c.n
 ok:c.ok
 fit:s.st+c.pages<=1024
theorem SpH.keep {σ':Hp}(h:SpH σ p q c s)(e:Ext F σ σ')(hp:¬F p)(hq:¬F q):SpH σ' p q c s:=
 ⟨by obtain⟨c,a,b⟩:=h.hd;exact⟨c,a,e.blk b hp⟩,by obtain⟨r,a⟩:=h.row;exact⟨r,e.blk a hq⟩,h.ne,h.len,h.ok,h.fit⟩
theorem SpH.keep0 {σ':Hp}(h:SpH σ p q c s)(e:Ext0 σ σ'):SpH σ' p q c s:=h.keep e id id
theorem SpH.lt (h:SpH σ p q c s):p<σ.size/\q<σ.size:=by
 obtain⟨_,_,a⟩:=h.hd;obtain⟨_,b⟩:=h.row;exact⟨a.lt,b.lt⟩
theorem SpH.rS (h:SpH σ p q c s){K:Sl->Prop}(hK:∀cap,c.n<=cap->K ⟨some ⟨q,0,none⟩,c.n,cap⟩):LdS (Addr.add ⟨p,0,none⟩ 4) σ K:=by
 obtain⟨b,a,d⟩:=h.hd;exact d.rS rfl (hK b a)
theorem SpH.rI (h:SpH σ p q c s){i:Nat}{x:Int}(hx:∀a b:Value,([.int .i64 (s.st:Int),.int .i64 (c.size:Int),.int .i64 (c.pages:Int),.int .i64 (c.batch:Int),a,.int .i64 (s.many:Int)]:List Value)[0+i]?=some (.int .i64 x)){K:Int->Prop}(hK:K x):LdI .i64 (Addr.add ⟨p,0,none⟩ i) σ K:=by
 obtain⟨g,e,d⟩:=h.hd;exact d.rI (hx _ .nilFunc) hK
theorem SpH.rI2 (h:SpH σ p q c s){i j:Nat}{x:Int}(hx:∀a b:Value,([.int .i64 (s.st:Int),.int .i64 (c.size:Int),.int .i64 (c.pages:Int),.int .i64 (c.batch:Int),a,.int .i64 (s.many:Int)]:List Value)[0+i+j]?=some (.int .i64 x)){K:Int->Prop}(hK:K x):LdI .i64 (Addr.add (Addr.add ⟨p,0,none⟩ i) j) σ K:=by
 obtain⟨g,e,d⟩:=h.hd;exact d.rI2 (hx _ .nilFunc) hK
theorem SpH.states (h:SpH σ p q c s)(cap:Nat):SlR ⟨some ⟨q,0,none⟩,c.n,cap⟩ 1 (ints (tkN s.tk)) σ (· = q):=by
 obtain⟨r,b⟩:=h.row;refine b.slR (o:=0) rfl (by rw[QE,Wa7,h.len];simp) λj a=>?_;rw[zG,ze a]
theorem Waf (h:SpH σ p q c s){R:aO}(hR:R true σ):YG.c (aW p) σ R:=by
 refine YG.o ?_;unfold YG.v;refine JnB.intro (ifT rfl (nilP (h.rS λcap _=>?_)));have:=h.ok.n_pos;rw[zW aC];exact hR
theorem Wa6 (h:SpH σ p q c s){R:aN}(hR:R (c.n:Int) σ):X0.c (aW p) σ R:=by
 refine X0.o ?_;unfold X0.v;exact Waf h (ifF rfl (nilP (h.rS λcap _=>hR)))
theorem Wcb (h:SpH σ p q c s)(i:Nat)(hi:i<=1000){R:aN}(hR:R ((at_ c s i:Nat):Int) σ):YA.c (aW p) (i:Int) σ R:=by
 refine YA.o ?_;unfold YA.v;have a:=h.ok;unfold Cls.ok at a;have:=h.fit;have b:i*c.size<=1000*512:=zAF hi O;refine nilP (h.rI (λ_ _=>rfl) (arN (m:=s.st*256) aA O (nilP (h.rI2 (λ_ _=>rfl) ?_))));exact arN (m:=i*c.size) aA O (arN (m:=at_ c s i) (by simp[at_]) (by unfold at_;omega) hR)
theorem Wb3 (h:SpH σ p q c s)(x:Int)(hx2:x<=9223372036854775807){R:Int->Int->Hp->Prop}(h1:∀i,idx c s x=some i->R (i:Int) 0 σ)(h0:idx c s x=none->R 0 8 σ):Yf.c (aW p) x σ R:=by
 refine Yf.o ?_;unfold Yf.v;have z:=h.ok;unfold Cls.ok at z;have C:=h.ok.n_le;have u:=h.fit;have a:=h.len;have E:c.n*c.size<=128*512:=zAF C O;refine Waf h (ifF rfl (Wcb h 0 O ?_));have j:at_ c s 0=s.st*256:=by simp[at_]
 rw[j];refine arW ?_;refine Jn.intro (Wcb h 0 O ?_);rw[j];refine ifD (λA=>ifT rfl (h0 ?_)) λB=>?_
 ·unfold idx;rw[zB O]
 ·rw[UG O O];obtain⟨y,D⟩:=zk (show 0<=x by omega);have key:If (decide (x-((s.st*256:Nat):Int)≥((c.n*c.size:Nat):Int))) (R 0 8 σ)
   (NilP (some ⟨p,0,none⟩) λe=>LdI .i64 ((e.add 1).add 0) σ λd=>Nz d<|Ar .i64 ((x-((s.st*256:Nat):Int)).tdiv d) λg=>R g 0 σ):=by
   refine ifD (λw=>h0 ?_) λr=>nilP (h.rI2 (λ_ _=>rfl) (nz O ?_))
   ·unfold idx;rw[a,zB O]
   ·have:idx c s x=some ((x-((s.st*256:Nat):Int)).toNat/c.size):=by unfold idx;rw[a,zA O]
    refine arN (m:=(x-((s.st*256:Nat):Int)).toNat/c.size) ?_ ?_ (h1 _ this)
    ·rw[YM O];have:x-((s.st*256:Nat):Int)=(((x-((s.st*256:Nat):Int)).toNat:Nat):Int):=by omega
     rw[this];simp
    ·have:=Nat.div_le_self (x-((s.st*256:Nat):Int)).toNat c.size;omega
  refine nilP (nilP ⟨h.rS λcap b=>h.rI2 (λ_ _=>rfl) (arN (m:=c.n*c.size) aA O key),h.rI2 (λ_ _=>rfl) (h.rS λcap b=>arN (m:=c.n*c.size) aA O key)⟩)
theorem Wc8 (h:SpH σ p q c s)(x:Int)(hx2:x<=9223372036854775807){R:Int->Int->Hp->Prop}(h1:∀i,obj c s x=some i->i<c.n->R (i:Int) 0 σ)(h0:obj c s x=none->R 0 8 σ):Yk.c (aW p) x σ R:=by
 refine Yk.o ?_;unfold Yk.v;have g:=h.ok;unfold Cls.ok at g;have j:=h.ok.n_le;refine Wb3 h x hx2 (λi a=>JnB.intro (ifT rfl ?_)) λa=>JnB.intro (ifF rfl (ifF rfl (h0 (by unfold obj;rw[a]))));have b:=((V6 O).1 a).2.2;rw[h.len]at b;refine Wcb h i O (iff_ (λd=>h0 ?_) λd=>h1 i ?_ b)
 ·have:¬x=((at_ c s i:Nat):Int):=λe=>by rw[e]at d;simp at d
  unfold obj;rw[a];simp[this]
 ·have:x=((at_ c s i:Nat):Int):=by
   have:((at_ c s i:Nat):Int)=x:=by simpa using d
   exact this.symm
  unfold obj;rw[a];simp[this]
def SpA.is (s:SpA)(i:Nat):Bool:=s.tk.getD i false
theorem SpA.is_get {s:SpA}{i:Nat}(hi:i<s.tk.length):s.tk[i]?=some (s.is i):=by
 simp[SpA.is,zM,gGe hi]
theorem WeZ (h:SpH σ p q c s)(x:Int)(hx2:x<=9223372036854775807){R:Bool->Int->Hp->Prop}(h1:∀i,obj c s x=some i->R (s.is i) 0 σ)(h0:obj c s x=none->R false 8 σ):Yv.c (aW p) x σ R:=by
 refine Yv.o ?_;unfold Yv.v;refine Wc8 h x hx2 (λi b a=>ifF rfl (nilP (h.rS λcap d=>?_))) λb=>ifT rfl (h0 b);rw[←h.len]at a;refine(h.states cap).ixN (HW (SpA.is_get a)) ?_;have:=h1 i b;cases hb:s.is i<;>rw[hb]at this<;>simpa using this
theorem G8 {s:SpA}{i:Nat}(hi:i<s.tk.length)(v:Bool):((s.put i v).many:Int)=s.many+((if v then 1 else 0)-(if s.is i then 1 else 0)):=by
 have key:∀(l:List Bool) (i:Nat) (b:Bool),l[i]?=some b->(((l.set i v).count true:Nat):Int)=(l.count true:Nat)+((if v then 1 else 0)-(if b then 1 else 0)):=by
  intro l
  induction l with
  | nil=>intro i b h;simp at h
  | cons x l ih=>
   intro i b h;cases i with
   | zero=>
    simp at h;subst h;cases v<;>cases x<;>simp[List.count_cons]<;>omega
   | succ i=>
    have:=ih i b (by simpa using h);simp only[zCY,List.count_cons]
    push_cast
    omega
 exact key s.tk i _ (SpA.is_get hi)
theorem Waa (s:SpA):s.many<=s.tk.length:=zEG
theorem Wir (h:SpH σ p q c s){i:Nat}(hi:i<c.n)(v:Bool){sl:Sl}{G:Rg}(hs:SlR sl 1 (ints [i]) σ G){R:aP}(hR:∀σ',Ext (λb=>b=p\/b=q) σ σ'->SpH σ' p q c (s.put i v)->R σ') :
 Zh.c (aW p) (if v then 1 else 0) sl σ R:=by
 refine Zh.o ?_;unfold Zh.v;have J:sl.len=1:=hs.lenN;have U:=h.ok.n_le;have H:=h.len;have Q:=Waa s;have u:i<s.tk.length:=by omega
 have g:=G8 u v;refine ZS (a:=bN) (λ(t:Int) C=>t=0/\C=σ\/t=1/\Ext (λb=>b=p\/b=q) σ C/\SpH C p q c (s.put i v)) (λt _=>1-t.toNat) (.inl ⟨rfl,rfl⟩) ?_;rintro t C (⟨rfl,rfl⟩|⟨rfl,e,L⟩)
 ·refine ifDT O ?_;refine hs.ixN (i:=0) (x:=i) rfl (nilP (h.rI (λ_ _=>rfl) (nilP (h.rS λcap E=>?_))));refine(h.states cap).ixN (HW (SpA.is_get u)) ?_;have K:(0:Int)<=(if v then 1 else 0)/\(if v then(1:Int)else 0)<=1:=by cases v<;>simp
  have M:(0:Int)<=((if s.is i then 1 else 0:Nat):Int)/\((if s.is i then 1 else 0:Nat):Int)<=1:=by cases s.is i<;>simp
  have j:((if s.is i then 1 else 0:Nat):Int)=(if s.is i then 1 else 0):=by cases s.is i<;>rfl
  refine ar O O (ar O O (nilP ?_));obtain⟨N,D,hd⟩:=h.hd;obtain⟨r,y⟩:=h.row;refine hd.s1 aA λP z B=>?_;have d:=Ws z y (Ne.symm h.ne);refine nilP (B.rS rfl (ix O aC ?_));rw[add_lit];refine d.s0 (by simp[QE,Wa7];omega) λS A w=>?_;refine arN (m:=1) O O ⟨.inr ⟨rfl,?_,?_⟩,by decide⟩
  ·exact(Ext.of_only (F:=λb=>b=p\/b=q) z (.inl rfl)).trans (Ext.of_only A (.inr rfl))
  ·refine⟨⟨N,D,?_⟩,⟨r,?_⟩,h.ne,by simp[SpA.put,h.len],h.ok,h.fit⟩
   ·have:=Ws A B h.ne;rw[g,←j];exact this
   ·have e:(ints (tkN s.tk)++r).set (0+(i:Int).toNat*1) (.int .i64 (if v then 1 else 0))=ints (tkN (s.put i v).tk)++r:=by
     rw[List.set_append_left _ _ (by simp[QE,Wa7];omega)]
     congr 1
     simp only[SpA.put,Wnw,ints,zDJ];have:(0+(i:Int).toNat*1)=i:=by omega
     rw[this]
     congr 1
     cases v<;>rfl
    rw[e]at w;exact w
 ·exact ifDF O (hR _ e L)
theorem WmK (h:SpH σ p q c s){x:Int}{i:Nat}(hx2:x<=9223372036854775807)(ho:obj c s x=some i)(ht:s.is i=true){R:aN}(hR:∀σ',Ext (λb=>b=p\/b=q) σ σ'->SpH σ' p q c (s.put i false)->R 0 σ') :
 ZF.c (aW p) x σ R:=by
 refine ZF.o ?_;unfold ZF.v;refine Wc8 h x hx2 (λj m a=>ifF rfl (nilP (h.rS λcap g=>?_))) λr=>by rw[ho]at r;cases r
 rw[ho]at m;cases m;have d:i<s.tk.length:=by rw[h.len];exact a
 refine(h.states cap).ixN (HW (SpA.is_get d)) ?_;rw[ht];refine ifF rfl (nw (cs:=ints [i]) λv A e w=>?_);have z:=h.lt;exact Wir (h.keep0 e) a false (WaU w rfl) λσ' y u=>hR σ' (e.to.trans y) u
theorem Wlj (h:SpH σ p q c s){i:Nat}(hlow:low s=some i){R:Int->Int->Hp->Prop}(hR:∀σ',Ext (λb=>b=p\/b=q) σ σ'->SpH σ' p q c (s.put i true)->R ((at_ c s i:Nat):Int) 0 σ') :
 ZA.c (aW p) σ R:=by
 refine ZA.o ?_;unfold ZA.v;have D:=h.ok.n_le;have d:=zBQ.1 hlow;obtain⟨m,A,B⟩:=d;have g:s.tk[i]=false:=by simpa using A
 refine Waf h (ifF rfl (nilP (h.rS λcap y=>?_)));refine Wf4 (h.states cap) (by simp[Wa7,h.len];omega) 0 (λj x a=>?_) λa=>?_
 ·have w:j<s.tk.length:=by
   have:=(gSi.1 x).1
   rwa [Wa7]at this
  have r:j=i:=by
   rcases zCA j i with h1|h1|h1
   ·have:=B j h1;rw[HW (gGe w)]at x;have:s.tk[j]=true:=by simpa using this
    simp[this]at x
   ·exact h1
   ·exact absurd (by rw[HW (gGe m),g];rfl) (a i h1)
  subst r;rw[h.len]at m;refine ifDF O (nw (cs:=ints [j]) λv E e u=>?_);refine Wir (h.keep0 e) m true (WaU u rfl) λσ' C z=>Wcb z j O (hR σ' (e.to.trans C) z)
 ·exfalso;apply a;exact zE (i:=i) (by rw[HW (gGe m),g];rfl)
theorem Wl1 (h:SpH σ p q c s){R:Int->Int->Hp->Prop}(hR:∀σ',Ext0 σ σ'->R (s.st:Int) (c.pages:Int) σ'):ZJ.c (aW p) σ R:=by
 refine ZJ.o ?_;unfold ZJ.v;refine nw (cs:=[.int .i64 0,.int .i64 0]) λv u e r=>?_;have g:=h.keep0 e;refine Waf g (ifF rfl (nilP (g.rI (λ_ _=>rfl) (nilP (g.rI2 (λ_ _=>rfl) ?_)))));refine r.s1 aA λw j d=>d.s1 aA λv3 b a=>?_;refine a.rI rfl (a.rI rfl (hR _ ?_));exact Ext.fresh (Ext.fresh e (Ext.of_only (F:=(· = σ.size)) j rfl) λi m=>O) (Ext.of_only (F:=(· = σ.size)) b rfl) λi m=>by omega
theorem WgU (n:Nat):(List.replicate n [Value.int .i64 0]).flatten=ints (List.replicate n 0):=by
 induction n with
 | zero=>rfl
 | succ n ih=>simp only[zEU,zDU,ih];rfl
theorem Wma (hc:c.ok){st:Nat}(hf:st+c.pages<=1024){R:Option Addr->Int->Hp->Prop}(hR:∀σ' p q,Ext0 σ σ'->σ.size<=p->σ.size<=q->SpH σ' p q c ⟨st,List.replicate c.n false⟩->R (some ⟨p,0,none⟩) 0 σ') :
 Kv.c (st:Int) c.size c.pages c.batch σ R:=by
 refine Kv.o ?_;unfold Kv.v;have D:=hc;unfold Cls.ok at D;have S:=hc.n_le;refine nw (cs:=[.int .i64 c.size,.int .i64 c.pages,.int .i64 c.batch]) λv N e y=>?_;refine y.rI rfl (y.rI rfl (y.rI rfl (UB _ _ _ (λg F E C K B A=>?_) λw=>?_)))
 case refine_2=>rw[(Uh c).2 hc]at w;cases w
 have:g=c:=by
  obtain⟨a,b,d⟩:=c;obtain⟨L,Q,P⟩:=g;simp only at E C K
  congr 1<;>omega
 subst this;have i:=A.blk y id;refine JnB.intro (ifF rfl (JnB.intro (ifDF O (i.rI rfl (arN (m:=1024-g.pages) O O (ifDF O ?_))))));refine⟨λx=>Blk x σ.size [.int .i64 g.size,.int .i64 g.pages,.int .i64 g.batch],i,⟨_,λx u=>by rw[add_lit,u.cell];rfl,⟨_,λx u=>by rw[add_lit,u.cell];rfl,⟨_,λx u=>by rw[add_lit,u.cell];rfl,?_⟩⟩⟩⟩;refine mk O O λM G j s=>⟨j.blk i id,nw (cs:=[.int .i64 (st:Int),.int .i64 g.size,.int .i64 g.pages,.int .i64 g.batch,.slice (some ⟨B.size,0,none⟩) g.n g.n,.int .i64 0]) λv3 H r z=>⟨(j.trans r).blk i id,?_⟩⟩;rw[WgU]at s;have J:=A.1;refine hR _ _ _ (((e.trans A).trans j).trans r) O (show σ.size<=B.size by omega) ⟨⟨g.n,zD _,?_⟩,⟨[],?_⟩,O,by simp,hc,hf⟩
 ·have:SpA.many ⟨st,List.replicate g.n false⟩=0:=by simp[SpA.many,zFM]
  rw[this];exact z
 ·have:tkN (List.replicate g.n false)=List.replicate g.n 0:=by simp[tkN]
  rw[this,zy];exact r.blk s id
end Go.Ar
namespace Go.Proofs
open Go.Vc
set_option maxRecDepth 100000
def Ya.h:Hn:=.q .o1 (.q (.q .o3 .aK) (.q .o1 (.q (.q .o6 (.k (.loop [(3,.one .s),(14,.I)] (.q .o1 (.q (.c .l .l) (.q (.k (.q .o4 .o7)) .o2)))))) .aL)))
def Ya.v (a:R2)(b:Hp)(c:Sl->Hp->Prop):Prop:=WB.c a b λd e=>If (!d) (c ⟨none,0,0⟩ e) (bE a 3 e λg=>W8 [.s,bN] (λh=>h ⟨none,0,0⟩ 0 e) λi (j:Sl) (k:Int) l=>If (k<((g.len:Nat):Int)) (Ix g.a g.len k 3 λm=>aQ m 0 l λn=>aQ m 1 l λo=>aY m 2 l λp=>aV #[.I 0,.I 0,.pointer none] 210 l λq r=>aR q 0 (.I n) r λs=>aR q 1 (.I o) s λt=>aR q 2 (.pointer p) t λu=>aY q 2 u λv=>ZJ.c v u λw x y=>aV #[.I w,.I x] 92 y λz aa=>App j 2 16 92 [.I 0,.I 0] ⟨some z,1,1⟩ aa λab ac=>bL (k+1) λad=>i ab ad ac) (c j l))
theorem Ya.o {a b c}(d:Ya.v a b c):Ya.c a b c:=Wa Tryz.func107 (x:=Ya.h) (R0 d)
def YB.h:Hn:=.q .o1 (.q (.q .o3 .aK) (.q .o1 (.q (.q .o6 (.k (.loop [(3,.I),(14,.I)] (.q .o1 (.q (.c .l .l) (.q (.k (.q .o4 (.reg (.held true [] (.tk [0,1,2,4,5,6] (.all [(3,.tk [7,8,9] (.done))])))))) .o2)))))) .aL)))
def YB.v (a:R2)(b:Hp)(c:aN):Prop:=WB.c a b λd e=>If (!d) (c 0 e) (bE a 3 e λg=>W8 [bN,bN] (λh=>h 0 0 e) λi (j:Int) (k:Int) l=>If (k<((g.len:Nat):Int)) (Ix g.a g.len k 3 λm=>aQ m 0 l λn=>aQ m 1 l λo=>aY m 2 l λp=>aV #[.I 0,.I 0,.pointer none] 210 l λq r=>aR q 0 (.I n) r λs=>aR q 1 (.I o) s λt=>aR q 2 (.pointer p) t λu=>Held u λv=>aU v q 2 λw=>LdH v bN ((q.add 0).add 0) λ(x:Int)=>X0.c w u λy z=>And (v z) <| bL (y-x) λaa=>bL (j+aa) λab=>bL (k+1) λac=>i ab ac z) (c j l))
theorem YB.o {a b c}(d:YB.v a b c):YB.c a b c:=Wa Tryz.func109 (x:=YB.h) (R0 d)
def YC.h:Hn:=.q .o2 (.q (.q .o3 .aJ) (.q .o4 (.q (.q .o2 .aJ) (.q (.o 11) (.q (.oq 16) .l)))))
def YC.v (a:R2)(b:Int)(c:Hp)(d:Int->Int->Hp->Prop):Prop:=WB.c a c λe f=>If (!e) (d 0 5 f) (XZ.c a b f λg h=>If g.isNone (d 0 8 h) (bF g 2 h λj=>Yf.c j b h λk l m=>NilP g λn=>bM ((n.add 0).add 1) m λo=>bL (o*256) λp=>NilP a λq=>bM ((q.add 0).add 0) m λr=>bL (k*r) λs=>bL (p+s) λt=>d t 0 m))
theorem YC.o {a b c d}(e:YC.v a b c d):YC.c a b c d:=Wa Tryz.func115 (x:=YC.h) (R0 e)
def WB.h:Hn:=.q .o1 (.q (.reg (.seq [.op,.op,.op,.grd true 6 (RI.ops 6),.op])) .l)
def WB.v (a:R2)(b:Hp)(c:aO):Prop:=JnB (λd e=>c d e) λf=>If (!a.isNone) (NilP a λg=>bM ((g.add 0).add 0) b λh=>f (decide (h>0)) b) (f false b)
theorem WB.o {a b c}(d:WB.v a b c):WB.c a b c:=Wa Tryz.func137 (x:=WB.h) (R0 d)
def XZ.h:Hn:=.q .o1 (.q (.q .o6 (.k (.loop [(13,.I)] (.q .o1 (.q (.c .l .l) (.q (.k (.q .o2 (.q (.o 15) (.q .o2 (.c (.q .o7 .l) .l))))) .o2)))))) .aM)
def XZ.v (a:R2)(b:Int)(c:Hp)(d:Option Addr->Hp->Prop):Prop:=bE a 3 c λf=>W8 [bN] (λg=>g 0 c) λh (i:Int) j=>If (i<((f.len:Nat):Int)) (bE a 3 j λl=>Ix l.a l.len i 3 λm=>aY m 2 j λn=>Yf.c n b j λo p q=>If (p==0) (bE a 3 q λs=>Ix s.a s.len i 3 λt=>d (some t) q) (bL (i+1) λu=>h u q)) (d none j)
theorem XZ.o {a b c d}(e:XZ.v a b c d):XZ.c a b c d:=Wa Tryz.func145 (x:=XZ.h) (R0 e)
def Qf.h:Hn:=.q .o3 (.q (.q .o7 (.q .o2 .aJ)) (.q .o5 .l))
def Qf.v (a b c:Int)(d:Hp)(e:Option Addr->Int->Hp->Prop):Prop:=aV #[.I a,.I b,.I c] 31 d λf g=>aQ f 0 g λh=>aQ f 1 g λi=>aQ f 2 g λj=>Zd.c h i j g λk l m=>If (l != 0) (e none 1 m) (aQ f 0 m λn=>aQ f 1 m λo=>aQ f 2 m λp=>aV #[.I n,.I o,.I p,.slice none 0 0] 205 m λq r=>e (some q) 0 r)
theorem Qf.o {a b c d e}(f:Qf.v a b c d e):Qf.c a b c d e:=Wa Tryz.func156 (x:=Qf.h) (R0 f)
def WY.h:Hn:=.q .o1 (.q (.q .o3 .aK) (.q .o1 (.q .o10 .aL)))
def WY.v (a:R2)(b:Hp)(c:Sl->Hp->Prop):Prop:=WB.c a b λd e=>If (!d) (c ⟨none,0,0⟩ e) (aV #[.slice none 0 0] 51 e λf g=>bE a 3 g λi=>Wf.c i ⟨228,#[],#[.pointer (some f)]⟩ g λj k=>NilP a λl=>aR l 3 (.slice j.a j.len j.cap) k λm=>LdS f m λn=>c n m)
theorem WY.o {a b c}(d:WY.v a b c):WY.c a b c:=Wa Tryz.func190 (x:=WY.h) (R0 d)
def Xf.h:Hn:=.q .o2 (.q (.k (.q .o4 (.c .aL (.q .o3 .aJ)))) (.q .o1 (.q (.k (.loop [(6,.one .s)] (.q (.q .o4 (.c .l .l)) (.k (.q .o7 (.q (.q .o2 (.c .l .l)) .o5)))))) (.q .o3 .l))))
def Xf.v (a:R2)(b:Int)(c:Hp)(d:Sl->Int->Hp->Prop):Prop:=WB.c a c λe f=>If (!e) (d ⟨none,0,0⟩ 5 f) (If (b<0) (d ⟨none,0,0⟩ 1 f) (W8 [.s] (λg=>g ⟨none,0,0⟩ f) λh (i:Sl) j=>If (((i.len:Nat):Int)<b) (Y3.c a j λk l m=>If (!l) (d i 0 m) (aV #[.I k] 3 m λn o=>App i 1 8 3 [.I 0] ⟨some n,1,1⟩ o λp q=>h p q)) (d i 0 j)))
theorem Xf.o {a b c d}(e:Xf.v a b c d):Xf.c a b c d:=Wa Tryz.func214 (x:=Xf.h) (R0 e)
def Za.h:Hn:=.q .o1 (.q (.q .o3 .aK) (.q (.o 11) (.q (.q .o2 .aJ) (.q (.q .o6 (.k (.loop [(31,.I)] (.q .o1 (.q (.c .l .l) (.q (.k (.q .o4 (.q (.oq 17) .aK))) .o2)))))) (.q (.o 11) (.q (.o 15) .aM))))))
def Za.v (a:R2)(b:Int)(c:Hp)(d:aN):Prop:=WB.c a c λe f=>If (!e) (d 5 f) (NilP a λg=>bM ((g.add 0).add 0) f λh=>bM ((g.add 0).add 1) f λi=>bM ((g.add 0).add 2) f λj=>Kv.c b h i j f λk l m=>If (l != 0) (d l m) (bE a 3 m λo=>W8 [bN] (λp=>p 0 m) λq (r:Int) s=>If (r<((o.len:Nat):Int)) (Ix o.a o.len r 3 λt=>aQ t 0 s λu=>aQ t 1 s λv=>aY t 2 s λw=>aV #[.I 0,.I 0,.pointer none] 210 s λx y=>aR x 0 (.I u) y λz=>aR x 1 (.I v) z λaa=>aR x 2 (.pointer w) aa λab=>bM ((x.add 0).add 1) ab λac=>bM ((x.add 0).add 1) ab λad=>bL ((if b>ac then b else ac)-(if b<ad then b else ad)) λae=>NilP a λaf=>bM ((af.add 0).add 1) ab λag=>If (ae<ag) (d 9 ab) (bL (r+1) λah=>q ah ab)) (bE a 3 s λaj=>Wb.c aj b ⟨258,#[],#[]⟩ s λak al am=>bE a 3 am λao=>aV #[.I 0,.I b,.pointer k] 210 am λap aq=>Wh.c ao ak ⟨some ap,1,1⟩ aq λar au=>NilP a λav=>aR av 3 (.slice ar.a ar.len ar.cap) au λaw=>d 0 aw)))
theorem Za.o {a b c d}(e:Za.v a b c d):Za.c a b c d:=Wa Tryz.func216 (x:=Za.h) (R0 e)
def Yb.h:Hn:=.q .o2 (.sjn [] (.q .o4 (.c (.reg (.held true [6] (.tk [0,1,2] (.all [(3,.all [(4,.all [(5,.all [(6,.done)])])])])))) .l)) (.q .o5 .l))
def Yb.v (a b:Int)(c:R2)(d:Addr)(e:Hp)(f:aO):Prop:=aV #[.I a,.I b,.pointer c] 210 e λg h=>Jn [] (λi=>bM ((g.add 0).add 0) i λj=>f (j==0) i) λk=>bM ((g.add 0).add 0) h λl=>If (l==0) (Held h λm=>LdH m .s d λ(n:Sl)=>aU m g 2 λo=>ZJ.c o h λp q r=>And (m r) <| aV #[.I p,.I q] 92 r λs t=>And (m t) <| App n 2 16 92 [.I 0,.I 0] ⟨some s,1,1⟩ t λu v=>And (m v) <| St1 d (.slice u.a u.len u.cap) v λw=>k w) (k h)
theorem Yb.o {a b c d e f}(g:Yb.v a b c d e f):Yb.c a b c d e f:=Wa Tryz.func228 (x:=Yb.h) (R0 g)
def Y4.h:Hn:=.q .o2 (.q (.q .o3 .aJ) (.q .o1 (.q (.q .o3 (.k (.loop [(6,.one .b),(19,.I)] (.q .o1 (.q (.c .l .l) (.q (.k (.q .o5 (.q .o8 (.q (.q .o2 (.c (.q .o3 .l) .l)) (.reg (.seq [.op,.op,.grd false 2 [.op,.op],.op,.grd false 5 (RI.ops 5),.op])))))) .o2)))))) (.q (.q .o1 .aJ) (.q (.q .o3 (.k (.loop [(49,.I)] (.q .o1 (.q (.c .l .l) (.q (.k (.q .o3 (.q .o4 (.q .o6 .o10)))) .o2)))))) (.q .o4 .l))))))
def Y4.v (a:R2)(b:Sl)(c:Hp)(d:Sl->Int->Hp->Prop):Prop:=WB.c a c λe f=>If (!e) (d ⟨none,0,0⟩ 5 f) (W8 [.b,bN] (λg=>g false 0 f) λh (i:Bool) (j:Int) k=>If (j<((b.len:Nat):Int)) (Ix b.a b.len j 1 λl=>bM l k λm=>W9.c a m k λn o p=>If (o != 0) (d ⟨none,0,0⟩ o p) (JnB (λq r=>JnB (λs t=>bL (j+1) λu=>h s u t) λv=>If q (v true r) (SlcL b 1 0 j (b.cap:Nat) λw=>Wo.c w m r λx y=>v x y)) λz=>If i (z true p) (z (!n) p))) (If i (d ⟨none,0,0⟩ 9 k) (W8 [bN] (λaa=>aa 0 k) λab (ac:Int) ad=>If (ac<((b.len:Nat):Int)) (Ix b.a b.len ac 1 λae=>bM ae ad λaf=>XZ.c a af ad λag ah=>bF ag 2 ah λaj=>ZF.c aj af ah λak al=>NilP ag λam=>bM ((am.add 0).add 0) al λan=>bL (an-1) λao=>NilP ag λap=>St1 ((ap.add 0).add 0) (.I ao) al λaq=>bL (ac+1) λar=>ab ar aq) (WY.c a ad λau av=>d au 0 av))))
theorem Y4.o {a b c d}(e:Y4.v a b c d):Y4.c a b c d:=Wa Tryz.func246 (x:=Y4.h) (R0 e)
def Y3.h:Hn:=.q .o2 (.q .o1 (.q (.q .o6 (.k (.loop [(4,.one .p),(14,.I)] (.q .o1 (.q (.c .l .l) (.q (.k (.q .o2 (.q .o7 (.q (.reg (.heldJ true [] [(48,.one .b)] (.tk [0,1,2,3,4,5,6,7,8] (.all [(9,.take 10 (.take 11 (.split 34 (.take 12 (.take 13 (.take 14 (.split 37 (.take 15 (.take 16 (.take 17 (.take 18 (.take 19 (.take 20 (.take 21 (.take 22 (.take 23 (.take 24 (.take 25 (.done)))))))))))) (.take 15 (.take 16 (.take 17 (.take 19 (.take 20 (.take 21 (.all [(18,.all [(22,.all [(23,.take 24 (.take 25 (.done)))])]),(22,.all [(18,.all [(23,.take 24 (.take 25 (.done)))])])]))))))))))) (.take 12 (.take 13 (.take 14 (.take 15 (.take 16 (.take 17 (.take 18 (.take 19 (.take 20 (.take 21 (.take 22 (.take 23 (.take 24 (.take 25 (.done))))))))))))))))))])))) (.c .o2 .l))))) .o2)))))) (.q (.q .o2 .aJ) (.q .o10 (.q .o10 (.q .o3 .l))))))
def Y3.v (a:R2)(b:Hp)(c:Int->Bool->Hp->Prop):Prop:=bE a 3 b λe=>W8 [.p,bN] (λf=>f none 0 b) λg (h:R2) (i:Int) j=>If (i<((e.len:Nat):Int)) (bE a 3 j λl=>Ix l.a l.len i 3 λm=>Jn [.b] (λ(n:Bool) o=>If n (bL (i+1) λp=>g (some m) p o) (bL (i+1) λq=>g h q o)) λr=>Held j λs=>NilP (some m) λt=>LdH s bN ((t.add 0).add 0) λ(u:Int)=>NilP (some m) λv=>aU s v 2 λw=>X0.c w j λx y=>And (s y) <| If (u<x) (If h.isNone (r true y) (NilP (some m) λz=>NilP h λaa=>(bM ((z.add 0).add 0) y λab=>bM ((z.add 0).add 1) y λac=>And (s y) <| bM ((aa.add 0).add 0) y λad=>bM ((aa.add 0).add 1) y λae=>And (s y) <| W5.c ab ac ad ae y λaf ag=>And (s ag) <| r af ag) ∧ (bM ((aa.add 0).add 0) y λah=>bM ((aa.add 0).add 1) y λai=>And (s y) <| bM ((z.add 0).add 0) y λaj=>bM ((z.add 0).add 1) y λak=>And (s y) <| W5.c aj ak ah ai y λal am=>And (s am) <| r al am))) (r false y)) (If h.isNone (c 0 false j) (bF h 2 j λao=>ZA.c ao j λap aq ar=>NilP h λau=>bM ((au.add 0).add 0) ar λav=>bL (av+1) λaw=>NilP h λax=>St1 ((ax.add 0).add 0) (.I aw) ar λay=>c ap true ay))
theorem Y3.o {a b c}(d:Y3.v a b c):Y3.c a b c:=Wa Tryz.func251 (x:=Y3.h) (R0 d)
def YW.h:Hn:=.q .o2 (.q .o6 .l)
def YW.v (a b:Int)(c:R2)(d:Int)(e:Hp)(f:aN):Prop:=aV #[.I a,.I b,.pointer c] 210 e λg h=>bM ((g.add 0).add 1) h λi=>bL (i-d) λj=>f j h
theorem YW.o {a b c d e f}(g:YW.v a b c d e f):YW.c a b c d e f:=Wa Tryz.func258 (x:=YW.h) (R0 g)
def W9.h:Hn:=.q .o2 (.q (.q .o3 .aJ) (.q .o4 (.q (.q .o2 .aJ) (.q .o10 .l))))
def W9.v (a:R2)(b:Int)(c:Hp)(d:Bool->Int->Hp->Prop):Prop:=WB.c a c λe f=>If (!e) (d false 5 f) (XZ.c a b f λg h=>If g.isNone (d false 8 h) (bF g 2 h λj=>Yv.c j b h λk l m=>d k l m))
theorem W9.o {a b c d}(e:W9.v a b c d):W9.c a b c d:=Wa Tryz.func263 (x:=W9.h) (R0 e)
def W5.h:Hn:=.q .o3 (.q (.reg (.seq [.op,.op,.op,.op,.op,.op,.grd false 12 [.op,.op,.op,.op,.op,.op,.grd true 5 (RI.ops 5)],.op])) .l)
def W5.v (a b c d:Int)(e:Hp)(f:aO):Prop:=aV #[.I a,.I b] 207 e λg h=>aV #[.I c,.I d] 207 h λi j=>aQ g 0 j λk=>aQ i 0 j λl=>JnB (λm n=>f m n) λo=>If (k>l) (o true j) (aQ g 0 j λp=>aQ i 0 j λq=>JnB (λr s=>o r s) λt=>If (p==q) (aQ g 1 j λu=>aQ i 1 j λv=>t (decide (u<v)) j) (t false j))
theorem W5.o {a b c d e f}(g:W5.v a b c d e f):W5.c a b c d e f:=Wa Tryz.func276 (x:=W5.h) (R0 g)
end Go.Proofs
namespace Go.Ar
open Go Go.Vc Go.Proofs
variable {σ:Hp}{F:Rg}{p:Nat}{c:Cls}{ps:List (Nat×Nat)}{ss:List SpA}
def blks (ps:List (Nat×Nat)):List Nat:=ps.flatMap λx=>[x.1,x.2]
theorem Hs {ps:List (Nat×Nat)}{b:Nat}:b∈blks ps↔∃x∈ps,b=x.1\/b=x.2:=by simp[blks]
def entV:List (Nat×Nat)->List SpA->List Value
 | x::ps,s::ss=>.int .i64 (s.many:Int) :: .int .i64 (s.st:Int) :: .pointer (some ⟨x.1,0,none⟩)::entV ps ss
 | _,_=>[]
theorem Q5:∀{ps:List (Nat×Nat)} {ss:List SpA},ps.length=ss.length->(entV ps ss).length=3*ss.length
 | [],[],_=>rfl
 | x::ps,s::ss,h=>by simp only[entV,zP]at *;rw[Q5 O];omega
theorem Qw:∀{ps:List (Nat×Nat)} {ss:List SpA} {i:Nat} {x:Nat×Nat} {s:SpA},ps[i]?=some x->ss[i]?=some s →
 (entV ps ss)[3*i]?=some (.int .i64 (s.many:Int))/\(entV ps ss)[3*i+1]?=some (.int .i64 (s.st:Int))/\(entV ps ss)[3*i+2]?=some (.pointer (some ⟨x.1,0,none⟩))
 | [],_,_,_,_,h,_=>by simp at h
 | _::_,[],_,_,_,_,h=>by simp at h
 | y::ps,t::ss,0,x,s,h1,h2=>by simp at h1 h2;subst h1;subst h2;simp[entV]
 | y::ps,t::ss,i+1,x,s,h1,h2=>by
  have:=Qw (ps:=ps) (ss:=ss) (i:=i) (by simpa using h1) (by simpa using h2);simp only[entV];rw[show 3*(i+1)=3*i+3 by omega];simpa using this
theorem Vh:∀{ps ps':List (Nat×Nat)} {ss ss':List SpA},ps.length=ss.length->entV (ps++ps') (ss++ss')=entV ps ss++entV ps' ss'
 | [],_,[],_,_=>rfl
 | x::ps,_,s::ss,_,h=>by simp only[zAL,entV,Vh (ps:=ps) (ss:=ss) (by simpa using h)]
theorem WdB:∀{ps:List (Nat×Nat)} {ss:List SpA},∀v∈entV ps ss,one1 v=true
 | [],_,v,h=>by simp[entV]at h
 | _::_,[],v,h=>by simp[entV]at h
 | x::ps,s::ss,v,h=>by
  simp only[entV,zQ]at h;rcases h with rfl|rfl|rfl|h
  ·rfl
  ·rfl
  ·rfl
  ·exact WdB v h
structure CeH (σ:Hp) (F:Rg) (p:Nat) (c:Cls) (ps:List (Nat×Nat)) (ss:List SpA):Prop where
 hd:∃sl:Sl,Blk σ p [.int .i64 (c.size:Int),.int .i64 (c.pages:Int),.int .i64 (c.batch:Int),.slice sl.a sl.len sl.cap]/\RowR sl 3 (entV ps ss) σ (λb=>F b/\b≠p/\b∉blks ps)
 sp:∀(i:Nat) (x:Nat×Nat) s,ps[i]?=some x->ss[i]?=some s->SpH σ x.1 x.2 c s
 fp:F p
 fb:∀b∈blks ps,F b
 nd:(p::blks ps).Nodup
 len:ps.length=ss.length
 ok:c.ok
 srt:ss.Pairwise (λa b=>a.st<b.st)
theorem CeH.loc:Lcl λσ F=>CeH σ F p c ps ss:=λσ C F G h L j=>by
 obtain⟨sl,a,u⟩:=h.hd;have keep:∀b,b<σ.size->F b->C[b]?=σ[b]? := λb a d=>(j b a d).2;have z:∀{b:Nat} {cs:List Value},Blk σ b cs->F b->Blk C b cs:=by
  rintro b cs ⟨e,D⟩ d;exact⟨e,(keep b (Blk.lt ⟨e,D⟩) d).trans D⟩
 have lt:∀b∈blks ps,b<σ.size:=by
  intro b a;obtain⟨x,m,y⟩:=Hs.1 a;obtain⟨i,B⟩:=zN m;have w:=(gSi.1 B).1;have:=(h.sp i x _ B (gGe (by rw[←h.len];exact w))).lt;rcases y with rfl|rfl
  ·exact this.1
  ·exact this.2
 refine⟨⟨sl,z a h.fp,RowR.loc _ _ _ _ _ _ _ u L λb a d=>⟨⟨(j b a d.1).1,d.2⟩,(j b a d.1).2⟩⟩,λi x s m A=>?_,(j p a.lt h.fp).1,λb a=>(j b (lt b a) (h.fb b a)).1,h.nd,h.len,h.ok,h.srt⟩;have g:=h.sp i x s m A;have K:x.1∈blks ps:=Hs.2 ⟨x,zE m,.inl rfl⟩;have E:x.2∈blks ps:=Hs.2 ⟨x,zE m,.inr rfl⟩;obtain⟨J,H,hd⟩:=g.hd;obtain⟨r,u⟩:=g.row;exact⟨⟨J,H,z hd (h.fb _ K)⟩,⟨r,z u (h.fb _ E)⟩,g.ne,g.len,g.ok,g.fit⟩
theorem CeH.keep0 {σ':Hp}(h:CeH σ F p c ps ss)(e:Ext0 σ σ'):CeH σ' F p c ps ss:=Lcl.keep0 CeH.loc h e
theorem CeH.few (h:CeH σ F p c ps ss):ss.length<=1024:=by
 have key:∀i (hi:i<ss.length),i<=ss[i].st:=by
  intro i
  induction i with
  | zero=>intro _;omega
  | succ i ih=>
   intro hi;have e:=ih O;have b:=zAE.1 h.srt i (i+1) O hi O;omega
 rcases zET ss.length with h0|h0
 ·omega
 ·have a:ss.length-1<ss.length:=by omega
  have e:=key _ a;have d:ss.length-1<ps.length:=by rw[h.len];exact a
  have b:=(h.sp _ _ _ (gGe d) (gGe a)).fit;have:=h.ok.2.2.2.1;omega
structure EnR (σ:Hp) (F:Rg) (p:Nat) (ps:List (Nat×Nat)) (ss:List SpA) (sl:Sl) (rb:Nat) (cs:List Value):Prop where
 a:sl.a=some ⟨rb,0,none⟩
 blk:Blk σ rb cs
 fr:F rb/\rb≠p/\rb∉blks ps
 get:∀{j:Nat} {v:Value},(entV ps ss)[j]?=some v->cs[j]?=some v
 lenC:3*ss.length<=cs.length
theorem CeH.sl (h:CeH σ F p c ps ss):∃sl:Sl,Blk σ p [.int .i64 (c.size:Int),.int .i64 (c.pages:Int),.int .i64 (c.batch:Int),.slice sl.a sl.len sl.cap]/\sl.len=ss.length/\(ss≠[]->∃rb cs,EnR σ F p ps ss sl rb cs):=by
 obtain⟨sl,m,i⟩:=h.hd;have r:=i.1;rw[Q5 h.len]at r;refine⟨sl,m,O,λe=>?_⟩;have g:0<ss.length:=zCG.2 e;rcases i.2 with⟨h0,_⟩|⟨b,cs,hq,ha,hbb,hle,hcl,ht⟩
 ·omega
 ·refine⟨b,cs,ha,hbb,hq,λ{j v} d=>?_,?_⟩
  ·rw[←ht,zX]at d;split at d
   ·exact d
   ·cases d
  ·have:=congrArg List.length ht;rw[zO,Q5 h.len]at this;omega
theorem CeH.at_i (h:CeH σ F p c ps ss){i:Nat}(hi:i<ss.length):∃x s,ps[i]?=some x/\ss[i]?=some s/\SpH σ x.1 x.2 c s:=by
 have a:i<ps.length:=by rw[h.len];exact hi
 have b:ps[i]?=some ps[i]:=gGe a;exact⟨_,_,b,gGe hi,h.sp i _ _ b (gGe hi)⟩
theorem KX (h:CeH σ F p c ps ss){R:aO}(hR:R true σ):WB.c (aW p) σ R:=by
 refine WB.o ?_;unfold WB.v;obtain⟨sl,b,d,e⟩:=h.sl;have a:=h.ok;unfold Cls.ok at a;refine JnB.intro (ifT rfl (nilP (b.rI2 rfl ?_)));rw[zW O];exact hR
def I63 (x:Int):Prop:=x<=9223372036854775807
theorem WhY (h:CeH σ F p c ps ss)(x:Int)(hx:I63 x){R:Option Addr->Hp->Prop}(h0:ofS c ss x=none->R none σ)
 (h1:∀(i:Nat) sl rb cs,ofS c ss x=some i->i<ss.length->Blk σ p [.int .i64 (c.size:Int),.int .i64 (c.pages:Int),.int .i64 (c.batch:Int),.slice sl.a sl.len sl.cap]->EnR σ F p ps ss sl rb cs->R (some ⟨rb,3*i,none⟩) σ):XZ.c (aW p) x σ R:=by
 refine XZ.o ?_;unfold XZ.v;obtain⟨sl,A,S,K⟩:=h.sl;have D:=h.few;refine nilP (A.rS rfl ?_);refine ZS (a:=bN) (λ(t:Int) G=>∃i:Nat,t=(i:Int)/\i<=ss.length/\G=σ/\∀(j:Nat) s,j<i->ss[j]?=some s->idx c s x=none) (λt _=>ss.length-t.toNat) ⟨0,rfl,O,rfl,λj s y=>O⟩ ?_;rintro t G ⟨i,rfl,Q,rfl,g⟩;refine ifD (λB=>?_) λC=>?_
 ·simp only at B;have b:i<ss.length:=by omega
  obtain⟨N,s,H,z,M⟩:=h.at_i b;obtain⟨rb,cs,E⟩:=K (by rintro rfl;simp at b);have L:=Qw H z;refine nilP (A.rS rfl ?_);rw[E.a];refine ix O O ?_;rw[add_lit];refine E.blk.rP (x:=some ⟨N.1,0,none⟩) ?_ ?_
  ·have:=E.get L.2.2;rw[show 0+(i:Int).toNat*3+2=3*i+2 by omega];exact this
  have u:∀r,idx c s x=some r->ofS c ss x=some i:=by
   intro r w;refine zBQ.2 ⟨b,?_,λj y=>?_⟩
   ·have:ss[i]=s:=by rw[gGe b]at z;simpa using z
    rw[this,w];rfl
   ·rw[g j _ y (gGe O)];simp
  refine Wb3 M x hx (λr w=>ifT rfl (nilP (A.rS rfl ?_))) λP=>ifF rfl ?_
  ·rw[E.a];refine ix O O ?_;rw[add_lit,show 0+(i:Int).toNat*3=3*i by omega];exact h1 i sl rb cs (u r w) b A E
  ·refine arN (m:=i+1) O O ⟨⟨i+1,rfl,O,rfl,λj J y d=>?_⟩,O⟩;by_cases e:j=i
   ·subst e;rw[z]at d;cases d;exact P
   ·exact g j J O d
 ·refine h0 ?_;refine zDT.2 λs z=>?_;obtain⟨j,y⟩:=zN z;have:=(gSi.1 y).1;rw[g j s (by simp only at C;omega) y];rfl
theorem VM {x:Int}{k:Nat}{s:SpA}(hk:ofS c ss x=some k)(hs:ss[k]?=some s):isTk c ss x=(obj c s x).map s.is:=by
 unfold isTk;rw[hk];simp only[hs];rfl
theorem WaV {x:Int}(hk:ofS c ss x=none):isTk c ss x=none:=by unfold isTk;rw[hk]
theorem Wak (h:CeH σ F p c ps ss)(x:Int)(hx:I63 x){R:Bool->Int->Hp->Prop}(h1:∀b,isTk c ss x=some b->R b 0 σ)(h0:isTk c ss x=none->R false 8 σ):W9.c (aW p) x σ R:=by
 refine W9.o ?_;unfold W9.v;refine KX h (ifF rfl (WhY h x hx (λd=>ifT rfl (h0 (WaV d))) λi sl A B a m C E=>ifF rfl (nilP ?_)));obtain⟨y,s,w,g,u⟩:=h.at_i m;have r:=Qw w g;refine E.blk.rP (x:=some ⟨y.1,0,none⟩) (E.get r.2.2) ?_;have e:=VM a g;exact WeZ u x hx (λj z=>h1 _ (by rw[e,z];rfl)) λd=>h0 (by rw[e,d];rfl)
theorem Gy {x:Int}{k:Nat}{s:SpA}(hk:ofS c ss x=some k)(hs:ss[k]?=some s):Wb8 c ss x=(idx c s x).map (at_ c s):=by
 unfold Wb8;rw[hk];simp only[hs]
theorem WbN {x:Int}(hk:ofS c ss x=none):Wb8 c ss x=none:=by unfold Wb8;rw[hk]
theorem Wnm {x:Int}{k:Nat}{s:SpA}(hk:ofS c ss x=some k)(hs:ss[k]?=some s):∃i,idx c s x=some i:=by
 obtain⟨b,a,_⟩:=zBQ.1 hk;have:ss[k]=s:=by rw[gGe b]at hs;simpa using hs
 rw[this]at a;exact zCB.1 a
theorem Wlq (h:CeH σ F p c ps ss)(x:Int)(hx:I63 x){R:Int->Int->Hp->Prop}(h1:∀a,Wb8 c ss x=some a->R (a:Int) 0 σ)(h0:Wb8 c ss x=none->R 0 8 σ):YC.c (aW p) x σ R:=by
 refine YC.o ?_;unfold YC.v;refine KX h (ifF rfl (WhY h x hx (λe=>ifT rfl (h0 (WbN e))) λi sl J M b C G E=>ifF rfl (nilP ?_)));obtain⟨H,s,A,w,u⟩:=h.at_i C;have z:=Qw A w;obtain⟨r,g⟩:=Wnm b w;have B:=Gy b w;have D:=h.ok;unfold Cls.ok at D;have j:=((V6 O).1 g).2.2;rw[u.len]at j;have e:=h.ok.n_le;have y:=u.fit;have K:r*c.size<=128*512:=zAF O O;refine E.blk.rP (x:=some ⟨H.1,0,none⟩) (E.get z.2.2) ?_;refine Wb3 u x hx (λL d=>?_) λe=>by rw[g]at e;cases e
 rw[g]at d;cases d;refine nilP (E.blk.rI2 (x:=s.st) (E.get z.2.1) (arN (m:=s.st*256) aA O (nilP (G.rI2 rfl ?_))));refine arN (m:=r*c.size) aA O (arN (m:=at_ c s r) (by simp[at_]) (by unfold at_;omega) (h1 _ (by rw[B,g];rfl)))
theorem WaS {h:Hp}{rb i:Nat}{cs:List Value}{x y:Int}{z:Option Addr}{e:Nat}(hb:Blk h rb cs)(h0:cs[3*i]?=some (.int .i64 x))(h1:cs[3*i+1]?=some (.int .i64 y))(h2:cs[3*i+2]?=some (.pointer z))
 {K:Int->Int->Option Addr->Prop} (hK:K x y z):LdI .i64 (Addr.add ⟨rb,3*i,none⟩ 0) h λu=>LdI .i64 (Addr.add ⟨rb,3*i,none⟩ 1) h λv=>LdP (Addr.add ⟨rb,3*i,none⟩ 2) h λw=>K u v w:=
 hb.rI h0 (hb.rI h1 (hb.rP h2 hK))
theorem WfC {h:Hp}{x y:Int}{z:Option Addr}{e:Nat}{K:Addr->Hp->Prop}(hK:∀h',Ext0 h h'->Blk h' h.size [.int .i64 x,.int .i64 y,.pointer z]->K ⟨h.size,0,none⟩ h') :
 Nw (.cells #[.int .i64 0,.int .i64 0,.pointer none] e (0,0)) h λn v=>St1 (n.add 0) (.int .i64 x) v λv1=>St1 (n.add 1) (.int .i64 y) v1 λv2=>St1 (n.add 2) (.pointer z) v2 λv3=>K n v3:=by
 refine nw (cs:=[.int .i64 0,.int .i64 0,.pointer none]) λv m e d=>d.s1 aA λv1 o1 j=>j.s1 aA λv2 o2 b=>b.s1 aA λv3 o3 g=>?_;refine hK v3 ?_ g;exact Ext.fresh (Ext.fresh (Ext.fresh e o1.ext λi a=>O) o2.ext λi a=>O) o3.ext λi a=>by omega
theorem WmI (h:CeH σ F p c ps ss){R:aN}(hR:∀σ',Ext0 σ σ'->R (Kr ss:Int) σ'):YB.c (aW p) σ R:=by
 refine YB.o ?_;unfold YB.v;obtain⟨sl,L,U,D⟩:=h.sl;have y:=h.few;have V:=h.ok.n_le;refine KX h (ifF rfl (nilP (L.rS rfl ?_)));refine Ko (a:=bN) (bb:=bN) (λ(n t:Int) u=>∃i:Nat,t=(i:Int)/\i<=ss.length/\Ext0 σ u/\n=(Kr (ss.take i):Int)/\Kr (ss.take i)<=128*i) (λ_ t _=>ss.length-t.toNat) ⟨0,rfl,O,Ext.refl _ _,by simp[Kr],by simp[Kr]⟩ ?_;rintro n t u ⟨i,rfl,S,e,rfl,K⟩;refine ifD (λw=>?_) λx=>?_
 ·simp only at w;have g:i<ss.length:=by omega
  obtain⟨M,s,C,B,d⟩:=h.at_i g;obtain⟨N,P,E⟩:=D (by rintro rfl;simp at g);have j:=Qw C B;rw[E.a];refine ix O O ?_;rw[add_lit,show 0+(i:Int).toNat*3=3*i by omega];refine WaS (e:=0) (e.blk E.blk id) (E.get j.1) (E.get j.2.1) (E.get j.2.2) (WfC λQ A z=>?_);have r:=(d.keep0 e).keep0 A;refine⟨λb=>Blk b u.size [.int .i64 s.many,.int .i64 s.st,.pointer (some ⟨M.1,0,none⟩)],z,⟨_,λb d=>by rw[add_lit,d.cell];rfl,⟨_,λb d=>by rw[add_lit,add_lit,d.cell];rfl,?_⟩⟩⟩;refine Wa6 r ⟨z,?_⟩;have J:=Waa s;have H:=d.len;have G:Kr (ss.take (i+1))=Kr (ss.take i)+(c.n-s.many):=by
   rw[zh,B];simp only[Kr,zDG,zAD,zJ,zCC,zDK,zr,List.sum_nil];omega
  refine arN (m:=c.n-s.many) O O (arN (m:=Kr (ss.take (i+1))) O O (arN (m:=i+1) O O ⟨⟨i+1,rfl,O,e.trans A,rfl,O⟩,O⟩))
 ·have:i=ss.length:=by simp only at x;omega
  subst this;rw[zl]at *;exact hR _ e
def runV (c:Cls)(l:List Nat):List Value:=l.flatMap λ(s:Nat)=>[.int .i64 (s:Int),.int .i64 (c.pages:Int)]
theorem Wce (c:Cls)(l:List Nat):(runV c l).length=2*l.length:=by
 induction l with
 | nil=>rfl
 | cons x l ih=>simp only[runV,zBB,zK,zP,zAO]at *;omega
theorem WkM (h:CeH σ F p c ps ss){R:Sl->Hp->Prop}(hR:∀s σ',Ext0 σ σ'->RowR s 2 (runV c (ss.map (·.st))) σ' (λb=>σ.size<=b)->R s σ'):Ya.c (aW p) σ R:=by
 refine Ya.o ?_;unfold Ya.v;obtain⟨sl,C,Y,L⟩:=h.sl;have G:=h.few;refine KX h (ifF rfl (nilP (C.rS rfl ?_)));refine Ko (a:=.s) (bb:=bN) (λ(out:Sl) (t:Int) A=>∃i:Nat,t=(i:Int)/\i<=ss.length/\Ext0 σ A/\RowR out 2 (runV c ((ss.take i).map (·.st))) A (λb=>σ.size<=b)) (λ_ t _=>ss.length-t.toNat) ⟨0,rfl,O,Ext.refl _ _,RowR.nil _ _ _ _⟩ ?_;rintro out t A ⟨i,rfl,X,e,g⟩;refine ifD (λB=>?_) λD=>?_
 ·simp only at B;have j:i<ss.length:=by omega
  obtain⟨xx,s,K,J,M⟩:=h.at_i j;obtain⟨S,V,E⟩:=L (by rintro rfl;simp at j);have w:=Qw K J;rw[E.a];refine ix O O ?_;rw[add_lit,show 0+(i:Int).toNat*3=3*i by omega];refine WaS (e:=0) (e.blk E.blk id) (E.get w.1) (E.get w.2.1) (E.get w.2.2) (WfC λW y P=>P.rP rfl ?_);have z:=(M.keep0 e).keep0 y;refine Wl1 z λZ H=>?_;have u:=(e.trans y).trans H;have d:=aI.keep0 (aI.keep0 g y) H;have r:=d.1;rw[Wce,za,zO]at r;refine d.push (vs:=[.int .i64 (s.st:Int),.int .i64 (c.pages:Int)]) (λb C=>zI u.1 C) rfl rfl (by simp[one1]) O O λU v8 Q N x=>?_;refine arN (m:=i+1) O O ⟨⟨i+1,rfl,O,Ext.fresh u N λ_ h=>h,?_⟩,O⟩;rw[zh,J];simp only[runV,zDG,zAD,zJ,zCC,zGL,zBB,List.flatMap_nil,zy]at *;exact x
 ·have:i=ss.length:=by simp only at D;omega
  subst this;rw[zl]at *;exact hR _ _ e g
theorem Wna (hc:c.ok){R:Option Addr->Int->Hp->Prop}(hR:∀σ' p,Ext0 σ σ'->σ.size<=p->p<σ'.size->CeH σ' (· = p) p c [] []->R (some ⟨p,0,none⟩) 0 σ'):Qf.c c.size c.pages c.batch σ R:=by
 refine Qf.o ?_;unfold Qf.v;refine nw (cs:=[.int .i64 c.size,.int .i64 c.pages,.int .i64 c.batch]) λv A e d=>?_;refine d.rI rfl (d.rI rfl (d.rI rfl (UB _ _ _ (λx m u s y w j=>?_) λb=>?_)))
 case refine_2=>rw[(Uh c).2 hc]at b;cases b
 have a:=j.blk d id;refine ifF rfl (a.rI rfl (a.rI rfl (a.rI rfl (nw (cs:=[.int .i64 c.size,.int .i64 c.pages,.int .i64 c.batch,.slice none 0 0]) λz r g i=>?_))));exact hR _ _ ((e.trans j).trans g) (by have:=j.1;omega) O ⟨⟨⟨none,0,0⟩,i,RowR.nil _ _ _ _⟩,by simp,rfl,by simp[blks],by simp[blks],rfl,hc,by simp⟩
theorem Wh9 (a b a' b':Nat){R:aO}(hR:∀σ',Ext0 σ σ'->R (decide (a>a')||(a==a'&&decide (b<b'))) σ'):W5.c (a:Int) (b:Int) (a':Int) (b':Int) σ R:=by
 refine W5.o ?_;unfold W5.v;refine nw (cs:=[.int .i64 a,.int .i64 b]) λv u e p=>nw (cs:=[.int .i64 a',.int .i64 b']) λs r m i=>?_;have g:=m.blk p id;have d:=hR _ (e.trans m);refine g.rI rfl (i.rI rfl (JnB.intro (ifD (λh=>?_) λh=>?_)))
 ·have:decide (a>a')=true:=by simpa using h
  rw[this,Bool.true_or]at d;exact d
 ·have:decide (a>a')=false:=by simpa using h
  rw[this,zFI]at d;refine g.rI rfl (i.rI rfl (JnB.intro ?_));rw[beqN];refine iff_ (λj=>?_) λj=>?_
  ·rw[j,zEI]at d;refine g.rI rfl (i.rI rfl ?_);have:decide ((b:Int)<(b':Int))=decide (b<b'):=by rw[decide_eq_decide];omega
   rw[this];exact d
  ·rw[j,zDI]at d;exact d
theorem QT:∀{i k:Nat},Zv ss i=some k->k<i/\∃s,ss[k]?=some s/\s.many<s.tk.length
 | 0,_,h=>by simp[Zv]at h
 | i+1,k,h=>by
  have up:Zv ss i=some k->k<i+1/\∃s,ss[k]?=some s/\s.many<s.tk.length:=λh=>by
   have:=QT h;exact⟨O,this.2⟩
  simp only[Zv]at h;split at h
  ·rename_i x hx;split at h
   ·rename_i hlt;have a:i<i+1/\∃s,ss[i]?=some s/\s.many<s.tk.length:=⟨O,x,hx,hlt⟩;split at h
    ·rename_i j hj;split at h
     ·split at h
      ·cases h;exact a
      ·cases h;exact up hj
     ·cases h;exact a
    ·cases h;exact a
   ·exact up h
  ·exact up h
theorem GZ {s:SpA}(h:s.many<s.tk.length):∃i,low s=some i/\i<s.tk.length/\s.is i=false:=by
 unfold low;cases hf:s.tk.findIdx? (· == false)with
 | some i=>
  obtain⟨a,d,_⟩:=zBQ.1 hf;refine⟨i,rfl,a,?_⟩;have:s.tk[i]=false:=by simpa using d
  simp[SpA.is,zM,gGe a,this]
 | none=>
  exfalso;have b:=zDT.1 hf;have:s.many=s.tk.length:=by
   unfold SpA.many;rw[List.count_eq_length];intro x hx;have:=b x hx;cases x
   ·simp at this
   ·rfl
  omega
theorem Wfx:∀{ps:List (Nat×Nat)} {ss:List SpA} {k:Nat} {s s':SpA},ps.length=ss.length->ss[k]?=some s->s'.st=s.st->entV ps (ss.set k s')=(entV ps ss).set (3*k) (.int .i64 (s'.many:Int))
 | [],[],_,_,_,_,h,_=>by simp at h
 | [],_::_,_,_,_,h,_,_=>by simp at h
 | _::_,[],_,_,_,_,h,_=>by simp at h
 | x::ps,t::ss,0,s,s',_,h,e=>by simp at h;subst h;simp[entV,e]
 | x::ps,t::ss,k+1,s,s',hl,h,e=>by
  simp only[zCY,entV];rw[Wfx (ps:=ps) (ss:=ss) (s:=s) (by simpa using hl) (by simpa using h) e];rw[show 3*(k+1)=3*k+1+1+1 by omega];simp
theorem Wf9 {h:Hp}{b:Nat}{cs cs':List Value}(h1:Blk h b cs)(h2:Blk h b cs'):cs=cs':=by
 obtain⟨e,d⟩:=h1;obtain⟨g,a⟩:=h2;rw[d]at a;simp only[Option.some.injEq,Obj.cells.injEq]at a;simpa using congrArg Array.toList a.1
theorem Qu {x:Nat×Nat}{i:Nat}(hx:ps[i]?=some x):x.1∈blks ps/\x.2∈blks ps:=
 ⟨Hs.2 ⟨x,zE hx,.inl rfl⟩,Hs.2 ⟨x,zE hx,.inr rfl⟩⟩
theorem WbP:∀{ps:List (Nat×Nat)},(blks ps).Nodup->∀{i j:Nat} {x y:Nat×Nat},ps[i]?=some x->ps[j]?=some y->i≠j->∀b,(b=x.1\/b=x.2)->¬(b=y.1\/b=y.2)
 | [],_,_,_,_,_,h,_,_=>by simp at h
 | z::ps,hn,i,j,x,y,h1,h2,hij=>by
  have hn':z.1∉blks ps/\z.2∉blks ps/\z.1≠z.2/\(blks ps).Nodup:=by
   simp only[blks,zBB,zAL,zBW,zo,zQ,not_or]at hn;exact⟨hn.1.2,hn.2.1,hn.1.1,hn.2.2⟩
  intro b hb hb'
  match i,j,hij with
  | 0,0,h=>exact h rfl
  | 0,j+1,_=>
   simp at h1;subst h1;have:=Qu (ps:=ps) (i:=j) (by simpa using h2);rcases hb with rfl|rfl<;>rcases hb' with e|e<;>rw[e]at hn'<;>simp[this]at hn'
  | i+1,0,_=>
   simp at h2;subst h2;have:=Qu (ps:=ps) (i:=i) (by simpa using h1);rcases hb with rfl|rfl<;>rcases hb' with e|e<;>rw[←e]at hn'<;>simp[this]at hn'
  | i+1,j+1,h=>exact WbP hn'.2.2.2 (by simpa using h1) (by simpa using h2) O b hb hb'
theorem CeH.turn (h:CeH σ F p c ps ss){k:Nat}{x:Nat×Nat}{s s':SpA}(hx:ps[k]?=some x)(hs:ss[k]?=some s)(hst:s'.st=s.st){σ1:Hp}(e1:Ext (λb=>b=x.1\/b=x.2) σ σ1)(hS:SpH σ1 x.1 x.2 c s')
 {sl:Sl} {rb:Nat} {cs:List Value} (hb:Blk σ p [.int .i64 (c.size:Int),.int .i64 (c.pages:Int),.int .i64 (c.batch:Int),.slice sl.a sl.len sl.cap]) (E:EnR σ F p ps ss sl rb cs)
 {K:aP} (hK:∀σ2,Ext F σ σ2->CeH σ2 F p c ps (ss.set k s')->K σ2):St1 ⟨rb,3*k,none⟩ (.int .i64 (s'.many:Int)) σ1 K:=by
 obtain⟨sl',G,P⟩:=h.hd;have L:sl'=sl:=by
  have:=Wf9 G hb;simp at this;obtain⟨a,n,c⟩:=sl;obtain⟨V,W,U⟩:=sl';simp at this ⊢;exact this
 subst L;have g:=Qu hx;have e:=h.nd;simp only[zo]at e;have r:=(gSi.1 hs).1;have C:=(RowR.loc sl' 3 (entV ps ss)).keep P e1 λb hb Q=>λd=>Q.2.2 (by rcases d with rfl|rfl;exact g.1;exact g.2);have D:=e1.blk hb λd=>e.1 (by rcases d with h|h<;>rw[h];exact g.1;exact g.2)
 refine C.st (j:=3*k) (by rw[Q5 h.len];omega) (λb u=>by rw[E.a]at u;cases u;rfl) λσ2 A B=>?_;have J:Ext F σ σ2:=(e1.sub λi H=>h.fb i (by rcases H with rfl|rfl;exact g.1;exact g.2)).trans (A.sub λi H=>H.1);refine hK σ2 J ⟨⟨sl',A.blk D λd=>d.2.1 rfl,?_⟩,λi y t m z=>?_,h.fp,h.fb,h.nd,by simpa using h.len,h.ok,?_⟩
 ·rw[Wfx h.len hs hst];exact B
 ·have w:=Qu m;have S:SpH σ1 y.1 y.2 c t:=by
   by_cases hik:i=k
   ·subst hik;rw[hx]at m;cases m;rw[zL r]at z;cases z;exact hS
   ·rw[zi (Ne.symm hik)]at z;have N:=WbP e.2 m hx hik;exact(h.sp i y t m z).keep e1 (N _ (.inl rfl)) (N _ (.inr rfl))
  exact S.keep A (λd=>d.2.2 w.1) (λd=>d.2.2 w.2)
 ·have:(ss.set k s').map (·.st)=ss.map (·.st):=by
   apply zu;intro i;simp only[zf];by_cases hik:i=k
   ·subst hik;rw[zL r,hs];simp[hst]
   ·rw[zi (Ne.symm hik)]
  have M:=h.srt;rw[←zCN (f:=SpA.st) (R:=(· < ·))]at M ⊢;rw[this];exact M
theorem WnM (h:CeH σ F p c ps ss){R:Int->Bool->Hp->Prop}(h1:∀x ss',oneS c ss=some (x,ss')->∀σ',Ext F σ σ'->CeH σ' F p c ps ss'->R (x:Int) true σ')(h0:oneS c ss=none->∀σ',Ext0 σ σ'->R 0 false σ') :
 Y3.c (aW p) σ R:=by
 refine Y3.o ?_;unfold Y3.v;obtain⟨sl,hb,hl,hr⟩:=h.sl;have hfew:=h.few;have hn:=h.ok.n_le;obtain⟨d,cs,E⟩:∃d cs,ss≠[]->EnR σ F p ps ss sl d cs:=by
  by_cases hne:ss=[]
  ·exact⟨0,[],λh=>absurd hne h⟩
  ·obtain⟨d,cs,E⟩:=hr hne;exact⟨d,cs,λ_=>E⟩
 refine nilP (hb.rS rfl ?_);refine Ko (a:=.p) (bb:=bN) (λ(best:Option Addr) (t:Int) G=>∃i:Nat,t=(i:Int)/\i<=ss.length/\Ext0 σ G/\best=(Zv ss i).map λk=>⟨d,3*k,none⟩) (λ_ t _=>ss.length-t.toNat) ⟨0,rfl,O,Ext.refl _ _,rfl⟩ ?_;rintro best t G ⟨i,rfl,hi,e,rfl⟩;refine ifD (λad=>?_) λZ=>?_
 ·simp only at ad;have K:i<ss.length:=by omega
  have E:=E (by rintro rfl;simp at K);obtain⟨P,s,N,H,u⟩:=h.at_i K;have w:=Qw N H;have X:=u.len;refine nilP ((e.blk hb id).rS rfl ?_);rw[E.a];refine ix O O ?_;rw[add_lit,show 0+(i:Int).toNat*3=3*i by omega];have Eb:=e.blk E.blk id;have B:Zv ss (i+1)=if s.many<s.tk.length then(match Zv ss i with
   | some j=>match ss[j]? with
    | some y=>if WbH s y then some i else some j
    | none=>some i
   | none=>some i)else Zv ss i:=by
   simp only[Zv,H];rfl
  have J:∀(r:Bool) (v:Hp),Ext0 σ v->(if r then some i else Zv ss i)=Zv ss (i+1) →
   If r (Ar .i64 ((i:Int)+1) λb=>(∃j:Nat,b=(j:Int)/\j<=ss.length/\Ext0 σ v/\some (⟨d,3*i,none⟩:Addr)=(Zv ss j).map λk=>⟨d,3*k,none⟩)/\ss.length-b.toNat<ss.length-(i:Int).toNat)
    (Ar .i64 ((i:Int)+1) λb=>(∃j:Nat,b=(j:Int)/\j<=ss.length/\Ext0 σ v/\((Zv ss i).map λk=>(⟨d,3*k,none⟩:Addr))=(Zv ss j).map λk=>⟨d,3*k,none⟩)/\ss.length-b.toNat<ss.length-(i:Int).toNat):=by
   intro r v ev hr';cases r
   ·refine ifF rfl (arN (m:=i+1) O O ⟨⟨i+1,rfl,O,ev,?_⟩,O⟩);rw[←hr'];rfl
   ·refine ifT rfl (arN (m:=i+1) O O ⟨⟨i+1,rfl,O,ev,?_⟩,O⟩);rw[←hr'];rfl
  refine Jn.intro ⟨λD=>Blk D d cs,Eb,nilP ⟨_,λD u=>by rw[add_lit,add_lit,u.cell];exact E.get w.1,nilP ⟨_,λD u=>by rw[add_lit,u.cell];exact E.get w.2.2,?_⟩⟩⟩;refine Wa6 (u.keep0 e) ⟨Eb,?_⟩;refine ifD (λhlt2=>?_) λhge2=>?_
  ·have U:s.many<s.tk.length:=by omega
   rw[zB U]at B;cases hbf:Zv ss i with
   | none=>
    rw[hbf]at B J;exact ifT rfl (J true G e B.symm)
   | some j=>
    rw[hbf]at B J;obtain⟨hji,y,hy,hym⟩:=QT hbf;simp only[hy]at B;have ac:j<ps.length:=by rw[h.len];omega
    have A:=Qw (gGe ac) hy;have fin:W5.c (s.many:Int) (s.st:Int) (y.many:Int) (y.st:Int) G λY v3=>Blk v3 d cs ∧
     If Y (Ar .i64 ((i:Int)+1) λb=>(∃j:Nat,b=(j:Int)/\j<=ss.length/\Ext0 σ v3/\some (⟨d,3*i,none⟩:Addr)=(Zv ss j).map λk=>⟨d,3*k,none⟩)/\ss.length-b.toNat<ss.length-(i:Int).toNat)
      (Ar .i64 ((i:Int)+1) λb=>(∃j':Nat,b=(j':Int)/\j'<=ss.length/\Ext0 σ v3/\((some j).map λk=>(⟨d,3*k,none⟩:Addr))=(Zv ss j').map λk=>⟨d,3*k,none⟩)/\ss.length-b.toNat<ss.length-(i:Int).toNat):=by
     refine Wh9 _ _ _ _ λv3 e3=>⟨e3.blk Eb id,J _ v3 (e.trans e3) ?_⟩;rw[B];rfl
    refine ifF rfl (nilP (nilP ⟨?_,?_⟩))
    ·exact Eb.rI2 (E.get w.1) (Eb.rI2 (E.get w.2.1) ⟨Eb,Eb.rI2 (E.get A.1) (Eb.rI2 (E.get A.2.1) ⟨Eb,fin⟩)⟩)
    ·exact Eb.rI2 (E.get A.1) (Eb.rI2 (E.get A.2.1) ⟨Eb,Eb.rI2 (E.get w.1) (Eb.rI2 (E.get w.2.1) ⟨Eb,fin⟩)⟩)
  ·have U:¬s.many<s.tk.length:=by omega
   rw[zA U]at B;exact J false G e B.symm
 ·have V:i=ss.length:=by simp only at Z;omega
  subst V;cases hbf:Zv ss ss.length with
  | none=>
   refine ifT rfl (h0 ?_ _ e);simp[oneS,best,hbf]
  | some k=>
   obtain⟨hk,s,H,aa⟩:=QT hbf;have E:=E (by rintro rfl;simp at hk);obtain⟨P,s',N,M,u⟩:=h.at_i hk;rw[H]at M;cases M;have w:=Qw N H;obtain⟨r,C,ab,S⟩:=GZ aa;have G:=h.keep0 e;have one:oneS c ss=some (at_ c s r,ss.set k (s.put r true)):=by simp[oneS,best,hbf,H,C]
   have E':EnR _ F p ps ss sl d cs:=⟨E.a,e.blk E.blk id,E.fr,E.get,E.lenC⟩;refine ifF rfl (nilP (E'.blk.rP (x:=some ⟨P.1,0,none⟩) (E.get w.2.2) ?_));refine Wlj (u.keep0 e) C λv5 e5 W=>nilP ?_;have L:=Qu N;have Q:¬(d=P.1\/d=P.2):=λhh=>E.fr.2.2 (by rcases hh with h|h<;>rw[h];exact L.1;exact L.2)
   have hml:=Waa s;have g:=G8 ab true;rw[S]at g;have z:(s.put r true).many=s.many+1:=by simp at g;omega
   have X:=u.len;refine(e5.blk E'.blk Q).rI2 (E.get w.1) (arN (m:=s.many+1) O O (nilP ?_));rw[add_lit,add_lit,zp,zp,←z];exact G.turn (s':=s.put r true) N H rfl e5 W (e.blk hb id) E' λv6 e6 h6=>h1 _ _ one v6 (e.to.trans e6) h6
theorem WjK {k:Nat}{s s':SpA}(hs:ss[k]?=some s):Kr (ss.set k s')+(s.tk.length-s.many)=Kr ss+(s'.tk.length-s'.many):=by
 unfold Kr
 induction ss generalizing k with
 | nil=>simp at hs
 | cons x ss ih=>
  cases k with
  | zero=>simp at hs;subst hs;simp;omega
  | succ k=>
   have:=ih (by simpa using hs);simp only[zCY,zJ,zr];omega
theorem Whx {x:Nat}{ss':List SpA}(h:oneS c ss=some (x,ss')):Kr ss'+1=Kr ss:=by
 unfold oneS at h;split at h
 ·rename_i k hk;obtain⟨_,s,j,d⟩:=QT hk;rw[j]at h;simp only at h;split at h
  ·rename_i i hi;cases h;obtain⟨r,g,b,a⟩:=GZ d;rw[hi]at g;cases g;have p:=WjK (s':=s.put i true) j;have e:=G8 b true;rw[a]at e;have m:(s.put i true).tk.length=s.tk.length:=by simp[SpA.put]
   simp at e;omega
  ·cases h
 ·cases h
theorem CeH.room (h:CeH σ F p c ps ss):Kr ss<=131072:=by
 have key:∀l:List SpA,(∀s∈l,s.tk.length<=128)->Kr l<=128*l.length:=by
  intro l
  induction l with
  | nil=>intro _;simp[Kr]
  | cons x l ih=>
   intro hl;have m:=hl x aA;have j:=ih λs d=>hl s (by simp[d]);simp only[Kr,zJ,zr,zP]at *;omega
 have:=key ss λs d=>by
  obtain⟨i,e⟩:=zN d;have b:=(gSi.1 e).1;obtain⟨x,r,_,a,g⟩:=h.at_i b;rw[e]at a;cases a;rw[g.len];exact h.ok.n_le
 have:=h.few;omega
theorem Gu {m:Nat}{x:Nat}{ss':List SpA}(h:oneS c ss=some (x,ss')):Q6 c (m+1) ss=(x::(Q6 c m ss').1,(Q6 c m ss').2):=by
 simp[Q6,h]
theorem Wkn (h:CeH σ F p c ps ss)(m:Int)(hm:0<=m){R:Sl->Int->Hp->Prop}
 (hR:∀s σ',Ext F σ σ'->RowR s 1 (ints (Q6 c m.toNat ss).1) σ' (λb=>σ.size<=b)->CeH σ' (Cut F σ) p c ps (Q6 c m.toNat ss).2->R s 0 σ'):Xf.c (aW p) m σ R:=by
 refine Xf.o ?_;unfold Xf.v;have h:=CeH.loc.cut h;have G:=CeH.room h;refine KX h (ifF rfl (ifDF O ?_));refine ZS (a:=.s) (λ(out:Sl) D=>∃j d,Ext F σ D/\RowR out 1 (ints j) D (λb=>σ.size<=b)/\CeH D (Cut F σ) p c ps d/\j.length<=m.toNat/\j.length+Kr d=Kr ss/\Q6 c m.toNat ss=(j++(Q6 c (m.toNat-j.length) d).1,(Q6 c (m.toNat-j.length) d).2))
  (λout _=>m.toNat-out.len) ⟨[],ss,Ext.refl _ _,RowR.nil _ _ _ _,h,by simp,by simp,by simp⟩ ?_
 rintro out D ⟨j,d,e,g,L,W,U,u⟩;have P:=g.lenN;refine ifD (λX=>?_) λY=>?_
 ·have r:m.toNat-j.length=(m.toNat-(j.length+1))+1:=by omega
  refine WnM L (λx J w v2 A M=>ifF rfl ?_) λy v2 A=>ifT rfl ?_
  ·have C:Ext F σ v2:=e.trans (A.sub λi H=>H.1);have z:=aI.keep g A λb _ E N=>by have:=N.2;omega
   refine z.push (vs:=[.int .i64 (x:Int)]) (λb E=>zI C.1 E) rfl rfl (by simp[one1]) O O λs' v4 V Q K=>?_;have S:=Whx w;refine⟨⟨j++[x],J,C.newT Q λi H=>.inr H,by rw[Vd];exact K,CeH.loc.keep M Q λb _ E N=>(by have:=E.2;omega),by simp;omega,by simp;omega,?_⟩,O⟩;rw[u,r,Gu w];simp
  ·have:Q6 c (m.toNat-j.length) d=([],d):=by rw[r];simp[Q6,y]
   rw[this]at u;have B:=hR out v2 (e.trans A.to);rw[u,zy]at B;exact B (aI.keep0 g A) (L.keep0 A)
 ·have Z:m.toNat-j.length=0:=by omega
  rw[Z]at u;have B:=hR out D e;rw[u]at B;simp only[Q6,zy]at B;exact B g L
theorem Whu (h:CeH σ F p c ps ss)(m:Int)(hm:m<0){R:Sl->Int->Hp->Prop}(hR:R ⟨none,0,0⟩ 1 σ):Xf.c (aW p) m σ R:=by
 refine Xf.o ?_;unfold Xf.v;exact KX h (ifF rfl (ifDT O hR))
def kps:List (Nat×Nat)->List SpA->List (Nat×Nat)
 | x::ps,s::ss=>if s.many != 0 then x::kps ps ss else kps ps ss
 | _,_=>[]
theorem Gk:∀{ps:List (Nat×Nat)} {ss:List SpA},ps.length=ss.length->(kps ps ss).length=(sweep ss).length
 | [],[],_=>rfl
 | x::ps,s::ss,h=>by
  have ih:=Gk (ps:=ps) (ss:=ss) (by simpa using h);simp only[kps,sweep,zCK]at *;split<;>simp[ih]
theorem Wex:∀{ps:List (Nat×Nat)} {ss:List SpA},(kps ps ss).Sublist ps
 | [],_=>by simp[kps]
 | _::_,[]=>by simp[kps]
 | x::ps,s::ss=>by
  simp only[kps];split
  ·exact Wex.cons_cons x
  ·exact Wex.cons x
theorem WbU:∀{ps ps':List (Nat×Nat)} {ss ss':List SpA},ps.length=ss.length->kps (ps++ps') (ss++ss')=kps ps ss++kps ps' ss'
 | [],_,[],_,_=>rfl
 | x::ps,_,s::ss,_,h=>by
  simp only[zAL,kps,WbU (ps:=ps) (ss:=ss) (by simpa using h)];split<;>rfl
theorem Wi0:∀{ps:List (Nat×Nat)} {ss:List SpA} {i:Nat} {x:Nat×Nat} {s:SpA},ps.length=ss.length->(kps ps ss)[i]?=some x->(sweep ss)[i]?=some s->∃j:Nat,ps[j]?=some x/\ss[j]?=some s
 | [],[],_,_,_,_,h,_=>by simp[kps]at h
 | y::ps,t::ss,i,x,s,hl,h1,h2=>by
  have ih:=λi=>Wi0 (ps:=ps) (ss:=ss) (i:=i) (x:=x) (s:=s) (by simpa using hl);simp only[kps,sweep,zCK]at h1 h2;cases hm:(t.many != 0)
  ·rw[hm]at h1 h2;obtain⟨j,b,a⟩:=ih i h1 h2;exact⟨j+1,by simpa using b,by simpa using a⟩
  ·rw[hm]at h1 h2;cases i with
   | zero=>simp at h1 h2;exact⟨0,by simp[h1],by simp[h2]⟩
   | succ i=>
    obtain⟨j,b,a⟩:=ih i (by simpa using h1) (by simpa[sweep]using h2);exact⟨j+1,by simpa using b,by simpa using a⟩
theorem Wd1 (a b:List SpA):sweep (a++b)=sweep a++sweep b:=by simp[sweep]
theorem WcT (a b:List SpA):Z7 (a++b)=Z7 a++Z7 b:=by simp[Z7]
theorem WeK (c:Cls)(a b:List Nat):runV c (a++b)=runV c a++runV c b:=by simp[runV]
theorem Wc3 {a b:List (Nat×Nat)}(h:a.Sublist b):(blks a).Sublist (blks b):=by
 induction h with
 | slnil=>exact List.Sublist.refl _
 | cons x _ ih=>exact(ih.cons _).cons _
 | cons_cons x _ ih=>exact(ih.cons_cons _).cons_cons _
theorem Wc0 {h:Hp}{Q:Rg}{n3:Nat}{o:Sl}{l:List Nat}{x1 x2:Nat}{s:SpA}(hb:Blk h n3 [.slice o.a o.len o.cap])(hrow:RowR o 2 (runV c l) h Q)(hQ:∀b,Q b->n3<b)(hl:l.length<=2000)(hS:SpH h x1 x2 c s){R:aO}
 (hR:∀h' o',Ext (λb=>b=n3\/Q b) h h'->Blk h' n3 [.slice (Sl.a o') o'.len o'.cap]->RowR o' 2 (runV c (l++if s.many=0 then[s.st]else[])) h' (Grow Q h)->R (s.many==0) h') :
 VK Tryz.prog ⟨228,#[],#[.pointer (some ⟨n3,0,none⟩)]⟩ [.agg #[.int .i64 (s.many:Int),.int .i64 (s.st:Int),.pointer (some ⟨x1,0,none⟩)]] [.one .b] h R:=by
 refine Gr (all := #[.agg #[.int .i64 (s.many:Int),.int .i64 (s.st:Int),.pointer (some ⟨x1,0,none⟩)],.pointer (some ⟨n3,0,none⟩)]) (by kernel_rfl) aA ?_;refine Yb.o ?_;unfold Yb.v;refine nw (cs:=[.int .i64 (s.many:Int),.int .i64 (s.st:Int),.pointer (some ⟨x1,0,none⟩)]) λv Z e d=>?_;have N:=hb.lt;have m:=e.blk hb id;have hrow:=(RowR.loc o 2 (runV c l)).mono hrow (G:=λb=>Q b/\b<h.size) λb hb z=>⟨z,hb⟩;refine Jn.intro (d.rI2 rfl ?_);rw[Wg3];refine iff_ (λB=>?_) λB=>?_
 ·have r:s.many=0:=by simpa using B
  rw[zB r]at hR;refine⟨λh'=>Blk h' h.size [.int .i64 (s.many:Int),.int .i64 (s.st:Int),.pointer (some ⟨x1,0,none⟩)]/\Blk h' n3 [.slice o.a o.len o.cap],⟨d,m⟩,⟨o,λh' hS=>by rw[hS.2.cell];rfl,⟨some ⟨x1,0,none⟩,λh' hS=>by rw[add_lit,hS.1.cell];rfl,?_⟩⟩⟩;refine Wl1 (hS.keep0 e) λv2 p=>⟨⟨p.blk d id,p.blk m id⟩,?_⟩;have A:=e.trans p;have g:=aI.keep0 hrow A;have y:=g.1;rw[Wce]at y;refine nw (cs:=[.int .i64 (s.st:Int),.int .i64 (c.pages:Int)]) λv3 S x C=>⟨⟨(p.trans x).blk d id,(p.trans x).blk m id⟩,?_⟩;have w:=aI.keep0 g x;have Y:=A.1;refine w.app (ys:=[.int .i64 (s.st:Int),.int .i64 (c.pages:Int)]) rfl rfl ?_ (by simp[one1]) ?_ ?_ zBG λP L X E H=>?_
  ·intro j u hu;rw[add_lit,zG,C.cell];exact hu
  ·simp only;have:(o.len+1)*16<=2001*16:=zAF O O;omega
  ·simp only;omega
  ·have K:Blk L h.size [.int .i64 (s.many:Int),.int .i64 (s.st:Int),.pointer (some ⟨x1,0,none⟩)]:=E.blk ((p.trans x).blk d id) λD=>by have:=D.2;omega
   have M:Blk L n3 [.slice o.a o.len o.cap]:=E.blk ((p.trans x).blk m id) λD=>by have:=hQ _ D.1;omega
   refine⟨⟨K,M⟩,M.s0 aA λv5 o5 U=>(Ws o5 K O).rI2 rfl ?_⟩;have J:Ext (λb=>b=n3\/Q b) h v5:=(Ext0.to ((e.trans p).trans x)).trans (E.sub λi F=>.inr F.1)|>.trans (o5.ext.sub λi F=>.inl F);rw[Wg3];refine hR v5 P J U ?_;rw[WeK];have:runV c [s.st]=[.int .i64 (s.st:Int),.int .i64 (c.pages:Int)]:=rfl;rw[this];have V:=aI.mono H (G:=Grow Q h) λb _ W=>by
    rcases W with h|h
    ·exact .inl h.1
    ·exact .inr O
   exact aI.keep V o5.ext λb _ z he=>by
    rcases z with h|h
    ·have:=hQ _ h;omega
    ·omega
 ·have r:¬s.many=0:=by simpa using B
  rw[zA r,zy]at hR;refine d.rI2 rfl ?_;rw[Wg3];exact hR v o e.to m (aI.keep0 (aI.mono hrow λb _ z=>.inl z.1) e)
def Wkl (n3:Nat)(c:Cls)(l:List Nat)(h:Hp):Prop:=∃o:Sl,Blk h n3 [.slice o.a o.len o.cap]/\RowR o 2 (runV c l) h (λb=>n3<b)
theorem set3 {A D:List Value}{x y z:Value}{k:Nat}(hk:k=A.length)(hD:3<=D.length):(((A++D).set k x).set (k+1) y).set (k+2) z=A++[x,y,z]++D.drop 3:=by
 subst hk
 match D,hD with
 | d0::d1::d2::D,_=>simp[List.set_append]
theorem H9 {i:Nat}{s:SpA}(hs:ss[i]?=some s):Z7 (ss.take (i+1))=Z7 (ss.take i)++(if s.many=0 then[s.st]else[]):=by
 rw[zh,hs,WcT]
 congr 1
 by_cases hm:s.many=0<;>simp[Z7,hm]
theorem Gw {i:Nat}{s:SpA}(hs:ss[i]?=some s):sweep (ss.take (i+1))=sweep (ss.take i)++(if s.many=0 then[]else[s]):=by
 rw[zh,hs,Wd1]
 congr 1
 by_cases hm:s.many=0<;>simp[sweep,hm]
theorem Wcz {i:Nat}{x:Nat×Nat}{s:SpA}(hl:ps.length=ss.length)(hx:ps[i]?=some x)(hs:ss[i]?=some s):kps (ps.take (i+1)) (ss.take (i+1))=kps (ps.take i) (ss.take i)++(if s.many=0 then[]else[x]):=by
 rw[zh,zh,hs,hx,WbU (by simp[hl])]
 congr 1
 by_cases hm:s.many=0<;>simp[kps,hm]
theorem WhZ (l:List SpA):(Z7 l).length<=l.length:=by unfold Z7;rw[za];exact zBA _ _
theorem WhK (l:List SpA):(sweep l).length<=l.length:=zBA _ _
theorem Wjy (h:CeH σ F p c ps ss){sl:Sl}{rb n3:Nat}{cs:List Value}{σ1:Hp}(e1:Ext0 σ σ1)(hlen:sl.len=ss.length)(hn3:σ.size<=n3)(hE:ss≠[]->EnR σ F p ps ss sl rb cs/\sl.len<=sl.cap/\cs.length=sl.cap*3)(h0:Wkl n3 c [] σ1){R:Sl->Hp->Prop}
 (hR:∀h' sl',Ext (λb=>F b/\b≠p/\b∉blks ps\/n3<=b) σ1 h'->Wkl n3 c (Z7 ss) h'->(sl'=sl/\Z7 ss=[]/\sweep ss=ss/\kps ps ss=ps/\Ext (λb=>n3<=b) σ1 h'\/(RowR sl' 3 (entV (kps ps ss) (sweep ss)) h' (λb=>F b/\b≠p/\b∉blks ps)))->R sl' h') :
 Wf.c sl ⟨228,#[],#[.pointer (some ⟨n3,0,none⟩)]⟩ σ1 R:=by
 refine Wf.o ?_;unfold Wf.v;refine Wi.o ?_;unfold Wi.v;have hfew:=h.few;have r:=h.len;refine ZS (a:=bN) (λ(t:Int) h'=>∃i:Nat,t=(i:Int)/\i<=ss.length/\Ext (λb=>n3<=b) σ1 h'/\Wkl n3 c [] h'/\Z7 (ss.take i)=[]/\sweep (ss.take i)=ss.take i/\kps (ps.take i) (ss.take i)=ps.take i) (λt _=>ss.length-t.toNat) ⟨0,rfl,O,Ext.refl _ _,h0,by simp[Z7],by simp[sweep],by simp[kps]⟩ ?_;rintro t h' ⟨i,rfl,hi,e,⟨o,N,X⟩,q1,q2,q3⟩;have eo:∀{v:Hp},Ext (λb=>n3<=b) σ1 v->Ext (λb=>n3<=b) σ v:=λe=>e1.to.trans e;refine ifD (λhlt=>?_) λhge=>?_
 ·have Y:i<ss.length:=by omega
  obtain⟨E,hcap,hcl⟩:=hE (by rintro rfl;simp at Y);obtain⟨xx,s,hp,J,hS⟩:=h.at_i Y;have eg:=Qw hp J;have hrl:=E.blk.lt;have hSl:=hS.lt;rw[E.a];refine ix O O ?_;rw[add_lit,show 0+(i:Int).toNat*3=3*i by omega];refine WaS (e:=0) ((eo e).blk E.blk O) (E.get eg.1) (E.get eg.2.1) (E.get eg.2.2) ?_;have hn3h:n3<h'.size:=N.lt;refine Wc0 N X (λb h=>h) aA (hS.keep (eo e) O O) λh2 o2 e2 ad A=>?_;have e2:Ext (λb=>n3<=b) h' h2:=e2.sub λb g=>by omega
  have A:=aI.mono A (G:=λb=>n3<b) λb _ g=>by
   rcases g with h|h
   ·exact h
   ·omega
  refine iff_ (λhm=>?_) λhm=>?_
  ·-- the first that goes
   have x:s.many=0:=by simpa using hm
   rw[zB x,zBW]at A;have C:((i:Int)==(-1))=false:=by rw[zBC];omega
   show If ((i:Int)==(-1)) _ _;refine ifF C (arN (m:=i+1) O O ?_);have q1':Z7 (ss.take (i+1))=[s.st]:=by rw[H9 J,q1,zB x];rfl
   have V:sweep (ss.take (i+1))=ss.take i:=by rw[Gw J,q2,zB x,zy]
   have q3':kps (ps.take (i+1)) (ss.take (i+1))=ps.take i:=by rw[Wcz r hp J,q3,zB x,zy]
   have hke:∀k,k<=ss.length->(entV (kps (ps.take k) (ss.take k)) (sweep (ss.take k))).length=3*(sweep (ss.take k)).length:=λk _=>Q5 (Gk (by simp[r]));have Eb2:Blk h2 rb cs:=(eo (e.trans e2)).blk E.blk O;refine Ko (a:=bN) (bb:=bN) (λ(i1 j1:Int) v=>∃j:Nat,j1=(j:Int)/\i<j/\j<=ss.length/\i1=((sweep (ss.take j)).length:Int)/\(sweep (ss.take j)).length<j/\Ext (λb=>b=rb\/n3<=b) σ1 v/\Wkl n3 c (Z7 (ss.take j)) v ∧
    Blk v rb (entV (kps (ps.take j) (ss.take j)) (sweep (ss.take j))++cs.drop (3*(sweep (ss.take j)).length))) (λ_ j1 _=>ss.length-j1.toNat) ?_ ?_
   ·refine⟨i+1,rfl,O,O,?_,?_,(e.trans e2).sub λb g=>.inr g,?_,?_⟩
    ·rw[V,zO];omega
    ·rw[V,zO];omega
    ·rw[q1'];exact⟨o2,ad,A⟩
    ·rw[V,q3',zO,zCD O];have:entV (ps.take i) (ss.take i)++cs.drop (3*i)=cs:=by
      have h1:(entV (ps.take i) (ss.take i)).length=3*i:=by rw[Q5 (by simp[r]),zO];omega
      apply zu;intro k;rcases zAN k (3*i)with hk|hk
      ·rw[ze O];have h2:(entV ps ss)[k]?=(entV (ps.take i) (ss.take i))[k]? := by
        conv=>lhs;rw[←zBE i ps,←zBE i ss,Vh (by simp[r])]
        rw[ze O]
       rw[←h2];have h3:k<(entV ps ss).length:=by rw[Q5 r];omega
       rw[gGe h3];exact(E.get (gGe h3)).symm
      ·rw[zm O,zn,h1]
       congr 1;omega
     rw[this];exact Eb2
   ·rintro i1 j1 v ⟨j,rfl,hij,hj,rfl,hKj,ev,⟨o3,D,K⟩,z⟩;have y:=hke j hj;have evo:Ext (λb=>b=rb\/n3<=b) σ v:=e1.to.trans ev;refine ifD (λhlt2=>?_) λhge2=>?_
    ·have hj':j<ss.length:=by omega
     obtain⟨yy,u,P,H,hSu⟩:=h.at_i hj';have S:=Qw P H;have hSul:=hSu.lt;have ac:=Qu P;refine ix O O ?_;rw[add_lit,show 0+(j:Int).toNat*3=3*j by omega];have get:∀d,d<3->∀w,(entV ps ss)[3*j+d]?=some w->(entV (kps (ps.take j) (ss.take j)) (sweep (ss.take j))++cs.drop (3*(sweep (ss.take j)).length))[3*j+d]?=some w:=by
      intro d hd w hw;rw[zm O,zn,y,show 3*(sweep (ss.take j)).length+(3*j+d-3*(sweep (ss.take j)).length)=3*j+d by omega];exact E.get hw
     refine WaS (e:=0) z (get 0 O _ S.1) (get 1 O _ S.2.1) (get 2 O _ S.2.2) (WfC λv5 W b5=>b5.rI rfl (b5.rI rfl (b5.rP rfl ?_)));have hn3v:n3<v.size:=D.lt;have hcut:=aI.mono K (G:=λb=>n3<b/\b<v.size) λb g hf=>⟨hf,g⟩;have M:=WhZ (ss.take j);rw[zO]at M;refine Wc0 (W.blk D id) (aI.keep0 hcut W) (λb g=>g.1) O ((hSu.keep evo (λQ=>by rcases Q with h|h;exact E.fr.2.2 (h▸ac.1);omega) (λQ=>by rcases Q with h|h;exact E.fr.2.2 (h▸ac.2);omega)).keep0 W) λv6 o6 e6 Z B=>?_;have hsz5:=W.1;have B:=aI.mono B (G:=λb=>n3<b) λb _ g=>by
      rcases g with h|h
      ·exact h.1
      ·omega
     have b6:Blk v6 v.size [.int .i64 (u.many:Int),.int .i64 (u.st:Int),.pointer (some ⟨yy.1,0,none⟩)]:=e6.blk b5 λQ=>by rcases Q with h|h;omega;have:=h.2;omega
     have hrb:rb<σ.size:=E.blk.lt;have L:=e6.blk (W.blk z id) λQ=>by rcases Q with h|h;omega;have:=h.1;omega
     have ab:Ext (λb=>b=rb\/n3<=b) σ1 v6:=(ev.trans W.to).trans (e6.sub λb g=>by rcases g with h|h;omega;have:=h.1;omega);rw[←H9 H]at B;have st:=Gw H;have kt:=Wcz r P H;by_cases hum:u.many=0
     ·rw[zB hum,zy]at st kt;have:(u.many==0)=true:=by simp[hum]
      rw[this];refine ifF rfl (arN (m:=j+1) O O ⟨⟨j+1,rfl,O,O,?_,?_,ab,⟨o6,Z,B⟩,?_⟩,O⟩)
      ·rw[st]
      ·rw[st];omega
      ·rw[st,kt];exact L
     ·rw[zA hum]at st kt;have:(u.many==0)=false:=by simp[hum]
      rw[this];refine ifT rfl (b6.rI rfl (b6.rI rfl (b6.rP rfl (ix O O ?_))));rw[add_lit,show 0+((sweep (ss.take j)).length:Int).toNat*3=3*(sweep (ss.take j)).length by omega];have hlen6:(entV (kps (ps.take j) (ss.take j)) (sweep (ss.take j))++cs.drop (3*(sweep (ss.take j)).length)).length=cs.length:=by
       rw[zK,y,zq];omega
      refine L.s1 O λv7 o7 b7=>b7.s1 aE λv8 o8 b8=>b8.s1 aE λv9 o9 b9=>?_;rw[zp,set3 y.symm (by rw[zq];omega),List.drop_drop]at b9;have ev9:Ext (λb=>b=rb\/n3<=b) σ1 v9:=((ab.trans (o7.ext.sub λb g=>.inl g)).trans (o8.ext.sub λb g=>.inl g)).trans (o9.ext.sub λb g=>.inl g);have aa:Ext (· = rb) v6 v9:=(o7.ext.trans o8.ext).trans o9.ext;refine arN (m:=(sweep (ss.take j)).length+1) O O (arN (m:=j+1) O O ⟨⟨j+1,rfl,O,O,?_,?_,ev9,⟨o6,aa.blk Z O,aI.keep B aa λb _ g he=>O⟩,?_⟩,O⟩)
      ·rw[st];simp
      ·rw[st];simp;omega
      ·rw[st,kt,Vh (Gk (by simp[r]))];simp only[zK,zP,zAO,entV];rw[show 3*((sweep (ss.take j)).length+(0+1))=3*(sweep (ss.take j)).length+3 by omega];exact b9
    ·have hjj:j=ss.length:=by omega
     subst hjj;rw[zl]at *;have U:ps.take ss.length=ps:=by rw[←r,zl]
     rw[U]at z y;have M:=WhK ss;refine slc O O O ?_;have hK3:3*(sweep ss).length<=cs.length:=by omega
     have hlt3:(sweep ss).length<ss.length:=hKj;rw[zA O];simp only[E.a,zg,add_lit,zG];refine⟨by simp[one1],?_⟩;simp only;have hz:(List.replicate (sl.len-(sweep ss).length) [Value.int .i64 0,.int .i64 0,.pointer none]).flatten.length=3*(sl.len-(sweep ss).length):=by
      rw[zEB,zDH,zEC];simp;omega
     refine VY (o:=(sweep ss).length*3) (i:=0) z (by rw[hz,zK,y,zq];omega) λv10 o10 b10=>?_;refine slc (lo:=0) O O O ?_;have ae:Ext (λb=>b=rb\/n3<=b) σ1 v10:=ev.trans (o10.ext.sub λb g=>.inl g);refine hR v10 _ (ae.sub λb g=>?_) ⟨o3,Ws o10 D (by have:=E.blk.lt;omega),aI.keep K o10.ext λb _ g he=>by have:=E.blk.lt;omega⟩ (.inr ?_)
     ·rcases g with rfl|h
      ·exact .inl E.fr
      ·exact .inr h
     ·refine⟨by rw[Q5 (Gk r)];simp;omega,.inr ⟨rb,_,E.fr,?_,b10,?_,?_,?_⟩⟩
      ·simp only[E.a];split<;>simp[add_lit]
      ·simp only;omega
      ·simp only[zK,zO,zq,hz,y];omega
      ·rw[Q5 (Gk r),zp,show(sweep ss).length*3=3*(sweep ss).length by omega];rw[zz,zBX (by rw[zO,zK,y];omega),zFN,Nat.min_self];rw[zBX O,zAZ O]
  ·have x:¬s.many=0:=by simpa using hm
   rw[zA x,zy]at A;refine arN (m:=i+1) O O ⟨⟨i+1,rfl,O,e.trans e2,⟨o2,ad,A⟩,?_,?_,?_⟩,O⟩
   ·rw[H9 J,q1,zA x];rfl
   ·rw[Gw J,q2,zA x,zh,J];rfl
   ·rw[Wcz r hp J,q3,zA x,zh,hp];rfl
 ·have hii:i=ss.length:=by omega
  subst hii;rw[zl]at *;have U:ps.take ss.length=ps:=by rw[←r,zl]
  rw[U]at q3;have C:((-1:Int)==(-1))=true:=rfl;refine ifT C (hR h' sl (e.sub λb g=>.inr g) ?_ (.inl ⟨rfl,q1,q2,q3,e⟩));rw[q1];exact⟨o,N,X⟩
theorem CeH.sl' (h:CeH σ F p c ps ss):∃sl:Sl,Blk σ p [.int .i64 (c.size:Int),.int .i64 (c.pages:Int),.int .i64 (c.batch:Int),.slice sl.a sl.len sl.cap]/\sl.len=ss.length/\RowR sl 3 (entV ps ss) σ (λb=>F b/\b≠p/\b∉blks ps) ∧
 ∃rb cs,(ss≠[]->EnR σ F p ps ss sl rb cs/\sl.len<=sl.cap/\cs.length=sl.cap*3):=by
 obtain⟨sl,i,e⟩:=h.hd;have m:=e.1;rw[Q5 h.len]at m;refine⟨sl,i,O,e,?_⟩;rcases e.2 with⟨h0,_⟩|⟨b,cs,hq,ha,hbb,hle,hcl,ht⟩
 ·exact⟨0,[],λg=>by have:=zCG.2 g;omega⟩
 ·refine⟨b,cs,λ_=>⟨⟨ha,hbb,hq,λ{j v} d=>?_,?_⟩,hle,hcl⟩⟩
  ·rw[←ht,zX]at d;split at d
   ·exact d
   ·cases d
  ·have:=congrArg List.length ht;rw[zO,Q5 h.len]at this;omega
theorem WfG (h:CeH σ F p c ps ss){R:Sl->Hp->Prop}
 (hR:∀o σ',Ext F σ σ'->RowR o 2 (runV c (Z7 ss)) σ' (λb=>σ.size<=b)->CeH σ' (Cut F σ) p c (kps ps ss) (sweep ss)->R o σ'):WY.c (aW p) σ R:=by
 refine WY.o ?_;unfold WY.v;have h:=CeH.loc.cut h;obtain⟨sl,a,C,w,V,cs,P⟩:=h.sl';refine KX h (ifF rfl (nw (cs:=[.slice none 0 0]) λW N u J=>nilP ((u.blk a id).rS rfl ?_)));refine Wjy h u C (zD _) P ⟨⟨none,0,0⟩,J,RowR.nil _ _ _ _⟩ λX sl' D ⟨o,z,E⟩ r=>nilP ?_;have M:=a.lt;have e:=h.nd;have d:=Wc3 (Wex (ps:=ps) (ss:=ss));simp only[zo]at e;refine(D.blk (u.blk a id) λH=>by rcases H with h|h;exact h.2.1 rfl;omega).s1 aA λv3 o3 G=>?_;have y:=Ws o3 z (by have:=z.lt;omega);refine y.rS0 rfl (hR o v3 ?_ (aI.keep (aI.mono E λb _ a=>O) o3.ext λb _ a g=>O) ?_)
 ·refine(u.to.newT D λb a=>?_).newT o3.ext λb a=>?_
  ·rcases a with h|h
   ·exact .inl h.1.1
   ·exact .inr h
  ·subst a;exact .inl h.fp.1
 ·have B:∀b,b∈blks ps->b<σ.size->¬(Cut F σ b/\b≠p/\b∉blks ps\/σ.size<=b):=λb a S H=>by
   rcases H with h|h
   ·exact h.2.2 a
   ·omega
  refine⟨⟨sl',G,?_⟩,λi x s Q U=>?_,h.fp,λb a=>h.fb b (d.subset a),?_,Gk h.len,h.ok,h.srt.sublist zCT⟩
  ·rcases r with⟨rfl,_,q2,q3,ex⟩|hr
   ·rw[q2,q3];exact aI.keep (aI.keep (aI.keep0 w u) ex λb _ a g=>by have:=a.1.2;omega) o3.ext λb _ a g=>a.2.1 g
   ·exact aI.keep (aI.mono hr λb _ a=>⟨a.1,a.2.1,λm=>a.2.2 (d.subset m)⟩) o3.ext λb _ a g=>a.2.1 g
  ·obtain⟨j,A,K⟩:=Wi0 h.len Q U;have L:=h.sp j x s A K;have m:=Qu A;have C:=L.lt;exact((L.keep0 u).keep D (B _ m.1 C.1) (B _ m.2 C.2)).keep o3.ext (λg=>e.1 (g▸m.1)) (λg=>e.1 (g▸m.2))
  ·simp only[zo];exact⟨λm=>e.1 (d.subset m),e.2.sublist d⟩
theorem Wmc {x:Int}{k i:Nat}{s:SpA}(hc:0<c.size)(hk:ofS c ss x=some k)(hs:ss[k]?=some s)(v:Bool)(y:Int):ofS c (ss.set k (s.put i v)) y=ofS c ss y:=by
 have b:∀t:SpA,∀j w z,idx c (t.put j w) z=idx c t z:=λt j w z=>by unfold idx SpA.put;simp only[zBR]
 unfold ofS;have a:=(gSi.1 hs).1;have:(ss.set k (s.put i v)).map (λs=>(idx c s y).isSome)=ss.map (λs=>(idx c s y).isSome):=by
  apply zu;intro j;simp only[zf];by_cases hjk:j=k
  ·subst hjk;rw[zL a,hs];simp[b]
  ·rw[zi (Ne.symm hjk)]
 have d:∀l:List SpA,l.findIdx? (λs=>(idx c s y).isSome)=(l.map λs=>(idx c s y).isSome).findIdx? id:=λl=>by rw[List.findIdx?_map];rfl
 rw[d,d,this]
def AllT (c:Cls)(ss:List SpA)(xs:List Int):Prop:=(∀x∈xs,isTk c ss x=some true)/\xs.Nodup
theorem G5 {x:Int}{b:Bool}(h:isTk c ss x=some b):∃k s i,ofS c ss x=some k/\ss[k]?=some s/\obj c s x=some i/\s.is i=b:=by
 unfold isTk at h;split at h
 ·rename_i k hk;split at h
  ·rename_i s hs;cases ho:obj c s x with
   | none=>rw[ho]at h;cases h
   | some i=>rw[ho]at h;exact⟨k,s,i,hk,hs,ho,by simpa[SpA.is]using h⟩
  ·cases h
 ·cases h
theorem Wb2 {x:Int}{k i:Nat}{s:SpA}(hk:ofS c ss x=some k)(hs:ss[k]?=some s)(ho:obj c s x=some i):put1 c ss x=ss.set k (s.put i false):=by
 simp[put1,hk,hs,ho]
theorem Wjs {x y:Int}(hc:0<c.size)(hx:isTk c ss x=some true)(hne:y≠x):isTk c (put1 c ss x) y=isTk c ss y:=by
 obtain⟨k,s,i,u,d,A,_⟩:=G5 hx;rw[Wb2 u d A];have r:=(gSi.1 d).1;have a:=Wmc hc u d false (i:=i) y;have g:∀t:SpA,∀j w z,obj c (t.put j w) z=obj c t z:=λt j w z=>by unfold obj idx at_ SpA.put;simp only[zBR]
 cases hy:ofS c ss y with
 | none=>rw[WaV (a.trans hy),WaV hy]
 | some m=>
  by_cases hmk:m=k
  ·subst hmk;rw[VM (a.trans hy) (zL r),VM hy d,g];cases hoy:obj c s y with
   | none=>rfl
   | some j=>
    simp only[zg,Option.some.injEq];have p:i≠j:=λe=>by
     subst e;exact hne (((UK hc).1 hoy).1.trans ((UK hc).1 A).1.symm)
    simp[SpA.is,SpA.put,zM,zi p]
  ·have b:m<ss.length:=(zBQ.1 hy).1;rw[VM (a.trans hy) ((zi (Ne.symm hmk)).trans (gGe b)),VM hy (gGe b)]
theorem AllT.next {x:Int}{xs:List Int}(hc:0<c.size)(h:AllT c ss (x::xs)):AllT c (put1 c ss x) xs:=by
 have a:=zo.1 h.2;refine⟨λy b=>?_,a.2⟩;rw[Wjs hc (h.1 x aA) λe=>a.1 (e▸b)];exact h.1 y (by simp[b])
theorem WhR {xs:List Int}(h:putE c ss xs=0):AllT c ss xs:=by
 unfold putE at h;split at h
 ·cases h
 ·rename_i h1;split at h
  ·cases h
  ·rename_i h2;simp only[zBL,not_or,zCM,zAX,Bool.not_eq_false',zT,zZ]at h1 h2;refine⟨λx d=>?_,h2.2⟩;have a:=h1 x d;have b:=h2.1 x d;cases ht:isTk c ss x with
   | none=>rw[ht]at a;simp at a
   | some v=>
    cases v
    ·rw[ht]at b;exact absurd rfl b
    ·rfl
theorem Wgh {sl:Sl}{xs:List Int}{X:Rg}(h:CeH σ F p c ps ss)(hs:SlR sl 1 (xs.map (Value.int .i64)) σ X)(hX:∀b,X b->¬F b)(hi:∀x∈xs,I63 x)(hA:AllT c ss xs)(hl:xs.length<=1000000){K:aP}
 (hK:∀σ',Ext F σ σ'->CeH σ' F p c ps (xs.foldl (put1 c) ss)->K σ') :
 W8 [bN] (λI1=>I1 0 σ) λJ3 (t49:Int) v6=>If (decide (t49<((sl.len:Nat):Int))) (Ix sl.a sl.len t49 1 λa51=>LdI .i64 a51 v6 λaddr1=>
  XZ.c (aW p) addr1 v6 λvx v7=>NilP vx λa57=>LdP (a57.add 2) v7 λt59=>ZF.c t59 addr1 v7 λt61 v8=>NilP vx λa63=>LdI .i64 ((a63.add 0).add 0) v8 λt66=>
  Ar .i64 (t66-1) λt67=>NilP vx λa68=>St1 ((a68.add 0).add 0) (.int .i64 t67) v8 λv9=>Ar .i64 (t49+1) λt71=>J3 t71 v9) (K v6):=by
 have aa:sl.len=xs.length:=by have:=hs.1;simp at this;omega
 have z:0<c.size:=by have:=h.ok.1;omega
 refine ZS (a:=bN) (λ(t:Int) L=>∃(i:Nat) (u:List SpA),t=(i:Int)/\i<=xs.length/\Ext F σ L/\CeH L F p c ps u/\AllT c u (xs.drop i)/\(xs.drop i).foldl (put1 c) u=xs.foldl (put1 c) ss) (λt _=>xs.length-t.toNat) ⟨0,ss,rfl,O,Ext.refl _ _,h,by simpa using hA,by simp⟩ ?_;rintro t L ⟨i,u,rfl,hil,e,J,y,H⟩;refine ifD (λhlt=>?_) λhge=>?_
 ·have w:i<xs.length:=by omega
  have hx:xs[i]?=some xs[i]:=gGe w;have hd:xs.drop i=xs[i]::xs.drop (i+1):=zCE w;rw[hd]at y H;refine(aH.keep hs e λb _ W hF=>hX b W hF).ixI hx ?_;obtain⟨k,s,j,M,d,N,A⟩:=G5 (y.1 xs[i] zAP);have G:=hi xs[i] (zc w);refine WhY J xs[i] G (λhn=>by rw[M]at hn;cases hn) λk' sl' rb cs D Q W E=>nilP ?_;rw[M]at D;cases D;obtain⟨S,s',V,C,R⟩:=J.at_i Q;rw[d]at C;cases C;have Z:=Qw V d;have hj:=((UK z).1 N).2;refine E.blk.rP (x:=some ⟨S.1,0,none⟩) (E.get Z.2.2) ?_;refine WmK R G N A λv8 e8 U=>nilP ?_;have B:=Qu V;have P:¬(rb=S.1\/rb=S.2):=λhh=>E.fr.2.2 (by rcases hh with h|h<;>rw[h];exact B.1;exact B.2)
  have hml:=Waa s;have g:=G8 hj false;rw[A]at g;have hsl:=R.len;have hnl:=R.ok.n_le;have r:((s.put j false).many:Int)=s.many-1:=by simp at g;omega
  refine(e8.blk E.blk P).rI2 (E.get Z.1) (ar O O (nilP ?_));simp only[add_lit,zp];rw[←r];refine J.turn (s':=s.put j false) V d rfl e8 U W E λv9 e9 Y=>?_;refine arN (m:=i+1) O O ⟨⟨i+1,_,rfl,O,e.trans e9,Y,?_,?_⟩,O⟩
  ·have:=AllT.next z y
   rwa [Wb2 M d N]at this
  ·rw[zAI,Wb2 M d N]at H;exact H
 ·have:i=xs.length:=by omega
  subst this;rw[List.drop_length,List.foldl_nil]at H;subst H;exact hK L e J
theorem Wm9 (h:CeH σ F p c ps ss){sl:Sl}{xs:List Int}{X:Rg}(hs:SlR sl 1 (xs.map (Value.int .i64)) σ X)(hX:∀b,X b->¬F b)(hi:∀x∈xs,I63 x)(hl:xs.length<=1000000)(hcap:sl.len<=sl.cap){R:Sl->Int->Hp->Prop}
 (h0:putE c ss xs≠0->R ⟨none,0,0⟩ (putE c ss xs) σ)
 (h1:putE c ss xs=0->∀o σ',Ext F σ σ'->RowR o 2 (runV c (Z7 (xs.foldl (put1 c) ss))) σ' (λb=>σ.size<=b)->CeH σ' (Cut F σ) p c (kps ps (xs.foldl (put1 c) ss)) (sweep (xs.foldl (put1 c) ss))->R o 0 σ') :
 Y4.c (aW p) sl σ R:=by
 refine Y4.o ?_;unfold Y4.v;have hlen:sl.len=xs.length:=by have:=hs.1;simp at this;omega
 refine KX h (ifF rfl ?_);have tw:∀i,(xs.take i).any (λx=>isTk c ss x==some false)=true\/¬(xs.take i).Nodup->(∀x∈xs,(isTk c ss x).isSome=true)->putE c ss xs=9:=by
  intro i d hall;unfold putE;rw[zA,zB]
  ·rcases d with d|d
   ·rw[zw]at d;obtain⟨x,u,V⟩:=d;have:xs.any (λx=>isTk c ss x==some false)=true:=zw.2 ⟨x,zAY u,V⟩;rw[this];rfl
   ·have:¬xs.Nodup:=λE=>d (E.sublist (zGM _ _));simp[this]
  ·simp only[zCM,zAX];intro x u;have:=hall x u;cases ht:isTk c ss x
   ·rw[ht]at this;cases this
   ·simp
 refine Ko (a:=.b) (bb:=bN) (λ(tw:Bool) (t:Int) B=>∃i:Nat,t=(i:Int)/\i<=xs.length/\B=σ/\(∀x∈xs.take i,(isTk c ss x).isSome=true)/\(tw=true↔(xs.take i).any (λx=>isTk c ss x==some false)=true\/¬(xs.take i).Nodup)) (λ_ t _=>xs.length-t.toNat)
  ⟨0,rfl,O,rfl,by simp,by simp⟩ ?_
 rintro A t B ⟨i,rfl,hil,rfl,g,D⟩;refine ifD (λhlt=>?_) λhge=>?_
 ·have C:i<xs.length:=by omega
  have u:xs[i]?=some xs[i]:=gGe C;have Y:=hi xs[i] (zc C);have K:xs.take (i+1)=xs.take i++[xs[i]]:=by rw[zh,u];rfl
  refine hs.ixI u (Wak h xs[i] Y (λb d=>ifF rfl ?_) λE=>ifT rfl ?_)
  ·have w:∀x∈xs.take (i+1),(isTk c ss x).isSome=true:=by
    rw[K];intro x u;rcases zR.1 u with h1|h1
    ·exact g x h1
    ·simp at h1;subst h1;rw[d];rfl
   have fin:∀J:Bool,(J=true↔(xs.take (i+1)).any (λx=>isTk c ss x==some false)=true\/¬(xs.take (i+1)).Nodup)->Ar .i64 ((i:Int)+1) λs=>
    (∃j:Nat,s=(j:Int)/\j<=xs.length/\B=B/\(∀x∈xs.take j,(isTk c ss x).isSome=true)/\(J=true↔(xs.take j).any (λx=>isTk c ss x==some false)=true\/¬(xs.take j).Nodup))/\xs.length-s.toNat<xs.length-(i:Int).toNat:=
    λJ S=>arN (m:=i+1) O O ⟨⟨i+1,rfl,O,rfl,w,S⟩,O⟩
   have W:∀y:Int,(xs.take i++[y]).Nodup↔(xs.take i).Nodup/\y∉xs.take i:=λy=>by
    rw[zBJ];constructor
    ·exact λh=>⟨h.1,λM=>h.2.2 y M y aA rfl⟩
    ·exact λh=>⟨h.1,by simp,λa ha z hz e=>by simp at hz;subst hz;exact h.2 (e▸ha)⟩
   have ex:(xs.take (i+1)).any (λx=>isTk c ss x==some false)=true\/¬(xs.take (i+1)).Nodup↔(A=true\/b=false)\/xs[i]∈xs.take i:=by
    rw[K,W,List.any_append,D];simp only[List.any_cons,List.any_nil,Bool.or_false,zBL,d];have Z:((some b==some false)=true)↔b=false:=by cases b<;>simp
    rw[Z];constructor
    ·rintro((h|h)|h)
     ·exact .inl (.inl (.inl h))
     ·exact .inl (.inr h)
     ·by_cases E:(xs.take i).Nodup
      ·by_cases M:xs[i]∈xs.take i
       ·exact .inr M
       ·exact absurd ⟨E,M⟩ h
      ·exact .inl (.inl (.inr E))
    ·rintro(((h|h)|h)|h)
     ·exact .inl (.inl h)
     ·exact .inr λG=>h G.1
     ·exact .inl (.inr h)
     ·exact .inr λG=>G.2 h
   have J1:∀r:Bool,(r=true↔A=true\/b=false)->JnB (λJ v4=>Ar .i64 ((i:Int)+1) λs=>
    (∃j:Nat,s=(j:Int)/\j<=xs.length/\v4=B/\(∀x∈xs.take j,(isTk c ss x).isSome=true)/\(J=true↔(xs.take j).any (λx=>isTk c ss x==some false)=true\/¬(xs.take j).Nodup))/\xs.length-s.toNat<xs.length-(i:Int).toNat) λJ2=>
    If r (J2 true B) (SlcL sl 1 0 (i:Int) (sl.cap:Nat) λU=>Wo.c U xs[i] B λt43 v5=>J2 t43 v5):=by
    intro r hr;refine JnB.intro ?_;cases r
    ·refine ifF rfl ?_;refine slc (lo:=0) O O O ?_;have L:SlR ⟨if sl.cap=0 then sl.a else sl.a.map (·.add (0*1)),i-0,sl.cap-0⟩ 1 ((xs.take i).map (Value.int .i64)) B X:=by
      refine⟨by simp;omega,?_⟩;rcases hs.2 with h0|⟨b',o',cs',hf',ha',hb',hc'⟩
      ·left;have:xs=[]:=by simpa using h0
       simp[this]
      ·refine .inr ⟨b',o',cs',hf',?_,hb',λj hj=>?_⟩
       ·rw[zA O,ha'];simp[add_lit]
       ·simp only[za,zO]at hj;rw[hc' j aE,List.map_take,zX,zB O]
     refine Wde L aE _ (fin _ ?_);rw[ex,←hr];simp
    ·refine ifT rfl (fin true ?_);rw[ex,←hr];simp
   refine JnB.intro ?_;cases A
   ·refine ifF rfl (J1 _ ?_);cases b<;>simp
   ·exact ifT rfl (J1 _ aA)
  ·have:putE c ss xs=8:=by
    unfold putE;rw[zB];exact zw.2 ⟨xs[i],zc C,by rw[E];rfl⟩
   have h0:=h0 (by rw[this];decide);rw[this]at h0;exact h0
 ·have:i=xs.length:=by omega
  subst this;rw[zl]at *;cases A
  ·refine ifF rfl ?_;have hE:putE c ss xs=0:=by
    unfold putE;have P:¬(xs.any (λx=>isTk c ss x==some false)=true\/¬xs.Nodup):=λG=>by have:=D.2 G;cases this
    rw[zA,zA]
    ·simp only[not_or,zCM,Decidable.not_not]at P;rw[P.1];simp[P.2]
    ·simp only[zCM,zAX];intro x u;have:=g x u;cases ht:isTk c ss x
     ·rw[ht]at this;cases this
     ·simp
   refine Wgh (CeH.loc.cut h) hs (λb d hf=>hX b d hf.1) hi (WhR hE) hl λv6 e6 Q=>?_;refine WfG Q λo v10 e10 N H=>?_;exact h1 hE o v10 ((e6.trans e10).sub λb d=>d.1) (aI.mono N λb _ d=>zI e6.1 d) (CeH.loc.mono H λb _ d=>d.1)
  ·refine ifT rfl ?_;have h9:=tw xs.length (by rw[zl];exact D.1 rfl) g;have h0:=h0 (by rw[h9];decide);rw[h9]at h0;exact h0
theorem Wes {x y:Sl}{a o b o':Nat}{cs ds:List Value}(hx:x.a=some ⟨a,o,none⟩)(hy:y.a=some ⟨b,o',none⟩)(ha:Blk σ a cs)(hb:Blk σ b ds)(hne:a≠b)(hd:ds≠[]){K:aO}(hK:K false σ) :
 ExtB Tryz.prog 282 [.slice x.a x.len x.cap,.slice y.a y.len y.cap] σ K:=by
 rintro w rfl;obtain⟨g,ha⟩:=ha;obtain⟨d,hb⟩:=hb;refine⟨false,w,?_,.refl _,hK⟩;rw[hx,hy,run_callFunc_extern Tryz.func282 (by kernel_rfl) (by kernel_rfl) (by kernel_rfl) (e:=Extern.SlicesOverlaps.overlaps #[203,203] #[4]) (by kernel_rfl)];have:=Lib.run_overlaps_apart (P:=Tryz.prog) w 203 4 210 Tryz.underlying203 3 Tryz.sizeOf210
  ⟨a,o,none⟩ ⟨b,o',none⟩ x.len x.cap y.len y.cap hne g d cs.length ds.length (by simp[World.shape?,ha]) (by simp[World.shape?,hb]) (by simpa using hd) (by simp[World.frozen?,ha]) (by simp[World.frozen?,ha])
 rw[this];rfl
theorem WiA {Q:Rg}{s:Sl}{xs:List Value}{i m vb:Nat}{x y z:Value}(h:RowR s 3 xs σ Q)(hlen:s.len=m)(hm:m<=2000)(hi:i<=m)(hv:Blk σ vb [x,y,z])(hvb:¬Q vb)(h1:∀v∈xs,one1 v=true)(h2:one1 x=true/\one1 y=true/\one1 z=true)
 {R:Sl->Hp->Prop} (hR:∀s' σ',Ext Q σ σ'->RowR s' 3 (xs.take (3*i)++[x,y,z]++xs.drop (3*i)) σ' (Grow Q σ)->R s' σ') :
 Wh.c s (i:Int) ⟨some ⟨vb,0,none⟩,1,1⟩ σ R:=by
 refine Wh.o ?_;unfold Wh.v;have hxl:=h.1;have hcap:s.len<=s.cap:=by
  rcases h.2 with⟨h0,h0'⟩|⟨b,cs,_,_,_,K,_⟩
  ·omega
  ·exact K
 have ab:Rd σ (some ⟨vb,0,none⟩) [x,y,z]:=by
  intro j u hu;rw[add_lit,zG,hv.cell];exact hu
 have ho:∀v∈[x,y,z],one1 v=true:=by simp[h2]
 refine slc O O O (ifF rfl (iff_ (λhe=>?_) λhe=>?_))
 ·have X:i=m:=by
   have:(i:Int)=((s.len:Nat):Int):=by simpa using he
   omega
  refine h.app (ys:=[x,y,z]) rfl rfl ab ho aD aD zBG λs' h' hl' e' ho'=>hR s' h' e' ?_
  rw[zAZ O,List.drop_of_length_le O,zy];exact ho'
 ·have X:i<m:=by
   have:¬(i:Int)=((s.len:Nat):Int):=by simpa using he
   omega
  obtain⟨b,cs,U,Z,G,K,P,ht⟩:∃b cs,Q b/\s.a=some ⟨b,0,none⟩/\Blk σ b cs/\s.len<=s.cap/\cs.length=s.cap*3/\cs.take xs.length=xs:=by
   rcases h.2 with⟨h0,_⟩|h
   ·omega
   ·exact h
  have J:vb≠b:=λe=>hvb (e▸U);have w:∀j v,xs[j]?=some v->cs[j]?=some v:=λj v p=>by
   rw[←ht,zX]at p;split at p
   ·exact p
   ·cases p
  refine arN (m:=m+1) aD O (ifD (λhgt=>?_) λhle2=>?_)
  ·-- no room: a new row
   refine slc (lo:=0) O O O (arN (m:=m+1) aD O (arN (m:=m+1-i) O O ?_))
   have E:¬s.cap=0:=by omega
   rw[zA E];simp only[Z,zg,add_lit,zDX,zp,Nat.sub_zero];refine⟨O,xs.take (3*i),by rw[zO];simp only;omega,?_,by simp[one1],by simp only;omega,by simp only;omega,O,λhin=>by simp only at hin;omega,λ_ cc M=>?_⟩
   ·intro j v p;rw[add_lit,zG,G.cell];rw[zX]at p;split at p
    ·exact w j v p
    ·cases p
   simp only[iTn]at M ⊢;have W:i+(m+1-i)=m+1:=by omega
   rw[W]at M ⊢;refine nw λv2 hz2 e2 aa=>?_;have B:∀k,(List.replicate k [Value.int .i64 0,.int .i64 0,.pointer none]).flatten.length=3*k:=λk=>by
    rw[zEB,zDH,zEC];simp;omega
   have g:(xs.take (3*i)).length=3*i:=by rw[zO];omega
   refine slc aD aD aD ?_
   have hv2:=e2.blk hv id;have n1:(if cc=i then(some ⟨σ.size,0,none⟩:Option Addr)else(some ⟨σ.size,0,none⟩:Option Addr).map (·.add (i*3)))=some ⟨σ.size,i*3,none⟩:=by
    have:¬cc=i:=by omega
    rw[zA this];simp[add_lit]
   rw[n1];refine⟨[x,y,z],by simp only;rw[zCD O];rfl,?_,ho,?_⟩
   ·intro j u hu;rw[add_lit,zG,hv2.cell];exact hu
   simp only;refine VY (o:=i*3) (i:=0) aa (by simp only[zK,g,B,zP,zAO];omega) λv3 o3 S=>?_;refine arN (m:=i+1) aD O (slc aD aD aD (slc O O O ?_))
   have H:Blk v3 b cs:=Ws o3 (e2.blk G id) (by have:=G.lt;omega);have d:(xs.drop (3*i)).length=3*(m-i):=by rw[zq];omega
   refine⟨xs.drop (3*i),by simp only;rw[zCD O,d];omega,?_,λv hv=>h1 v (zCL hv),?_⟩
   ·have r:¬s.cap=i:=by omega
    rw[zA r];simp only[Z,zg,add_lit];intro j v p;rw[add_lit,H.cell];rw[zn]at p;have:=w _ _ p;rw[show 0+i*3+j=3*i+j by omega];exact this
   have hbig:(xs.take (3*i)++(List.replicate (m+1-i) [Value.int .i64 0,.int .i64 0,.pointer none]).flatten++(List.replicate (cc-(m+1)) [Value.int .i64 0,.int .i64 0,.pointer none]).flatten).length=3*cc:=by
    simp only[zK,g,B];omega
   have tk:∀L:List Value,((xs.take (3*i)++(List.replicate (m+1-i) [Value.int .i64 0,.int .i64 0,.pointer none]).flatten++(List.replicate (cc-(m+1)) [Value.int .i64 0,.int .i64 0,.pointer none]).flatten).take (3*i))=xs.take (3*i):=λ_=>by
    rw[zz,zBX O,zAZ O]
   have fin:∀v4,QD v3 v4 σ.size->Blk v4 σ.size ((xs.take (3*i)++[x,y,z])++xs.drop (3*i)++((xs.take (3*i)++(List.replicate (m+1-i) [Value.int .i64 0,.int .i64 0,.pointer none]).flatten++(List.replicate (cc-(m+1)) [Value.int .i64 0,.int .i64 0,.pointer none]).flatten).drop (3*i+3)).drop (3*(m-i)))->R ⟨some ⟨σ.size,0,none⟩,m+1,cc⟩ v4:=by
    intro v4 o4 A;refine hR _ v4 ?_ ⟨?_,.inr ⟨σ.size,_,.inr (zD _),rfl,A,by simp only;omega,?_,?_⟩⟩
    ·exact((e2.to.newT o3.ext λi hi=>by subst hi;exact .inr (zD _)).newT o4.ext λi hi=>by subst hi;exact .inr (zD _))
    ·simp only[zK,g,d,zP,zAO];omega
    ·simp only[zK,g,d,zP,zAO,zq,B];omega
    ·rw[zz (xs.take (3*i)++[x,y,z]),←zz,zFO];rfl
   have e3:(xs.take (3*i)++(List.replicate (m+1-i) [Value.int .i64 0,.int .i64 0,.pointer none]).flatten++(List.replicate (cc-(m+1)) [Value.int .i64 0,.int .i64 0,.pointer none]).flatten).take (i*3+0)=xs.take (3*i):=by
    rw[show i*3+0=3*i by omega];exact tk []
   rw[e3]at S;have D:(xs.take (3*i)++[x,y,z]++(xs.take (3*i)++(List.replicate (m+1-i) [Value.int .i64 0,.int .i64 0,.pointer none]).flatten++(List.replicate (cc-(m+1)) [Value.int .i64 0,.int .i64 0,.pointer none]).flatten).drop (i*3+0 + [x,y,z].length)).length=3*cc:=by
    simp only[zK,zq,g,B,zP,zAO];omega
   by_cases r:cc=i+1
   ·exfalso;omega
   ·rw[zA r];simp only[zg,add_lit,zG];refine VY (o:=(i+1)*3) (i:=0) S (by rw[D,d];omega) λv4 o4 A=>fin v4 o4 ?_;have q1:(i+1)*3+0=(xs.take (3*i)++[x,y,z]).length:=by rw[zK,g];simp;omega
    have q2:(i+1)*3+0+(xs.drop (3*i)).length=(xs.take (3*i)++[x,y,z]).length+3*(m-i):=by rw[d,q1]
    rw[q2,q1,zFO,List.drop_append]at A
    ·rw[List.drop_of_length_le (show(xs.take (3*i)++[x,y,z]).length<=(xs.take (3*i)++[x,y,z]).length+3*(m-i) by omega),zBW]at A;have q3:i*3+0 + [x,y,z].length=3*i+3:=by simp;omega
     rw[q3]at A;have q4:(xs.take (3*i)++[x,y,z]).length+3*(m-i)-(xs.take (3*i)++[x,y,z]).length=3*(m-i):=by omega
     rw[q4]at A;exact A
    ·rfl
  ·-- room: the rest moves
   have hle3:m+1<=s.cap:=by omega
   have E:¬s.cap=0:=by omega
   have r:¬s.cap=i:=by omega
   refine arN (m:=m+1) aD O (slc (lo:=0) O O O ?_)
   rw[zA E];simp only[Z,zg,add_lit,zDX,zp,Nat.sub_zero];refine arN (m:=i+1) aD O (slc aD aD aD ?_)
   have C:cs.take (3*m)=xs:=by rw[←hlen,show 3*s.len=xs.length by omega];exact ht
   have na:∃o',(if s.cap=i+1 then(some ⟨b,0,none⟩:Option Addr)else(some ⟨b,0,none⟩:Option Addr).map (·.add ((i+1)*3)))=some ⟨b,o',none⟩:=by
    split
    ·exact⟨0,rfl⟩
    ·exact⟨_,by simp[add_lit];rfl⟩
   obtain⟨o',na⟩:=na;refine Wes (x:=⟨some ⟨vb,0,none⟩,1,1⟩) (a:=vb) (o:=0) (b:=b) rfl na hv G J (λe=>by rw[e]at P;simp at P;omega) (ifT rfl ?_);refine arN (m:=i+1) aD O (slc aD aD aD (slc aD aD aD ?_))
   have N:¬s.cap=i+1:=by omega
   rw[zA N,zA r];simp only[zg,add_lit,zG];have d:(xs.drop (3*i)).length=3*(m-i):=by rw[zq];omega
   refine⟨xs.drop (3*i),by simp only;rw[Nat.min_eq_right O,d];omega,?_,λv hv=>h1 v (zCL hv),?_⟩
   ·intro j v p;rw[add_lit,G.cell];rw[zn]at p;have:=w _ _ p;rw[show i*3+j=3*i+j by omega];exact this
   refine VY (o:=(i+1)*3) (i:=0) G (by rw[d];omega) λv3 o3 S=>?_;refine slc aD aD aD ?_
   rw[zA r];simp only[zg,add_lit,zG];have Y:=Ws o3 hv J;refine⟨[x,y,z],by simp only;rw[zCD O];rfl,?_,ho,?_⟩
   ·intro j u hu;rw[add_lit,zG,Y.cell];exact hu
   have V:(cs.take ((i+1)*3+0)++xs.drop (3*i)++cs.drop ((i+1)*3+0+(xs.drop (3*i)).length)).length=cs.length:=by
    simp only[zK,zO,zq,d];omega
   refine VY (o:=i*3) (i:=0) S (by rw[V];simp;omega) λv4 o4 A=>?_;have a1:(cs.take ((i+1)*3+0)).length=3*i+3:=by rw[zO];omega
   have g:(xs.take (3*i)).length=3*i:=by rw[zO];omega
   have p1:(cs.take ((i+1)*3+0)++xs.drop (3*i)++cs.drop ((i+1)*3+0+(xs.drop (3*i)).length)).take (i*3+0)=xs.take (3*i):=by
    rw[zz,zBX O,zFN,zCD O,←C,zFN,zCD O]
    congr 1;omega
   have p2:(cs.take ((i+1)*3+0)++xs.drop (3*i)++cs.drop ((i+1)*3+0+(xs.drop (3*i)).length)).drop (i*3+0 + [x,y,z].length)=xs.drop (3*i)++cs.drop ((i+1)*3+0+(xs.drop (3*i)).length):=by
    rw[zz,List.drop_left'];rw[a1];simp;omega
   rw[p1,p2,←zz]at A;refine hR _ v4 ((Ext.of_only (F:=Q) o3 U).trans (Ext.of_only o4 U)) ⟨?_,.inr ⟨b,_,.inl U,rfl,A,aD,?_,?_⟩⟩
   ·simp only[zK,g,zP,zAO,d];omega
   ·simp only[zK,g,zq,zP,zAO,d];omega
   ·rw[zFO];rfl
def Zw (ss:List SpA)(st:Nat):Nat:=(ss.takeWhile (λs=>s.st<st)).length
theorem H8 (l:List SpA)(P:SpA->Bool):l.takeWhile P=l.take (l.takeWhile P).length/\l.dropWhile P=l.drop (l.takeWhile P).length:=by
 induction l with
 | nil=>simp
 | cons x l ih=>
  simp only[zEV,zGN];cases P x
  ·simp
  ·simp only[zS,zP,zCZ,zFP];exact⟨by rw[←ih.1],ih.2⟩
theorem WaB (c:Cls)(ss:List SpA)(st:Nat):addS c ss st=ss.take (Zw ss st)++⟨st,List.replicate c.n false⟩::ss.drop (Zw ss st):=by
 have:=H8 ss (λs=>decide (s.st<st));unfold addS Zw;rw[this.2,←this.1]
theorem HT (hs:ss.Pairwise (λa b=>a.st<b.st))(st:Nat):Zw ss st<=ss.length/\∀(i:Nat) s,ss[i]?=some s->(s.st<st↔i<Zw ss st):=by
 unfold Zw
 induction ss with
 | nil=>simp
 | cons x ss ih=>
  have e:=zAR.1 hs;obtain⟨j,g⟩:=ih e.2;simp only[zEV];by_cases hx:x.st<st
  ·simp only[hx,decide_true,zS,zP];refine⟨O,λi s d=>?_⟩;cases i with
   | zero=>simp at d;subst d;simp[hx]
   | succ i=>have:=g i s (by simpa using d);omega
  ·simp only[hx,decide_false,zb,zt,zAO,Nat.zero_le,Nat.not_lt_zero,iff_false,zDO];intro i s d;cases i with
   | zero=>simp at d;subst d;exact hx
   | succ i=>
    have:=e.1 s (zE (i:=i) (by simpa using d));omega
theorem Wh0 (h:CeH σ F p c ps ss){σ1:Hp}(e1:Ext0 σ σ1){sl:Sl}{rb:Nat}{cs:List Value}(hl:sl.len=ss.length)(hE:ss≠[]->EnR σ F p ps ss sl rb cs)(st:Nat)(hst:st<=1024){R:Int->Bool->Hp->Prop}(hR:∀σ' b,Ext0 σ1 σ'->R (Zw ss st:Int) b σ') :
 Wb.c sl (st:Int) ⟨258,#[],#[]⟩ σ1 R:=by
 refine Wb.o ?_;unfold Wb.v;have N:=h.few;obtain⟨H,hp2⟩:=HT h.srt st;have D:∀(k:Nat) (x:Nat×Nat) s (v:Hp) (K:aN),ps[k]?=some x->ss[k]?=some s->Ext0 σ1 v->(∀A,Ext0 v A->K ((s.st:Int)-(st:Int)) A) →
  VK Tryz.prog ⟨258,#[],#[]⟩ [.agg #[.int .i64 (s.many:Int),.int .i64 (s.st:Int),.pointer (some ⟨x.1,0,none⟩)],.int .i64 (st:Int)] [.one bN] v K:=by
  intro k x s v K y r ev hK;refine Gr (all := #[.agg #[.int .i64 (s.many:Int),.int .i64 (s.st:Int),.pointer (some ⟨x.1,0,none⟩)],.int .i64 (st:Int)]) (by kernel_rfl) aA ?_;refine YW.o ?_;unfold YW.v;have hf:=(h.sp k x s y r).fit;refine nw (cs:=[.int .i64 (s.many:Int),.int .i64 (s.st:Int),.pointer (some ⟨x.1,0,none⟩)]) λV hz e M=>M.rI2 rfl (ar O O (hK V e))
 refine Ko (a:=bN) (bb:=bN) (λ(i j:Int) v=>∃a b:Nat,i=(a:Int)/\j=(b:Int)/\a<=Zw ss st/\Zw ss st<=b/\b<=ss.length/\Ext0 σ1 v) (λi j _=>j.toNat-i.toNat) ⟨0,ss.length,rfl,by rw[hl],O,H,O,Ext.refl _ _⟩ ?_;rintro i j v ⟨a,b,rfl,rfl,X,M,B,ev⟩;have z:Ext0 σ v:=e1.trans ev;refine ifD (λY=>?_) λaa=>?_
 ·have w:ss≠[]:=by rintro rfl;simp at B;omega
  have E:=hE w;refine arN (m:=a+b) O O ?_;have Z:IntKind.u64.wrap ((a+b:Nat):Int)=((a+b:Nat):Int):=by
   unfold IntKind.wrap;simp[IntKind.bits,IntKind.signed];omega
  refine arW ?_;rw[Z];refine nn O ?_;have J:min (1:Int).toNat IntKind.u64.bits=1:=by decide
  rw[J,WfE];have C:(((a+b:Nat):Int)/2^1)=(((a+b)/2:Nat):Int):=by omega
  refine arN (m:=(a+b)/2) C O ?_;have d:(a+b)/2<ss.length:=by omega
  obtain⟨x,s,y,r,W⟩:=h.at_i d;have u:=Qw y r;rw[E.a];refine ix O O ?_;rw[add_lit,show 0+(((a+b)/2:Nat):Int).toNat*3=3*((a+b)/2) by omega];refine WaS (e:=0) (z.blk E.blk id) (E.get u.1) (E.get u.2.1) (E.get u.2.2) (D _ x s v _ y r ev λA G=>?_);have g:=hp2 _ s r;show If (decide (((s.st:Int)-(st:Int))<0)) _ _;refine ifD (λP=>?_) λQ=>?_
  ·exact arN (m:=(a+b)/2+1) O O ⟨⟨_,b,rfl,rfl,by have:=g.1 O;omega,M,B,ev.trans G⟩,O⟩
  ·exact⟨⟨a,_,rfl,rfl,X,by
    apply Classical.byContradiction;intro hc;have:=g.2 O;omega,O,ev.trans G⟩,O⟩
 ·have L:a=Zw ss st:=by omega
  subst L;refine JnB.intro (ifD (λS=>?_) λU=>hR v _ ev);have d:Zw ss st<ss.length:=by omega
  have w:ss≠[]:=by rintro rfl;simp at d
  have E:=hE w;obtain⟨x,s,y,r,W⟩:=h.at_i d;have u:=Qw y r;rw[E.a];refine ix O O ?_;rw[add_lit,show 0+(Zw ss st:Int).toNat*3=3*Zw ss st by omega];refine WaS (e:=0) (z.blk E.blk id) (E.get u.1) (E.get u.2.1) (E.get u.2.2) (D _ x s v _ y r ev λA G=>hR A _ (ev.trans G))
theorem Wmj (h:CeH σ F p c ps ss){st:Nat}(hf:st+c.pages<=1024){R:aN}(h9:GR c ss st=9->∀σ',Ext0 σ σ'->R 9 σ')
 (h0:GR c ss st=0->∀σ' ps',Ext F σ σ'->CeH σ' (Grow F σ) p c ps' (addS c ss st)->R 0 σ'):Za.c (aW p) (st:Int) σ R:=by
 refine Za.o ?_;unfold Za.v;have h:=CeH.loc.cut h;obtain⟨sl,d,hl,Z,rb,cs,hE⟩:=h.sl';have hfew:=h.few;have hc:=h.ok;have hck:=hc;unfold Cls.ok at hck;refine KX h (ifF rfl (nilP (d.rI2 rfl (d.rI2 rfl (d.rI2 rfl ?_)))));refine Wma hc hf λv1 D M e1 hpn hqn P=>ifF rfl (nilP ((e1.blk d id).rS rfl ?_));have hplt:=d.lt;refine ZS (a:=bN) (λ(t:Int) v=>∃i:Nat,t=(i:Int)/\i<=ss.length/\Ext0 v1 v/\∀(j:Nat) s,j<i->ss[j]?=some s->¬max s.st st-min s.st st<c.pages) (λt _=>ss.length-t.toNat) ⟨0,rfl,O,Ext.refl _ _,λj s z=>O⟩ ?_;rintro t v ⟨i,rfl,X,ev,Q⟩;have r:=e1.trans ev;refine ifD (λhlt=>?_) λhge=>?_
 ·simp only at hlt;have Y:i<ss.length:=by omega
  obtain⟨E,hcap,hcl⟩:=hE (by rintro rfl;simp at Y);obtain⟨x,s,y,g,hS⟩:=h.at_i Y;have eg:=Qw y g;have hsf:=hS.fit;rw[E.a];refine ix O O ?_;rw[add_lit,show 0+(i:Int).toNat*3=3*i by omega];refine WaS (e:=0) (r.blk E.blk id) (E.get eg.1) (E.get eg.2.1) (E.get eg.2.2) (WfC λv6 e6 b6=>b6.rI2 rfl (b6.rI2 rfl ?_));have hd:(if(st:Int)>(s.st:Int)then(st:Int)else(s.st:Int))-(if(st:Int)<(s.st:Int)then(st:Int)else(s.st:Int))=((max s.st st-min s.st st:Nat):Int):=by
   split<;>split<;>omega
  refine arN (m:=max s.st st-min s.st st) hd O (nilP (((r.trans e6).blk d id).rI2 rfl ?_));refine ifD (λhlt2=>h9 ?_ _ (r.trans e6)) λhge2=>?_
  ·unfold GR;rw[zB];exact zw.2 ⟨s,zE g,by simpa using(by omega:max s.st st-min s.st st<c.pages)⟩
  ·refine arN (m:=i+1) O O ⟨⟨i+1,rfl,O,ev.trans e6,λj s' z U=>?_⟩,O⟩;by_cases e:j=i
   ·subst e;rw[g]at U;cases U;omega
   ·exact Q j s' O U
 ·have hii:i=ss.length:=by simp only at hge;omega
  subst hii;have hE0:GR c ss st=0:=by
   unfold GR;rw[zA];simp only[zCM,zAX,zT];intro s g;obtain⟨j,z⟩:=zN g;exact Q j s (gSi.1 z).1 z
  refine nilP ((r.blk d id).rS rfl ?_);refine Wh0 h r hl (λS=>(hE S).1) st O λv7 bb e7=>nilP (((r.trans e7).blk d id).rS rfl ?_);have e07:=r.trans e7;obtain⟨hp1,hp2⟩:=HT h.srt st;refine nw (cs:=[.int .i64 0,.int .i64 st,.pointer (some ⟨D,0,none⟩)]) λv8 hz8 e8 hb8=>?_;have H:=e07.trans e8;have N:=aI.keep0 Z H;have hsz7:=e07.1;refine WiA N hl O hp1 hb8 (λu=>by have:=u.1.2;omega) WdB ⟨rfl,rfl,rfl⟩ λs' v9 e9 hr9=>nilP ?_;have hb9:=e9.blk (H.blk d id) λu=>u.2.1 rfl;refine hb9.s1 aA λv10 o10 ac=>?_;have J:=h.len;have A:=h.nd;simp only[zo]at A;have hlt:=P.lt;have hsz1:=(ev.trans e7).trans e8 |>.1;have B:∀b∈blks ps,b<σ.size:=λb d=>(h.fb b d).2;have hS9:∀{a b s'},SpH v8 a b c s'->¬(Cut F σ a/\a≠p/\a∉blks ps)->¬(Cut F σ b/\b≠p/\b∉blks ps)->a≠p->b≠p->SpH v10 a b c s':=λhS n1 n2 m1 m2=>(hS.keep e9 n1 n2).keep o10.ext m1 m2;have ab:=((P.keep0 ev).keep0 e7).keep0 e8;have aa:entV (ps.take (Zw ss st)++(D,M)::ps.drop (Zw ss st)) (ss.take (Zw ss st)++⟨st,List.replicate c.n false⟩::ss.drop (Zw ss st)) =
   (entV ps ss).take (3*Zw ss st)++[.int .i64 0,.int .i64 st,.pointer (some ⟨D,0,none⟩)]++(entV ps ss).drop (3*Zw ss st):=by
   rw[Vh (by simp[J])];have w:entV ps ss=entV (ps.take (Zw ss st)) (ss.take (Zw ss st))++entV (ps.drop (Zw ss st)) (ss.drop (Zw ss st)):=by
    rw[←Vh (by simp[J]),zBE,zBE]
   have h2:(entV (ps.take (Zw ss st)) (ss.take (Zw ss st))).length=3*Zw ss st:=by rw[Q5 (by simp[J]),zO];omega
   rw[w,zFO h2,List.drop_left' h2,zz];have:SpA.many ⟨st,List.replicate c.n false⟩=0:=by simp[SpA.many,zFM]
   simp[entV,this]
  refine h0 hE0 v10 (ps.take (Zw ss st)++(D,M)::ps.drop (Zw ss st)) ?_ ?_
  ·refine(((Ext0.to H).trans (e9.sub λb d=>d.1.1))).trans (o10.ext.sub λb d=>d▸h.fp.1)
  ·have C:(blks (ps.take (Zw ss st)++(D,M)::ps.drop (Zw ss st))).Perm (D::M::blks ps):=by
    have:blks ps=blks (ps.take (Zw ss st))++blks (ps.drop (Zw ss st)):=by
     conv=>lhs;rw[←zBE (Zw ss st) ps]
     simp only[blks,zGL]
    rw[this];have h3:blks (ps.take (Zw ss st)++(D,M)::ps.drop (Zw ss st))=blks (ps.take (Zw ss st))++D::M::blks (ps.drop (Zw ss st)):=by simp[blks]
    rw[h3];exact List.perm_middle.trans ((List.perm_middle).cons D)
   have V:∀b,b∈blks (ps.take (Zw ss st)++(D,M)::ps.drop (Zw ss st))↔b=D\/b=M\/b∈blks ps:=by
    intro b;rw[C.mem_iff];simp
   refine⟨⟨s',ac,?_⟩,λi x s y g=>?_,.inl h.fp.1,λb d=>?_,?_,?_,hc,?_⟩
   ·rw[WaB,aa];refine aI.keep (aI.mono hr9 λb _ d=>?_) o10.ext λb _ d he=>d.2.1 he;rw[V];rcases d with d|d
    ·exact⟨.inl d.1.1,d.2.1,λu=>by
      rcases u with h|h|h
      ·have:=d.1.2;omega
      ·have:=d.1.2;omega
      ·exact d.2.2 h⟩
    ·exact⟨.inr O,O,λu=>by
      rcases u with h|h|h
      ·omega
      ·omega
      ·have:=B b h;omega⟩
   ·rw[WaB]at g;have K:(ps.take (Zw ss st)).length=Zw ss st:=by rw[zO];omega
    have L:(ss.take (Zw ss st)).length=Zw ss st:=by rw[zO];omega
    have old:∀j:Nat,ps[j]?=some x->ss[j]?=some s->SpH v10 x.1 x.2 c s:=λj w h2=>by
     have G:=Qu w;exact hS9 ((h.sp j x s w h2).keep0 H) (λu=>u.2.2 G.1) (λu=>u.2.2 G.2) (λe=>A.1 (e▸G.1)) (λe=>A.1 (e▸G.2))
    rcases zCA i (Zw ss st)with hlt'|heq|hgt
    ·rw[ze O,zX,zB hlt']at y g;exact old i y g
    ·rw[zm O]at y g;rw[K,heq,zBY]at y;rw[L,heq,zBY]at g;simp at y g;subst y;subst g;exact hS9 ab (λu=>by have:=u.1.2;simp only at this;omega) (λu=>by have:=u.1.2;simp only at this;omega) aC aC
    ·rw[zm O]at y g;rw[K]at y;rw[L]at g;obtain⟨k,hk⟩:∃k,i-Zw ss st=k+1:=⟨i-Zw ss st-1,O⟩;rw[hk,zGI,zn]at y g;exact old _ y g
   ·rcases(V b).1 d with w|w|w
    ·subst w;exact .inr hpn
    ·subst w;exact .inr hqn
    ·exact .inl (h.fb b w).1
   ·simp only[zo];refine⟨λG=>?_,?_⟩
    ·rcases(V p).1 G with w|w|w
     ·omega
     ·omega
     ·exact A.1 w
    ·rw[C.nodup_iff];simp only[zo,zQ,not_or];have S:=P.ne;exact⟨⟨S,λG=>by have:=B _ G;omega⟩,λG=>by have:=B _ G;omega,A.2⟩
   ·rw[WaB];simp[J]
   ·rw[WaB];rw[zBT];have W:=h.srt;refine⟨W.sublist (zGM _ _),zAR.2 ⟨λs g=>?_,W.sublist (zGO _ _)⟩,λa ha b d=>?_⟩
    ·obtain⟨j,z⟩:=zN g;rw[zn]at z;have w:=hp2 _ s z;have h2:s.st≠st:=λe=>by
      have:=Q (Zw ss st+j) s (gSi.1 z).1 z;rw[e]at this;simp at this;omega
     show st<s.st;omega
    ·obtain⟨i,X⟩:=zN ha;rw[zX]at X;split at X
     ·rename_i hlt';have hat:=(hp2 i a X).2 hlt';rcases zQ.1 d with rfl|d
      ·exact hat
      ·obtain⟨j,z⟩:=zN d;rw[zn]at z;obtain⟨hi1,hi2⟩:=gSi.1 X;obtain⟨hj1,hj2⟩:=gSi.1 z;have:=zAE.1 W i (Zw ss st+j) hi1 hj1 O;rw[hi2,hj2]at this;exact this
     ·cases X
end Go.Ar
namespace Go.Proofs
open Go.Vc
set_option maxRecDepth 100000
def W0.h:Hn:=.q .o1 (.q (.q .o3 .aK) (.q .o6 .l))
def W0.v (a:R2)(b:Hp)(c:Sl->Hp->Prop):Prop:=WK.c a b λd e=>If (!d) (c ⟨none,0,0⟩ e) (bE a 3 e λg=>XE.c g e λh i=>c h i)
theorem W0.o {a b c}(d:W0.v a b c):W0.c a b c:=Wa Tryz.func108 (x:=W0.h) (R0 d)
def WK.h:Hn:=.q .o1 (.q (.reg (.seq [.op,.op,.op,.grd true 5 (RI.ops 5),.op])) .l)
def WK.v (a:R2)(b:Hp)(c:aO):Prop:=JnB (λd e=>c d e) λf=>If (!a.isNone) (bD a 0 b λh=>f (decide (h>0)) b) (f false b)
theorem WK.o {a b c}(d:WK.v a b c):WK.c a b c:=Wa Tryz.func139 (x:=WK.h) (R0 d)
def ZY.h:Hn:=.q .o2 (.q (.q (.reg (.seq [.op,.op,.op,.grd false 2 [.op,.op],.op,.grd false 2 [.op,.op],.op,.grd false 2 [.op,.op]])) .aJ) (.q .o6 .l))
def ZY.v (a b:Int)(c:Hp)(d:Option Addr->Int->Hp->Prop):Prop:=JnB (λe f=>JnB (λg h=>JnB (λi j=>If i (d none 1 j) (aV #[.I a,.I b,.I 0,.slice none 0 0] 215 j λk l=>d (some k) 0 l)) λm=>If g (m true h) (m (decide (b>8)) h)) λn=>If e (n true f) (n (decide (b<0)) f)) λo=>If (a<1) (o true c) (o (decide (a>32)) c)
theorem ZY.o {a b c d}(e:ZY.v a b c d):ZY.c a b c d:=Wa Tryz.func157 (x:=ZY.h) (R0 e)
def Xp.h:Hn:=.q .o1 (.q .o4 .l)
def Xp.v (a:R2)(b:Hp)(c:Sl->Hp->Prop):Prop:=XM.c a ⟨245,#[],#[]⟩ b λd e=>c d e
theorem Xp.o {a b c}(d:Xp.v a b c):Xp.c a b c:=Wa Tryz.func198 (x:=Xp.h) (R0 d)
def WC.h:Hn:=.q .o2 (.q (.k (.q .o4 (.c .aL (.q .o7 .aJ)))) (.q .o7 (.q .o8 (.q .o10 (.q .o10 (.q .o3 .l))))))
def WC.v (a:R2)(b:Hp)(c:Sl->Int->Hp->Prop):Prop:=WK.c a b λd e=>If (!d) (c ⟨none,0,0⟩ 5 e) (bE a 3 e λg=>If (((g.len:Nat):Int)==0) (c ⟨none,0,0⟩ 4 e) (bE a 3 e λi=>bL (((i.len:Nat):Int)-1) λj=>bE a 3 e λl=>Ix l.a l.len j 1 λm=>LdS m e λn=>bE a 3 e λp=>SlcL p 1 0 j (p.cap:Nat) λq=>NilP a λr=>aR r 3 (.slice q.a q.len q.cap) e λs=>bD a 2 s λu=>NilP a λv=>aR v 2 (.I (if j<u then j else u)) s λw=>c n 0 w))
theorem WC.o {a b c}(d:WC.v a b c):WC.c a b c:=Wa Tryz.func213 (x:=WC.h) (R0 d)
def XM.h:Hn:=.q .o2 (.q (.q .o3 .aK) (.q .o5 (.q .o8 (.q (.o 11) (.q .o9 .aL)))))
def XM.v (a:R2)(b:Fv)(c:Hp)(d:Sl->Hp->Prop):Prop:=aV #[.func (.func b.f) b.first b.captured] 325 c λe f=>WK.c a f λg h=>If (!g) (d ⟨none,0,0⟩ h) (LdF (e.add 0) h λi=>VK Tryz.prog i [.pointer a] [.I] h λj k=>bE a 3 k λm=>SlcL m 1 0 j j λn=>bE a 3 k λp=>SlcL p 1 j (p.len:Nat) (p.cap:Nat) λq=>WO.c q k λr s=>NilP a λt=>aR t 3 (.slice r.a r.len r.cap) s λu=>bE a 3 u λw=>NilP a λx=>aR x 2 (.I ((w.len:Nat):Int)) u λy=>d n y)
theorem XM.o {a b c d}(e:XM.v a b c d):XM.c a b c d:=Wa Tryz.func244 (x:=XM.h) (R0 e)
def XL.h:Hn:=.q .o1 (.q .o7 .l)
def XL.v (a:R2)(b:Hp)(c:aN):Prop:=bD a 2 b λe=>bL (e+1) λf=>Nz 2<|bL (f.tdiv 2) λg=>c g b
theorem XL.o {a b c}(d:XL.v a b c):XL.c a b c:=Wa Tryz.func245 (x:=XL.h) (R0 d)
def Xe.h:Hn:=.q .o2 (.q (.k (.q .o4 (.c .aL (.q .o8 (.c .aL (.q (.oq 11) .aJ)))))) (.q (.reg (.held true [8,11] (.tk [0,1,2,3,4,5] (.all [(6,.all [(7,.all [(8,.take 9 (.take 10 (.all [(11,.done)])))])])])))) .aL))
def Xe.v (a:R2)(b:Sl)(c:Hp)(d:Bool->Int->Hp->Prop):Prop:=WK.c a c λe f=>If (!e) (d false 5 f) (bD a 0 f λh=>If (((b.len:Nat):Int) != h) (d false 1 f) (bE a 3 f λj=>bD a 1 f λl=>If (((j.len:Nat):Int)≥l) (d false 0 f) (Held f λm=>NilP a λn=>aT m n 3 λo=>WF.c b f λp q=>And (m q) <| aV #[.slice p.a p.len p.cap] 69 q λr s=>And (m s) <| App o 1 24 69 [.slice none 0 0] ⟨some r,1,1⟩ s λt u=>NilP a λv=>aR v 3 (.slice t.a t.len t.cap) u λw=>d true 0 w)))
theorem Xe.o {a b c d}(e:Xe.v a b c d):Xe.c a b c d:=Wa Tryz.func264 (x:=Xe.h) (R0 e)
end Go.Proofs
namespace Go.Ar
open Go Go.Vc Go.Proofs
variable {σ:Hp}{F:Rg}{p batch room:Nat}{t:TrA}
def slV (s:Sl):Value:=.slice s.a s.len s.cap
def Wv (xs:List Int):List Value:=xs.map (Value.int .i64)
theorem K0 {l:List Int}:∀v∈Wv l,one1 v=true:=by
 intro v hv;simp only[Wv,zC]at hv;obtain⟨x,_,rfl⟩:=hv;rfl
theorem WlC {l:List Sl}:∀v∈l.map slV,one1 v=true:=by
 intro v hv;simp only[zC]at hv;obtain⟨x,_,rfl⟩:=hv;rfl
def Bat (sls:List Sl)(bs:List (List Int))(σ:Hp)(D:Rg):Prop:=sls.length=bs.length/\∀(i:Nat) s xs,sls[i]?=some s->bs[i]?=some xs->SlR s 1 (Wv xs) σ D/\s.len<=s.cap
theorem Bat.loc (sls:List Sl)(bs:List (List Int)):Lcl (Bat sls bs):=λσ j F G h e g=>⟨h.1,λi s b d a=>⟨SlR.loc _ _ _ _ _ _ _ (h.2 i s b d a).1 e g,(h.2 i s b d a).2⟩⟩
def Dj (sls:List Sl):Prop:=sls.Pairwise λs t=>∀a a',s.a=some a->t.a=some a'->a.block≠a'.block
def InB (s:Sl)(b:Nat):Prop:=∃a,s.a=some a/\a.block=b
theorem _root_.Go.Vc.SlR.inB {s:Sl}{sz:Nat}{xs:List Value}{D:Rg}(h:SlR s sz xs σ D):SlR s sz xs σ λb=>D b/\InB s b:=
 ⟨h.1,h.2.imp id λ⟨b,o,d,e,a,r⟩=>⟨b,o,d,⟨e,_,a,rfl⟩,a,r⟩⟩
theorem _root_.Go.Vc.SlR.blk {s:Sl}{sz:Nat}{xs:List Value}{D:Rg}(h:SlR s sz xs σ D)(hx:xs≠[]){b:Nat}(hb:InB s b):D b/\b<σ.size:=by
 rcases h.2 with h0|⟨b',o,cs,hq,ha,hc,_⟩
 ·exact absurd h0 hx
 ·obtain⟨a,d,rfl⟩:=hb;rw[ha]at d;cases d;exact⟨hq,hc.lt⟩
theorem Dj.snoc {sls:List Sl}{bs:List (List Int)}{D:Rg}{z:Nat}{s':Sl}{xs:List Value}{v:Hp}(h:Dj sls)(hB:Bat sls bs σ D)(hne:∀xs∈bs,xs≠[])(hz:∀b,D b->b<z)(hs:RowR s' 1 xs v λb=>z<=b)(hx:xs≠[]):Dj (sls++[s']):=by
 refine zBT.2 ⟨h,List.pairwise_singleton _ _,λs e u m a r w p=>?_⟩;rw[zV]at m;subst m;obtain⟨i,j⟩:=zN e;have g:=(gSi.1 j).1;have d:bs[i]?=some (bs[i]'(by rw[←hB.1];exact g)):=gGe _;have x:=((hB.2 i s _ j d).1.blk (by simp only[Wv,ne_eq,zFA];exact hne _ (zE d)) ⟨a,w,rfl⟩).1;have y:=(hs.slR.blk hx ⟨r,p,rfl⟩).1;have:=hz _ x;omega
structure TfH (σ:Hp) (F:Rg) (p batch room:Nat) (t:TrA):Prop where
 mem:∃(sl:Sl) (sls:List Sl) (D:Rg),Blk σ p [.int .i64 (batch:Int),.int .i64 (room:Int),.int .i64 (t.low:Int),.slice sl.a sl.len sl.cap]/\RowR sl 1 (sls.map slV) σ (λb=>F b/\b≠p/\¬D b)/\Bat sls t.bs σ D/\(∀b,D b->F b/\b≠p)/\Dj sls
 fp:F p
 b1:1<=batch/\batch<=32
 r1:room<=8
 few:t.bs.length<=room
 low:t.low<=t.bs.length
 all:∀xs∈t.bs,xs.length=batch
theorem TfH.loc:Lcl λσ F=>TfH σ F p batch room t:=λσ x F G h r d=>by
 obtain⟨sl,j,D,a,w,u,i,s⟩:=h.mem;refine⟨⟨sl,j,λb=>D b/\b<σ.size,?_,?_,?_,λb a=>⟨(d b a.2 (i b a.1).1).1,(i b a.1).2⟩,s⟩,(d p a.lt h.fp).1,h.b1,h.r1,h.few,h.low,h.all⟩
 ·obtain⟨e,m⟩:=a;exact⟨e,(d p (Blk.lt ⟨e,m⟩) h.fp).2.trans m⟩
 ·exact RowR.loc _ _ _ _ _ _ _ w r λb a g=>⟨⟨(d b a g.1).1,g.2.1,λhd=>g.2.2 hd.1⟩,(d b a g.1).2⟩
 ·exact Bat.loc _ _ _ _ _ _ u r λb a hd=>⟨⟨hd,a⟩,(d b a (i b hd).1).2⟩
theorem TfH.keep0 {σ':Hp}(h:TfH σ F p batch room t)(e:Ext0 σ σ'):TfH σ' F p batch room t:=Lcl.keep0 TfH.loc h e
theorem Hx (h:TfH σ F p batch room t){R:aO}(hR:R true σ):WK.c (aW p) σ R:=by
 refine WK.o ?_;unfold WK.v;obtain⟨sl,a,D,b,_⟩:=h.mem;have:=h.b1;refine JnB.intro (ifT rfl (nilP (b.rI rfl ?_)));rw[zW O];exact hR
theorem _root_.Go.Vc.SlR.ixS {s:Sl}{F:Rg}{sls:List Sl}(h:SlR s 1 (sls.map slV) σ F){i:Nat}{x:Sl}(hx:sls[i]?=some x){K:Sl->Prop}(hK:K x):Ix s.a s.len (i:Int) 1 λa=>LdS a σ K:=by
 have m:=(gSi.1 hx).1;obtain⟨b,o,g,e⟩:=h.cell (j:=i) (v:=slV x) (by simp[hx]);have d:=h.1;rw[za]at d;rw[g];refine ix O O ?_;rw[add_lit];exact ldS (by simpa[slV]using e) hK
theorem WnF (h1:1<=batch)(h2:batch<=32)(h3:room<=8){R:Option Addr->Int->Hp->Prop}(hR:∀σ' p,Ext0 σ σ'->σ.size<=p->p<σ'.size->TfH σ' (· = p) p batch room ⟨0,[]⟩->R (some ⟨p,0,none⟩) 0 σ'):ZY.c batch room σ R:=by
 refine ZY.o ?_;unfold ZY.v;refine JnB.intro (ifDF O (JnB.intro (ifDF O (JnB.intro (ifDF O (ifDF O ?_))))));refine nw (cs:=[.int .i64 batch,.int .i64 room,.int .i64 0,.slice none 0 0]) λv g e a=>?_;exact hR v _ e (zD _) O ⟨⟨⟨none,0,0⟩,[],λ_=>False,a,RowR.nil _ _ _ _,⟨rfl,λi s d h=>by simp at h⟩,λb h=>h.elim,List.Pairwise.nil⟩,rfl,⟨h1,h2⟩,h3,by simp,by simp,by simp⟩
theorem WjI (h:TfH σ F p batch room t){sl:Sl}{xs:List Int}{X:Rg}(hs:SlR sl 1 (Wv xs) σ X)(hl:xs.length<=1000000){R:Bool->Int->Hp->Prop}(h1:xs.length≠batch->R false 1 σ)(h2:xs.length=batch->room<=t.bs.length->R false 0 σ)
 (h3:xs.length=batch->t.bs.length<room->∀σ',Ext F σ σ'->TfH σ' (Grow F σ) p batch room {t with bs:=t.bs++[xs]}->R true 0 σ'):Xe.c (aW p) sl σ R:=by
 refine Xe.o ?_;unfold Xe.v;have h:=TfH.loc.cut h;obtain⟨E,C,D,d,hr,B,M,hJ⟩:=h.mem;have r:sl.len=xs.length:=by have:=hs.1;simp[Wv]at this;omega
 have hso:E.len=t.bs.length:=by have:=hr.1;rw[za,B.1]at this;omega
 have hr8:=h.r1;have hb1:=h.b1;refine Hx h (ifF rfl (nilP (d.rI rfl ?_)));rw[bneN];refine iff_ (λA=>h1 (by rw[←r];simpa using A)) λU=>?_;have g:xs.length=batch:=by rw[←r];simpa using U
 refine nilP (d.rS rfl (nilP (d.rI rfl (ifD (λaa=>h2 g (by simp only at aa;omega)) λZ=>?_))));simp only at Z;refine⟨λh'=>Blk h' p [.int .i64 (batch:Int),.int .i64 (room:Int),.int .i64 (t.low:Int),.slice E.a E.len E.cap],d,nilP ⟨E,λh' V=>by rw[add_lit,V.cell];rfl,?_⟩⟩;refine Hq hs K0 O λx v1 hl1 y w=>⟨y.blk d id,?_⟩;refine nw (cs:=[.slice x.a x.len x.cap]) λv2 hz2 H W=>⟨(y.trans H).blk d id,?_⟩;have Q:=aI.keep0 (aI.keep0 hr y) H;refine Q.app (ys:=[slV x]) rfl rfl ?_ (by simp[one1,slV]) ?_ ?_ zBG λs2 v3 hl3 e3 N=>nilP ?_
 ·intro j u hu;rw[add_lit,zG,W.cell];exact hu
 ·simp only;have:(E.len+1)*24<=9*24:=zAF O O;omega
 ·simp only;omega
 ·have S:=e3.blk ((y.trans H).blk d id) λJ=>J.2.1 rfl;have hplt:=d.lt;have hs1:=y.1;refine S.s1 aA λv4 o4 P=>h3 g O v4 ?_ ?_
  ·exact((Ext0.to (y.trans H)).trans (e3.sub λb d=>d.1.1)).trans (o4.ext.sub λb d=>d▸h.fp.1)
  ·refine⟨⟨s2,C++[x],λb=>D b/\b<σ.size\/σ.size<=b/\b<v1.size,P,?_,⟨by simp[B.1],λi s ys z m=>?_⟩,λb d=>?_,?_⟩,.inl h.fp.1,h.b1,h.r1,by simp;omega,by have:=h.low;simp;omega,λys m=>?_⟩
   ·rw[zAD];refine aI.keep (aI.mono N λb _ d=>?_) o4.ext λb _ d Y=>d.2.1 Y;rcases d with d|d
    ·exact⟨.inl d.1.1,d.2.1,λhd=>by
      rcases hd with hd|hd
      ·exact d.2.2 hd.1
      ·have:=d.1.2;omega⟩
    ·exact⟨.inr O,O,λhd=>by rcases hd with hd|hd<;>omega⟩
   ·have mv:∀{s:Sl} {ys:List Int} {G:Rg},SlR s 1 (Wv ys) v2 G->(∀b,G b->b≠p/\¬(Cut F σ b/\b≠p/\¬D b))->SlR s 1 (Wv ys) v4 G:=λV hn=>
     aH.keep (aH.keep V e3 λb _ d=>(hn b d).2) o4.ext λb _ d Y=>(hn b d).1 Y
    rcases zAN i C.length with hi'|hi'
    ·rw[ze hi']at z;rw[ze (by rw[←B.1];exact hi')]at m;obtain⟨k1,k2⟩:=B.2 i s ys z m;refine⟨aH.mono (mv (aH.keep0 (aH.keep0 (aH.mono k1 (G:=λb=>D b/\b<σ.size) λb d hd=>⟨hd,d⟩) y) H) λb hd=>⟨(M b hd.1).2,λJ=>J.2.2 hd.1⟩) λb _ hd=>.inl hd,k2⟩
    ·rw[zm hi']at z;rw[zm (by rw[←B.1];exact hi')]at m;have L:i-C.length=0:=by
      have:=(gSi.1 z).1;simp at this;omega
     rw[L]at z;rw[show i-t.bs.length=0 by rw[←B.1];exact L]at m;simp at z m;subst z;subst m;have K:x.len<=x.cap:=by
      rcases w.2 with⟨q1,q2⟩|⟨_,_,_,_,_,q,_⟩
      ·omega
      ·exact q
     refine⟨aH.mono (mv (aH.keep0 (aH.mono w.slR (G:=λb=>σ.size<=b/\b<v1.size) λb d hd=>⟨hd,d⟩) H) λb hd=>⟨O,λJ=>by have:=J.1.2;omega⟩) λb _ hd=>.inr hd,K⟩
   ·rcases d with hd|hd
    ·exact⟨.inl (M b hd.1).1.1,(M b hd.1).2⟩
    ·exact⟨.inr hd.1,O⟩
   ·have A:∀ys∈t.bs,ys≠[]:=λys m e=>by have:=TfH.all ‹_› ys m;rw[e]at this;simp at this;omega
    exact hJ.snoc B A (λb hd=>(M b hd).1.2) w (by simp only[Wv,ne_eq,zFA];intro e;rw[e]at g;simp at g;omega)
   ·rcases zR.1 m with h|h
    ·exact TfH.all ‹_› ys h
    ·simp at h;subst h;exact g
theorem Weq (h:TfH σ F p batch room t)(h0:t.bs=[]){R:Sl->Int->Hp->Prop}(hR:R ⟨none,0,0⟩ 4 σ):WC.c (aW p) σ R:=by
 refine WC.o ?_;unfold WC.v;obtain⟨b,e,D,d,i,g,m,j⟩:=h.mem;have a:b.len=t.bs.length:=by have:=i.1;rw[za,g.1]at this;omega
 refine Hx h (ifF rfl (nilP (d.rS rfl (ifT ?_ hR))));simp[a,h0]
theorem WhE (h:TfH σ F p batch room t)(h0:t.bs≠[]){R:Sl->Int->Hp->Prop}(hR:∀out σ',Ext F σ σ'->(∀b,InB out b->F b)->SlR out 1 (Wv (t.bs.getLast?.getD [])) σ' (InB out)->out.len<=out.cap->TfH σ' (λb=>F b/\¬InB out b) p batch room t.rem->R out 0 σ'):WC.c (aW p) σ R:=by
 refine WC.o ?_;unfold WC.v;obtain⟨K,g,D,d,H,z,B,Y⟩:=h.mem;have hso:K.len=t.bs.length:=by have:=H.1;rw[za,z.1]at this;omega
 have V:=zCG.2 h0;have hr8:=h.r1;have hfw:=h.few;have aa:=h.low;have S:t.bs.length-1<g.length:=by rw[z.1];omega
 obtain⟨o,U⟩:∃o,g[t.bs.length-1]?=some o:=⟨_,gGe S⟩;have j:t.bs[t.bs.length-1]?=some (t.bs.getLast?.getD []):=by
  rw[List.getLast?_eq_getElem?,gGe O];rfl
 obtain⟨X,k2⟩:=z.2 _ o _ U j;refine Hx h (ifF rfl (nilP (d.rS rfl (ifF ?_ ?_))))
 ·simp only[zBC];omega
 refine nilP (d.rS rfl (arN (m:=t.bs.length-1) aC O (nilP (d.rS rfl ?_))));refine H.slR.ixS U (nilP (d.rS rfl ?_));have W:K.len<=K.cap:=by
  rcases H.2 with⟨q1,q2⟩|⟨_,_,_,_,_,q,_⟩
  ·omega
  ·exact q
 refine slc (lo:=0) O aD aD (nilP (d.s1 aA λv1 o1 E=>nilP (E.rI rfl (nilP ?_))))
 refine E.s1 aA λv2 o2 u=>?_;have r:Ext (· = p) σ v2:=o1.ext.trans o2.ext;have C:(if((t.bs.length-1:Nat):Int)<(t.low:Int)then((t.bs.length-1:Nat):Int)else(t.low:Int))=((min t.low (t.bs.length-1):Nat):Int):=by split<;>omega
 rw[C]at u;have Q:∀A∈t.bs,A≠[]:=λA w e=>by have Z:=h.all A w;have h2:=h.b1;rw[e]at Z;simp at Z;omega
 have y:∀b,InB o b->D b:=λb d=>(X.blk (by simp only[Wv,ne_eq,zFA];exact Q _ (zE j)) d).1;refine hR o v2 (r.sub λb d=>d▸h.fp) (λb d=>(B b (y b d)).1) (aH.mono (aH.keep X r λb _ d G=>(B b d).2 G).inB λb _ hd=>hd.2) k2 ⟨⟨_,g.dropLast,λb=>D b/\¬InB o b,u,?_,⟨by simp[z.1,TrA.rem],λi s A J w=>?_⟩,λb hd=>⟨⟨(B b hd.1).1,hd.2⟩,(B b hd.1).2⟩,List.Pairwise.sublist (List.dropLast_sublist _) Y⟩,⟨h.fp,λd=>(B p (y p d)).2 rfl⟩,h.b1,h.r1,by simp[TrA.rem];omega,by simp[TrA.rem];omega,λA w=>h.all A (List.dropLast_subset _ w)⟩
 ·refine aI.keep ?_ r λb _ d G=>d.2.1 G;refine⟨by simp[z.1],?_⟩;rcases H.2 with⟨q1,q2⟩|⟨b,cs,hq,P,hbb,hle,hcl,ht⟩
  ·omega
  ·refine .inr ⟨b,cs,⟨⟨hq.1,λd=>hq.2.2 (y b d)⟩,hq.2.1,λhd=>hq.2.2 hd.1⟩,?_,hbb,by simp only;omega,by simp only;omega,?_⟩
   ·simp only[P];split<;>simp[add_lit]
   ·simp only[za]at ht ⊢;have hd:g.dropLast.map slV=(g.map slV).take (g.length-1):=by rw[zFQ,List.map_take]
    rw[hd,←ht,zFN,zGH]
    congr 1;omega
 ·have x:i<t.bs.length-1:=by
   have:=(gSi.1 w).1;simpa[TrA.rem]using this
  rw[zFQ,zX]at J;simp only[TrA.rem,zFQ,zX]at w;rw[zB (by rw[z.1];exact x)]at J;rw[zB x]at w;obtain⟨m1,m2⟩:=z.2 i s A J w;refine⟨aH.mono (aH.keep m1 r λb _ d G=>(B b d).2 G).inB λb _ d=>⟨d.1,λu=>?_⟩,m2⟩;obtain⟨a,P,e1⟩:=d.2;obtain⟨a',N,e2⟩:=u;obtain⟨M,rfl⟩:=gSi.1 J;obtain⟨L,rfl⟩:=gSi.1 U;exact zAE.1 Y i _ M L x a a' P N (e1.trans e2.symm)
theorem Wg7 {s:Sl}{vs:List Value}(h:SlR s 1 vs σ F)(h1:∀v∈vs,one1 v=true)(hl:s.len<=1000000){R:Sl->Hp->Prop}
 (hR:∀s' σ',s'.len=s.len->Ext0 σ σ'->RowR s' 1 vs σ' (λb=>σ.size<=b)->R s' σ'):WO.c s σ R:=by
 refine WO.o ?_;unfold WO.v;exact Wai h aB rfl h1 aB hl hR
def OutR (out:Sl)(bs:List (List Int))(σ:Hp)(G:Rg):Prop:=∃sls:List Sl,SlR out 1 (sls.map slV) σ G/\Bat sls bs σ G
theorem OutR.loc (out:Sl)(bs:List (List Int)):Lcl (OutR out bs):=λσ i F G ⟨a,g,e⟩ b d=>⟨a,SlR.loc _ _ _ _ _ _ _ g b d,Bat.loc _ _ _ _ _ _ e b d⟩
theorem Wng (h:TfH σ F p batch room t){R:Sl->Hp->Prop}(hR:∀out σ',Ext F σ σ'->OutR out t.out σ' F->TfH σ' (Grow F σ) p batch room t.tick->R out σ'):Xp.c (aW p) σ R:=by
 refine Xp.o ?_;unfold Xp.v;refine XM.o ?_;unfold XM.v;have P:=h;have h:=TfH.loc.cut h;obtain⟨w,d,D,e,U,z,H,hJ⟩:=h.mem;have S:w.len=t.bs.length:=by have:=U.1;rw[za,z.1]at this;omega
 have hr8:=h.r1;have hfw:=h.few;have hlow:=h.low;obtain⟨n,N⟩:∃n,n=(t.low+1)/2:=⟨_,rfl⟩;have hnl:n<=t.bs.length:=by omega
 refine nw (cs:=[.func (.func 245) #[] #[]]) λv1 hz1 y aa=>?_;have h1:=h.keep0 y;have u:=y.blk e id;refine Hx h1 (ifF rfl ?_);refine⟨⟨245,#[],#[]⟩,by rw[add_lit,aa.cell];rfl,?_⟩;refine Gr (all := #[.pointer (some ⟨p,0,none⟩)]) (by kernel_rfl) aA ?_;refine XL.o ?_;unfold XL.v;refine nilP (u.rI rfl (arN (m:=t.low+1) O O (nz aB (arN (m:=n) (by rw[YM O];omega) O ?_))));refine nilP (u.rS rfl ?_);have hcap:w.len<=w.cap:=by
  rcases U.2 with⟨q1,q2⟩|⟨_,_,_,_,_,q,_⟩
  ·omega
  ·exact q
 have M:=aI.keep0 U y;have V:=(Bat.loc _ _).keep0 z y;refine slc (lo:=0) O O aD (nilP (u.rS rfl (slc aD aD aD ?_)))
 have x:∀(s:Sl) (a m:Nat),(s.len=m)->a+m<=d.length->(m=0\/∀b,w.a=some ⟨b,0,none⟩->s.a=some ⟨b,a,none⟩)->SlR s 1 (((d.drop a).take m).map slV) v1 (λb=>Cut F σ b/\b≠p/\¬D b):=by
  intro s a m hs ham hsa;refine⟨by simp;omega,?_⟩;rcases zET m with h0|h0
  ·left;subst h0;simp
  ·rcases M.slR.2 with q|⟨b,o,cs,q1,q2,q3,q4⟩
   ·have:d=[]:=by simpa using q
    subst this;simp at ham;omega
   ·rcases M.2 with⟨z1,z2⟩|⟨b',cs',w1,w2,w3,w4,w5,w6⟩
    ·rw[z.1]at ham;omega
    ·rcases hsa with hm|hsa
     ·omega
     ·refine .inr ⟨b',a,cs',w1,hsa b' w2,w3.q,λj hj=>?_⟩;simp only[za,zO,zq]at hj;have:cs'[a+j]?=(d.map slV)[a+j]? := by
       rw[←w6,zX,zB (by rw[za];omega)]
      rw[this];simp only[zf,zX,zn];rw[zB O]
 have hso2:w.len=d.length:=by rw[z.1];exact S
 refine Wg7 (x _ n (d.length-n) aC O ?_) WlC aC λs' v3 Q C L=>?_
 ·by_cases hz:w.cap=n
  ·left;omega
  ·right;intro b hbs;simp only[zA hz,hbs];simp[add_lit]
 have Z:=C.blk u id;refine nilP (Z.s1 aA λv4 o4 E=>nilP (E.rS rfl (nilP (E.s1 aA λv5 o5 K=>?_))));have g:Ext (· = p) v3 v5:=o4.ext.trans o5.ext;have hs1:=y.1;have hs3:=C.1;have hplt:=e.lt;have W:(d.drop 0).take n=d.take n:=by simp
 refine hR _ v5 ?_ ⟨d.take n,?_,?_⟩ ⟨⟨s',d.drop n,λb=>D b/\b<σ.size,?_,?_,?_,?_,List.Pairwise.sublist (zGO _ _) hJ⟩,.inl P.fp,h.b1,h.r1,?_,?_,?_⟩
 ·exact(Ext0.to (y.trans C)).trans (g.sub λb e=>e▸P.fp)
 ·have:=x ⟨if n=0 then w.a else w.a.map (·.add (0*1)),n-0,n-0⟩ 0 n aA O (by
   by_cases hz:n=0
   ·exact .inl hz
   ·right;intro b hbs;simp only[zA hz,hbs];simp[add_lit])
  rw[W]at this;exact aH.mono (aH.keep (aH.keep0 this C) g λb _ e B=>e.2.1 B) λb _ e=>e.1.1
 ·refine⟨by simp[z.1,TrA.out,N],λi s J A r=>?_⟩;simp only[TrA.out,←N]at r;rw[zX]at A r;split at A
  ·rename_i hin;rw[zB hin]at r;obtain⟨X,Y⟩:=V.2 i s J A r;exact⟨aH.mono (aH.keep (aH.keep0 X C) g λb _ e B=>(H b e).2 B) λb _ e=>(H b e).1.1,Y⟩
  ·cases A
 ·have:((s'.len:Nat):Int)=((t.tick.low:Nat):Int):=by
   rw[Q];simp only[TrA.tick,zq,←N];omega
  rw[this]at K;exact K
 ·have hh:((d.drop n).take (d.length-n))=d.drop n:=zAZ aA;rw[hh]at L;refine aI.keep (aI.mono L λb _ e=>?_) g λb _ e B=>e.2.1 B;exact⟨.inr O,O,λhd=>O⟩
 ·refine⟨by simp[z.1,TrA.tick,N],λi s J A r=>?_⟩;simp only[TrA.tick,←N]at r;rw[zn]at A r;obtain⟨X,Y⟩:=z.2 _ s J A r;exact⟨aH.keep (aH.keep0 (aH.keep0 (aH.mono X (G:=λb=>D b/\b<σ.size) λb e hd=>⟨hd,e⟩) y) C) g λb _ e B=>(H b e.1).2 B,Y⟩
 ·exact λb hd=>⟨.inl (H b hd.1).1.1,(H b hd.1).2⟩
 ·simp only[TrA.tick,zq];omega
 ·simp[TrA.tick]
 ·exact λJ r=>h.all J (zCL r)
theorem Wnx {n:Nat}(hn:n<=1000000){R:Sl->Hp->Prop}(hR:∀s' σ',Ext0 σ σ'->RowR s' 1 [] σ' (λb=>σ.size<=b)->R s' σ'):XH.c ⟨none,0,0⟩ (n:Int) σ R:=by
 refine XH.o ?_;unfold XH.v;refine Jn.intro (ifDF O (arN (m:=0) aA O (arN (m:=n) aA O (ifD (λe=>?_) λu=>hR _ _ (Ext.refl _ _) (RowR.nil _ _ _ _)))));refine slc (lo:=0) (hi:=0) (mx:=0) O O aA ?_;refine⟨O,[],by simp,by simp[Rd],by simp[one1],by simp only[iTn];omega,by simp only[iTn];omega,O,λa=>by simp only[iTn]at a;omega,λg cc s=>?_⟩;refine nw λp r j d=>?_;simp only[iTn]at *;have i:n<=cc:=by omega
 refine slc (lo:=0) (hi:=0) (mx:=cc) O O aC (hR _ p j ⟨by simp,.inr ⟨σ.size,_,zD _,?_,d,by simp,?_,by simp⟩⟩)
 ·simp only;split<;>simp[add_lit]
 ·simp only[zBW,zK,zEB,zDH,zEC,zP,zAO,Nat.sub_zero];omega
theorem Wdw (bs:List (List Int)){i:Nat}{xs:List Int}(h:bs[i]?=some xs):(bs.take (i+1)).flatten=(bs.take i).flatten++xs:=by
 rw[zh,h];simp
theorem TfH.flat (h:TfH σ F p batch room t):t.bs.flatten.length<=256:=by
 have key:∀l:List (List Int),(∀a∈l,a.length=batch)->l.flatten.length=batch*l.length:=by
  intro l
  induction l with
  | nil=>intro _;simp
  | cons x l ih=>
   intro hl;rw[zDU,zK,hl x aA,ih λa d=>hl a (by simp[d]),zP,Nat.mul_add];omega
 rw[key t.bs h.all];have b:=h.b1;have e:=h.few;have g:=h.r1;have:batch*t.bs.length<=32*8:=zAF b.2 O;omega
theorem WhD (bs:List (List Int))(i:Nat):(bs.take i).flatten.length<=bs.flatten.length:=by
 conv=>rhs;rw[←zBE i bs,zGD,zK]
 omega
theorem Wmz (h:TfH σ F p batch room t){R:Sl->Hp->Prop}(hR:∀s' σ',Ext0 σ σ'->s'.len=t.bs.flatten.length->RowR s' 1 (Wv t.bs.flatten) σ' (λb=>σ.size<=b)->R s' σ'):W0.c (aW p) σ R:=by
 refine W0.o ?_;unfold W0.v;have P:=h.flat;obtain⟨M,j,D,K,H,B,hD,hJ⟩:=h.mem;have Q:M.len=t.bs.length:=by have:=H.1;rw[za,B.1]at this;omega
 have Z:=h.few;have aa:=h.r1;refine Hx h (ifF rfl (nilP (K.rS rfl ?_)));refine XE.o ?_;unfold XE.v;refine Ko (a:=bN) (bb:=bN) (λ(n u:Int) v=>∃i:Nat,u=(i:Int)/\i<=t.bs.length/\v=σ/\n=(((t.bs.take i).flatten.length:Nat):Int)) (λ_ u _=>t.bs.length-u.toNat) ⟨0,rfl,O,rfl,by simp⟩ ?_;rintro n u v ⟨i,rfl,V,rfl,rfl⟩;refine ifD (λy=>?_) λz=>?_
 ·simp only at y;have d:i<t.bs.length:=by omega
  have r:i<j.length:=by rw[B.1];exact d
  refine H.slR.ixS (gGe r) ?_;obtain⟨E,N⟩:=B.2 i _ _ (gGe r) (gGe d);have A:j[i].len=t.bs[i].length:=by have:=E.1;simp[Wv]at this;omega
  have C:=Wdw t.bs (gGe d);have L:=WhD t.bs (i+1);refine arN (m:=(t.bs.take (i+1)).flatten.length) (by rw[C,zK,A];omega) O (ifDF O (arN (m:=i+1) O O ⟨⟨i+1,rfl,O,rfl,rfl⟩,O⟩))
 ·have x:i=t.bs.length:=by simp only at z;omega
  subst x;rw[zl];refine Wnx O λs1 v1 U G=>?_;refine Ko (a:=.s) (bb:=bN) (λ(s:Sl) (u:Int) w=>∃i:Nat,u=(i:Int)/\i<=t.bs.length/\Ext0 v w/\RowR s 1 (Wv (t.bs.take i).flatten) w (λb=>v.size<=b)) (λ_ u _=>t.bs.length-u.toNat) ⟨0,rfl,O,U,by simpa[Wv]using G⟩ ?_;rintro s u w ⟨i,rfl,V,e,g⟩;refine ifD (λy=>?_) λz=>?_
  ·simp only at y;have d:i<t.bs.length:=by omega
   have r:i<j.length:=by rw[B.1];exact d
   refine(aI.keep0 H e).slR.ixS (gGe r) ?_;obtain⟨E,N⟩:=B.2 i _ _ (gGe r) (gGe d);have A:j[i].len=t.bs[i].length:=by have:=E.1;simp[Wv]at this;omega
   have ab:=h.all _ (zc d);have S:=h.b1;have C:=Wdw t.bs (gGe d);have L:=WhD t.bs (i+1);have X:s.len=(t.bs.take i).flatten.length:=by have:=g.1;simp only[Wv,za]at this;omega
   rw[C,zK]at L;refine g.app (ys:=Wv t.bs[i]) rfl (by simp[Wv];omega) (aH.keep0 E e).rd K0 ?_ O O λs' w' Y W J=>?_
   ·have:(s.len+j[i].len)*8<=512*8:=zAF O O;omega
   ·refine arN (m:=i+1) O O ⟨⟨i+1,rfl,O,Ext.fresh e W λ_ h=>h,?_⟩,O⟩;rw[C];have:Wv ((t.bs.take i).flatten++t.bs[i])=Wv (t.bs.take i).flatten++Wv t.bs[i]:=by simp[Wv]
    rw[this];exact aI.mono J λb _ K=>by
     rcases K with h|h
     ·exact h
     ·exact zI e.1 h
  ·have x:i=t.bs.length:=by simp only at z;omega
   subst x;rw[zl]at g;exact hR s w e (by have:=g.1;simp only[Wv,za]at this;omega) g
end Go.Ar
namespace Go.Ar
open Go Go.Vc Go.Proofs
open Go.Bu (Zf)
variable {σ:Hp}{F:Rg}{p:Nat}{ow:Nat->Nat}
end Go.Ar
namespace Go.Proofs
open Go.Vc
set_option maxRecDepth 100000
def XC.h:Hn:=.q .o1 (.q .o1 (.q (.q .o3 (.k (.loop [(3,.I),(7,.I)] (.q .o1 (.q (.c .l .l) (.q (.k (.q .o2 (.q .o8 (.c .o3 .l)))) .o2)))))) .aL))
def XC.v (a:R2)(b:Hp)(c:aN):Prop:=Xw.c a b λd e=>W8 [bN,bN] (λf=>f 0 0 e) λg (h:Int) (i:Int) j=>If (i<d) (bE a 0 j λl=>Ix l.a l.len i 2 λm=>aZ m 0 j λn=>If n (bL (h+1) λo=>bL (i+1) λp=>g o p j) (bL (i+1) λq=>g h q j)) (c h j)
theorem XC.o {a b c}(d:XC.v a b c):XC.c a b c:=Wa Tryz.func71 (x:=XC.h) (R0 d)
def Xr.h:Hn:=.q .o1 (.q (.q .o3 .aK) (.q .o6 .l))
def Xr.v (a:R2)(b:Hp)(c:aN):Prop:=Xt.c a b λd e=>If (!d) (c 0 e) (bI a 1 e λg=>MLen .i64 .s g e λh=>c h e)
theorem Xr.o {a b c}(d:Xr.v a b c):Xr.c a b c:=Wa Tryz.func72 (x:=Xr.h) (R0 d)
def Xw.h:Hn:=.q .o1 (.q (.q .o3 .aK) (.q .o6 .l))
def Xw.v (a:R2)(b:Hp)(c:aN):Prop:=Xt.c a b λd e=>If (!d) (c 0 e) (bE a 0 e λg=>c ((g.len:Nat):Int) e)
theorem Xw.o {a b c}(d:Xw.v a b c):Xw.c a b c:=Wa Tryz.func103 (x:=Xw.h) (R0 d)
def Xt.h:Hn:=.q .o1 (.q (.reg (.seq [.op,.op,.op,.grd true 6 (RI.ops 6),.op])) .l)
def Xt.v (a:R2)(b:Hp)(c:aO):Prop:=JnB (λd e=>c d e) λf=>If (!a.isNone) (bE a 0 b λh=>f (decide (((h.len:Nat):Int)>0)) b) (f false b)
theorem Xt.o {a b c}(d:Xt.v a b c):Xt.c a b c:=Wa Tryz.func104 (x:=Xt.h) (R0 d)
def X8.h:Hn:=.q .o1 (.q (.k (.q .o4 (.c .aM (.q .o3 (.c .aM (.q (.reg (.seq [.op,.op,.op,.grd false 3 (RI.ops 3),.op])) .aK)))))) (.q .o10 (.q (.q (.reg (.heldJ true [] [(50,.one .b)] (.tk [0,1,2,3,4,5,6,7] (.split 39 (.tk [8,9,10,11,12,13,14,15,16,17,18] (.done)) (.tk [8,9,10,11,12,13,14,15,16] (.all [(17,.take 18 (.done))])))))) .aK) .aM)))
def X8.v (a:R2)(b c:Int)(d:Hp)(e:aN):Prop:=Xt.c a d λf g=>If (!f) (e 5 g) (If (c==0) (e 0 g) (JnB (λh i=>If h (e 7 i) (Nz 256<|bL (b.tdiv 256) λj=>Nz 8<|bL (b.tdiv 8) λk=>bL (k+c) λl=>bL (l-1) λm=>Nz 32<|bL (m.tdiv 32) λn=>Jn [.b] (λ(o:Bool) p=>If o (e 7 p) (e 0 p)) λq=>Held i λr=>NilP a λs=>aT r s 0 λt=>If (n≥((t.len:Nat):Int)) (q true i) (NilP a λu=>aT r u 0 λv=>bL (n+1) λw=>SlcL v 2 j w (v.cap:Nat) λx=>LdH r .b ((Addr.mk 0 0 none).add 0) λ(y:Bool)=>LdH r .b ((Addr.mk 0 0 none).add 1) λ(z:Bool)=>Wj.c x y z i λaa ab=>And (r ab) <| q aa ab))) λac=>If (b<0) (ac true g) (Nz 8 <| ac ((b.tmod 8) != 0) g)))
theorem X8.o {a b c d e}(f:X8.v a b c d e):X8.c a b c d e:=Wa Tryz.func116 (x:=X8.h) (R0 f)
def Q2.h:Hn:=.q .o2 (.q (.q (.reg (.seq [.op,.op,.op,.grd false 2 [.op,.op]])) .aJ) (.q .o7 .l))
def Q2.v (a:Int)(b:Hp)(c:Option Addr->Int->Hp->Prop):Prop:=JnB (λd e=>If d (c none 1 e) (Mk a a 2 160 [.bool false,.bool false] e λf g=>Nw (.map #[] 0) g λh i=>aV #[.slice f.a f.len f.cap,.map (some h.block),.I 0] 164 i λj k=>c (some j) 0 k)) λl=>If (a<1) (l true b) (l (decide (a>1024)) b)
theorem Q2.o {a b c}(d:Q2.v a b c):Q2.c a b c:=Wa Tryz.func124 (x:=Q2.h) (R0 d)
def Yz.h:Hn:=.q .o1 (.q (.q .o4 (.q .o2 .aJ)) (.q .o5 .aM))
def Yz.v (a:R2)(b c:Int)(d:Hp)(e:aN):Prop:=X8.c a b 1 d λf g=>If (f != 0) (e f g) (Nz 8<|bL (b.tdiv 8) λh=>Zj.c a h c g λi=>e 0 i)
theorem Yz.o {a b c d e}(f:Yz.v a b c d e):Yz.c a b c d e:=Wa Tryz.func130 (x:=Yz.h) (R0 f)
def Zj.h:Hn:=.q .o3 (.sjn [] (.q (.oq 9) (.c (.q (.reg (.tail 7 (RI.ops 7) [.op])) (.q (.reg (.held true [6] (.tk [0,1,2,3,4] (.all [(5,.all [(6,.done)])])))) (.reg (.tail 13 (RI.ops 13) [.op])))) .l)) (.o 11))
def Zj.v (a:R2)(b c:Int)(d:Hp)(e:aP):Prop:=Nz 32<|bL (b.tdiv 32) λf=>Jn [] (λg=>bI a 1 g λi=>Lk .i64 .s i f g λj=>Nz 32 <| Ix (j.getD ⟨none,0,0⟩).a (j.getD ⟨none,0,0⟩).len (b.tmod 32) 1 λk=>St1 k (.I c) g λl=>e l) λm=>bE a 0 d λo=>Ix o.a o.len f 2 λp=>aZ p 0 d λq=>aZ p 1 d λr=>LdB ((Addr.mk 1 0 none).add 0) d λs=>LdB ((Addr.mk 1 0 none).add 1) d λt=>If (!((q==s)&&((r==t)&&true))) (bE a 0 d λv=>LdB ((Addr.mk 1 0 none).add 0) d λw=>LdB ((Addr.mk 1 0 none).add 1) d λx=>Ix v.a v.len f 2 λy=>aR y 0 (.bool w) d λz=>aR y 1 (.bool x) z λaa=>Held aa λab=>NilP a λac=>LdH ab .m (ac.add 1) λ(ad:Option Nat)=>Mk 32 32 8 3 [.I 0] aa λae af=>And (ab af) <| MSet .i64 .s ad f ae af λag=>bD a 2 ag λai=>bI a 1 ag λak=>MLen .i64 .s ak ag λal=>NilP a λam=>aR am 2 (.I (if al>ai then al else ai)) ag λan=>m an) (m d)
theorem Zj.o {a b c d e}(f:Zj.v a b c d e):Zj.c a b c d e:=Wa Tryz.func169 (x:=Zj.h) (R0 f)
def XI.h:Hn:=.q .o1 (.q .o6 .l)
def XI.v (a:R2)(b c:Int)(d:Hp)(e:aN):Prop:=LdB ((Addr.mk 2 0 none).add 0) d λf=>LdB ((Addr.mk 2 0 none).add 1) d λg=>XW.c a b c f g d λh i=>e h i
theorem XI.o {a b c d e}(f:XI.v a b c d e):XI.c a b c d e:=Wa Tryz.func193 (x:=XI.h) (R0 f)
def Yy.h:Hn:=.q .o1 (.q .o6 .l)
def Yy.v (a:R2)(b c:Int)(d:Hp)(e:aN):Prop:=LdB ((Addr.mk 0 0 none).add 0) d λf=>LdB ((Addr.mk 0 0 none).add 1) d λg=>XW.c a b c f g d λh i=>e h i
theorem Yy.o {a b c d e}(f:Yy.v a b c d e):Yy.c a b c d e:=Wa Tryz.func197 (x:=Yy.h) (R0 f)
def XW.h:Hn:=.q .o2 (.q .o9 (.q (.k (.q .o3 (.c .aL (.q .o4 .aK)))) (.q .o5 .aM)))
def XW.v (a:R2)(b c:Int)(d e:Bool)(f:Hp)(g:aN):Prop:=aV #[.bool d,.bool e] 160 f λh i=>YS.c a b c i λj k l=>If (k != 0) (g k l) (LdB ((Addr.mk 0 0 none).add 0) l λm=>LdB ((Addr.mk 0 0 none).add 1) l λn=>Wj.c j m n l λo p=>If o (g 7 p) (aZ h 0 p λq=>aZ h 1 p λr=>YV.c a b c q r p λs=>g 0 s))
theorem XW.o {a b c d e f g}(h:XW.v a b c d e f g):XW.c a b c d e f g:=Wa Tryz.func236 (x:=XW.h) (R0 h)
def YS.h:Hn:=.q .o2 (.q (.k (.q .o4 (.c .aL (.q (.reg (.seq [.op,.op,.op,.grd false 2 [.op,.op],.op,.grd false 7 (RI.ops 7),.op,.grd false 9 (RI.ops 9),.op])) .aJ)))) (.q (.o 11) .l))
def YS.v (a:R2)(b c:Int)(d:Hp)(e:Sl->Int->Hp->Prop):Prop:=Xt.c a d λf g=>If (!f) (e ⟨none,0,0⟩ 5 g) (JnB (λh i=>JnB (λj k=>JnB (λl m=>If l (e ⟨none,0,0⟩ 1 m) (bE a 0 m λo=>bL (b+c) λp=>SlcL o 2 b p (o.cap:Nat) λq=>e q 0 m)) λr=>If j (r true k) (bE a 0 k λt=>bL (((t.len:Nat):Int)-b) λu=>r (decide (c>u)) k)) λv=>If h (v true i) (bE a 0 i λx=>v (decide (b>((x.len:Nat):Int))) i)) λy=>If (b<0) (y true g) (y (decide (c<1)) g))
theorem YS.o {a b c d e}(f:YS.v a b c d e):YS.c a b c d e:=Wa Tryz.func271 (x:=YS.h) (R0 f)
def YV.h:Hn:=.q .o1 (.q .o2 (.k (.loop [(8,.I)] (.q (.q .o5 (.c .l .l)) (.q (.k (.q (.reg (.tail 7 (RI.ops 7) [.op])) .o6)) .o3)))))
def YV.v (a:R2)(b c:Int)(d e:Bool)(f:Hp)(g:aP):Prop:=aV #[.bool d,.bool e] 160 f λh i=>W8 [bN] (λj=>j b i) λk (l:Int) m=>bL (b+c) λn=>If (l<n) (bE a 0 m λp=>aZ h 0 m λq=>aZ h 1 m λr=>Ix p.a p.len l 2 λs=>aR s 0 (.bool q) m λt=>aR s 1 (.bool r) t λu=>bI a 1 u λw=>MDel .i64 .s w l u λx=>bL (l+1) λy=>k y x) (g m)
theorem YV.o {a b c d e f g}(h:YV.v a b c d e f g):YV.c a b c d e f g:=Wa Tryz.func272 (x:=YV.h) (R0 h)
def Zt.h:Hn:=.q .o1 (.q .o9 (.q (.k (.q .o3 (.c .aL (.q .o3 .aK)))) (.q .o5 .aM)))
def Zt.v (a:R2)(b c:Int)(d:Hp)(e:aN):Prop:=YS.c a b c d λf g h=>If (g != 0) (e g h) (Wg.c f ⟨301,#[],#[]⟩ h λi j=>If i (e 5 j) (LdB ((Addr.mk 2 0 none).add 0) j λk=>LdB ((Addr.mk 2 0 none).add 1) j λl=>YV.c a b c k l j λm=>e 0 m))
theorem Zt.o {a b c d e}(f:Zt.v a b c d e):Zt.c a b c d e:=Wa Tryz.func280 (x:=Zt.h) (R0 f)
def YN.h:Hn:=.q .o2 (.q .o4 .l)
def YN.v (a b:Bool)(c:Hp)(d:aO):Prop:=aV #[.bool a,.bool b] 160 c λe f=>aZ e 0 f λg=>aZ e 1 f λh=>LdB ((Addr.mk 0 0 none).add 0) f λi=>LdB ((Addr.mk 0 0 none).add 1) f λj=>d (!((g==i)&&((h==j)&&true))) f
theorem YN.o {a b c d}(e:YN.v a b c d):YN.c a b c d:=Wa Tryz.func301 (x:=YN.h) (R0 e)
end Go.Proofs
namespace Go.Ar
open Go Go.Vc Go.Proofs
open Go.Bu (Zf)
variable {σ:Hp}{F:Rg}{p q r:Nat}{sp:Sp}
structure Gl (σ:Hp):Prop where
 c0:cell σ ⟨2,0,none⟩=some (.bool true)
 c1:cell σ ⟨2,1,none⟩=some (.bool false)
 u0:cell σ ⟨0,0,none⟩=some (.bool false)
 u1:cell σ ⟨0,1,none⟩=some (.bool false)
structure Gc (σ:Hp):Prop where
 d0:cell σ ⟨1,0,none⟩=some (.bool true)
 d1:cell σ ⟨1,1,none⟩=some (.bool true)
structure Gd (σ:Hp):Prop where
 lt:1<σ.size
def Off (F:Rg):Prop:=∀b,F b->b≠2/\b≠0
theorem QF {h:Hp}{b o:Nat}{v:Value}(hc:cell h ⟨b,o,none⟩=some v):b<h.size:=(WhH hc).1
theorem Gl.keep {σ':Hp}(g:Gl σ)(e:Ext F σ σ')(hF:Off F):Gl σ':=by
 have a:¬F 2:=λh=>(hF _ h).1 rfl;have b:¬F 0:=λh=>(hF _ h).2 rfl;exact⟨(QR e (QF g.c0) a).trans g.c0,(QR e (QF g.c1) a).trans g.c1,(QR e (QF g.u0) b).trans g.u0,(QR e (QF g.u1) b).trans g.u1⟩
theorem Gc.keep {σ':Hp}(g:Gc σ)(e:Ext F σ σ')(hF:¬F 1):Gc σ':=⟨(QR e (QF g.d0) hF).trans g.d0,(QR e (QF g.d1) hF).trans g.d1⟩
theorem Gc.keep0 {σ':Hp}(g:Gc σ)(e:Ext0 σ σ'):Gc σ':=g.keep e id
theorem Gd.keep {σ':Hp}(g:Gd σ)(e:Ext F σ σ')(hF:¬F 1):Gd σ':=⟨zEA g.lt e.1⟩
theorem Gd.keep0 {σ':Hp}(g:Gd σ)(e:Ext0 σ σ'):Gd σ':=g.keep e id
theorem Gc.gd (g:Gc σ):Gd σ:=⟨QF g.d0⟩
theorem Gl.keep0 {σ':Hp}(g:Gl σ)(e:Ext0 σ σ'):Gl σ':=g.keep e λ_ h=>h.elim
theorem Off.grow (hF:Off F)(g:Gl σ):Off (Grow F σ):=λb a=>by
 rcases a with h|h
 ·exact hF b h
 ·have d:=QF g.c0;have e:=QF g.u0;exact⟨O,O⟩
theorem Off.sub {G:Rg}(hF:Off F)(h:∀b,G b->F b):Off G:=λb a=>hF b (h b a)
def pgC:Nat->Bool×Bool
 | 0=>(false,false)
 | 1=>(true,false)
 | _=>(true,true)
def pgV (st:List Nat):List Value:=st.flatMap λx=>[.bool (pgC x).1,.bool (pgC x).2]
theorem Vn (l:List Nat):(pgV l).length=2*l.length:=by
 induction l with
 | nil=>rfl
 | cons x l ih=>simp only[pgV,zBB,zK,zP,zAO]at *;omega
theorem Wem {l:List Nat}{i x:Nat}(h:l[i]?=some x):(pgV l)[2*i]?=some (.bool (pgC x).1)/\(pgV l)[2*i+1]?=some (.bool (pgC x).2):=by
 induction l generalizing i with
 | nil=>simp at h
 | cons y l ih=>
  have e:pgV (y::l)=[.bool (pgC y).1,.bool (pgC y).2]++pgV l:=by simp[pgV]
  rw[e];cases i with
  | zero=>simp at h;subst h;simp
  | succ i=>
   have:=ih (i:=i) (by simpa using h);rw[show 2*(i+1)=2*i+2 by omega];simpa using this
theorem Wje {l:List Nat}{i v:Nat}(h:i<l.length)(rest:List Value):((pgV l++rest).set (2*i) (.bool (pgC v).1)).set (2*i+1) (.bool (pgC v).2)=pgV (l.set i v)++rest:=by
 induction l generalizing i with
 | nil=>simp at h
 | cons y l ih=>
  have e:∀z m,pgV (z::m)=.bool (pgC z).1 :: .bool (pgC z).2::pgV m:=λz m=>by simp[pgV]
  cases i with
  | zero=>simp[e]
  | succ i=>
   have:=ih (i:=i) (by simpa using h);rw[zCY,e,e,show 2*(i+1)=2*i+1+1 by omega];simp only[zAL,zCY];rw[this]
theorem WiY {x y:Nat}(hx:x<=2)(hy:y<=2):(((pgC x).1==(pgC y).1)&&(((pgC x).2==(pgC y).2)&&true))=(x==y):=by
 match x,y,hx,hy with
 | 0,0,_,_=>rfl
 | 1,1,_,_=>rfl
 | 2,2,_,_=>rfl
 | 0,1,_,_=>rfl
 | 0,2,_,_=>rfl
 | 1,0,_,_=>rfl
 | 1,2,_,_=>rfl
 | 2,0,_,_=>rfl
 | 2,1,_,_=>rfl
theorem Kg {α:Type}(x:Int×α)(l:List (Int×α))(k:Int):mget (x::l) k=if x.1=k then some x.2 else mget l k:=by
 unfold mget;rw[zDR];by_cases h:x.1=k
 ·simp[h]
 ·have:(x.1==k)=false:=by simpa using h
  rw[this,zA h]
theorem Wla {α:Type}(l:List (Int×α))(n k:Int)(v:α):mget (l.map λx=>if x.1==n then(n,v)else x) k=if k=n then(if l.any (λx=>x.1==n)then some v else none)else mget l k:=by
 induction l with
 | nil=>simp[mget]
 | cons x l ih=>
  rw[zJ,Kg,ih,Kg,List.any_cons];by_cases hx:x.1=n
  ·by_cases hk:k=n
   ·subst hk;simp[hx]
   ·have:¬n=k:=λe=>hk e.symm;simp[hx,hk,this]
  ·have a:(x.1==n)=false:=by simpa using hx
   simp only[a,zb,zt,zFI];by_cases hk:k=n
   ·subst hk;simp[hx]
   ·simp[hk]
theorem Wix {α:Type}(l:List (Int×α))(n k:Int)(v:α)(h:l.any (λx=>x.1==n)=false):mget (l++[(n,v)]) k=if k=n then some v else mget l k:=by
 induction l with
 | nil=>
  rw[zBW,Kg];by_cases hk:k=n
  ·simp[hk]
  ·have:¬n=k:=λe=>hk e.symm;simp[hk,this,mget]
 | cons x l ih=>
  rw[List.any_cons,Bool.or_eq_false_iff]at h;rw[zAL,Kg,ih h.2,Kg];have a:¬x.1=n:=by simpa using h.1
  by_cases hk:k=n
  ·subst hk;simp[a]
  ·simp[hk]
theorem Waq {α:Type}(l:List (Int×α))(n k:Int)(v:α):mget (mset l n v) k=if k=n then some v else mget l k:=by
 unfold mset;cases h:l.any (λx=>x.1==n)
 ·rw[zA aA,Wix l n k v h]
 ·rw[zB rfl,Wla,h];simp
theorem Wdn {α:Type}(l:List (Int×α))(n k:Int):mget (mdel l n) k=if k=n then none else mget l k:=by
 unfold mdel
 induction l with
 | nil=>simp[mget]
 | cons x l ih=>
  rw[zCK,Kg];by_cases hx:x.1=n
  ·have:(!(x.1==n))=false:=by simp[hx]
   rw[this];simp only[zb,zt,ih];by_cases hk:k=n
   ·simp[hk]
   ·have:¬x.1=k:=λe=>hk (e.symm.trans hx);simp[hk,this]
  ·have:(!(x.1==n))=true:=by simpa using hx
   rw[this,zB rfl,Kg,ih];by_cases hk:k=n
   ·subst hk;simp[hx]
   ·simp[hk]
theorem KU {α:Type}{l:List (Int×α)}{k:Int}{v:α}(h:mget l k=some v):(k,v)∈l:=by
 unfold mget at h;cases hf:l.find? (λx=>x.1==k)with
 | none=>rw[hf]at h;cases h
 | some x=>
  rw[hf]at h;have d:=zDE hf;have a:=zDF hf;have b:x.1=k:=by simpa using d
  have e:x.2=v:=by simpa using h
  rw[←b,←e];exact a
theorem We7 {α:Type}{l:List (Int×α)}{k:Int}:(mget l k).isSome=true↔k∈l.map (·.1):=by
 unfold mget;rw[Option.isSome_map,zGP];simp
def WdH (σ:Hp)(s:Sl)(b:Nat)(f:Nat->Int):Prop:=s.a=some ⟨b,0,none⟩/\s.len=32/\32<=s.cap/\∃cs,Blk σ b cs/\32<=cs.length/\∀j,j<32->cs[j]?=some (.int .i64 (f j))
structure SpH2 (σ:Hp) (F:Rg) (p q r:Nat) (l:List (Int×Sl)) (B:Nat->Nat) (sp:Sp):Prop where
 hd:∃cap,sp.st.length<=cap/\Blk σ p [.slice (some ⟨q,0,none⟩) sp.st.length cap,.map (some r),.int .i64 (sp.pk:Int)]
 row:∃rest,Blk σ q (pgV sp.st++rest)
 map:MapL σ r .i64 .s l
 keys:∀x:Int,(mget l x).isSome=true↔∃k:Nat,x=k/\sp.st[k]?=some 2
 wd:∀(k:Nat) s,mget l (k:Int)=some s->WdH σ s (B k) λj=>sp.wd (32*k+j)
 inj:∀k k':Nat,sp.st[k]?=some 2->sp.st[k']?=some 2->B k=B k'->k=k'
 out:∀k:Nat,sp.st[k]?=some 2->F (B k)/\B k≠p/\B k≠q/\B k≠r
 fs:F p/\F q/\F r/\p≠q/\p≠r/\q≠r
 zero:∀w:Nat,sp.st[w/32]?≠some 2->sp.wd w=0
 n1:1<=sp.st.length
 n2:sp.st.length<=1024
 le2:∀x∈sp.st,x<=2
 pk:sp.pk<=1024
def SpH3 (σ:Hp)(F:Rg)(p:Nat)(sp:Sp):Prop:=∃q r l B,SpH2 σ F p q r l B sp
theorem SpH2.entry {l:List (Int×Sl)}{B:Nat->Nat}(h:SpH2 σ F p q r l B sp){k:Nat}(hk:sp.st[k]?=some 2):∃s,mget l (k:Int)=some s/\WdH σ s (B k) λj=>sp.wd (32*k+j):=by
 have:=(h.keys (k:Int)).2 ⟨k,rfl,hk⟩;obtain⟨s,a⟩:=zCB.1 this;exact⟨s,a,h.wd k s a⟩
theorem SpH2.dirty {l:List (Int×Sl)}{B:Nat->Nat}(h:SpH2 σ F p q r l B sp){k:Nat}{s:Sl}(hs:mget l (k:Int)=some s):sp.st[k]?=some 2:=by
 obtain⟨k',e,a⟩:=(h.keys (k:Int)).1 (by rw[hs];rfl);have:k=k':=by omega
 subst this;exact a
theorem SpH3.loc:Lcl λσ F=>SpH3 σ F p sp:=λσ M F G ⟨q,r,l,B,h⟩ N D=>by
 have g:∀{b:Nat} {d:List Value},Blk σ b d->F b->Blk M b d/\G b:=by
  rintro b d ⟨e,y⟩ K;have:=D b (Blk.lt ⟨e,y⟩) K;exact⟨⟨e,this.2.trans y⟩,this.1⟩
 obtain⟨c,H,hd⟩:=h.hd;obtain⟨rest,a⟩:=h.row;obtain⟨J,m,w,E⟩:=h.map;have j:=D r (zAQ.1 w).1 h.fs.2.2.1;refine⟨q,r,l,B,⟨c,H,(g hd h.fs.1).1⟩,⟨rest,(g a h.fs.2.1).1⟩,⟨J,m,j.2.trans w,E⟩,h.keys,λk s i=>?_,h.inj,λk i=>?_,⟨(g hd h.fs.1).2,(g a h.fs.2.1).2,j.1,h.fs.2.2.2⟩,h.zero,h.n1,h.n2,h.le2,h.pk⟩
 ·obtain⟨A,x,z,d,u,C⟩:=h.wd k s i;exact⟨A,x,z,d,(g u (h.out k (h.dirty i)).1).1,C⟩
 ·obtain⟨s,L,A,x,z,d,u,C⟩:=h.entry i;exact⟨(g u (h.out k i).1).2,(h.out k i).2⟩
theorem SpH3.keep0 {σ':Hp}(h:SpH3 σ F p sp)(e:Ext0 σ σ'):SpH3 σ' F p sp:=Lcl.keep0 SpH3.loc h e
variable {l:List (Int×Sl)}{B:Nat->Nat}
theorem SpH2.rS (h:SpH2 σ F p q r l B sp){K:Sl->Prop}(hK:∀cap,sp.st.length<=cap->K ⟨some ⟨q,0,none⟩,sp.st.length,cap⟩):LdS (Addr.add ⟨p,0,none⟩ 0) σ K:=by
 obtain⟨c,a,hd⟩:=h.hd;exact hd.rS rfl (hK c a)
theorem SpH2.rM (h:SpH2 σ F p q r l B sp){K:Option Nat->Prop}(hK:K (some r)):LdM (Addr.add ⟨p,0,none⟩ 1) σ K:=by
 obtain⟨c,a,hd⟩:=h.hd;exact hd.rM rfl hK
theorem SpH2.rPg (h:SpH2 σ F p q r l B sp){i x:Nat}(hx:sp.st[i]?=some x){K:Bool->Bool->Prop}(hK:K (pgC x).1 (pgC x).2):LdB (Addr.add ⟨q,2*i,none⟩ 0) σ λa=>LdB (Addr.add ⟨q,2*i,none⟩ 1) σ λb=>K a b:=by
 obtain⟨rest,d⟩:=h.row;have g:=(gSi.1 hx).1;have e:=Wem hx;refine d.rB (x:=(pgC x).1) ?_ (d.rB (x:=(pgC x).2) ?_ hK)
 ·rw[zp,ze (by rw[Vn];omega)];exact e.1
 ·rw[ze (by rw[Vn];omega)];exact e.2
theorem Hz (h:SpH3 σ F p sp){R:aO}(hR:R true σ):Xt.c (aW p) σ R:=by
 refine Xt.o ?_;unfold Xt.v;obtain⟨q,r,l,B,h⟩:=h;have:=h.n1;refine JnB.intro (ifT rfl (nilP (h.rS λcap _=>?_)));rw[zW aC];exact hR
theorem Wco (h:SpH3 σ F p sp){R:aN}(hR:R (sp.st.length:Int) σ):Xw.c (aW p) σ R:=by
 refine Xw.o ?_;unfold Xw.v;have a:=h;obtain⟨q,r,l,B,h⟩:=h;exact Hz a (ifF rfl (nilP (h.rS λcap _=>hR)))
def VE (st:List Nat):Nat:=st.countP (· != 0)
theorem Wdx (h:SpH3 σ F p sp){R:aN}(hR:R (VE sp.st:Int) σ):XC.c (aW p) σ R:=by
 refine XC.o ?_;unfold XC.v;have s:=h;obtain⟨q,r,l,B,h⟩:=h;have n2:=h.n2;refine Wco s ?_;refine Ko (a:=bN) (bb:=bN) (λ(n t:Int) v=>∃i:Nat,t=(i:Int)/\i<=sp.st.length/\v=σ/\n=(VE (sp.st.take i):Int)) (λ_ t _=>sp.st.length-t.toNat) ⟨0,rfl,O,rfl,by simp[VE]⟩ ?_;rintro n t v ⟨i,rfl,C,rfl,rfl⟩;refine ifD (λy=>?_) λA=>?_
 ·have b:i<sp.st.length:=by omega
  have g:sp.st[i]?=some sp.st[i]:=gGe b;have u:=h.le2 _ (zc b);have e:VE (sp.st.take (i+1))=VE (sp.st.take i)+if sp.st[i]=0 then 0 else 1:=by
   rw[zh,g];simp only[VE,zDG,zDQ,zCI,List.countP_nil,zG];by_cases h0:sp.st[i]=0<;>simp[h0]
  have z:VE (sp.st.take i)<=i:=zI zEE aE;refine nilP (h.rS λcap w=>ix O aC ?_);rw[add_lit,show 0+(i:Int).toNat*2=2*i by omega];obtain⟨rest,d⟩:=h.row;have j:=Wem g;refine d.rB (x:=(pgC sp.st[i]).1) (by rw[zp,ze (by rw[Vn];omega)];exact j.1) ?_;by_cases h0:sp.st[i]=0
  ·rw[zB h0]at e;have:(pgC sp.st[i]).1=false:=by rw[h0];rfl
   exact ifF this (arN (m:=i+1) O O ⟨⟨i+1,rfl,O,rfl,by rw[e];rfl⟩,O⟩)
  ·rw[zA h0]at e;have:(pgC sp.st[i]).1=true:=by
    match sp.st[i],h0 with
    | 0,h=>exact absurd rfl h
    | 1,_=>rfl
    | n+2,_=>rfl
   exact ifT this (arN (m:=VE (sp.st.take i)+1) O O (arN (m:=i+1) O O ⟨⟨i+1,rfl,O,rfl,by rw[e]⟩,O⟩))
 ·have:i=sp.st.length:=by omega
  subst this;rw[zl]at *;exact hR
theorem SpH2.len_l (h:SpH2 σ F p q r l B sp):l.length=sp.st.count 2:=by
 have m:=h.map.nodup;have j:(l.map (·.1)).Perm (((List.range sp.st.length).filter λk=>sp.st[k]?==some 2).map λk=>((k:Nat):Int)):=by
  rw[zEQ m]
  ·intro x;rw[←We7,h.keys];simp only[zC,zH,zU,zZ];constructor
   ·rintro⟨k,rfl,hk⟩;exact⟨k,⟨(gSi.1 hk).1,hk⟩,rfl⟩
   ·rintro⟨k,⟨_,hk⟩,rfl⟩;exact⟨k,rfl,hk⟩
  ·have g:((List.range sp.st.length).filter λk=>sp.st[k]?==some 2).Pairwise (· ≠ ·):=List.Pairwise.sublist zCT zER;exact List.Pairwise.map _ (λa b (e:a≠b) d=>e (by exact_mod_cast d)) g
 have i:=j.length_eq;simp only[za]at i;rw[i,←zES];have key:∀st:List Nat,(List.range st.length).countP (λk=>st[k]?==some 2)=st.count 2:=by
  intro st
  induction st with
  | nil=>rfl
  | cons x st ih=>
   rw[zP,zFR,zCI,List.countP_map,List.count_cons,←ih]
   congr 1
 exact key sp.st
theorem Wcs (h:SpH3 σ F p sp){R:aN}(hR:R (sp.st.count 2:Int) σ):Xr.c (aW p) σ R:=by
 refine Xr.o ?_;unfold Xr.v;have a:=h;obtain⟨q,r,l,B,h⟩:=h;refine Hz a (ifF rfl (nilP (h.rM ⟨l,h.map,?_⟩)));rw[h.len_l];exact hR
end Go.Ar
namespace Go.Ar
open Go Go.Vc Go.Proofs
open Go.Bu (Zf)
variable {σ:Hp}{F:Rg}{p q r:Nat}{sp:Sp}{l:List (Int×Sl)}{B:Nat->Nat}
theorem Wj2 (l:List Nat)(n:Nat):pgV (l.take n)=(pgV l).take (2*n):=by
 induction l generalizing n with
 | nil=>simp[pgV]
 | cons y l ih=>
  have e:∀z m,pgV (z::m)=.bool (pgC z).1 :: .bool (pgC z).2::pgV m:=λz m=>by simp[pgV]
  cases n with
  | zero=>simp[pgV]
  | succ n=>
   rw[zCZ,e,e,ih,show 2*(n+1)=2*n+1+1 by omega];simp
theorem WjP (l:List Nat)(n:Nat):pgV (l.drop n)=(pgV l).drop (2*n):=by
 induction l generalizing n with
 | nil=>simp[pgV]
 | cons y l ih=>
  have e:∀z m,pgV (z::m)=.bool (pgC z).1 :: .bool (pgC z).2::pgV m:=λz m=>by simp[pgV]
  cases n with
  | zero=>simp[pgV]
  | succ n=>
   rw[zFP,e,ih,show 2*(n+1)=2*n+1+1 by omega];simp
theorem Wnf (n v:Nat):pgV (List.replicate n v)=(List.replicate n [Value.bool (pgC v).1,.bool (pgC v).2]).flatten:=by
 induction n with
 | zero=>rfl
 | succ n ih=>rw[zEU,zEU,zDU,←ih];simp[pgV]
theorem _root_.Go.Vc.SlR.rPg {s:Sl}{l:List Nat}(h:SlR s 2 (pgV l) σ F){i x:Nat}(hx:l[i]?=some x){K:Bool->Bool->Prop}(hK:K (pgC x).1 (pgC x).2) :
 Ix s.a s.len (i:Int) 2 λa=>LdB (a.add 0) σ λu=>LdB (a.add 1) σ λw=>K u w:=by
 have r:=(gSi.1 hx).1;have j:=Wem hx;obtain⟨b,o,g,m⟩:=h.cell j.1;obtain⟨y,o1,d,e⟩:=h.cell j.2;rw[g]at d;cases d;have p:=h.1;rw[Vn]at p;rw[g];refine ix O O ?_;rw[add_lit];refine ldB ?_ (ldB ?_ hK)<;>rw[add_lit]
 ·rw[show o+(i:Int).toNat*2+0=o+2*i by omega];exact m
 ·rw[show o+(i:Int).toNat*2+1=o+(2*i+1) by omega];exact e
theorem _root_.Go.Vc.SlR.lenP {s:Sl}{l:List Nat}(h:SlR s 2 (pgV l) σ F):s.len=l.length:=by
 have:=h.1;rw[Vn]at this;omega
theorem Wih {s:Sl}{xs:List Nat}(h:SlR s 2 (pgV xs) σ F)(hl:xs.length<=1000000)(h2:∀x∈xs,x<=2){v:Nat}(hv:v<=2){R:aN}
 (hR:∀(t:Int) σ',Ext0 σ σ'->decide (t≥0)=xs.contains v->R t σ'):Wn.c s (pgC v).1 (pgC v).2 σ R:=by
 refine Wn.o ?_;unfold Wn.v;have A:=h.lenP;refine nw (cs:=[.bool (pgC v).1,.bool (pgC v).2]) λw G e z=>?_;have h:=aH.keep0 h e;refine ZS (a:=bN) (λ(t:Int) y=>∃i:Nat,t=(i:Int)/\i<=xs.length/\y=w/\∀j,j<i->xs[j]?≠some v) (λt _=>xs.length-t.toNat) ⟨0,rfl,O,rfl,λj g=>O⟩ ?_;rintro t y ⟨i,rfl,E,rfl,d⟩;refine ifD (λC=>?_) λD=>?_
 ·have b:i<xs.length:=by omega
  have u:xs[i]?=some xs[i]:=gGe b;refine z.rB rfl (z.rB rfl (h.rPg u ?_));rw[WiY hv (h2 _ (zc b))];refine iff_ (λp=>?_) λp=>?_
  ·have:v=xs[i]:=by simpa using p
   refine hR _ _ e ?_;have B:xs.contains v=true:=by rw[this];simp
   rw[B,zW O]
  ·have r:¬v=xs[i]:=by simpa using p
   refine arN (m:=i+1) O O ⟨⟨i+1,rfl,O,rfl,λj g=>?_⟩,O⟩;by_cases e:j=i
   ·subst e;rw[u];intro e2;cases e2;exact r rfl
   ·exact d j O
 ·refine hR _ _ e ?_;have:xs.contains v=false:=by
   simp only[zCW,decide_eq_false_iff_not];intro hm;obtain⟨j,g⟩:=zN hm;have:=(gSi.1 g).1;exact d j O g
  rw[this];rfl
theorem GI {s:Sl}{xs:List Nat}(h:SlR s 2 (pgV xs) σ F)(hl:xs.length<=1000000)(h2:∀x∈xs,x<=2){v:Nat}(hv:v<=2){R:aO}
 (hR:∀σ',Ext0 σ σ'->R (xs.contains v) σ'):Wj.c s (pgC v).1 (pgC v).2 σ R:=by
 refine Wj.o ?_;unfold Wj.v;refine nw (cs:=[.bool (pgC v).1,.bool (pgC v).2]) λw g e a=>a.rB rfl (a.rB rfl ?_);refine Wih (aH.keep0 h e) hl h2 hv λt σ' d b=>?_;rw[b];exact hR σ' (Ext.trans e d)
theorem WgE (g:Gl σ){x:Nat}(hx:x<=2){R:aO}(hR:∀σ',Ext0 σ σ'->R (x != 0) σ'):YN.c (pgC x).1 (pgC x).2 σ R:=by
 refine YN.o ?_;unfold YN.v;refine nw (cs:=[.bool (pgC x).1,.bool (pgC x).2]) λv d e a=>a.rB rfl (a.rB rfl ?_);have g:=g.keep0 e;refine ldB (by rw[←g.u0];rfl) (ldB (by rw[←g.u1];rfl) ?_);have b:(((pgC x).1==false)&&(((pgC x).2==false)&&true))=(x==0):=WiY hx (y:=0) O;rw[b];exact hR v e
theorem Wml {s:Sl}{xs:List Nat}(h:SlR s 2 (pgV xs) σ F)(g:Gl σ)(hl:xs.length<=1000000)(h2:∀x∈xs,x<=2){R:aO}
 (hR:∀σ',Ext0 σ σ'->R (xs.any (· != 0)) σ'):Wg.c s ⟨301,#[],#[]⟩ σ R:=by
 refine Wg.o ?_;unfold Wg.v;refine Wm.o ?_;unfold Wm.v;have A:=h.lenP;refine ZS (a:=bN) (λ(t:Int) D=>∃i:Nat,t=(i:Int)/\i<=xs.length/\Ext0 σ D/\∀(j x:Nat),j<i->xs[j]?=some x->x=0) (λt _=>xs.length-t.toNat) ⟨0,rfl,O,Ext.refl _ _,λj x r=>O⟩ ?_;rintro t w ⟨i,rfl,H,e,p⟩;refine ifD (λE=>?_) λG=>?_
 ·have b:i<xs.length:=by omega
  have z:xs[i]?=some xs[i]:=gGe b;refine(aH.keep0 h e).rPg z ?_;refine Gr (all := #[.agg #[.bool (pgC xs[i]).1,.bool (pgC xs[i]).2]]) (by kernel_rfl) aA ?_;refine WgE (g.keep0 e) (h2 _ (zc b)) λC B=>?_;refine iff_ (λu=>?_) λu=>?_
  ·have:xs.any (· != 0)=true:=zw.2 ⟨_,zc b,u⟩;have:=hR C (Ext.trans e B);rw[‹xs.any (· != 0)=true›]at this;show R (decide ((i:Int)≥0)) _;rw[zW O];exact this
  ·have y:xs[i]=0:=by simpa using u
   refine arN (m:=i+1) O O ⟨⟨i+1,rfl,O,Ext.trans e B,λj x r d=>?_⟩,O⟩;by_cases e:j=i
   ·subst e;rw[z]at d;cases d;exact y
   ·exact p j x O d
 ·have:xs.any (· != 0)=false:=by
   rw[zAX];intro x hm;obtain⟨j,r⟩:=zN hm;have:=(gSi.1 r).1;simpa using p j x O r
  have:=hR w e;rw[‹xs.any (· != 0)=false›]at this;exact this
theorem SpH2.part (h:SpH2 σ F p q r l B sp){x y c:Nat}(hl:x+y<=sp.st.length):SlR ⟨some ⟨q,2*x,none⟩,y,c⟩ 2 (pgV ((sp.st.drop x).take y)) σ F:=by
 obtain⟨rest,b⟩:=h.row;have a:(pgV ((sp.st.drop x).take y)).length=y*2:=by rw[Vn,zO,zq];omega
 refine⟨a,.inr ⟨q,2*x,_,h.fs.2.1,rfl,b.q,λj d=>?_⟩⟩;rw[a]at d;rw[ze (by rw[Vn];omega),Wj2,WjP,zX,zB O,zn]
theorem WlO (h:SpH3 σ F p sp)(a m:Int){R:Sl->Int->Hp->Prop}(h0:Zf sp.st.length a m=false->R ⟨none,0,0⟩ 1 σ)
 (h1:∀(x y:Nat) s,a=x->m=y->1<=y->x+y<=sp.st.length->SlR s 2 (pgV ((sp.st.drop x).take y)) σ F->R s 0 σ):YS.c (aW p) a m σ R:=by
 refine YS.o ?_;unfold YS.v;have j:=h;obtain⟨q,r,l,B,h⟩:=h;have n2:=h.n2;have b:¬(0<=a/\1<=m/\m<=sp.st.length-a)->R ⟨none,0,0⟩ 1 σ:=λA=>h0 (by simp only[Zf,←zED];exact zd A);refine Hz j (ifF rfl (JnB.intro (ifD (λg=>JnB.intro (ifT rfl (JnB.intro (ifT rfl (ifT rfl (b O)))))) λg=>?_)));refine JnB.intro (ifD (λi=>JnB.intro (ifT rfl (ifT rfl (b O)))) λi=>nilP (h.rS λcap d=>?_));simp only;refine JnB.intro (ifD (λw=>ifT rfl (b O)) λw=>?_);refine nilP (h.rS λcap d=>ar aC aC ?_);simp only;refine ifD (λz=>b O) λz=>?_;obtain⟨x,rfl⟩:=zk (show 0<=a by omega);obtain⟨y,rfl⟩:=zk (show 0<=m by omega);refine nilP (h.rS λcap d=>arN (m:=x+y) O O ?_);refine slc O aC (zD _) ?_;simp only;rw[zA O];refine h1 x y _ rfl rfl O O ?_;have:=h.part (x:=x) (y:=y) (c:=cap-x) O;have e:(Option.map (λ(u:Addr)=>u.add (x*2)) (some (⟨q,0,none⟩:Addr)))=some ⟨q,2*x,none⟩:=by
  simp only[zg,add_lit];congr 2;omega
 rw[e,zGK];exact this
def Sp.set1 (s:Sp)(k v:Nat):Sp:={s with st:=s.st.set k v,wd:=λw=>if k*32<=w/\w<(k+1)*32 then 0 else s.wd w}
theorem Wii {st:List Nat}(h:∀x∈st,x<=2){k v:Nat}(hv:v<=2):∀x∈st.set k v,x<=2:=by
 intro x hx;rcases zEW hx with h1|h1
 ·exact h x h1
 ·omega
theorem SpH2.set1 (h:SpH2 σ F p q r l B sp){k v:Nat}(hk:k<sp.st.length)(hv:v<=1){σ':Hp}(e:Ext (λb=>b=q\/b=r) σ σ'){rest:List Value}
 (hb:Blk σ' q (pgV (sp.st.set k v)++rest)) (hm:MapL σ' r .i64 .s (mdel l (k:Int))):SpH2 σ' F p q r (mdel l (k:Int)) B (sp.set1 k v):=by
 have a:∀j:Nat,(sp.st.set k v)[j]?=some 2↔j≠k/\sp.st[j]?=some 2:=λj=>by
  rw[zBH];by_cases hjk:k=j
  ·subst hjk;rw[zB rfl,zB hk];constructor
   ·intro h;have:v=2:=by simpa using h
    omega
   ·intro h;exact absurd rfl h.1
  ·rw[zA hjk];exact⟨λh=>⟨λe=>hjk e.symm,h⟩,λh=>h.2⟩
 obtain⟨c,H,hd⟩:=h.hd;have M:¬(p=q\/p=r):=by have:=h.fs;omega
 refine⟨⟨c,by simpa[Sp.set1]using H,by simpa[Sp.set1]using e.blk hd M⟩,⟨rest,hb⟩,hm,λx=>?_,λj s g=>?_,λj u A m=>?_,λj d=>?_,h.fs,λw y=>?_,by simpa[Sp.set1]using h.n1,by simpa[Sp.set1]using h.n2,Wii h.le2 O,h.pk⟩
 ·rw[Wdn];by_cases hx:x=(k:Int)
  ·rw[zB hx];constructor
   ·intro h;cases h
   ·rintro⟨j,rfl,d⟩;have:=(a j).1 d;omega
  ·rw[zA hx,h.keys];constructor
   ·rintro⟨j,rfl,d⟩;exact⟨j,rfl,(a j).2 ⟨O,d⟩⟩
   ·rintro⟨j,rfl,d⟩;exact⟨j,rfl,((a j).1 d).2⟩
 ·rw[Wdn]at g;by_cases hx:(j:Int)=(k:Int)
  ·rw[zB hx]at g;cases g
  ·rw[zA hx]at g;obtain⟨K,J,E,C,z,L,G⟩:=h.wd j s g;have N:=h.out j (h.dirty g);refine⟨K,J,E,C,e.blk z O,L,λi D=>?_⟩;rw[G i D];simp only[Sp.set1];rw[zA O]
 ·exact h.inj j u ((a j).1 A).2 ((a u).1 m).2
 ·exact h.out j ((a j).1 d).2
 ·simp only[Sp.set1]at y ⊢;by_cases hin:k*32<=w/\w<(k+1)*32
  ·rw[zB hin]
  ·rw[zA hin];refine h.zero w λm=>y ((a _).2 ⟨O,m⟩)
theorem Sp.set_zero (s:Sp)(a v:Nat):s.set a 0 v=s:=by
 have b:setR s.st a (a+0) v=s.st:=by
  apply zu;intro i;rw[HL];cases s.st[i]? with
  | none=>rfl
  | some x=>simp only[zg];rw[zA O]
 have d:(λw=>if a*32<=w/\w<(a+0)*32 then 0 else s.wd w)=s.wd:=by
  funext w;rw[zA O]
 simp only[Sp.set,b,d]
theorem Sp.set_succ (s:Sp)(a m v:Nat)(h:a+m<s.st.length):(s.set a m v).set1 (a+m) v=s.set a (m+1) v:=by
 have b:(setR s.st a (a+m) v).set (a+m) v=setR s.st a (a+(m+1)) v:=by
  apply zu;intro i;rw[zBH,HL,HL,Ql];by_cases hi:a+m=i
  ·subst hi;rw[zB rfl,zB h,gGe h,zg,zB O]
  ·rw[zA hi];cases s.st[i]? with
   | none=>rfl
   | some x=>
    simp only[zg];by_cases hin:a<=i/\i<a+m
    ·rw[zB hin,zB O]
    ·rw[zA hin,zA O]
 have d:(λw=>if(a+m)*32<=w/\w<(a+m+1)*32 then 0 else(if a*32<=w/\w<(a+m)*32 then 0 else s.wd w))=λw=>if a*32<=w/\w<(a+(m+1))*32 then 0 else s.wd w:=by
  funext w
  by_cases b:(a+m)*32<=w/\w<(a+m+1)*32
  ·rw[zB b,zB O]
  ·rw[zA b];by_cases d:a*32<=w/\w<(a+m)*32
   ·rw[zB d,zB O]
   ·rw[zA d,zA O]
 simp only[Sp.set,Sp.set1,b,d]
theorem WhP (h:SpH3 σ F p sp){x y v:Nat}(hl:x+y<=sp.st.length)(hv:v<=1){R:aP}(hR:∀σ',Ext F σ σ'->SpH3 σ' F p (sp.set x y v)->R σ') :
 YV.c (aW p) x y (pgC v).1 (pgC v).2 σ R:=by
 refine YV.o ?_;unfold YV.v;have V:sp.st.length<=1024:=by obtain⟨q,r,l,B,h⟩:=h;exact h.n2
 have z:SpH3 σ (Cut F σ) p sp:=Lcl.cut SpH3.loc h;refine nw (cs:=[.bool (pgC v).1,.bool (pgC v).2]) λu hz e g=>?_;have S:=z.keep0 e;refine ZS (a:=bN) (λ(t:Int) w=>∃i:Nat,t=((x+i:Nat):Int)/\i<=y/\Ext (Cut F σ) u w/\Blk w σ.size [.bool (pgC v).1,.bool (pgC v).2]/\SpH3 w (Cut F σ) p (sp.set x i v)) (λt _=>x+y-t.toNat)
  ⟨0,rfl,O,Ext.refl _ _,g,by rw[Sp.set_zero];exact S⟩ ?_
 rintro t w ⟨i,rfl,Z,N,j,q,r,l,B,d⟩;refine arN (m:=x+y) O O (ifD (λX=>?_) λY=>?_)
 ·have L:(sp.set x i v).st.length=sp.st.length:=Ql _ _ _ _;refine nilP (d.rS λcap J=>j.rB rfl (j.rB rfl (ix O aC ?_)));rw[add_lit,show 0+((x+i:Nat):Int).toNat*2=2*(x+i) by omega];obtain⟨rest,s⟩:=d.row;have M:x+i<(sp.set x i v).st.length:=by omega
  refine s.s1 (by rw[zK,Vn];omega) λw1 o1 Q=>Q.s1 (by rw[zBR,zK,Vn];omega) λw2 o2 G=>?_;rw[zp,Wje M]at G;have A:Ext (· = q) w w2:=o1.ext.trans o2.ext;obtain⟨c,W,hd⟩:=d.hd;have E:=A.blk hd d.fs.2.2.2.1;refine nilP (E.rM rfl ⟨l,A.mapL d.map (λe=>d.fs.2.2.2.2.2 e.symm),λw3 D _ C=>?_⟩);have o3:=D r rfl;have P:Ext (λb=>b=q\/b=r) w w3:=(A.sub λb g=>.inl g).trans (o3.ext.sub λb g=>.inr g);have K:=d.set1 M hv P (Ws o3 G d.fs.2.2.2.2.2) C;rw[Sp.set_succ _ _ _ _ O]at K;have H:Ext (Cut F σ) w w3:=P.sub λb g=>by
   rcases g with rfl|rfl
   ·exact d.fs.2.1
   ·exact d.fs.2.2.1
  refine arN (m:=x+(i+1)) O O ⟨⟨i+1,rfl,O,N.trans H,H.blk j λU=>by have:=U.2;omega,_,_,_,_,K⟩,O⟩
 ·have:i=y:=by omega
  subst this;refine hR w (Ext.cut (e.to.trans N)) (Lcl.mono SpH3.loc ⟨q,r,l,B,d⟩ λb _ g=>g.1)
theorem WoL (h:SpH3 σ F p sp)(g:Gl σ)(hF:Off F)(a m:Int){R:aN}(hR:∀σ',Ext F σ σ'->SpH3 σ' F p (mapS sp a m)->R (mapE sp a m) σ') :
 Zt.c (aW p) a m σ R:=by
 refine Zt.o ?_;unfold Zt.v;have u:(∀x∈sp.st,x<=2)/\sp.st.length<=1024:=by obtain⟨q,r,l,B,h⟩:=h;exact⟨h.le2,h.n2⟩
 refine WlO h a m (λj=>?_) λx y s H C M A L=>?_
 ·have d:mapE sp a m=1:=by unfold mapE;rw[j];rfl
  have i:mapS sp a m=sp:=by unfold mapS;rw[d];rfl
  have:=hR σ (Ext.refl _ _);rw[d,i]at this;exact ifT rfl (this h)
 ·subst H;subst C;have j:Zf sp.st.length (x:Int) (y:Int)=true:=by simp only[Zf,zF,zT];omega
  refine ifF rfl (Wml L g (by rw[zO,zq];omega) (λz J=>u.1 z (zCL (zAY J))) λG d=>?_);have e:mapE sp x y=if((sp.st.drop x).take y).any (· != 0)then 5 else 0:=by unfold mapE;rw[j];rfl
  refine iff_ (λb=>?_) λb=>?_
  ·rw[b]at e;have i:mapS sp x y=sp:=by unfold mapS;rw[e];rfl
   have:=hR G (Ext0.to d);rw[e,i]at this;exact this (h.keep0 d)
  ·rw[b]at e;have i:mapS sp x y=sp.set x y 1:=by unfold mapS;rw[e];rfl
   have w:=g.keep0 d;refine ldB (by rw[←w.c0];rfl) (ldB (by rw[←w.c1];rfl) ?_);refine WhP (v:=1) (h.keep0 d) A O λD K E=>?_;have:=hR D (Ext.trans (Ext0.to d) K);rw[e,i]at this;exact this E
theorem Wff (h:SpH3 σ F p sp)(g:Gl σ)(hF:Off F)(a m:Int){v:Nat}(hv:v<=1){R:aN}(hR:∀σ',Ext F σ σ'->SpH3 σ' F p (leaveS sp a m v)->R (leaveE sp a m) σ') :
 XW.c (aW p) a m (pgC v).1 (pgC v).2 σ R:=by
 refine XW.o ?_;unfold XW.v;have J:(∀x∈sp.st,x<=2)/\sp.st.length<=1024:=by obtain⟨q,r,l,B,h⟩:=h;exact⟨h.le2,h.n2⟩
 have E:SpH3 σ (Cut F σ) p sp:=Lcl.cut SpH3.loc h;refine nw (cs:=[.bool (pgC v).1,.bool (pgC v).2]) λu M e K=>?_;have G:=E.keep0 e;have d:∀w s',SpH3 w (Cut F σ) p s'->SpH3 w F p s':=λw s' h=>Lcl.mono SpH3.loc h λb _ K=>K.1;refine WlO G a m (λH=>?_) λx y s W P Y N Q=>?_
 ·have j:leaveE sp a m=1:=by unfold leaveE;rw[H];rfl
  have C:leaveS sp a m v=sp:=by unfold leaveS;rw[j];rfl
  have:=hR u (Ext0.to e);rw[j,C]at this;exact ifT rfl (this (d _ _ G))
 ·subst W;subst P;have H:Zf sp.st.length (x:Int) (y:Int)=true:=by simp only[Zf,zF,zT];omega
  have L:=g.keep0 e;refine ifF rfl (ldB (by rw[←L.u0];rfl) (ldB (by rw[←L.u1];rfl) ?_));refine GI (v:=0) Q (by rw[zO,zq];omega) (λz M=>J.1 z (zCL (zAY M))) O λV j=>?_;have A:leaveE sp x y=if((sp.st.drop x).take y).contains 0 then 7 else 0:=by unfold leaveE;rw[H];rfl
  refine iff_ (λi=>?_) λi=>?_
  ·rw[i]at A;have C:leaveS sp x y v=sp:=by unfold leaveS;rw[A];rfl
   have:=hR V (Ext0.to (Ext.trans e j));rw[A,C]at this;exact this (d _ _ (G.keep0 j))
  ·rw[i]at A;have C:leaveS sp x y v=sp.set x y v:=by unfold leaveS;rw[A];rfl
   have D:=Ext.blk j K id;refine D.rB rfl (D.rB rfl ?_);refine WhP (G.keep0 j) N hv λS X U=>?_;have:=hR S (Ext.cut (Ext.trans (Ext0.to (Ext.trans e j)) X));rw[A,C]at this;exact this (d _ _ U)
theorem WlA (h:SpH3 σ F p sp)(g:Gl σ)(hF:Off F)(a m:Int){R:aN}(hR:∀σ',Ext F σ σ'->SpH3 σ' F p (leaveS sp a m 0)->R (leaveE sp a m) σ') :
 Yy.c (aW p) a m σ R:=by
 refine Yy.o ?_;unfold Yy.v;exact ldB (n:=(pgC 0).1) g.u0 (ldB (n:=(pgC 0).2) g.u1 (Wff (v:=0) h g hF a m O hR))
theorem WgV (h:SpH3 σ F p sp)(g:Gl σ)(hF:Off F)(a m:Int){R:aN}(hR:∀σ',Ext F σ σ'->SpH3 σ' F p (leaveS sp a m 1)->R (leaveE sp a m) σ') :
 XI.c (aW p) a m σ R:=by
 refine XI.o ?_;unfold XI.v;exact ldB (n:=(pgC 1).1) g.c0 (ldB (n:=(pgC 1).2) g.c1 (Wff (v:=1) h g hF a m O hR))
end Go.Ar