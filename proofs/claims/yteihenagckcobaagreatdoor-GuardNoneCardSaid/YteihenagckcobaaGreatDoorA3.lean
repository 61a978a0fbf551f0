/- Texts joined. -/
import Derived.Lib.Overlaps
import Derived.Laws.Externs
import Derived.Test.YteihenagckcobaaGreatDoorA2
set_option linter.unusedVariables false
set_option linter.unusedSimpArgs false
namespace Go.Proofs
open Go.Vc
set_option maxRecDepth 100000
def Xj.h:Hn:=.q .o1 (.q (.cS (.seq [.op,.op,.op,.cO true 6 (RI.ops 6),.op])) .l)
def Xj.v (a:R2)(b:Hp)(c:aO):Prop:=bR (λd e=>c d e) λf=>If (!a.isNone) (bE a 0 b λh=>f (decide (((h.len:Nat):Int)>0)) b) (f false b)
theorem Xj.o {a b c}(d:Xj.v a b c):Xj.c a b c:=Wa Tryz.func191 (x:=Xj.h) (R0 d)
def Q7.h:Hn:=.q .o2 (.q (.q (.cS (.seq [.op,.op,.op,.cO false 2 [.op,.op],.op,.cO false 3 (RI.ops 3)])) .aJ) (.q .o6 .l))
def Q7.v (a:Int)(b:Hp)(c:Option Addr->Int->Hp->Prop):Prop:=bR (λd e=>bR (λf g=>If f (c none 1 g) (Mk a a 8 3 [.I 0] g λh i=>aV #[.slice h.a h.len h.cap] 280 i λj k=>c (some j) 0 k)) λl=>If d (l true e) (Nz 16 <| l ((a.tmod 16) != 0) e)) λm=>If (a<16) (m true b) (m (decide (a>1024)) b)
theorem Q7.o {a b c}(d:Q7.v a b c):Q7.c a b c:=Wa Tryz.func198 (x:=Q7.h) (R0 d)
def Xo.h:Hn:=.q .o1 (.q .o6 .l)
def Xo.v (a:R2)(b c:Int)(d:Hp)(e:aN):Prop:=aV #[.I 1] 3 d λf g=>Xv.c a b c 2 ⟨some f,1,1⟩ g λh i=>e h i
theorem Xo.o {a b c d e}(f:Xo.v a b c d e):Xo.c a b c d e:=Wa Tryz.func220 (x:=Xo.h) (R0 f)
def Yv.h:Hn:=.q .o1 (.q .o7 .l)
def Yv.v (a:R2)(b:Hp)(c:aN):Prop:=bE a 0 b λe=>Nz 16<|bL (((e.len:Nat):Int).tdiv 16) λf=>c f b
theorem Yv.o {a b c}(d:Yv.v a b c):Yv.c a b c:=Wa Tryz.func224 (x:=Yv.h) (R0 d)
def YI.h:Hn:=.q .o1 (.q (.o 11) .l)
def YI.v (a:R2)(b:Int)(c:Hp)(d:Sl->Hp->Prop):Prop:=bE a 0 c λf=>bL (b*16) λg=>bL (b+1) λh=>bL (h*16) λi=>eY f 1 g i (f.cap:Nat) λj=>d j c
theorem YI.o {a b c d}(e:YI.v a b c d):YI.c a b c d:=Wa Tryz.func226 (x:=YI.h) (R0 e)
def Xv.h:Hn:=.q .o2 (.q (.k (.q .o4 (.c .aM (.q (.cS (.seq [.op,.op,.op,.cO false 2 [.op,.op],.op,.cO false 7 (RI.ops 7),.op,.cO false 9 (RI.ops 9),.op])) .aK)))) (.q .gG (.q (.q .o3 .aK) (.q .o3 .aM))))
def Xv.v (a:R2)(b c d:Int)(e:Sl)(f:Hp)(g:aN):Prop:=aV #[.slice e.a e.len e.cap] 34 f λh i=>Xj.c a i λj k=>If (!j) (g 5 k) (bR (λl m=>bR (λn o=>bR (λp q=>If p (g 1 q) (bE a 0 q λs=>bL (b+c) λt=>eY s 1 b t (s.cap:Nat) λu=>Ww.c u ⟨271,#[],#[.pointer (some h)]⟩ q λv w=>If v (g 5 w) (Qb.c u d w λx=>g 0 x))) λy=>If n (y true o) (bE a 0 o λaa=>bL (((aa.len:Nat):Int)-b) λab=>y (decide (c>ab)) o)) λac=>If l (ac true m) (bE a 0 m λae=>ac (decide (b>((ae.len:Nat):Int))) m)) λaf=>If (b<0) (af true k) (af (decide (c<1)) k))
theorem Xv.o {a b c d e f g}(h:Xv.v a b c d e f g):Xv.c a b c d e f g:=Wa Tryz.func230 (x:=Xv.h) (R0 h)
def X4.h:Hn:=.q .o2 (.q (.k (.q .o4 (.c .aL (.q (.cS (.seq [.op,.op,.op,.cO false 4 (RI.ops 4),.op])) .aJ)))) (.q .o5 .l))
def X4.v (a:R2)(b:Int)(c:Hp)(d:Sl->Int->Hp->Prop):Prop:=Xj.c a c λe f=>If (!e) (d ⟨none,0,0⟩ 5 f) (bR (λg h=>If g (d ⟨none,0,0⟩ 1 h) (YI.c a b h λi j=>d i 0 j)) λk=>If (b<0) (k true f) (Yv.c a f λl m=>k (decide (b≥l)) m))
theorem X4.o {a b c d}(e:X4.v a b c d):X4.c a b c d:=Wa Tryz.func233 (x:=X4.h) (R0 e)
def Qb.h:Hn:=.q .o3 (.k (.loop [(7,.I)] (.q .o1 (.q (.c .l .l) (.q (.k (.q .o2 .o5)) .o2)))))
def Qb.v (a:Sl)(b:Int)(c:Hp)(d:aP):Prop:=YC [bN] (λe=>e 0 c) λf (g:Int) h=>If (g<((a.len:Nat):Int)) (Ix a.a a.len g 1 λi=>eP i (.I b) h λj=>bL (g+1) λk=>f k j) (d h)
theorem Qb.o {a b c d}(e:Qb.v a b c d):Qb.c a b c d:=Wa Tryz.func235 (x:=Qb.h) (R0 e)
def Xu.h:Hn:=.q .o1 (.q .o6 .l)
def Xu.v (a:R2)(b c:Int)(d:Hp)(e:aN):Prop:=aV #[.I 2,.I 3] 3 d λf g=>Xv.c a b c 1 ⟨some f,2,2⟩ g λh i=>e h i
theorem Xu.o {a b c d e}(f:Xu.v a b c d e):Xu.c a b c d e:=Wa Tryz.func255 (x:=Xu.h) (R0 f)
def Yd.h:Hn:=.q .o1 (.q .o5 .l)
def Yd.v (a:Int)(b:Addr)(c:Hp)(d:aO):Prop:=ja b c λe=>Wo.c e a c λf g=>d (!f) g
theorem Yd.o {a b c d}(e:Yd.v a b c d):Yd.c a b c d:=Wa Tryz.func271 (x:=Yd.h) (R0 e)
def XG.h:Hn:=.q .o1 (.q (.q (.cS (.seq [.op,.op,.op,.op,.cO false 2 [.op,.op],.op,.cO false 7 (RI.ops 7)])) .aK) (.q .o8 .l))
def XG.v (a:R2)(b:Int)(c:Hp)(d:aN):Prop:=Xj.c a c λe f=>bR (λg h=>bR (λi j=>If i (d (-1) j) (bE a 0 j λl=>Ix l.a l.len b 1 λm=>bM m j λn=>d n j)) λo=>If g (o true h) (bE a 0 h λq=>o (decide (b≥((q.len:Nat):Int))) h)) λr=>If (!e) (r true f) (r (decide (b<0)) f)
theorem XG.o {a b c d}(e:XG.v a b c d):XG.c a b c d:=Wa Tryz.func281 (x:=XG.h) (R0 e)
def XZ.h:Hn:=.q .o1 (.q .o8 (.q (.k (.q .o3 (.c .aL (.q .o5 .aK)))) (.q .o2 .aM)))
def XZ.v (a:R2)(b:Int)(c:Hp)(d:aN):Prop:=X4.c a b c λe f g=>If (f != 0) (d f g) (Ix e.a e.len 0 1 λh=>bM h g λi=>If (i != 0) (d 5 g) (Qb.c e 3 g λj=>d 0 j))
theorem XZ.o {a b c d}(e:XZ.v a b c d):XZ.c a b c d:=Wa Tryz.func287 (x:=XZ.h) (R0 e)
end Go.Proofs
namespace Go.Ar
open Go Go.Vc Go.Proofs
open Go.Bu (Y4)
variable {U:Hp}{F:Rg}{p q:Nat}{st:List Nat}
structure gR (U:Hp) (p q:Nat) (st:List Nat):Prop where
 hd:∃cap,st.length<=cap/\bX U p [.slice (some ⟨q,0,none⟩) st.length cap]
 row:∃rest,bX U q (ints st++rest)
 ne:p≠q
 n1:16<=st.length
 n2:st.length<=1024
 n3:st.length%16=0
theorem gR.bS {σ':Hp}(h:gR U p q st)(e:Ext F U σ')(hp:¬F p)(hq:¬F q):gR σ' p q st:=
 ⟨by obtain⟨c,a,b⟩:=h.hd;exact⟨c,a,e.bU b hp⟩,by obtain⟨r,a⟩:=h.row;exact⟨r,e.bU a hq⟩,h.ne,h.n1,h.n2,h.n3⟩
theorem gR.bO {σ':Hp}(h:gR U p q st)(e:bK U σ'):gR σ' p q st:=h.bS e id id
theorem gR.lt (h:gR U p q st):p<U.size/\q<U.size:=by
 obtain⟨_,_,b⟩:=h.hd;obtain⟨_,a⟩:=h.row;exact⟨b.lt,a.lt⟩
theorem gR.rS (h:gR U p q st){K:Sl->Prop}(hK:∀cap,st.length<=cap->K ⟨some ⟨q,0,none⟩,st.length,cap⟩):ja (Addr.add ⟨p,0,none⟩ 0) U K:=by
 obtain⟨c,a,b⟩:=h.hd;exact b.rS rfl (hK c a)
theorem gR.part (h:gR U p q st){s:Sl}{a n:Nat}(ha:s.a=some ⟨q,a,none⟩)(hn:s.len=n)(hl:a+n<=st.length):cT s 1 (ints ((st.drop a).take n)) U (· = q):=by
 obtain⟨r,e⟩:=h.row;have b:((st.drop a).take n).length=n:=by simp;omega
 refine e.ig ha (by rw[Qv,b,hn];simp) λj d=>?_;rw[Qv,b]at d;rw[zg (by rw[Qv];omega)];simp[ints,zj,d,kj]
theorem jo {b o n c:Nat}{cs:List Value}(hb:bX U b cs)(hl:o+n<=cs.length)(hn:n<=1000000)(v:Nat){R:aP}
 (hR:∀σ',Qg U σ' b->bX σ' b (cs.take o++List.replicate n (.int .i64 (v:Int))++cs.drop (o+n))->R σ'):Qb.c ⟨some ⟨b,o,none⟩,n,c⟩ v U R:=by
 refine Qb.o ?_;unfold Qb.v;refine Z5 (a:=bN) (λ(t:Int) p=>∃i:Nat,t=(i:Int)/\i<=n/\Qg U p b/\bX p b (cs.take o++List.replicate i (.int .i64 (v:Int))++cs.drop (o+i))) (λt _=>n-t.toNat) ⟨0,rfl,O,⟨rfl,λ_ _=>rfl⟩,by simpa using hb⟩ ?_;rintro t p ⟨i,rfl,y,u,j⟩;refine cR (λs=>?_) λr=>?_
 ·simp only at s;refine ix O aC ?_;rw[add_lit];refine j.s0 aE λx g d=>?_;refine cQ (m:=i+1) O O ⟨⟨i+1,rfl,O,⟨g.1.trans u.1,λk w=>(g.2 k w).trans (u.2 k w)⟩,?_⟩,O⟩;have:(cs.take o++List.replicate i (Value.int .i64 (v:Int))++cs.drop (o+i)).set (o+(i:Int).toNat*1) (Value.int .i64 (v:Int))=cs.take o++List.replicate (i+1) (Value.int .i64 (v:Int))++cs.drop (o+(i+1)):=by
   rw[List.set_append_right _ _ aE];have e:o+(i:Int).toNat*1-(cs.take o++List.replicate i (Value.int .i64 (v:Int))).length=0:=by simp;omega
   rw[e,xq O,List.set_cons_zero,xU];simp[jW,uu]
  rw[this]at d;exact d
 ·simp only at r;have:i=n:=by omega
  subst this;exact hR p u j
theorem gR.fill (h:gR U p q st){a n:Nat}{r:List Value}{σ':Hp}{v:Nat}(hrow:bX U q (ints st++r))(hl:a+n<=st.length)(ho:Qg U σ' q)
 (hb:bX σ' q ((ints st++r).take a++List.replicate n (.int .i64 (v:Int))++(ints st++r).drop (a+n))):gR σ' p q (fW st a (a+n) v):=by
 obtain⟨c,d,e⟩:=h.hd;have b:=Ki st a (a+n) v;refine⟨⟨c,by rw[b];exact d,?_⟩,⟨r,?_⟩,h.ne,by rw[b];exact h.n1,by rw[b];exact h.n2,by rw[b];exact h.n3⟩
 ·rw[b];exact Wr ho e h.ne
 ·rw[La O hl,Uk,Uk];have e1:(ints st++r).take a=ints (st.take a):=by
   rw[nt (by rw[Qv];omega)];simp[ints]
  have e2:(ints st++r).drop (a+n)=ints (st.drop (a+n))++r:=by
   rw[List.drop_append_of_le_length (by rw[Qv];omega)];simp[ints]
  have g:ints (List.replicate (a+n-a) v)=List.replicate n (.int .i64 (v:Int)):=by
   rw[yq];simp[ints]
  rw[e1,e2]at hb;rw[g];simpa[jW]using hb
theorem gR.jo (h:gR U p q st){a n c:Nat}(hl:a+n<=st.length)(v:Nat){R:aP}(hR:∀σ',Ext (· = q) U σ'->gR σ' p q (fW st a (a+n) v)->R σ') :
 Qb.c ⟨some ⟨q,a,none⟩,n,c⟩ v U R:=by
 obtain⟨r,b⟩:=h.row;have:=h.n2;exact Ar.jo b (by simp[Qv];omega) O v λσ' d e=>hR σ' d.ext (h.fill b hl d e)
theorem xd (h:gR U p q st){R:aO}(hR:R true U):Xj.c (aW p) U R:=by
 refine Xj.o ?_;unfold Xj.v;refine bR.intro (cB rfl (aG (h.rS λcap _=>?_)));have:=h.n1;rw[zK aC];exact hR
theorem NM (h:gR U p q st){R:aN}(hR:R ((st.length/16:Nat):Int) U):Yv.c (aW p) U R:=by
 refine Yv.o ?_;unfold Yv.v;have:=h.n2;refine aG (h.rS λcap _=>nz aB ?_);refine cQ (m:=st.length/16) ?_ O hR;rw[Yi O];simp
theorem L9 (h:gR U p q st){k:Nat}(hk:16*k+16<=st.length){R:Sl->Hp->Prop}(hR:∀c,R ⟨some ⟨q,16*k,none⟩,16,c⟩ U):YI.c (aW p) (k:Int) U R:=by
 refine YI.o ?_;unfold YI.v;have:=h.n2;refine aG (h.rS λcap a=>?_);refine cQ (m:=16*k) O O (cQ (m:=k+1) O O (cQ (m:=16*k+16) O O ?_));refine jf O aC aC ?_;have e:16*k+16-16*k=16:=by omega
 rw[zB aC,e];simp only[zc,add_lit,mB,zH];exact hR _
theorem JY (h:gR U p q st)(k:Int){R:Sl->Int->Hp->Prop}(h1:∀(x:Nat) c,k=(x:Int)->16*x+16<=st.length->R ⟨some ⟨q,16*x,none⟩,16,c⟩ 0 U)(h0:sM st.length k=false->R ⟨none,0,0⟩ 1 U) :
 X4.c (aW p) k U R:=by
 refine X4.o ?_;unfold X4.v;have n3:=h.n3;refine xd h (cE rfl (bR.intro (cR (λa=>cB rfl (h0 ?_)) λa=>NM h ?_)))
 ·simp[sM];omega
 ·refine cR (λb=>h0 ?_) λd=>?_
  ·simp[sM];omega
  ·obtain⟨x,rfl⟩:=zY (show 0<=k by omega);exact L9 h O λc=>h1 x c rfl O
theorem Db {n x:Nat}(h:16*x+16<=n):sM n (x:Int)=true:=by simp[sM];omega
theorem gR.first (h:gR U p q st){x c:Nat}(hx:16*x+16<=st.length){K:Int->Prop}(hK:K ((st.getD (16*x) 0:Nat):Int)) :
 Ix (some ⟨q,16*x,none⟩) 16 0 1 λa=>gP .i64 a U K:=by
 have b:=h.part (s:=⟨some ⟨q,16*x,none⟩,16,c⟩) (n:=16) rfl rfl hx;refine b.qD (i:=0) (x:=st.getD (16*x) 0) ?_ hK;simp[zj,kj,zN];rw[cW O];simp
theorem LD (h:gR U p q st)(k:Int){R:aN}(hR:∀σ',Ext (· = q) U σ'->gR σ' p q (iE st k)->R (j6 st k) σ'):XZ.c (aW p) k U R:=by
 refine XZ.o ?_;unfold XZ.v;refine JY h k (λx c d g=>?_) λd=>?_
 ·subst d;have b:=Db g;refine cE rfl (h.first (c:=c) g (cY (λi=>?_) λi=>?_))
  ·have e1:¬st.getD (16*x) 0=0:=by simpa using i
   have:j6 st (x:Int)=5:=by simp only[j6,b,dC,zP,zB e1]
   have e2:iE st (x:Int)=st:=by simp[iE,this]
   have:=hR U (Ext.refl _ _);rw[e2]at this;simpa[*]using this h
  ·have e1:st.getD (16*x) 0=0:=by simpa using i
   have a:j6 st (x:Int)=0:=by simp only[j6,b,dC,zP,e1]
   have e2:iE st (x:Int)=fW st (16*x) (16*x+16) 3:=by simp[iE,a]
   refine h.jo g 3 λσ' e j=>?_;have:=hR σ' e;rw[a,e2]at this;exact this j
 ·have a:j6 st k=1:=by simp[j6,d]
  have e2:iE st k=st:=by simp[iE,a]
  refine cB rfl ?_;have:=hR U (Ext.refl _ _);rw[a,e2]at this;exact this h
theorem Cr {s:Sl}{xs:List Nat}(h:cT s 1 (ints xs) U F)(hl:xs.length<=1000000)(v:Nat){R:aN}(h1:∀i:Nat,xs[i]?=some v->(∀j:Nat,j<i->xs[j]?≠some v)->R (i:Int) U)(h0:v∉xs->R (-1) U) :
 WC.c s (v:Int) U R:=by
 refine WC.o ?_;unfold WC.v;have w:=h.oe;refine Z5 (a:=bN) (λ(t:Int) x=>∃i:Nat,t=(i:Int)/\i<=xs.length/\x=U/\∀j,j<i->xs[j]?≠some v) (λt _=>xs.length-t.toNat) ⟨0,rfl,O,rfl,λj d=>O⟩ ?_;rintro t x ⟨i,rfl,B,rfl,b⟩;refine cR (λz=>?_) λy=>?_
 ·have g:i<xs.length:=by omega
  have p:xs[i]?=some xs[i]:=cW g;refine h.qD p ?_;rw[k5];refine cY (λr=>?_) λr=>?_
  ·have:v=xs[i]:=by simpa using r
   exact h1 i (by rw[p,this]) b
  ·have u:¬v=xs[i]:=by simpa using r
   refine cQ (m:=i+1) O O ⟨⟨i+1,rfl,O,rfl,λj d=>?_⟩,O⟩;by_cases e:j=i
   ·subst e;rw[p];intro e2;cases e2;exact u rfl
   ·exact b j O
 ·refine h0 λA=>?_;obtain⟨j,d⟩:=zO A;have:=(cX.1 d).1;exact b j O d
theorem Jl {s:Sl}{xs:List Nat}(h:cT s 1 (ints xs) U F)(hl:xs.length<=1000000)(v:Nat){R:aO}(hR:R (xs.contains v) U):Wo.c s (v:Int) U R:=by
 refine Wo.o ?_;unfold Wo.v;refine Cr h hl v (λi a _=>?_) λb=>?_
 ·have:xs.contains v=true:=by simpa using zG a
  rw[this]at hR;rw[zK O];exact hR
 ·have:xs.contains v=false:=by simpa using b
  rw[this]at hR;exact hR
theorem Jr {s:Sl}{xs:List Int}(h:cT s 1 (xs.map (Value.int .i64)) U F)(hl:xs.length<=1000000000)(v:Int){R:aO}(hR:R (xs.contains v) U):Wo.c s v U R:=by
 refine Wo.o ?_;unfold Wo.v;refine WC.o ?_;unfold WC.v;have u:s.len=xs.length:=by have:=h.1;simp at this;omega
 refine Z5 (a:=bN) (λ(t:Int) w=>∃i:Nat,t=(i:Int)/\i<=xs.length/\w=U/\∀j,j<i->xs[j]?≠some v) (λt _=>xs.length-t.toNat) ⟨0,rfl,O,rfl,λj d=>O⟩ ?_;rintro t w ⟨i,rfl,A,rfl,b⟩;refine cR (λz=>?_) λy=>?_
 ·have g:i<xs.length:=by omega
  have x:xs[i]?=some xs[i]:=cW g;refine h.od x (cY (λp=>?_) λp=>?_)
  ·have e:v=xs[i]:=by simpa using p
   have:xs.contains v=true:=by rw[e];simp
   rw[this]at hR;show R (decide ((i:Int)≥0)) _;rw[zK O];exact hR
  ·have r:¬v=xs[i]:=by simpa using p
   refine cQ (m:=i+1) O O ⟨⟨i+1,rfl,O,rfl,λj d=>?_⟩,O⟩;by_cases e:j=i
   ·subst e;rw[x];intro e2;cases e2;exact r rfl
   ·exact b j O
 ·have:xs.contains v=false:=by
   simp only[qg,decide_eq_false_iff_not];intro hm;obtain⟨j,d⟩:=zO hm;have:=(cX.1 d).1;exact b j O d
  rw[this]at hR;exact hR
def Dh (f:Fv)(p:Nat->Bool)(U:Hp):Prop:=∀(x:Nat) (σ':Hp) (R:aO),bK U σ'->(∀σ'',bK σ' σ''->R (p x) σ'')->VE Tryz.prog f [.int .i64 (x:Int)] [.one .b] σ' R
theorem GT {s:Sl}{xs:List Nat}(h:cT s 1 (ints xs) U F)(hl:xs.length<=1000000){f:Fv}{pr:Nat->Bool}(hf:Dh f pr U){R:aO}(hR:∀σ',bK U σ'->R (xs.any pr) σ') :
 Ww.c s f U R:=by
 refine Ww.o ?_;unfold Ww.v;refine WO.o ?_;unfold WO.v;have u:=h.oe;refine Z5 (a:=bN) (λ(t:Int) w=>∃i:Nat,t=(i:Int)/\i<=xs.length/\bK U w/\∀j x,j<i->xs[j]?=some x->pr x=false) (λt _=>xs.length-t.toNat) ⟨0,rfl,O,Ext.refl _ _,λj x r=>O⟩ ?_;rintro t w ⟨i,rfl,B,e,g⟩;refine cR (λz=>?_) λy=>?_
 ·have d:i<xs.length:=by omega
  have p:xs[i]?=some xs[i]:=cW d;refine(aH.bO h e).qD p (hf _ _ _ e λA e2=>?_);cases hp:pr xs[i]
  ·refine cE rfl (cQ (m:=i+1) O O ⟨⟨i+1,rfl,O,e.trans e2,λj x r b=>?_⟩,O⟩);by_cases e3:j=i
   ·subst e3;rw[p]at b;cases b;exact hp
   ·exact g j x O b
  ·refine cB rfl ?_;have:xs.any pr=true:=jU.2 ⟨_,j3 d,hp⟩;show R (decide ((i:Int)≥0)) _;rw[zK O,←this];exact hR _ (e.trans e2)
 ·have:xs.any pr=false:=by
   rw[lN];intro x p;obtain⟨j,r⟩:=zO p;have:=(cX.1 r).1;simp[g j x O r]
  show R (decide ((-1:Int)≥0)) _;rw[show decide ((-1:Int)≥0)=false from rfl,←this];exact hR _ e
theorem IE {c:Nat}{s:Sl}{fr:List Nat}{σ0:Hp}(hb:bX σ0 c [.slice s.a s.len s.cap])(hs:cT s 1 (ints fr) σ0 F)(hl:fr.length<=1000):Dh ⟨271,#[],#[.pointer (some ⟨c,0,none⟩)]⟩ (λx=>!fr.contains x) σ0:=by
 intro x σ' R e hR;refine oS (all := #[.int .i64 (x:Int),.pointer (some ⟨c,0,none⟩)]) (by kernel_rfl) aA ?_;refine Yd.o ?_;unfold Yd.v;refine(e.bU hb id).sJ rfl ?_;exact Jl (aH.bO hs e) O x (hR _ (Ext.refl _ _))
theorem DB (h:gR U p q st)(a m:Int)(v:Nat){s:Sl}{fr:List Nat}(hs:cT s 1 (ints fr) U F)(hl:fr.length<=1000){R:aN}(hR:∀σ',Ext (· = q) U σ'->gR σ' p q (VW st a m v fr)->R (Gz st a m fr) σ') :
 Xv.c (aW p) a m v s U R:=by
 refine Xv.o ?_;unfold Xv.v;have n2:=h.n2;have N:=h.lt.2;refine nw (cs:=[.slice s.a s.len s.cap]) λv1 P g J=>?_;have e:=h.bO g;have b:¬(0<=a/\1<=m/\m<=st.length-a)->R 1 v1:=λE=>by
  have d:Y4 st.length a m=false:=by simp only[Y4,←sW];exact zM E
  have e1:Gz st a m fr=1:=by simp[Gz,d]
  have e2:VW st a m v fr=st:=by simp[VW,e1]
  have:=hR v1 g.to;rw[e1,e2]at this;exact this e
 refine xd e (cE rfl (bR.intro ?_));refine cR (λK=>bR.intro (cB rfl (bR.intro (cB rfl (cB rfl (b O)))))) λK=>?_;refine bR.intro (cR (λC=>bR.intro (cB rfl (cB rfl (b O)))) λC=>?_);refine aG (e.rS λcap w=>bR.intro (cR (λu=>cB rfl (b (by simp only at *;omega))) λu=>?_));simp only at u;refine aG (e.rS λcap w=>ar aC aC (cR (λB=>b (by simp only at *;omega)) λB=>?_));simp only at B;obtain⟨x,rfl⟩:=zY (show 0<=a by omega);obtain⟨y,rfl⟩:=zY (show 0<=m by omega);have i:x+y<=st.length:=by omega
 have d:Y4 st.length (x:Int) (y:Int)=true:=by simp only[Y4,zE,zS];omega
 refine aG (e.rS λcap w=>cQ (m:=x+y) O O (jf O aC aC ?_));rw[zB aC];simp only[zc,add_lit,mB,zH];have G:x+y-x=y:=by omega
 rw[G];have D:=e.part (s:=⟨some ⟨q,x,none⟩,y,cap-x⟩) (n:=y) rfl rfl i;refine GT D aE (IE (s:=s) J (aH.bO hs g) hl) λL e2=>?_;have A:=e.bO e2;have j:((st.drop x).take y).any (λz=>!fr.contains z) = !sq st x y fr:=by
  rw[sq,List.all_eq_not_any_not,Bool.not_not]
 rw[j];cases hA:sq st x y fr
 ·have e1:Gz st (x:Int) (y:Int) fr=5:=by simp[Gz,d,hA]
  have r:VW st (x:Int) (y:Int) v fr=st:=by simp[VW,e1]
  have:=hR L (g.to.trans e2.to);rw[e1,r]at this;exact cB rfl (this A)
 ·have e1:Gz st (x:Int) (y:Int) fr=0:=by simp[Gz,d,hA]
  have r:VW st (x:Int) (y:Int) v fr=fW st x (x+y) v:=by simp[VW,e1]
  refine cE rfl (A.jo i v λv3 H M=>?_);have:=hR v3 (g.to.trans (e2.to.trans H));rw[e1,r]at this;exact this M
theorem vA {h:Hp}{b:Nat}{xs:List Nat}{n c:Nat}(hb:bX h b (ints xs))(hn:n=xs.length):cT ⟨some ⟨b,0,none⟩,n,c⟩ 1 (ints xs) h (· = b):=
 hb.ig (o:=0) rfl (by rw[Qv];simp[hn]) λj _=>by rw[zH]
theorem Nb (h:gR U p q st)(a m:Int){R:aN}(hR:∀σ',Ext (· = q) U σ'->gR σ' p q (VW st a m 1 [2,3])->R (Gz st a m [2,3]) σ'):Xu.c (aW p) a m U R:=by
 refine Xu.o ?_;unfold Xu.v;refine nw (cs:=ints [2,3]) λv i e g=>?_;exact DB (h.bO e) a m 1 (vA g rfl) aA λσ' d b=>hR σ' (e.to.trans d) b
theorem FP (h:gR U p q st)(a m:Int){R:aN}(hR:∀σ',Ext (· = q) U σ'->gR σ' p q (VW st a m 2 [1])->R (Gz st a m [1]) σ'):Xo.c (aW p) a m U R:=by
 refine Xo.o ?_;unfold Xo.v;refine nw (cs:=ints [1]) λv i e g=>?_;exact DB (h.bO e) a m 2 (vA g rfl) aA λσ' d b=>hR σ' (e.to.trans d) b
def vt (st:List Nat)(x:Int):Int:=if 0<=x/\x<st.length then((st.getD x.toNat 0:Nat):Int)else -1
theorem Ey (h:gR U p q st)(x:Int){R:aN}(hR:R (vt st x) U):XG.c (aW p) x U R:=by
 refine XG.o ?_;unfold XG.v;have n2:=h.n2;unfold vt at hR;refine xd h (bR.intro (cE rfl (bR.intro (cR (λi=>cB rfl ?_) λi=>aG (h.rS λcap g=>cR (λb=>?_) λb=>?_)))))
 ·rw[zB O]at hR;exact hR
 ·simp only at b;rw[zB O]at hR;exact hR
 ·simp only at b;rw[zC O]at hR;obtain⟨y,rfl⟩:=zY (show 0<=x by omega);refine aG (h.rS λcap g=>?_);have d:=h.part (s:=⟨some ⟨q,0,none⟩,st.length,cap⟩) (a:=0) (n:=st.length) rfl rfl O;rw[List.drop_zero,mX]at d;have e:y<st.length:=by omega
  refine d.qD (cW e) ?_;simpa[zN,cW e]using hR
theorem UH {s:Sl}{vs:List Value}(h:cT s 1 vs U F)(h1:∀v∈vs,dV v=true)(hl:s.len<=1000000){R:Sl->Hp->Prop}
 (hR:∀s' σ',s'.len=s.len->bK U σ'->bW s' 1 vs σ' (λb=>U.size<=b)->R s' σ'):WD.c s U R:=by
 refine WD.o ?_;unfold WD.v;exact AB h aB rfl h1 aB hl hR
theorem J6 {n:Nat}(h1:16<=n)(h2:n<=1024)(h3:n%16=0){R:Option Addr->Int->Hp->Prop}(hR:∀σ' p q,bK U σ'->U.size<=p->U.size<=q->gR σ' p q (List.replicate n 0)->R (some ⟨p,0,none⟩) 0 σ'):Q7.c (n:Int) U R:=by
 refine Q7.o ?_;unfold Q7.v;refine bR.intro (fM O (bR.intro (fM O (nz aB ?_))));rw[Qz O];have:(((n:Int)%16) != 0)=false:=by
  have:((n:Int)%16)=0:=by omega
  rw[this];rfl
 rw[this];refine cE rfl (mk O O λv j e a=>nw (cs:=[.slice (some ⟨U.size,0,none⟩) n n]) λi d e2 b=>?_);have g:(List.replicate n [Value.int .i64 0]).flatten=ints (List.replicate n 0):=by
  have:[Value.int .i64 0]=ints [0]:=rfl;rw[this];clear a hR
  induction n with
  | zero=>rfl
  | succ n ih=>simp[tY,ints]
 rw[g]at a;refine hR _ _ _ (e.trans e2) O (zD _) ⟨⟨n,by simp,by simpa using b⟩,⟨[],by simpa using e2.bU a id⟩,O,by simpa using h1,by simpa using h2,by simpa using h3⟩
end Go.Ar
namespace Go.Proofs
open Go.Vc
set_option maxRecDepth 100000
def Zp.h:Hn:=.q .o1 (.q (.q .o3 .aJ) (.q (.cS (.tail 10 (RI.ops 10) [.op])) .l))
def Zp.v (a:R2)(b:Hp)(c:Int->Int->Hp->Prop):Prop:=aV #[.I 0,.I 0] 251 b λd e=>X3.c a e λf g=>If (!f) (aR d 0 (.I 0) g λh=>aR d 1 (.I 0) h λi=>aQ d 0 i λj=>aQ d 1 i λk=>c j k i) (bD a 0 g λm=>bT a λn=>bM ((n.add 1).add 1) g λo=>aR d 0 (.I m) g λp=>aR d 1 (.I o) p λq=>aQ d 0 q λr=>aQ d 1 q λs=>c r s q)
theorem Zp.o {a b c}(d:Zp.v a b c):Zp.c a b c:=Wa Tryz.func179 (x:=Zp.h) (R0 d)
def X6.h:Hn:=.q .o1 (.q (.q .o3 .aK) (.q .o6 .l))
def X6.v (a:R2)(b:Hp)(c:aN):Prop:=X3.c a b λd e=>If (!d) (c 0 e) (bE a 4 e λg=>c ((g.len:Nat):Int) e)
theorem X6.o {a b c}(d:X6.v a b c):X6.c a b c:=Wa Tryz.func182 (x:=X6.h) (R0 d)
def X3.h:Hn:=.q .o1 (.q (.cS (.seq [.op,.op,.op,.cO true 6 (RI.ops 6),.op])) .l)
def X3.v (a:R2)(b:Hp)(c:aO):Prop:=bR (λd e=>c d e) λf=>If (!a.isNone) (bE a 4 b λh=>f (decide (((h.len:Nat):Int)>0)) b) (f false b)
theorem X3.o {a b c}(d:X3.v a b c):X3.c a b c:=Wa Tryz.func242 (x:=X3.h) (R0 d)
def Q8.h:Hn:=.q .o3 (.q .o7 (.q (.q (.cS (.seq [.op,.op,.op,.cO false 2 [.op,.op],.op,.cO false 5 (RI.ops 5)])) .aJ) (.q (.cS (.held true [] (.tk [0,1,2] (.all [(3,.take 4 (.all [(5,.take 6 (.take 7 (.done)))]))])))) .l)))
def Q8.v (a b c d:Int)(e:Hp)(f:Option Addr->Int->Hp->Prop):Prop:=aV #[.I b,.I c,.I d] 137 e λg h=>aQ g 0 h λi=>aQ g 1 h λj=>aQ g 2 h λk=>Zg.c i j k h λl m n=>bR (λo p=>bR (λq r=>If q (f none 1 r) (eN r λs=>aS s g 0 λt=>aS s g 1 λu=>aS s g 2 λv=>Mk l l 8 3 [.I 0] r λw x=>And (s x) <| aV #[.I a,.I t,.I u,.I v,.slice w.a w.len w.cap,.I 0] 322 x λy z=>And (s z) <| f (some y) 0 z)) λaa=>If o (aa true p) (aQ g 1 p λab=>bL (1024-ab) λac=>aa (decide (a>ac)) p)) λad=>If (m != 0) (ad true n) (ad (decide (a<0)) n)
theorem Q8.o {a b c d e f}(g:Q8.v a b c d e f):Q8.c a b c d e f:=Wa Tryz.func257 (x:=Q8.h) (R0 g)
def Zh.h:Hn:=.q .o1 (.q .o8 (.q (.k (.q .o3 (.c .aL (.q .o9 .aK)))) (.q .o4 .aM)))
def Zh.v (a:R2)(b:Int)(c:Hp)(d:aN):Prop:=XK.c a b c λe f g=>If (f != 0) (d f g) (bE a 4 g λi=>Ix i.a i.len e 1 λj=>bM j g λk=>If (k==0) (d 9 g) (aV #[.I e] 3 g λl m=>YS.c a 0 ⟨some l,1,1⟩ m λn=>d 0 n))
theorem Zh.o {a b c d}(e:Zh.v a b c d):Zh.c a b c d:=Wa Tryz.func278 (x:=Zh.h) (R0 e)
def Za.h:Hn:=.q .o2 (.q (.q .o3 .aJ) (.q .o6 (.q (.q .o2 .aJ) (.q .o4 (.q .o5 .l)))))
def Za.v (a:R2)(b:Hp)(c:Int->Int->Hp->Prop):Prop:=X3.c a b λd e=>If (!d) (c 0 5 e) (bE a 4 e λg=>WC.c g 0 e λh i=>If (h<0) (c 0 6 i) (aV #[.I h] 3 i λj k=>YS.c a 1 ⟨some j,1,1⟩ k λl=>Yc.c a h l λm n=>c m 0 n))
theorem Za.o {a b c}(d:Za.v a b c):Za.c a b c:=Wa Tryz.func283 (x:=Za.h) (R0 d)
def XX.h:Hn:=.q .o2 (.q (.q .o3 .aJ) (.q .o5 (.q (.q (.cS (.gQ false [] [(32,.one .b)] (.take 0 (.take 1 (.all [(2,.take 3 (.take 4 (.split 18 (.take 5 (.take 6 (.take 7 (.take 8 (.take 9 (.take 10 (.take 11 (.take 12 (.take 13 (.take 14 (.take 15 (.take 16 (.take 17 (.take 18 (.done))))))))))))))) (.take 5 (.take 6 (.take 7 (.take 8 (.take 11 (.take 12 (.take 13 (.take 14 (.all [(9,.take 10 (.all [(15,.take 16 (.take 17 (.take 18 (.done))))])),(15,.all [(9,.take 10 (.take 16 (.take 17 (.take 18 (.done)))))])]))))))))))))]))))) .aJ) (.q .o9 .l))))
def XX.v (a:R2)(b:Int)(c:Hp)(d:Int->Int->Hp->Prop):Prop:=X3.c a c λe f=>If (!e) (d 0 5 f) (Yc.c a 0 f λg h=>bL (b-g) λi=>Jn [.b] (λ(j:Bool) k=>If j (d 0 8 k) (bT a λl=>bM ((l.add 1).add 0) k λm=>Nz m<|bL (i.tdiv m) λn=>d n 0 k)) λo=>Yc.c a 0 h λp q=>If (b<p) (o true q) (bT a λr=>bT a λs=>(aX r 4 q λt=>bM ((s.add 1).add 0) q λu=>bL (((t.len:Nat):Int)*u) λv=>o (decide (i≥v)) q) ∧ (bM ((s.add 1).add 0) q λw=>aX r 4 q λx=>bL (((x.len:Nat):Int)*w) λy=>o (decide (i≥y)) q)))
theorem XX.o {a b c d}(e:XX.v a b c d):XX.c a b c d:=Wa Tryz.func290 (x:=XX.h) (R0 e)
def X5.h:Hn:=.q .o2 (.q .o8 (.q (.q .o2 (.c (.q .o3 .l) .l)) (.q .gG .l)))
def X5.v (a:R2)(b:Int)(c:Hp)(d:Bool->Int->Hp->Prop):Prop:=XK.c a b c λe f g=>If (f != 0) (d false f g) (bE a 4 g λi=>Ix i.a i.len e 1 λj=>bM j g λk=>d (k==1) 0 g)
theorem X5.o {a b c d}(e:X5.v a b c d):X5.c a b c d:=Wa Tryz.func292 (x:=X5.h) (R0 e)
def XK.h:Hn:=.q .o2 (.q .o8 (.q (.q (.cS (.seq [.op,.op,.op,.cO true 5 (RI.ops 5)])) .aJ) (.q .o4 .l)))
def XK.v (a:R2)(b:Int)(c:Hp)(d:Int->Int->Hp->Prop):Prop:=XX.c a b c λe f g=>bR (λh i=>If h (d 0 8 i) (d e f i)) λj=>If (f==0) (Yc.c a e g λk l=>j (k != b) l) (j false g)
theorem XK.o {a b c d}(e:XK.v a b c d):XK.c a b c d:=Wa Tryz.func304 (x:=XK.h) (R0 e)
def YS.h:Hn:=.q .o3 (.k (.loop [(10,.I)] (.q .o1 (.q (.c .l .l) (.q (.k (.q .o3 (.q (.cS (.tail 16 (RI.ops 16) [.op])) .o8))) .o2)))))
def YS.v (a:R2)(b:Int)(c:Sl)(d:Hp)(e:aP):Prop:=YC [bN] (λf=>f 0 d) λg (h:Int) i=>If (h<((c.len:Nat):Int)) (Ix c.a c.len h 1 λj=>bM j i λk=>bD a 5 i λm=>bE a 4 i λo=>Ix o.a o.len k 1 λp=>bM p i λq=>bL (b-q) λr=>bL (m+r) λs=>bT a λt=>aR t 5 (.I s) i λu=>bE a 4 u λw=>Ix w.a w.len k 1 λx=>eP x (.I b) u λy=>bL (h+1) λz=>g z y) (e i)
theorem YS.o {a b c d e}(f:YS.v a b c d e):YS.c a b c d e:=Wa Tryz.func305 (x:=YS.h) (R0 f)
def Yc.h:Hn:=.q .o1 (.q (.oq 14) .l)
def Yc.v (a:R2)(b:Int)(c:Hp)(d:aN):Prop:=bD a 0 c λf=>bL (f*256) λg=>bT a λh=>bM ((h.add 1).add 0) c λi=>bL (b*i) λj=>bL (g+j) λk=>d k c
theorem Yc.o {a b c d}(e:Yc.v a b c d):Yc.c a b c d:=Wa Tryz.func306 (x:=Yc.h) (R0 e)
end Go.Proofs
namespace Go.Ar
open Go Go.Vc Go.Proofs
variable {U:Hp}{F:Rg}{p q:Nat}{c:bZ}{s:cF}
def mF (tk:List Bool):List Nat:=tk.map λb=>if b then 1 else 0
theorem GV (tk:List Bool):(mF tk).length=tk.length:=by simp[mF]
theorem U6 {tk:List Bool}{i:Nat}{b:Bool}(h:tk[i]?=some b):(mF tk)[i]?=some (if b then 1 else 0):=by simp[mF,h]
theorem Ib (tk:List Bool)(i:Nat)(b:Bool):mF (tk.set i b)=(mF tk).set i (if b then 1 else 0):=by simp[mF,uh]
structure gN (U:Hp) (p q:Nat) (c:bZ) (s:cF):Prop where
 hd:∃cap,c.n<=cap/\bX U p [.int .i64 (s.st:Int),.int .i64 (c.size:Int),.int .i64 (c.aF:Int),.int .i64 (c.batch:Int),.slice (some ⟨q,0,none⟩) c.n cap,.int .i64 (s.many:Int)]
 row:∃rest,bX U q (ints (mF s.tk)++rest)
 ne:p≠q
 len:s.tk.length=c.n
 ok:c.ok
 fit:s.st+c.aF<=1024
theorem gN.bS {σ':Hp}(h:gN U p q c s)(e:Ext F U σ')(hp:¬F p)(hq:¬F q):gN σ' p q c s:=
 ⟨by obtain⟨c,a,b⟩:=h.hd;exact⟨c,a,e.bU b hp⟩,by obtain⟨r,a⟩:=h.row;exact⟨r,e.bU a hq⟩,h.ne,h.len,h.ok,h.fit⟩
theorem gN.bO {σ':Hp}(h:gN U p q c s)(e:bK U σ'):gN σ' p q c s:=h.bS e id id
theorem gN.lt (h:gN U p q c s):p<U.size/\q<U.size:=by
 obtain⟨_,_,b⟩:=h.hd;obtain⟨_,a⟩:=h.row;exact⟨b.lt,a.lt⟩
theorem gN.rS (h:gN U p q c s){K:Sl->Prop}(hK:∀cap,c.n<=cap->K ⟨some ⟨q,0,none⟩,c.n,cap⟩):ja (Addr.add ⟨p,0,none⟩ 4) U K:=by
 obtain⟨d,a,b⟩:=h.hd;exact b.rS rfl (hK d a)
theorem gN.rI (h:gN U p q c s){i:Nat}{x:Int}(hx:∀a b:Value,([.int .i64 (s.st:Int),.int .i64 (c.size:Int),.int .i64 (c.aF:Int),.int .i64 (c.batch:Int),a,.int .i64 (s.many:Int)]:List Value)[0+i]?=some (.int .i64 x)){K:Int->Prop}(hK:K x):gP .i64 (Addr.add ⟨p,0,none⟩ i) U K:=by
 obtain⟨g,e,d⟩:=h.hd;exact d.rI (hx _ .nilFunc) hK
theorem gN.fR (h:gN U p q c s){i j:Nat}{x:Int}(hx:∀a b:Value,([.int .i64 (s.st:Int),.int .i64 (c.size:Int),.int .i64 (c.aF:Int),.int .i64 (c.batch:Int),a,.int .i64 (s.many:Int)]:List Value)[0+i+j]?=some (.int .i64 x)){K:Int->Prop}(hK:K x):gP .i64 (Addr.add (Addr.add ⟨p,0,none⟩ i) j) U K:=by
 obtain⟨g,e,d⟩:=h.hd;exact d.fR (hx _ .nilFunc) hK
theorem gN.kA (h:gN U p q c s)(cap:Nat):cT ⟨some ⟨q,0,none⟩,c.n,cap⟩ 1 (ints (mF s.tk)) U (· = q):=by
 obtain⟨r,b⟩:=h.row;refine b.ig (o:=0) rfl (by rw[Qv,GV,h.len];simp) λj a=>?_;rw[zH,zg a]
theorem HQ (h:gN U p q c s){R:aO}(hR:R true U):X3.c (aW p) U R:=by
 refine X3.o ?_;unfold X3.v;refine bR.intro (cB rfl (aG (h.rS λcap _=>?_)));have:=h.ok.qn;rw[zK aC];exact hR
theorem MZ (h:gN U p q c s){R:aN}(hR:R (c.n:Int) U):X6.c (aW p) U R:=by
 refine X6.o ?_;unfold X6.v;exact HQ h (cE rfl (aG (h.rS λcap _=>hR)))
theorem wM (h:gN U p q c s)(i:Nat)(hi:i<=1000){R:aN}(hR:R ((at_ c s i:Nat):Int) U):Yc.c (aW p) (i:Int) U R:=by
 refine Yc.o ?_;unfold Yc.v;have a:=h.ok;unfold bZ.ok at a;have:=h.fit;have b:i*c.size<=1000*512:=lp hi O;refine aG (h.rI (λ_ _=>rfl) (cQ (m:=s.st*256) aA O (aG (h.fR (λ_ _=>rfl) ?_))));exact cQ (m:=i*c.size) aA O (cQ (m:=at_ c s i) (by simp[at_]) (by unfold at_;omega) hR)
theorem xO (h:gN U p q c s)(x:Int)(hx2:x<=9223372036854775807){R:Int->Int->Hp->Prop}(h1:∀i,idx c s x=some i->R (i:Int) 0 U)(h0:idx c s x=none->R 0 8 U):XX.c (aW p) x U R:=by
 refine XX.o ?_;unfold XX.v;have C:=h.ok;unfold bZ.ok at C;have z:=h.ok.jV;have r:=h.fit;have a:=h.len;have E:c.n*c.size<=128*512:=lp z O;refine HQ h (cE rfl (wM h 0 O ?_));have u:at_ c s 0=s.st*256:=by simp[at_]
 rw[u];refine xT ?_;refine Jn.intro (wM h 0 O ?_);rw[u];refine cR (λB=>cB rfl (h0 ?_)) λA=>?_
 ·unfold idx;rw[zC O]
 ·rw[V8 O O];obtain⟨y,D⟩:=zY (show 0<=x by omega);have key:If (decide (x-((s.st*256:Nat):Int)≥((c.n*c.size:Nat):Int))) (R 0 8 U)
   (bT (some ⟨p,0,none⟩) λg=>gP .i64 ((g.add 1).add 0) U λd=>Nz d<|Ar .i64 ((x-((s.st*256:Nat):Int)).tdiv d) λe=>R e 0 U):=by
   refine cR (λw=>h0 ?_) λj=>aG (h.fR (λ_ _=>rfl) (nz O ?_))
   ·unfold idx;rw[a,zC O]
   ·have:idx c s x=some ((x-((s.st*256:Nat):Int)).toNat/c.size):=by unfold idx;rw[a,zB O]
    refine cQ (m:=(x-((s.st*256:Nat):Int)).toNat/c.size) ?_ ?_ (h1 _ this)
    ·rw[Yi O];have:x-((s.st*256:Nat):Int)=(((x-((s.st*256:Nat):Int)).toNat:Nat):Int):=by omega
     rw[this];simp
    ·have:=Nat.div_le_self (x-((s.st*256:Nat):Int)).toNat c.size;omega
  refine aG (aG ⟨h.rS λcap b=>h.fR (λ_ _=>rfl) (cQ (m:=c.n*c.size) aA O key),h.fR (λ_ _=>rfl) (h.rS λcap b=>cQ (m:=c.n*c.size) aA O key)⟩)
theorem B1 (h:gN U p q c s)(x:Int)(hx2:x<=9223372036854775807){R:Int->Int->Hp->Prop}(h1:∀i,obj c s x=some i->i<c.n->R (i:Int) 0 U)(h0:obj c s x=none->R 0 8 U):XK.c (aW p) x U R:=by
 refine XK.o ?_;unfold XK.v;have g:=h.ok;unfold bZ.ok at g;have j:=h.ok.jV;refine xO h x hx2 (λi b=>bR.intro (cB rfl ?_)) λb=>bR.intro (cE rfl (cE rfl (h0 (by unfold obj;rw[b]))));have a:=((Vr O).1 b).2.2;rw[h.len]at a;refine wM h i O (cY (λd=>h0 ?_) λd=>h1 i ?_ a)
 ·have:¬x=((at_ c s i:Nat):Int):=λe=>by rw[e]at d;simp at d
  unfold obj;rw[b];simp[this]
 ·have:x=((at_ c s i:Nat):Int):=by
   have:((at_ c s i:Nat):Int)=x:=by simpa using d
   exact this.symm
  unfold obj;rw[b];simp[this]
def cF.is (s:cF)(i:Nat):Bool:=s.tk.getD i false
theorem cF.kB {s:cF}{i:Nat}(hi:i<s.tk.length):s.tk[i]?=some (s.is i):=by
 simp[cF.is,zN,cW hi]
theorem Ps (h:gN U p q c s)(x:Int)(hx2:x<=9223372036854775807){R:Bool->Int->Hp->Prop}(h1:∀i,obj c s x=some i->R (s.is i) 0 U)(h0:obj c s x=none->R false 8 U):X5.c (aW p) x U R:=by
 refine X5.o ?_;unfold X5.v;refine B1 h x hx2 (λi b a=>cE rfl (aG (h.rS λcap d=>?_))) λb=>cB rfl (h0 b);rw[←h.len]at a;refine(h.kA cap).qD (U6 (cF.kB a)) ?_;have:=h1 i b;cases hb:s.is i<;>rw[hb]at this<;>simpa using this
theorem HJ {s:cF}{i:Nat}(hi:i<s.tk.length)(v:Bool):((s.put i v).many:Int)=s.many+((if v then 1 else 0)-(if s.is i then 1 else 0)):=by
 have key:∀(l:List Bool) (i:Nat) (b:Bool),l[i]?=some b->(((l.set i v).count true:Nat):Int)=(l.count true:Nat)+((if v then 1 else 0)-(if b then 1 else 0)):=by
  intro l
  induction l with
  | nil=>intro i b h;simp at h
  | cons x l ih=>
   intro i b h;cases i with
   | zero=>
    simp at h;subst h;cases v<;>cases x<;>simp[List.count_cons]<;>omega
   | succ i=>
    have:=ih i b (by simpa using h);simp only[qe,List.count_cons]
    push_cast
    omega
 exact key s.tk i _ (cF.kB hi)
theorem yr (s:cF):s.many<=s.tk.length:=List.count_le_length
theorem Cq (h:gN U p q c s){i:Nat}(hi:i<c.n)(v:Bool){sl:Sl}{G:Rg}(hs:cT sl 1 (ints [i]) U G){R:aP}(hR:∀σ',Ext (λb=>b=p\/b=q) U σ'->gN σ' p q c (s.put i v)->R σ') :
 YS.c (aW p) (if v then 1 else 0) sl U R:=by
 refine YS.o ?_;unfold YS.v;have M:sl.len=1:=hs.oe;have P:=h.ok.jV;have H:=h.len;have Q:=yr s;have B:i<s.tk.length:=by omega
 have g:=HJ B v;refine Z5 (a:=bN) (λ(t:Int) C=>t=0/\C=U\/t=1/\Ext (λb=>b=p\/b=q) U C/\gN C p q c (s.put i v)) (λt _=>1-t.toNat) (.inl ⟨rfl,rfl⟩) ?_;rintro t C (⟨rfl,rfl⟩|⟨rfl,e,K⟩)
 ·refine kW O ?_;refine hs.qD (i:=0) (x:=i) rfl (aG (h.rI (λ_ _=>rfl) (aG (h.rS λcap E=>?_))));refine(h.kA cap).qD (U6 (cF.kB B)) ?_;have J:(0:Int)<=(if v then 1 else 0)/\(if v then(1:Int)else 0)<=1:=by cases v<;>simp
  have L:(0:Int)<=((if s.is i then 1 else 0:Nat):Int)/\((if s.is i then 1 else 0:Nat):Int)<=1:=by cases s.is i<;>simp
  have d:((if s.is i then 1 else 0:Nat):Int)=(if s.is i then 1 else 0):=by cases s.is i<;>rfl
  refine ar O O (ar O O (aG ?_));obtain⟨N,D,hd⟩:=h.hd;obtain⟨r,z⟩:=h.row;refine hd.s1 aA λS A u=>?_;have j:=Wr A z (Ne.symm h.ne);refine aG (u.rS rfl (ix O aC ?_));rw[add_lit];refine j.s0 (by simp[Qv,GV];omega) λV y w=>?_;refine cQ (m:=1) O O ⟨.inr ⟨rfl,?_,?_⟩,by decide⟩
  ·exact(Ext.eD (F:=λb=>b=p\/b=q) A (.inl rfl)).trans (Ext.eD y (.inr rfl))
  ·refine⟨⟨N,D,?_⟩,⟨r,?_⟩,h.ne,by simp[cF.put,h.len],h.ok,h.fit⟩
   ·have:=Wr y u h.ne;rw[g,←d];exact this
   ·have e:(ints (mF s.tk)++r).set (0+(i:Int).toNat*1) (.int .i64 (if v then 1 else 0))=ints (mF (s.put i v).tk)++r:=by
     rw[List.set_append_left _ _ (by simp[Qv,GV];omega)]
     congr 1
     simp only[cF.put,Ib,ints,uh];have:(0+(i:Int).toNat*1)=i:=by omega
     rw[this]
     congr 1
     cases v<;>rfl
    rw[e]at w;exact w
 ·exact fM O (hR _ e K)
theorem Ie (h:gN U p q c s){x:Int}{i:Nat}(hx2:x<=9223372036854775807)(ho:obj c s x=some i)(ht:s.is i=true){R:aN}(hR:∀σ',Ext (λb=>b=p\/b=q) U σ'->gN σ' p q c (s.put i false)->R 0 σ') :
 Zh.c (aW p) x U R:=by
 refine Zh.o ?_;unfold Zh.v;refine B1 h x hx2 (λj r d=>cE rfl (aG (h.rS λcap m=>?_))) λg=>by rw[ho]at g;cases g
 rw[ho]at r;cases r;have a:i<s.tk.length:=by rw[h.len];exact d
 refine(h.kA cap).qD (U6 (cF.kB a)) ?_;rw[ht];refine cE rfl (nw (cs:=ints [i]) λv A e u=>?_);have z:=h.lt;exact Cq (h.bO e) d false (vA u rfl) λσ' y w=>hR σ' (e.to.trans y) w
theorem Fk (h:gN U p q c s){i:Nat}(hlow:low s=some i){R:Int->Int->Hp->Prop}(hR:∀σ',Ext (λb=>b=p\/b=q) U σ'->gN σ' p q c (s.put i true)->R ((at_ c s i:Nat):Int) 0 σ') :
 Za.c (aW p) U R:=by
 refine Za.o ?_;unfold Za.v;have D:=h.ok.jV;have a:=mQ.1 hlow;obtain⟨m,C,B⟩:=a;have g:s.tk[i]=false:=by simpa using C
 refine HQ h (cE rfl (aG (h.rS λcap z=>?_)));refine Cr (h.kA cap) (by simp[GV,h.len];omega) 0 (λj w d=>?_) λd=>?_
 ·have r:j<s.tk.length:=by
   have:=(cX.1 w).1
   rwa [GV]at this
  have u:j=i:=by
   rcases oF j i with h1|h1|h1
   ·have:=B j h1;rw[U6 (cW r)]at w;have:s.tk[j]=true:=by simpa using this
    simp[this]at w
   ·exact h1
   ·exact absurd (by rw[U6 (cW m),g];rfl) (d i h1)
  subst u;rw[h.len]at m;refine fM O (nw (cs:=ints [j]) λv E e x=>?_);refine Cq (h.bO e) m true (vA x rfl) λσ' A y=>wM y j O (hR σ' (e.to.trans A) y)
 ·exfalso;apply d;exact zG (i:=i) (by rw[U6 (cW m),g];rfl)
theorem Jh (h:gN U p q c s){R:Int->Int->Hp->Prop}(hR:∀σ',bK U σ'->R (s.st:Int) (c.aF:Int) σ'):Zp.c (aW p) U R:=by
 refine Zp.o ?_;unfold Zp.v;refine nw (cs:=[.int .i64 0,.int .i64 0]) λv w e m=>?_;have j:=h.bO e;refine HQ j (cE rfl (aG (j.rI (λ_ _=>rfl) (aG (j.fR (λ_ _=>rfl) ?_)))));refine m.s1 aA λu d b=>b.s1 aA λv3 g a=>?_;refine a.rI rfl (a.rI rfl (hR _ ?_));exact Ext.fresh (Ext.fresh e (Ext.eD (F:=(· = U.size)) d rfl) λi r=>O) (Ext.eD (F:=(· = U.size)) g rfl) λi r=>by omega
theorem IL (n:Nat):(List.replicate n [Value.int .i64 0]).flatten=ints (List.replicate n 0):=by
 induction n with
 | zero=>rfl
 | succ n ih=>simp only[tY,uR,ih];rfl
theorem OQ (hc:c.ok){st:Nat}(hf:st+c.aF<=1024){R:Option Addr->Int->Hp->Prop}(hR:∀σ' p q,bK U σ'->U.size<=p->U.size<=q->gN σ' p q c ⟨st,List.replicate c.n false⟩->R (some ⟨p,0,none⟩) 0 σ') :
 Q8.c (st:Int) c.size c.aF c.batch U R:=by
 refine Q8.o ?_;unfold Q8.v;have C:=hc;unfold bZ.ok at C;have M:=hc.jV;refine nw (cs:=[.int .i64 c.size,.int .i64 c.aF,.int .i64 c.batch]) λv P e y=>?_;refine y.rI rfl (y.rI rfl (y.rI rfl (Cn _ _ _ (λg G e1 e2 F B z=>?_) λs=>?_)))
 case refine_2=>rw[(DJ c).2 hc]at s;cases s
 have:g=c:=by
  obtain⟨a,b,d⟩:=c;obtain⟨J,L,N⟩:=g;simp only at e1 e2 F
  congr 1<;>omega
 subst this;have i:=z.bU y id;refine bR.intro (cE rfl (bR.intro (fM O (i.rI rfl (cQ (m:=1024-g.aF) O O (fM O ?_))))));refine⟨λx=>bX x U.size [.int .i64 g.size,.int .i64 g.aF,.int .i64 g.batch],i,⟨_,λx u=>by rw[add_lit,u.cell];rfl,⟨_,λx u=>by rw[add_lit,u.cell];rfl,⟨_,λx u=>by rw[add_lit,u.cell];rfl,?_⟩⟩⟩⟩;refine mk O O λK H r w=>⟨r.bU i id,nw (cs:=[.int .i64 (st:Int),.int .i64 g.size,.int .i64 g.aF,.int .i64 g.batch,.slice (some ⟨B.size,0,none⟩) g.n g.n,.int .i64 0]) λv3 D j A=>⟨(r.trans j).bU i id,?_⟩⟩;rw[IL]at w;have E:=z.1;refine hR _ _ _ (((e.trans z).trans r).trans j) O (show U.size<=B.size by omega) ⟨⟨g.n,zD _,?_⟩,⟨[],?_⟩,O,by simp,hc,hf⟩
 ·have:cF.many ⟨st,List.replicate g.n false⟩=0:=by simp[cF.many,wq]
  rw[this];exact A
 ·have:mF (List.replicate g.n false)=List.replicate g.n 0:=by simp[mF]
  rw[this,lF];exact j.bU w id
end Go.Ar
namespace Go.Proofs
open Go.Vc
set_option maxRecDepth 100000
def XH.h:Hn:=.q .o1 (.q (.q .o3 .aK) (.q .o1 (.q .gG .aL)))
def XH.v (a:R2)(b:Hp)(c:Sl->Hp->Prop):Prop:=WF.c a b λd e=>If (!d) (c ⟨none,0,0⟩ e) (aV #[.slice none 0 0] 181 e λf g=>bE a 3 g λi=>We.c i ⟨223,#[],#[.pointer (some f)]⟩ g λj k=>bT a λl=>aR l 3 (.slice j.a j.len j.cap) k λm=>ja f m λn=>c n m)
theorem XH.o {a b c}(d:XH.v a b c):XH.c a b c:=Wa Tryz.func166 (x:=XH.h) (R0 d)
def WF.h:Hn:=.q .o1 (.q (.cS (.seq [.op,.op,.op,.cO true 6 (RI.ops 6),.op])) .l)
def WF.v (a:R2)(b:Hp)(c:aO):Prop:=bR (λd e=>c d e) λf=>If (!a.isNone) (bT a λg=>bM ((g.add 0).add 0) b λh=>f (decide (h>0)) b) (f false b)
theorem WF.o {a b c}(d:WF.v a b c):WF.c a b c:=Wa Tryz.func178 (x:=WF.h) (R0 d)
def ZV.h:Hn:=.q .o3 (.q (.q .o7 (.q .o2 .aJ)) (.q .o5 .l))
def ZV.v (a b c:Int)(d:Hp)(e:Option Addr->Int->Hp->Prop):Prop:=aV #[.I a,.I b,.I c] 137 d λf g=>aQ f 0 g λh=>aQ f 1 g λi=>aQ f 2 g λj=>Zg.c h i j g λk l m=>If (l != 0) (e none 1 m) (aQ f 0 m λn=>aQ f 1 m λo=>aQ f 2 m λp=>aV #[.I n,.I o,.I p,.slice none 0 0] 257 m λq r=>e (some q) 0 r)
theorem ZV.o {a b c d e}(f:ZV.v a b c d e):ZV.c a b c d e:=Wa Tryz.func199 (x:=ZV.h) (R0 f)
def W0.h:Hn:=.q .o2 (.q (.k (.q .o4 (.c .aL (.q .o3 .aJ)))) (.q .o1 (.q (.k (.loop [(6,.one .s)] (.q (.q .o4 (.c .l .l)) (.k (.q .o7 (.q (.q .o2 (.c .l .l)) .o5)))))) (.q .o3 .l))))
def W0.v (a:R2)(b:Int)(c:Hp)(d:Sl->Int->Hp->Prop):Prop:=WF.c a c λe f=>If (!e) (d ⟨none,0,0⟩ 5 f) (If (b<0) (d ⟨none,0,0⟩ 1 f) (YC [.s] (λg=>g ⟨none,0,0⟩ f) λh (i:Sl) j=>If (((i.len:Nat):Int)<b) (Yy.c a j λk l m=>If (!l) (d i 0 m) (aV #[.I k] 3 m λn o=>App i 1 8 3 [.I 0] ⟨some n,1,1⟩ o λp q=>h p q)) (d i 0 j)))
theorem W0.o {a b c d}(e:W0.v a b c d):W0.c a b c d:=Wa Tryz.func208 (x:=W0.h) (R0 e)
def Yq.h:Hn:=.q .o1 (.q (.q .o3 .aK) (.q (.o 11) (.q (.q .o2 .aJ) (.q (.q .o6 (.k (.loop [(31,.I)] (.q .o1 (.q (.c .l .l) (.q (.k (.q .o4 (.q (.oq 17) .aK))) .o2)))))) (.q (.o 11) (.q (.o 15) .aM))))))
def Yq.v (a:R2)(b:Int)(c:Hp)(d:aN):Prop:=WF.c a c λe f=>If (!e) (d 5 f) (bT a λg=>bM ((g.add 0).add 0) f λh=>bM ((g.add 0).add 1) f λi=>bM ((g.add 0).add 2) f λj=>Q8.c b h i j f λk l m=>If (l != 0) (d l m) (bE a 3 m λo=>YC [bN] (λp=>p 0 m) λq (r:Int) s=>If (r<((o.len:Nat):Int)) (Ix o.a o.len r 3 λt=>aQ t 0 s λu=>aQ t 1 s λv=>aY t 2 s λw=>aV #[.I 0,.I 0,.pointer none] 262 s λx y=>aR x 0 (.I u) y λz=>aR x 1 (.I v) z λaa=>aR x 2 (.pointer w) aa λab=>bM ((x.add 0).add 1) ab λac=>bM ((x.add 0).add 1) ab λad=>bL ((if b>ac then b else ac)-(if b<ad then b else ad)) λae=>bT a λaf=>bM ((af.add 0).add 1) ab λag=>If (ae<ag) (d 9 ab) (bL (r+1) λah=>q ah ab)) (bE a 3 s λaj=>Wb.c aj b ⟨259,#[],#[]⟩ s λak al am=>bE a 3 am λao=>aV #[.I 0,.I b,.pointer k] 262 am λap aq=>Wf.c ao ak ⟨some ap,1,1⟩ aq λar au=>bT a λav=>aR av 3 (.slice ar.a ar.len ar.cap) au λaw=>d 0 aw)))
theorem Yq.o {a b c d}(e:Yq.v a b c d):Yq.c a b c d:=Wa Tryz.func210 (x:=Yq.h) (R0 e)
def XJ.h:Hn:=.q .o2 (.jT [] (.q .o4 (.c (.cS (.held true [6] (.tk [0,1,2] (.all [(3,.all [(4,.all [(5,.all [(6,.done)])])])])))) .l)) (.q .o5 .l))
def XJ.v (a b:Int)(c:R2)(d:Addr)(e:Hp)(f:aO):Prop:=aV #[.I a,.I b,.pointer c] 262 e λg h=>Jn [] (λi=>bM ((g.add 0).add 0) i λj=>f (j==0) i) λk=>bM ((g.add 0).add 0) h λl=>If (l==0) (eN h λm=>fV m .s d λ(n:Sl)=>aU m g 2 λo=>Zp.c o h λp q r=>And (m r) <| aV #[.I p,.I q] 251 r λs t=>And (m t) <| App n 2 16 251 [.I 0,.I 0] ⟨some s,1,1⟩ t λu v=>And (m v) <| eP d (.slice u.a u.len u.cap) v λw=>k w) (k h)
theorem XJ.o {a b c d e f}(g:XJ.v a b c d e f):XJ.c a b c d e f:=Wa Tryz.func223 (x:=XJ.h) (R0 g)
def Yt.h:Hn:=.q .o2 (.q (.q .o3 .aJ) (.q .o1 (.q (.q .o3 (.k (.loop [(6,.one .b),(19,.I)] (.q .o1 (.q (.c .l .l) (.q (.k (.q .o5 (.q .o8 (.q (.q .o2 (.c (.q .o3 .l) .l)) (.cS (.seq [.op,.op,.cO false 2 [.op,.op],.op,.cO false 5 (RI.ops 5),.op])))))) .o2)))))) (.q (.q .o1 .aJ) (.q (.q .o3 (.k (.loop [(49,.I)] (.q .o1 (.q (.c .l .l) (.q (.k (.q .o3 (.q .o4 (.q .o6 .gG)))) .o2)))))) (.q .o4 .l))))))
def Yt.v (a:R2)(b:Sl)(c:Hp)(d:Sl->Int->Hp->Prop):Prop:=WF.c a c λe f=>If (!e) (d ⟨none,0,0⟩ 5 f) (YC [.b,bN] (λg=>g false 0 f) λh (i:Bool) (j:Int) k=>If (j<((b.len:Nat):Int)) (Ix b.a b.len j 1 λl=>bM l k λm=>WU.c a m k λn o p=>If (o != 0) (d ⟨none,0,0⟩ o p) (bR (λq r=>bR (λs t=>bL (j+1) λu=>h s u t) λv=>If q (v true r) (eY b 1 0 j (b.cap:Nat) λw=>Wo.c w m r λx y=>v x y)) λz=>If i (z true p) (z (!n) p))) (If i (d ⟨none,0,0⟩ 9 k) (YC [bN] (λaa=>aa 0 k) λab (ac:Int) ad=>If (ac<((b.len:Nat):Int)) (Ix b.a b.len ac 1 λae=>bM ae ad λaf=>XA.c a af ad λag ah=>bF ag 2 ah λaj=>Zh.c aj af ah λak al=>bT ag λam=>bM ((am.add 0).add 0) al λan=>bL (an-1) λao=>bT ag λap=>eP ((ap.add 0).add 0) (.I ao) al λaq=>bL (ac+1) λar=>ab ar aq) (XH.c a ad λau av=>d au 0 av))))
theorem Yt.o {a b c d}(e:Yt.v a b c d):Yt.c a b c d:=Wa Tryz.func241 (x:=Yt.h) (R0 e)
def Yy.h:Hn:=.q .o2 (.q .o1 (.q (.q .o6 (.k (.loop [(4,.one .p),(14,.I)] (.q .o1 (.q (.c .l .l) (.q (.k (.q .o2 (.q .o7 (.q (.cS (.gQ true [] [(48,.one .b)] (.tk [0,1,2,3,4,5,6,7,8] (.all [(9,.take 10 (.take 11 (.split 34 (.take 12 (.take 13 (.take 14 (.split 37 (.take 15 (.take 16 (.take 17 (.take 18 (.take 19 (.take 20 (.take 21 (.take 22 (.take 23 (.take 24 (.take 25 (.done)))))))))))) (.take 15 (.take 16 (.take 17 (.take 19 (.take 20 (.take 21 (.all [(18,.all [(22,.all [(23,.take 24 (.take 25 (.done)))])]),(22,.all [(18,.all [(23,.take 24 (.take 25 (.done)))])])]))))))))))) (.take 12 (.take 13 (.take 14 (.take 15 (.take 16 (.take 17 (.take 18 (.take 19 (.take 20 (.take 21 (.take 22 (.take 23 (.take 24 (.take 25 (.done))))))))))))))))))])))) (.c .o2 .l))))) .o2)))))) (.q (.q .o2 .aJ) (.q .gG (.q .gG (.q .o3 .l))))))
def Yy.v (a:R2)(b:Hp)(c:Int->Bool->Hp->Prop):Prop:=bE a 3 b λe=>YC [.p,bN] (λf=>f none 0 b) λg (h:R2) (i:Int) j=>If (i<((e.len:Nat):Int)) (bE a 3 j λl=>Ix l.a l.len i 3 λm=>Jn [.b] (λ(n:Bool) o=>If n (bL (i+1) λp=>g (some m) p o) (bL (i+1) λq=>g h q o)) λr=>eN j λs=>bT (some m) λt=>fV s bN ((t.add 0).add 0) λ(u:Int)=>bT (some m) λv=>aU s v 2 λw=>X6.c w j λx y=>And (s y) <| If (u<x) (If h.isNone (r true y) (bT (some m) λz=>bT h λaa=>(bM ((z.add 0).add 0) y λab=>bM ((z.add 0).add 1) y λac=>And (s y) <| bM ((aa.add 0).add 0) y λad=>bM ((aa.add 0).add 1) y λae=>And (s y) <| WT.c ab ac ad ae y λaf ag=>And (s ag) <| r af ag) ∧ (bM ((aa.add 0).add 0) y λah=>bM ((aa.add 0).add 1) y λai=>And (s y) <| bM ((z.add 0).add 0) y λaj=>bM ((z.add 0).add 1) y λak=>And (s y) <| WT.c aj ak ah ai y λal am=>And (s am) <| r al am))) (r false y)) (If h.isNone (c 0 false j) (bF h 2 j λao=>Za.c ao j λap aq ar=>bT h λau=>bM ((au.add 0).add 0) ar λav=>bL (av+1) λaw=>bT h λax=>eP ((ax.add 0).add 0) (.I aw) ar λay=>c ap true ay))
theorem Yy.o {a b c}(d:Yy.v a b c):Yy.c a b c:=Wa Tryz.func252 (x:=Yy.h) (R0 d)
def Yl.h:Hn:=.q .o2 (.q .o6 .l)
def Yl.v (a b:Int)(c:R2)(d:Int)(e:Hp)(f:aN):Prop:=aV #[.I a,.I b,.pointer c] 262 e λg h=>bM ((g.add 0).add 1) h λi=>bL (i-d) λj=>f j h
theorem Yl.o {a b c d e f}(g:Yl.v a b c d e f):Yl.c a b c d e f:=Wa Tryz.func259 (x:=Yl.h) (R0 g)
def Ya.h:Hn:=.q .o2 (.q (.q .o3 .aJ) (.q .o4 (.q (.q .o2 .aJ) (.q (.o 11) (.q (.oq 16) .l)))))
def Ya.v (a:R2)(b:Int)(c:Hp)(d:Int->Int->Hp->Prop):Prop:=WF.c a c λe f=>If (!e) (d 0 5 f) (XA.c a b f λg h=>If g.isNone (d 0 8 h) (bF g 2 h λj=>XX.c j b h λk l m=>bT g λn=>bM ((n.add 0).add 1) m λo=>bL (o*256) λp=>bT a λq=>bM ((q.add 0).add 0) m λr=>bL (k*r) λs=>bL (p+s) λt=>d t 0 m))
theorem Ya.o {a b c d}(e:Ya.v a b c d):Ya.c a b c d:=Wa Tryz.func262 (x:=Ya.h) (R0 e)
def WU.h:Hn:=.q .o2 (.q (.q .o3 .aJ) (.q .o4 (.q (.q .o2 .aJ) (.q .gG .l))))
def WU.v (a:R2)(b:Int)(c:Hp)(d:Bool->Int->Hp->Prop):Prop:=WF.c a c λe f=>If (!e) (d false 5 f) (XA.c a b f λg h=>If g.isNone (d false 8 h) (bF g 2 h λj=>X5.c j b h λk l m=>d k l m))
theorem WU.o {a b c d}(e:WU.v a b c d):WU.c a b c d:=Wa Tryz.func265 (x:=WU.h) (R0 e)
def XA.h:Hn:=.q .o1 (.q (.q .o6 (.k (.loop [(13,.I)] (.q .o1 (.q (.c .l .l) (.q (.k (.q .o2 (.q (.o 15) (.q .o2 (.c (.q .o7 .l) .l))))) .o2)))))) .aM)
def XA.v (a:R2)(b:Int)(c:Hp)(d:Option Addr->Hp->Prop):Prop:=bE a 3 c λf=>YC [bN] (λg=>g 0 c) λh (i:Int) j=>If (i<((f.len:Nat):Int)) (bE a 3 j λl=>Ix l.a l.len i 3 λm=>aY m 2 j λn=>XX.c n b j λo p q=>If (p==0) (bE a 3 q λs=>Ix s.a s.len i 3 λt=>d (some t) q) (bL (i+1) λu=>h u q)) (d none j)
theorem XA.o {a b c d}(e:XA.v a b c d):XA.c a b c d:=Wa Tryz.func277 (x:=XA.h) (R0 e)
def WT.h:Hn:=.q .o3 (.q (.cS (.seq [.op,.op,.op,.op,.op,.op,.cO false 12 [.op,.op,.op,.op,.op,.op,.cO true 5 (RI.ops 5)],.op])) .l)
def WT.v (a b c d:Int)(e:Hp)(f:aO):Prop:=aV #[.I a,.I b] 259 e λg h=>aV #[.I c,.I d] 259 h λi j=>aQ g 0 j λk=>aQ i 0 j λl=>bR (λm n=>f m n) λo=>If (k>l) (o true j) (aQ g 0 j λp=>aQ i 0 j λq=>bR (λr s=>o r s) λt=>If (p==q) (aQ g 1 j λu=>aQ i 1 j λv=>t (decide (u<v)) j) (t false j))
theorem WT.o {a b c d e f}(g:WT.v a b c d e f):WT.c a b c d e f:=Wa Tryz.func282 (x:=WT.h) (R0 g)
end Go.Proofs
namespace Go.Ar
open Go Go.Vc Go.Proofs
variable {U:Hp}{F:Rg}{p:Nat}{c:bZ}{ps:List (Nat×Nat)}{ss:List cF}
def dU (ps:List (Nat×Nat)):List Nat:=ps.flatMap λx=>[x.1,x.2]
theorem UK {ps:List (Nat×Nat)}{b:Nat}:b∈dU ps↔∃x∈ps,b=x.1\/b=x.2:=by simp[dU]
def dM:List (Nat×Nat)->List cF->List Value
 | x::ps,s::ss=>.int .i64 (s.many:Int) :: .int .i64 (s.st:Int) :: .pointer (some ⟨x.1,0,none⟩)::dM ps ss
 | _,_=>[]
theorem QI:∀{ps:List (Nat×Nat)} {ss:List cF},ps.length=ss.length->(dM ps ss).length=3*ss.length
 | [],[],_=>rfl
 | x::ps,s::ss,h=>by simp only[dM,zW]at *;rw[QI O];omega
theorem Qu:∀{ps:List (Nat×Nat)} {ss:List cF} {i:Nat} {x:Nat×Nat} {s:cF},ps[i]?=some x->ss[i]?=some s →
 (dM ps ss)[3*i]?=some (.int .i64 (s.many:Int))/\(dM ps ss)[3*i+1]?=some (.int .i64 (s.st:Int))/\(dM ps ss)[3*i+2]?=some (.pointer (some ⟨x.1,0,none⟩))
 | [],_,_,_,_,h,_=>by simp at h
 | _::_,[],_,_,_,_,h=>by simp at h
 | y::ps,t::ss,0,x,s,h1,h2=>by simp at h1 h2;subst h1;subst h2;simp[dM]
 | y::ps,t::ss,i+1,x,s,h1,h2=>by
  have:=Qu (ps:=ps) (ss:=ss) (i:=i) (by simpa using h1) (by simpa using h2);simp only[dM];rw[show 3*(i+1)=3*i+3 by omega];simpa using this
theorem KC:∀{ps ps':List (Nat×Nat)} {ss ss':List cF},ps.length=ss.length->dM (ps++ps') (ss++ss')=dM ps ss++dM ps' ss'
 | [],_,[],_,_=>rfl
 | x::ps,_,s::ss,_,h=>by simp only[kG,dM,KC (ps:=ps) (ss:=ss) (by simpa using h)]
theorem C5:∀{ps:List (Nat×Nat)} {ss:List cF},∀v∈dM ps ss,dV v=true
 | [],_,v,h=>by simp[dM]at h
 | _::_,[],v,h=>by simp[dM]at h
 | x::ps,s::ss,v,h=>by
  simp only[dM,zX]at h;rcases h with rfl|rfl|rfl|h
  ·rfl
  ·rfl
  ·rfl
  ·exact C5 v h
structure eU (U:Hp) (F:Rg) (p:Nat) (c:bZ) (ps:List (Nat×Nat)) (ss:List cF):Prop where
 hd:∃sl:Sl,bX U p [.int .i64 (c.size:Int),.int .i64 (c.aF:Int),.int .i64 (c.batch:Int),.slice sl.a sl.len sl.cap]/\bW sl 3 (dM ps ss) U (λb=>F b/\b≠p/\b∉dU ps)
 sp:∀(i:Nat) (x:Nat×Nat) s,ps[i]?=some x->ss[i]?=some s->gN U x.1 x.2 c s
 fp:F p
 fb:∀b∈dU ps,F b
 nd:(p::dU ps).Nodup
 len:ps.length=ss.length
 ok:c.ok
 pf:ss.Pairwise (λa b=>a.st<b.st)
theorem eU.loc:dK λU F=>eU U F p c ps ss:=λU B F G h L j=>by
 obtain⟨sl,a,z⟩:=h.hd;have bS:∀b,b<U.size->F b->B[b]?=U[b]? := λb a d=>(j b a d).2;have u:∀{b:Nat} {cs:List Value},bX U b cs->F b->bX B b cs:=by
  rintro b cs ⟨e,D⟩ d;exact⟨e,(bS b (bX.lt ⟨e,D⟩) d).trans D⟩
 have lt:∀b∈dU ps,b<U.size:=by
  intro b a;obtain⟨x,m,w⟩:=UK.1 a;obtain⟨i,C⟩:=zO m;have y:=(cX.1 C).1;have:=(h.sp i x _ C (cW (by rw[←h.len];exact y))).lt;rcases w with rfl|rfl
  ·exact this.1
  ·exact this.2
 refine⟨⟨sl,u a h.fp,bW.loc _ _ _ _ _ _ _ z L λb a d=>⟨⟨(j b a d.1).1,d.2⟩,(j b a d.1).2⟩⟩,λi x s m A=>?_,(j p a.lt h.fp).1,λb a=>(j b (lt b a) (h.fb b a)).1,h.nd,h.len,h.ok,h.pf⟩;have g:=h.sp i x s m A;have J:x.1∈dU ps:=UK.2 ⟨x,zG m,.inl rfl⟩;have K:x.2∈dU ps:=UK.2 ⟨x,zG m,.inr rfl⟩;obtain⟨H,E,hd⟩:=g.hd;obtain⟨r,z⟩:=g.row;exact⟨⟨H,E,u hd (h.fb _ J)⟩,⟨r,u z (h.fb _ K)⟩,g.ne,g.len,g.ok,g.fit⟩
theorem eU.bO {σ':Hp}(h:eU U F p c ps ss)(e:bK U σ'):eU σ' F p c ps ss:=dK.bO eU.loc h e
theorem eU.oy (h:eU U F p c ps ss):ss.length<=1024:=by
 have key:∀i (hi:i<ss.length),i<=ss[i].st:=by
  intro i
  induction i with
  | zero=>intro _;omega
  | succ i ih=>
   intro hi;have e:=ih O;have d:=lu.1 h.pf i (i+1) O hi O;omega
 rcases xC ss.length with h0|h0
 ·omega
 ·have a:ss.length-1<ss.length:=by omega
  have e:=key _ a;have b:ss.length-1<ps.length:=by rw[h.len];exact a
  have d:=(h.sp _ _ _ (cW b) (cW a)).fit;have:=h.ok.2.2.2.1;omega
structure qt (U:Hp) (F:Rg) (p:Nat) (ps:List (Nat×Nat)) (ss:List cF) (sl:Sl) (rb:Nat) (cs:List Value):Prop where
 a:sl.a=some ⟨rb,0,none⟩
 bU:bX U rb cs
 fr:F rb/\rb≠p/\rb∉dU ps
 get:∀{j:Nat} {v:Value},(dM ps ss)[j]?=some v->cs[j]?=some v
 xW:3*ss.length<=cs.length
theorem eU.sl (h:eU U F p c ps ss):∃sl:Sl,bX U p [.int .i64 (c.size:Int),.int .i64 (c.aF:Int),.int .i64 (c.batch:Int),.slice sl.a sl.len sl.cap]/\sl.len=ss.length/\(ss≠[]->∃rb cs,qt U F p ps ss sl rb cs):=by
 obtain⟨sl,r,i⟩:=h.hd;have m:=i.1;rw[QI h.len]at m;refine⟨sl,r,O,λe=>?_⟩;have g:0<ss.length:=pn.2 e;rcases i.2 with⟨h0,_⟩|⟨b,cs,hq,ha,hbb,hle,hcl,ht⟩
 ·omega
 ·refine⟨b,cs,ha,hbb,hq,λ{j v} d=>?_,?_⟩
  ·rw[←ht,zj]at d;split at d
   ·exact d
   ·cases d
  ·have:=congrArg List.length ht;rw[zZ,QI h.len]at this;omega
theorem eU.jm (h:eU U F p c ps ss){i:Nat}(hi:i<ss.length):∃x s,ps[i]?=some x/\ss[i]?=some s/\gN U x.1 x.2 c s:=by
 have a:i<ps.length:=by rw[h.len];exact hi
 have b:ps[i]?=some ps[i]:=cW a;exact⟨_,_,b,cW hi,h.sp i _ _ b (cW hi)⟩
theorem Vs (h:eU U F p c ps ss){R:aO}(hR:R true U):WF.c (aW p) U R:=by
 refine WF.o ?_;unfold WF.v;obtain⟨sl,b,d,e⟩:=h.sl;have a:=h.ok;unfold bZ.ok at a;refine bR.intro (cB rfl (aG (b.fR rfl ?_)));rw[zK O];exact hR
def iu (x:Int):Prop:=x<=9223372036854775807
theorem yW (h:eU U F p c ps ss)(x:Int)(hx:iu x){R:Option Addr->Hp->Prop}(h0:kb c ss x=none->R none U)
 (h1:∀(i:Nat) sl rb cs,kb c ss x=some i->i<ss.length->bX U p [.int .i64 (c.size:Int),.int .i64 (c.aF:Int),.int .i64 (c.batch:Int),.slice sl.a sl.len sl.cap]->qt U F p ps ss sl rb cs->R (some ⟨rb,3*i,none⟩) U):XA.c (aW p) x U R:=by
 refine XA.o ?_;unfold XA.v;obtain⟨sl,A,Q,N⟩:=h.sl;have D:=h.oy;refine aG (A.rS rfl ?_);refine Z5 (a:=bN) (λ(t:Int) G=>∃i:Nat,t=(i:Int)/\i<=ss.length/\G=U/\∀(j:Nat) s,j<i->ss[j]?=some s->idx c s x=none) (λt _=>ss.length-t.toNat) ⟨0,rfl,O,rfl,λj s z=>O⟩ ?_;rintro t G ⟨i,rfl,S,rfl,g⟩;refine cR (λC=>?_) λB=>?_
 ·simp only at C;have b:i<ss.length:=by omega
  obtain⟨L,s,J,y,M⟩:=h.jm b;obtain⟨rb,cs,E⟩:=N (by rintro rfl;simp at b);have P:=Qu J y;refine aG (A.rS rfl ?_);rw[E.a];refine ix O O ?_;rw[add_lit];refine E.bU.rP (x:=some ⟨L.1,0,none⟩) ?_ ?_
  ·have:=E.get P.2.2;rw[show 0+(i:Int).toNat*3+2=3*i+2 by omega];exact this
  have u:∀r,idx c s x=some r->kb c ss x=some i:=by
   intro r d;refine mQ.2 ⟨b,?_,λj z=>?_⟩
   ·have:ss[i]=s:=by rw[cW b]at y;simpa using y
    rw[this,d];rfl
   ·rw[g j _ z (cW O)];simp
  refine xO M x hx (λr d=>cB rfl (aG (A.rS rfl ?_))) λK=>cE rfl ?_
  ·rw[E.a];refine ix O O ?_;rw[add_lit,show 0+(i:Int).toNat*3=3*i by omega];exact h1 i sl rb cs (u r d) b A E
  ·refine cQ (m:=i+1) O O ⟨⟨i+1,rfl,O,rfl,λj H z w=>?_⟩,O⟩;by_cases e:j=i
   ·subst e;rw[y]at w;cases w;exact K
   ·exact g j H O w
 ·refine h0 ?_;refine sN.2 λs y=>?_;obtain⟨j,z⟩:=zO y;have:=(cX.1 z).1;rw[g j s (by simp only at B;omega) z];rfl
theorem Vg {x:Int}{k:Nat}{s:cF}(hk:kb c ss x=some k)(hs:ss[k]?=some s):dT c ss x=(obj c s x).map s.is:=by
 unfold dT;rw[hk];simp only[hs];rfl
theorem Gf {x:Int}(hk:kb c ss x=none):dT c ss x=none:=by unfold dT;rw[hk]
theorem Gn (h:eU U F p c ps ss)(x:Int)(hx:iu x){R:Bool->Int->Hp->Prop}(h1:∀b,dT c ss x=some b->R b 0 U)(h0:dT c ss x=none->R false 8 U):WU.c (aW p) x U R:=by
 refine WU.o ?_;unfold WU.v;refine Vs h (cE rfl (yW h x hx (λd=>cB rfl (h0 (Gf d))) λi sl A C a y B E=>cE rfl (aG ?_)));obtain⟨u,s,r,g,m⟩:=h.jm y;have w:=Qu r g;refine E.bU.rP (x:=some ⟨u.1,0,none⟩) (E.get w.2.2) ?_;have e:=Vg a g;exact Ps m x hx (λj z=>h1 _ (by rw[e,z];rfl)) λd=>h0 (by rw[e,d];rfl)
theorem U5 {x:Int}{k:Nat}{s:cF}(hk:kb c ss x=some k)(hs:ss[k]?=some s):pB c ss x=(idx c s x).map (at_ c s):=by
 unfold pB;rw[hk];simp only[hs]
theorem B7 {x:Int}(hk:kb c ss x=none):pB c ss x=none:=by unfold pB;rw[hk]
theorem Lu {x:Int}{k:Nat}{s:cF}(hk:kb c ss x=some k)(hs:ss[k]?=some s):∃i,idx c s x=some i:=by
 obtain⟨b,a,_⟩:=mQ.1 hk;have:ss[k]=s:=by rw[cW b]at hs;simpa using hs
 rw[this]at a;exact om.1 a
theorem M6 (h:eU U F p c ps ss)(x:Int)(hx:iu x){R:Int->Int->Hp->Prop}(h1:∀a,pB c ss x=some a->R (a:Int) 0 U)(h0:pB c ss x=none->R 0 8 U):Ya.c (aW p) x U R:=by
 refine Ya.o ?_;unfold Ya.v;refine Vs h (cE rfl (yW h x hx (λb=>cB rfl (h0 (B7 b))) λi sl J M e H G E=>cE rfl (aG ?_)));obtain⟨C,s,B,j,w⟩:=h.jm H;have z:=Qu B j;obtain⟨r,g⟩:=Lu e j;have A:=U5 e j;have D:=h.ok;unfold bZ.ok at D;have u:=((Vr O).1 g).2.2;rw[w.len]at u;have b:=h.ok.jV;have y:=w.fit;have K:r*c.size<=128*512:=lp O O;refine E.bU.rP (x:=some ⟨C.1,0,none⟩) (E.get z.2.2) ?_;refine xO w x hx (λL d=>?_) λb=>by rw[g]at b;cases b
 rw[g]at d;cases d;refine aG (E.bU.fR (x:=s.st) (E.get z.2.1) (cQ (m:=s.st*256) aA O (aG (G.fR rfl ?_))));refine cQ (m:=r*c.size) aA O (cQ (m:=at_ c s r) (by simp[at_]) (by unfold at_;omega) (h1 _ (by rw[A,g];rfl)))
theorem uM {h:Hp}{rb i:Nat}{cs:List Value}{x y:Int}{z:Option Addr}{e:Nat}(hb:bX h rb cs)(h0:cs[3*i]?=some (.int .i64 x))(h1:cs[3*i+1]?=some (.int .i64 y))(h2:cs[3*i+2]?=some (.pointer z))
 {K:Int->Int->Option Addr->Prop} (hK:K x y z):gP .i64 (Addr.add ⟨rb,3*i,none⟩ 0) h λu=>gP .i64 (Addr.add ⟨rb,3*i,none⟩ 1) h λv=>fQ (Addr.add ⟨rb,3*i,none⟩ 2) h λw=>K u v w:=
 hb.rI h0 (hb.rI h1 (hb.rP h2 hK))
theorem AK {h:Hp}{x y:Int}{z:Option Addr}{e:Nat}{K:Addr->Hp->Prop}(hK:∀h',bK h h'->bX h' h.size [.int .i64 x,.int .i64 y,.pointer z]->K ⟨h.size,0,none⟩ h') :
 Nw (.cells #[.int .i64 0,.int .i64 0,.pointer none] e (0,0)) h λn v=>eP (n.add 0) (.int .i64 x) v λv1=>eP (n.add 1) (.int .i64 y) v1 λv2=>eP (n.add 2) (.pointer z) v2 λv3=>K n v3:=by
 refine nw (cs:=[.int .i64 0,.int .i64 0,.pointer none]) λv m e d=>d.s1 aA λv1 o1 g=>g.s1 aA λv2 o2 j=>j.s1 aA λv3 o3 b=>?_;refine hK v3 ?_ b;exact Ext.fresh (Ext.fresh (Ext.fresh e o1.ext λi a=>O) o2.ext λi a=>O) o3.ext λi a=>by omega
def iv (c:bZ)(l:List Nat):List Value:=l.flatMap λ(s:Nat)=>[.int .i64 (s:Int),.int .i64 (c.aF:Int)]
theorem MK (c:bZ)(l:List Nat):(iv c l).length=2*l.length:=by
 induction l with
 | nil=>rfl
 | cons x l ih=>simp only[iv,qQ,zQ,zW,kI]at *;omega
theorem OB (hc:c.ok){R:Option Addr->Int->Hp->Prop}(hR:∀σ' p,bK U σ'->U.size<=p->p<σ'.size->eU σ' (· = p) p c [] []->R (some ⟨p,0,none⟩) 0 σ'):ZV.c c.size c.aF c.batch U R:=by
 refine ZV.o ?_;unfold ZV.v;refine nw (cs:=[.int .i64 c.size,.int .i64 c.aF,.int .i64 c.batch]) λv y e d=>?_;refine d.rI rfl (d.rI rfl (d.rI rfl (Cn _ _ _ (λx m e1 e2 w s i=>?_) λb=>?_)))
 case refine_2=>rw[(DJ c).2 hc]at b;cases b
 have a:=i.bU d id;refine cE rfl (a.rI rfl (a.rI rfl (a.rI rfl (nw (cs:=[.int .i64 c.size,.int .i64 c.aF,.int .i64 c.batch,.slice none 0 0]) λu r j g=>?_))));exact hR _ _ ((e.trans i).trans j) (by have:=i.1;omega) O ⟨⟨⟨none,0,0⟩,g,bW.nil _ _ _ _⟩,by simp,rfl,by simp[dU],by simp[dU],rfl,hc,by simp⟩
theorem Oh (a b a' b':Nat){R:aO}(hR:∀σ',bK U σ'->R (decide (a>a')||(a==a'&&decide (b<b'))) σ'):WT.c (a:Int) (b:Int) (a':Int) (b':Int) U R:=by
 refine WT.o ?_;unfold WT.v;refine nw (cs:=[.int .i64 a,.int .i64 b]) λv s e m=>nw (cs:=[.int .i64 a',.int .i64 b']) λr p e1 g=>?_;have i:=e1.bU m id;have d:=hR _ (e.trans e1);refine i.rI rfl (g.rI rfl (bR.intro (cR (λh=>?_) λh=>?_)))
 ·have:decide (a>a')=true:=by simpa using h
  rw[this,Bool.true_or]at d;exact d
 ·have:decide (a>a')=false:=by simpa using h
  rw[this,vU]at d;refine i.rI rfl (g.rI rfl (bR.intro ?_));rw[k5];refine cY (λj=>?_) λj=>?_
  ·rw[j,oP]at d;refine i.rI rfl (g.rI rfl ?_);have:decide ((b:Int)<(b':Int))=decide (b<b'):=by rw[decide_eq_decide];omega
   rw[this];exact d
  ·rw[j,sR]at d;exact d
theorem Qw:∀{i k:Nat},Y3 ss i=some k->k<i/\∃s,ss[k]?=some s/\s.many<s.tk.length
 | 0,_,h=>by simp[Y3]at h
 | i+1,k,h=>by
  have up:Y3 ss i=some k->k<i+1/\∃s,ss[k]?=some s/\s.many<s.tk.length:=λh=>by
   have:=Qw h;exact⟨O,this.2⟩
  simp only[Y3]at h;split at h
  ·rename_i x hx;split at h
   ·rename_i hlt;have a:i<i+1/\∃s,ss[i]?=some s/\s.many<s.tk.length:=⟨O,x,hx,hlt⟩;split at h
    ·rename_i j hj;split at h
     ·split at h
      ·cases h;exact a
      ·cases h;exact up hj
     ·cases h;exact a
    ·cases h;exact a
   ·exact up h
  ·exact up h
theorem HG {s:cF}(h:s.many<s.tk.length):∃i,low s=some i/\i<s.tk.length/\s.is i=false:=by
 unfold low;cases hf:s.tk.findIdx? (· == false)with
 | some i=>
  obtain⟨a,b,_⟩:=mQ.1 hf;refine⟨i,rfl,a,?_⟩;have:s.tk[i]=false:=by simpa using b
  simp[cF.is,zN,cW a,this]
 | none=>
  exfalso;have d:=sN.1 hf;have:s.many=s.tk.length:=by
   unfold cF.many;rw[List.count_eq_length];intro x hx;have:=d x hx;cases x
   ·simp at this
   ·rfl
  omega
theorem BR:∀{ps:List (Nat×Nat)} {ss:List cF} {k:Nat} {s s':cF},ps.length=ss.length->ss[k]?=some s->s'.st=s.st->dM ps (ss.set k s')=(dM ps ss).set (3*k) (.int .i64 (s'.many:Int))
 | [],[],_,_,_,_,h,_=>by simp at h
 | [],_::_,_,_,_,h,_,_=>by simp at h
 | _::_,[],_,_,_,_,h,_=>by simp at h
 | x::ps,t::ss,0,s,s',_,h,e=>by simp at h;subst h;simp[dM,e]
 | x::ps,t::ss,k+1,s,s',hl,h,e=>by
  simp only[qe,dM];rw[BR (ps:=ps) (ss:=ss) (s:=s) (by simpa using hl) (by simpa using h) e];rw[show 3*(k+1)=3*k+1+1+1 by omega];simp
theorem JX {h:Hp}{b:Nat}{cs cs':List Value}(h1:bX h b cs)(h2:bX h b cs'):cs=cs':=by
 obtain⟨e,d⟩:=h1;obtain⟨g,a⟩:=h2;rw[d]at a;simp only[Option.some.injEq,Obj.cells.injEq]at a;simpa using congrArg Array.toList a.1
theorem Qa {x:Nat×Nat}{i:Nat}(hx:ps[i]?=some x):x.1∈dU ps/\x.2∈dU ps:=
 ⟨UK.2 ⟨x,zG hx,.inl rfl⟩,UK.2 ⟨x,zG hx,.inr rfl⟩⟩
theorem Bi:∀{ps:List (Nat×Nat)},(dU ps).Nodup->∀{i j:Nat} {x y:Nat×Nat},ps[i]?=some x->ps[j]?=some y->i≠j->∀b,(b=x.1\/b=x.2)->¬(b=y.1\/b=y.2)
 | [],_,_,_,_,_,h,_,_=>by simp at h
 | z::ps,hn,i,j,x,y,h1,h2,hij=>by
  have hn':z.1∉dU ps/\z.2∉dU ps/\z.1≠z.2/\(dU ps).Nodup:=by
   simp only[dU,qQ,kG,r5,zt,zX,not_or]at hn;exact⟨hn.1.2,hn.2.1,hn.1.1,hn.2.2⟩
  intro b hb hb'
  match i,j,hij with
  | 0,0,h=>exact h rfl
  | 0,j+1,_=>
   simp at h1;subst h1;have:=Qa (ps:=ps) (i:=j) (by simpa using h2);rcases hb with rfl|rfl<;>rcases hb' with e|e<;>rw[e]at hn'<;>simp[this]at hn'
  | i+1,0,_=>
   simp at h2;subst h2;have:=Qa (ps:=ps) (i:=i) (by simpa using h1);rcases hb with rfl|rfl<;>rcases hb' with e|e<;>rw[←e]at hn'<;>simp[this]at hn'
  | i+1,j+1,h=>exact Bi hn'.2.2.2 (by simpa using h1) (by simpa using h2) O b hb hb'
theorem eU.nA (h:eU U F p c ps ss){k:Nat}{x:Nat×Nat}{s s':cF}(hx:ps[k]?=some x)(hs:ss[k]?=some s)(hst:s'.st=s.st){σ1:Hp}(e1:Ext (λb=>b=x.1\/b=x.2) U σ1)(hS:gN σ1 x.1 x.2 c s')
 {sl:Sl} {rb:Nat} {cs:List Value} (hb:bX U p [.int .i64 (c.size:Int),.int .i64 (c.aF:Int),.int .i64 (c.batch:Int),.slice sl.a sl.len sl.cap]) (E:qt U F p ps ss sl rb cs)
 {K:aP} (hK:∀σ2,Ext F U σ2->eU σ2 F p c ps (ss.set k s')->K σ2):eP ⟨rb,3*k,none⟩ (.int .i64 (s'.many:Int)) σ1 K:=by
 obtain⟨l7,H,P⟩:=h.hd;have A:l7=sl:=by
  have:=JX H hb;simp at this;obtain⟨a,n,c⟩:=sl;obtain⟨V,S,W⟩:=l7;simp at this ⊢;exact this
 subst A;have g:=Qa hx;have e:=h.nd;simp only[zt]at e;have r:=(cX.1 hs).1;have D:=(bW.loc l7 3 (dM ps ss)).bS P e1 λb hb Q=>λd=>Q.2.2 (by rcases d with rfl|rfl;exact g.1;exact g.2);have C:=e1.bU hb λd=>e.1 (by rcases d with h|h<;>rw[h];exact g.1;exact g.2)
 refine D.st (j:=3*k) (by rw[QI h.len];omega) (λb u=>by rw[E.a]at u;cases u;rfl) λσ2 e2 B=>?_;have J:Ext F U σ2:=(e1.sub λi G=>h.fb i (by rcases G with rfl|rfl;exact g.1;exact g.2)).trans (e2.sub λi G=>G.1);refine hK σ2 J ⟨⟨l7,e2.bU C λd=>d.2.1 rfl,?_⟩,λi y t m z=>?_,h.fp,h.fb,h.nd,by simpa using h.len,h.ok,?_⟩
 ·rw[BR h.len hs hst];exact B
 ·have w:=Qa m;have N:gN σ1 y.1 y.2 c t:=by
   by_cases hik:i=k
   ·subst hik;rw[hx]at m;cases m;rw[zJ r]at z;cases z;exact hS
   ·rw[ze (Ne.symm hik)]at z;have L:=Bi e.2 m hx hik;exact(h.sp i y t m z).bS e1 (L _ (.inl rfl)) (L _ (.inr rfl))
  exact N.bS e2 (λd=>d.2.2 w.1) (λd=>d.2.2 w.2)
 ·have:(ss.set k s').map (·.st)=ss.map (·.st):=by
   apply zm;intro i;simp only[zd];by_cases hik:i=k
   ·subst hik;rw[zJ r,hs];simp[hst]
   ·rw[ze (Ne.symm hik)]
  have M:=h.pf;rw[←sF (f:=cF.st) (R:=(· < ·))]at M ⊢;rw[this];exact M
theorem OR (h:eU U F p c ps ss){R:Int->Bool->Hp->Prop}(h1:∀x ss',iG c ss=some (x,ss')->∀σ',Ext F U σ'->eU σ' F p c ps ss'->R (x:Int) true σ')(h0:iG c ss=none->∀σ',bK U σ'->R 0 false σ') :
 Yy.c (aW p) U R:=by
 refine Yy.o ?_;unfold Yy.v;obtain⟨sl,S,hl,hr⟩:=h.sl;have hfew:=h.oy;have hn:=h.ok.jV;obtain⟨d,cs,E⟩:∃d cs,ss≠[]->qt U F p ps ss sl d cs:=by
  by_cases hne:ss=[]
  ·exact⟨0,[],λh=>absurd hne h⟩
  ·obtain⟨d,cs,E⟩:=hr hne;exact⟨d,cs,λ_=>E⟩
 refine aG (S.rS rfl ?_);refine HD (a:=.p) (bb:=bN) (λ(iy:Option Addr) (t:Int) G=>∃i:Nat,t=(i:Int)/\i<=ss.length/\bK U G/\iy=(Y3 ss i).map λk=>⟨d,3*k,none⟩) (λ_ t _=>ss.length-t.toNat) ⟨0,rfl,O,Ext.refl _ _,rfl⟩ ?_;rintro iy t G ⟨i,rfl,hi,e,rfl⟩;refine cR (λQ=>?_) λhge=>?_
 ·simp only at Q;have L:i<ss.length:=by omega
  have E:=E (by rintro rfl;simp at L);obtain⟨P,s,M,H,z⟩:=h.jm L;have u:=Qu M H;have aa:=z.len;refine aG ((e.bU S id).rS rfl ?_);rw[E.a];refine ix O O ?_;rw[add_lit,show 0+(i:Int).toNat*3=3*i by omega];have Eb:=e.bU E.bU id;have B:Y3 ss (i+1)=if s.many<s.tk.length then(match Y3 ss i with
   | some j=>match ss[j]? with
    | some y=>if uU s y then some i else some j
    | none=>some i
   | none=>some i)else Y3 ss i:=by
   simp only[Y3,H];rfl
  have J:∀(r:Bool) (v:Hp),bK U v->(if r then some i else Y3 ss i)=Y3 ss (i+1) →
   If r (Ar .i64 ((i:Int)+1) λb=>(∃j:Nat,b=(j:Int)/\j<=ss.length/\bK U v/\some (⟨d,3*i,none⟩:Addr)=(Y3 ss j).map λk=>⟨d,3*k,none⟩)/\ss.length-b.toNat<ss.length-(i:Int).toNat)
    (Ar .i64 ((i:Int)+1) λb=>(∃j:Nat,b=(j:Int)/\j<=ss.length/\bK U v/\((Y3 ss i).map λk=>(⟨d,3*k,none⟩:Addr))=(Y3 ss j).map λk=>⟨d,3*k,none⟩)/\ss.length-b.toNat<ss.length-(i:Int).toNat):=by
   intro r v ev hr';cases r
   ·refine cE rfl (cQ (m:=i+1) O O ⟨⟨i+1,rfl,O,ev,?_⟩,O⟩);rw[←hr'];rfl
   ·refine cB rfl (cQ (m:=i+1) O O ⟨⟨i+1,rfl,O,ev,?_⟩,O⟩);rw[←hr'];rfl
  refine Jn.intro ⟨λD=>bX D d cs,Eb,aG ⟨_,λD z=>by rw[add_lit,add_lit,z.cell];exact E.get u.1,aG ⟨_,λD z=>by rw[add_lit,z.cell];exact E.get u.2.2,?_⟩⟩⟩;refine MZ (z.bO e) ⟨Eb,?_⟩;refine cR (λhlt2=>?_) λhge2=>?_
  ·have hm:s.many<s.tk.length:=by omega
   rw[zC hm]at B;cases hbf:Y3 ss i with
   | none=>
    rw[hbf]at B J;exact cB rfl (J true G e B.symm)
   | some j=>
    rw[hbf]at B J;obtain⟨hji,y,hy,hym⟩:=Qw hbf;simp only[hy]at B;have V:j<ps.length:=by rw[h.len];omega
    have A:=Qu (cW V) hy;have fin:WT.c (s.many:Int) (s.st:Int) (y.many:Int) (y.st:Int) G λX v3=>bX v3 d cs ∧
     If X (Ar .i64 ((i:Int)+1) λb=>(∃j:Nat,b=(j:Int)/\j<=ss.length/\bK U v3/\some (⟨d,3*i,none⟩:Addr)=(Y3 ss j).map λk=>⟨d,3*k,none⟩)/\ss.length-b.toNat<ss.length-(i:Int).toNat)
      (Ar .i64 ((i:Int)+1) λb=>(∃j':Nat,b=(j':Int)/\j'<=ss.length/\bK U v3/\((some j).map λk=>(⟨d,3*k,none⟩:Addr))=(Y3 ss j').map λk=>⟨d,3*k,none⟩)/\ss.length-b.toNat<ss.length-(i:Int).toNat):=by
     refine Oh _ _ _ _ λv3 e3=>⟨e3.bU Eb id,J _ v3 (e.trans e3) ?_⟩;rw[B];rfl
    refine cE rfl (aG (aG ⟨?_,?_⟩))
    ·exact Eb.fR (E.get u.1) (Eb.fR (E.get u.2.1) ⟨Eb,Eb.fR (E.get A.1) (Eb.fR (E.get A.2.1) ⟨Eb,fin⟩)⟩)
    ·exact Eb.fR (E.get A.1) (Eb.fR (E.get A.2.1) ⟨Eb,Eb.fR (E.get u.1) (Eb.fR (E.get u.2.1) ⟨Eb,fin⟩)⟩)
  ·have hm:¬s.many<s.tk.length:=by omega
   rw[zB hm]at B;exact J false G e B.symm
 ·have Z:i=ss.length:=by simp only at hge;omega
  subst Z;cases hbf:Y3 ss ss.length with
  | none=>
   refine cB rfl (h0 ?_ _ e);simp[iG,iy,hbf]
  | some k=>
   obtain⟨hk,s,H,W⟩:=Qw hbf;have E:=E (by rintro rfl;simp at hk);obtain⟨P,s',M,N,z⟩:=h.jm hk;rw[H]at N;cases N;have u:=Qu M H;obtain⟨r,C,hr1,ab⟩:=HG W;have G:=h.bO e;have one:iG c ss=some (at_ c s r,ss.set k (s.put r true)):=by simp[iG,iy,hbf,H,C]
   have E':qt _ F p ps ss sl d cs:=⟨E.a,e.bU E.bU id,E.fr,E.get,E.xW⟩;refine cE rfl (aG (E'.bU.rP (x:=some ⟨P.1,0,none⟩) (E.get u.2.2) ?_));refine Fk (z.bO e) C λv5 e5 hS5=>aG ?_;have K:=Qa M;have Y:¬(d=P.1\/d=P.2):=λhh=>E.fr.2.2 (by rcases hh with h|h<;>rw[h];exact K.1;exact K.2)
   have hml:=yr s;have g:=HJ hr1 true;rw[ab]at g;have w:(s.put r true).many=s.many+1:=by simp at g;omega
   have aa:=z.len;refine(e5.bU E'.bU Y).fR (E.get u.1) (cQ (m:=s.many+1) O O (aG ?_));rw[add_lit,add_lit,zz,zz,←w];exact G.nA (s':=s.put r true) M H rfl e5 hS5 (e.bU S id) E' λv6 e6 h6=>h1 _ _ one v6 (e.to.trans e6) h6
theorem Mq {k:Nat}{s s':cF}(hs:ss[k]?=some s):Gs (ss.set k s')+(s.tk.length-s.many)=Gs ss+(s'.tk.length-s'.many):=by
 unfold Gs
 induction ss generalizing k with
 | nil=>simp at hs
 | cons x ss ih=>
  cases k with
  | zero=>simp at hs;subst hs;simp;omega
  | succ k=>
   have:=ih (by simpa using hs);simp only[qe,zU,m7];omega
theorem Ot {x:Nat}{ss':List cF}(h:iG c ss=some (x,ss')):Gs ss'+1=Gs ss:=by
 unfold iG at h;split at h
 ·rename_i k hk;obtain⟨_,s,j,b⟩:=Qw hk;rw[j]at h;simp only at h;split at h
  ·rename_i i hi;cases h;obtain⟨r,e,d,a⟩:=HG b;rw[hi]at e;cases e;have p:=Mq (s':=s.put i true) j;have g:=HJ d true;rw[a]at g;have m:(s.put i true).tk.length=s.tk.length:=by simp[cF.put]
   simp at g;omega
  ·cases h
 ·cases h
theorem eU.room (h:eU U F p c ps ss):Gs ss<=131072:=by
 have key:∀l:List cF,(∀s∈l,s.tk.length<=128)->Gs l<=128*l.length:=by
  intro l
  induction l with
  | nil=>intro _;simp[Gs]
  | cons x l ih=>
   intro hl;have r:=hl x aA;have m:=ih λs d=>hl s (by simp[d]);simp only[Gs,zU,m7,zW]at *;omega
 have:=key ss λs d=>by
  obtain⟨i,e⟩:=zO d;have b:=(cX.1 e).1;obtain⟨x,j,_,a,g⟩:=h.jm b;rw[e]at a;cases a;rw[g.len];exact h.ok.jV
 have:=h.oy;omega
theorem UU {m:Nat}{x:Nat}{ss':List cF}(h:iG c ss=some (x,ss')):QJ c (m+1) ss=(x::(QJ c m ss').1,(QJ c m ss').2):=by
 simp[QJ,h]
theorem Lm (h:eU U F p c ps ss)(m:Int)(hm:0<=m){R:Sl->Int->Hp->Prop}
 (hR:∀s σ',Ext F U σ'->bW s 1 (ints (QJ c m.toNat ss).1) σ' (λb=>U.size<=b)->eU σ' (Cut F U) p c ps (QJ c m.toNat ss).2->R s 0 σ'):W0.c (aW p) m U R:=by
 refine W0.o ?_;unfold W0.v;have h:=eU.loc.cut h;have K:=eU.room h;refine Vs h (cE rfl (fM O ?_));refine Z5 (a:=.s) (λ(out:Sl) B=>∃j d,Ext F U B/\bW out 1 (ints j) B (λb=>U.size<=b)/\eU B (Cut F U) p c ps d/\j.length<=m.toNat/\j.length+Gs d=Gs ss/\QJ c m.toNat ss=(j++(QJ c (m.toNat-j.length) d).1,(QJ c (m.toNat-j.length) d).2))
  (λout _=>m.toNat-out.len) ⟨[],ss,Ext.refl _ _,bW.nil _ _ _ _,h,by simp,by simp,by simp⟩ ?_
 rintro out B ⟨j,d,e,g,E,V,W,u⟩;have P:=g.oe;refine cR (λS=>?_) λX=>?_
 ·have r:m.toNat-j.length=(m.toNat-(j.length+1))+1:=by omega
  refine OR E (λx G w v2 e2 L=>cE rfl ?_) λy v2 e2=>cB rfl ?_
  ·have C:Ext F U v2:=e.trans (e2.sub λi J=>J.1);have z:=aI.bS g e2 λb _ D N=>by have:=N.2;omega
   refine z.push (vs:=[.int .i64 (x:Int)]) (λb D=>ky C.1 D) rfl rfl (by simp[dV]) O O λs' v4 Y M H=>?_;have Q:=Ot w;refine⟨⟨j++[x],G,C.dS M λi J=>.inr J,by rw[Uk];exact H,eU.loc.bS L M λb _ D N=>(by have:=D.2;omega),by simp;omega,by simp;omega,?_⟩,O⟩;rw[u,r,UU w];simp
  ·have:QJ c (m.toNat-j.length) d=([],d):=by rw[r];simp[QJ,y]
   rw[this]at u;have A:=hR out v2 (e.trans e2.to);rw[u,lF]at A;exact A (aI.bO g e2) (E.bO e2)
 ·have Z:m.toNat-j.length=0:=by omega
  rw[Z]at u;have A:=hR out B e;rw[u]at A;simp only[QJ,lF]at A;exact A g E
theorem Nv (h:eU U F p c ps ss)(m:Int)(hm:m<0){R:Sl->Int->Hp->Prop}(hR:R ⟨none,0,0⟩ 1 U):W0.c (aW p) m U R:=by
 refine W0.o ?_;unfold W0.v;exact Vs h (cE rfl (kW O hR))
def iD:List (Nat×Nat)->List cF->List (Nat×Nat)
 | x::ps,s::ss=>if s.many != 0 then x::iD ps ss else iD ps ss
 | _,_=>[]
theorem U4:∀{ps:List (Nat×Nat)} {ss:List cF},ps.length=ss.length->(iD ps ss).length=(cK ss).length
 | [],[],_=>rfl
 | x::ps,s::ss,h=>by
  have ih:=U4 (ps:=ps) (ss:=ss) (by simpa using h);simp only[iD,cK,rT]at *;split<;>simp[ih]
theorem xE:∀{ps:List (Nat×Nat)} {ss:List cF},(iD ps ss).Sublist ps
 | [],_=>by simp[iD]
 | _::_,[]=>by simp[iD]
 | x::ps,s::ss=>by
  simp only[iD];split
  ·exact xE.cons_cons x
  ·exact xE.cons x
theorem De:∀{ps ps':List (Nat×Nat)} {ss ss':List cF},ps.length=ss.length->iD (ps++ps') (ss++ss')=iD ps ss++iD ps' ss'
 | [],_,[],_,_=>rfl
 | x::ps,_,s::ss,_,h=>by
  simp only[kG,iD,De (ps:=ps) (ss:=ss) (by simpa using h)];split<;>rfl
theorem Bx:∀{ps:List (Nat×Nat)} {ss:List cF} {i:Nat} {x:Nat×Nat} {s:cF},ps.length=ss.length->(iD ps ss)[i]?=some x->(cK ss)[i]?=some s->∃j:Nat,ps[j]?=some x/\ss[j]?=some s
 | [],[],_,_,_,_,h,_=>by simp[iD]at h
 | y::ps,t::ss,i,x,s,hl,h1,h2=>by
  have ih:=λi=>Bx (ps:=ps) (ss:=ss) (i:=i) (x:=x) (s:=s) (by simpa using hl);simp only[iD,cK,rT]at h1 h2;cases hm:(t.many != 0)
  ·rw[hm]at h1 h2;obtain⟨j,a,b⟩:=ih i h1 h2;exact⟨j+1,by simpa using a,by simpa using b⟩
  ·rw[hm]at h1 h2;cases i with
   | zero=>simp at h1 h2;exact⟨0,by simp[h1],by simp[h2]⟩
   | succ i=>
    obtain⟨j,a,b⟩:=ih i (by simpa using h1) (by simpa[cK]using h2);exact⟨j+1,by simpa using a,by simpa using b⟩
theorem Mx (a b:List cF):cK (a++b)=cK a++cK b:=by simp[cK]
theorem M4 (a b:List cF):Z9 (a++b)=Z9 a++Z9 b:=by simp[Z9]
theorem Eu (c:bZ)(a b:List Nat):iv c (a++b)=iv c a++iv c b:=by simp[iv]
theorem IY {a b:List (Nat×Nat)}(h:a.Sublist b):(dU a).Sublist (dU b):=by
 induction h with
 | slnil=>exact List.Sublist.refl _
 | cons x _ ih=>exact(ih.cons _).cons _
 | cons_cons x _ ih=>exact(ih.cons_cons _).cons_cons _
theorem DW {h:Hp}{Q:Rg}{n3:Nat}{o:Sl}{l:List Nat}{x1 x2:Nat}{s:cF}(hb:bX h n3 [.slice o.a o.len o.cap])(hrow:bW o 2 (iv c l) h Q)(hQ:∀b,Q b->n3<b)(hl:l.length<=2000)(hS:gN h x1 x2 c s){R:aO}
 (hR:∀h' o',Ext (λb=>b=n3\/Q b) h h'->bX h' n3 [.slice (Sl.a o') o'.len o'.cap]->bW o' 2 (iv c (l++if s.many=0 then[s.st]else[])) h' (Grow Q h)->R (s.many==0) h') :
 VE Tryz.prog ⟨223,#[],#[.pointer (some ⟨n3,0,none⟩)]⟩ [.agg #[.int .i64 (s.many:Int),.int .i64 (s.st:Int),.pointer (some ⟨x1,0,none⟩)]] [.one .b] h R:=by
 refine oS (all := #[.agg #[.int .i64 (s.many:Int),.int .i64 (s.st:Int),.pointer (some ⟨x1,0,none⟩)],.pointer (some ⟨n3,0,none⟩)]) (by kernel_rfl) aA ?_;refine XJ.o ?_;unfold XJ.v;refine nw (cs:=[.int .i64 (s.many:Int),.int .i64 (s.st:Int),.pointer (some ⟨x1,0,none⟩)]) λv hz e d=>?_;have V:=hb.lt;have g:=e.bU hb id;have hrow:=(bW.loc o 2 (iv c l)).mono hrow (G:=λb=>Q b/\b<h.size) λb hb z=>⟨z,hb⟩;refine Jn.intro (d.fR rfl ?_);rw[tB];refine cY (λC=>?_) λC=>?_
 ·have p:s.many=0:=by simpa using C
  rw[zC p]at hR;refine⟨λh'=>bX h' h.size [.int .i64 (s.many:Int),.int .i64 (s.st:Int),.pointer (some ⟨x1,0,none⟩)]/\bX h' n3 [.slice o.a o.len o.cap],⟨d,g⟩,⟨o,λh' hS=>by rw[hS.2.cell];rfl,⟨some ⟨x1,0,none⟩,λh' hS=>by rw[add_lit,hS.1.cell];rfl,?_⟩⟩⟩;refine Jh (hS.bO e) λY e2=>⟨⟨e2.bU d id,e2.bU g id⟩,?_⟩;have x:=e.trans e2;have m:=aI.bO hrow x;have y:=m.1;rw[MK]at y;refine nw (cs:=[.int .i64 (s.st:Int),.int .i64 (c.aF:Int)]) λv3 N w A=>⟨⟨(e2.trans w).bU d id,(e2.trans w).bU g id⟩,?_⟩;have r:=aI.bO m w;have W:=x.1;refine r.app (ys:=[.int .i64 (s.st:Int),.int .i64 (c.aF:Int)]) rfl rfl ?_ (by simp[dV]) ?_ ?_ mI λX J S D F=>?_
  ·intro j u hu;rw[add_lit,zH,A.cell];exact hu
  ·simp only;have:(o.len+1)*16<=2001*16:=lp O O;omega
  ·simp only;omega
  ·have K:bX J h.size [.int .i64 (s.many:Int),.int .i64 (s.st:Int),.pointer (some ⟨x1,0,none⟩)]:=D.bU ((e2.trans w).bU d id) λE=>by have:=E.2;omega
   have L:bX J n3 [.slice o.a o.len o.cap]:=D.bU ((e2.trans w).bU g id) λE=>by have:=hQ _ E.1;omega
   refine⟨⟨K,L⟩,L.s0 aA λv5 o5 M=>(Wr o5 K O).fR rfl ?_⟩;have H:Ext (λb=>b=n3\/Q b) h v5:=(bK.to ((e.trans e2).trans w)).trans (D.sub λi B=>.inr B.1)|>.trans (o5.ext.sub λi B=>.inl B);rw[tB];refine hR v5 X H M ?_;rw[Eu];have:iv c [s.st]=[.int .i64 (s.st:Int),.int .i64 (c.aF:Int)]:=rfl;rw[this];have P:=aI.mono F (G:=Grow Q h) λb _ U=>by
    rcases U with h|h
    ·exact .inl h.1
    ·exact .inr O
   exact aI.bS P o5.ext λb _ z Z=>by
    rcases z with h|h
    ·have:=hQ _ h;omega
    ·omega
 ·have p:¬s.many=0:=by simpa using C
  rw[zB p,lF]at hR;refine d.fR rfl ?_;rw[tB];exact hR v o e.to g (aI.bO (aI.mono hrow λb _ z=>.inl z.1) e)
def wI (n3:Nat)(c:bZ)(l:List Nat)(h:Hp):Prop:=∃o:Sl,bX h n3 [.slice o.a o.len o.cap]/\bW o 2 (iv c l) h (λb=>n3<b)
theorem wW {A D:List Value}{x y z:Value}{k:Nat}(hk:k=A.length)(hD:3<=D.length):(((A++D).set k x).set (k+1) y).set (k+2) z=A++[x,y,z]++D.drop 3:=by
 subst hk
 match D,hD with
 | d0::d1::d2::D,_=>simp[List.set_append]
theorem UP {i:Nat}{s:cF}(hs:ss[i]?=some s):Z9 (ss.take (i+1))=Z9 (ss.take i)++(if s.many=0 then[s.st]else[]):=by
 rw[lj,hs,M4]
 congr 1
 by_cases hm:s.many=0<;>simp[Z9,hm]
theorem Hb {i:Nat}{s:cF}(hs:ss[i]?=some s):cK (ss.take (i+1))=cK (ss.take i)++(if s.many=0 then[]else[s]):=by
 rw[lj,hs,Mx]
 congr 1
 by_cases hm:s.many=0<;>simp[cK,hm]
theorem xr {i:Nat}{x:Nat×Nat}{s:cF}(hl:ps.length=ss.length)(hx:ps[i]?=some x)(hs:ss[i]?=some s):iD (ps.take (i+1)) (ss.take (i+1))=iD (ps.take i) (ss.take i)++(if s.many=0 then[]else[x]):=by
 rw[lj,lj,hs,hx,De (by simp[hl])]
 congr 1
 by_cases hm:s.many=0<;>simp[iD,hm]
theorem Pm (l:List cF):(Z9 l).length<=l.length:=by unfold Z9;rw[zl];exact sD _ _
theorem Lj (l:List cF):(cK l).length<=l.length:=sD _ _
theorem MG (h:eU U F p c ps ss){sl:Sl}{rb n3:Nat}{cs:List Value}{σ1:Hp}(e1:bK U σ1)(hlen:sl.len=ss.length)(hn3:U.size<=n3)(hE:ss≠[]->qt U F p ps ss sl rb cs/\sl.len<=sl.cap/\cs.length=sl.cap*3)(h0:wI n3 c [] σ1){R:Sl->Hp->Prop}
 (hR:∀h' l7,Ext (λb=>F b/\b≠p/\b∉dU ps\/n3<=b) σ1 h'->wI n3 c (Z9 ss) h'->(l7=sl/\Z9 ss=[]/\cK ss=ss/\iD ps ss=ps/\Ext (λb=>n3<=b) σ1 h'\/(bW l7 3 (dM (iD ps ss) (cK ss)) h' (λb=>F b/\b≠p/\b∉dU ps)))->R l7 h') :
 We.c sl ⟨223,#[],#[.pointer (some ⟨n3,0,none⟩)]⟩ σ1 R:=by
 refine We.o ?_;unfold We.v;refine Wh.o ?_;unfold Wh.v;have hfew:=h.oy;have r:=h.len;refine Z5 (a:=bN) (λ(t:Int) h'=>∃i:Nat,t=(i:Int)/\i<=ss.length/\Ext (λb=>n3<=b) σ1 h'/\wI n3 c [] h'/\Z9 (ss.take i)=[]/\cK (ss.take i)=ss.take i/\iD (ps.take i) (ss.take i)=ps.take i) (λt _=>ss.length-t.toNat) ⟨0,rfl,O,Ext.refl _ _,h0,by simp[Z9],by simp[cK],by simp[iD]⟩ ?_;rintro t h' ⟨i,rfl,hi,e,⟨o,S,ah⟩,q1,q2,q3⟩;have eo:∀{v:Hp},Ext (λb=>n3<=b) σ1 v->Ext (λb=>n3<=b) U v:=λe=>e1.to.trans e;refine cR (λhlt=>?_) λhge=>?_
 ·have Z:i<ss.length:=by omega
  obtain⟨E,hcap,hcl⟩:=hE (by rintro rfl;simp at Z);obtain⟨xx,s,hp,J,hS⟩:=h.jm Z;have eg:=Qu hp J;have hrl:=E.bU.lt;have hSl:=hS.lt;rw[E.a];refine ix O O ?_;rw[add_lit,show 0+(i:Int).toNat*3=3*i by omega];refine uM (e:=0) ((eo e).bU E.bU O) (E.get eg.1) (E.get eg.2.1) (E.get eg.2.2) ?_;have hn3h:n3<h'.size:=S.lt;refine DW S ah (λb h=>h) aA (hS.bS (eo e) O O) λh2 o2 e2 ac A=>?_;have e2:Ext (λb=>n3<=b) h' h2:=e2.sub λb g=>by omega
  have A:=aI.mono A (G:=λb=>n3<b) λb _ g=>by
   rcases g with h|h
   ·exact h
   ·omega
  refine cY (λhm=>?_) λhm=>?_
  ·-- the first that goes
   have x:s.many=0:=by simpa using hm
   rw[zC x,r5]at A;have D:((i:Int)==(-1))=false:=by rw[lM];omega
   show If ((i:Int)==(-1)) _ _;refine cE D (cQ (m:=i+1) O O ?_);have q1':Z9 (ss.take (i+1))=[s.st]:=by rw[UP J,q1,zC x];rfl
   have N:cK (ss.take (i+1))=ss.take i:=by rw[Hb J,q2,zC x,lF]
   have q3':iD (ps.take (i+1)) (ss.take (i+1))=ps.take i:=by rw[xr r hp J,q3,zC x,lF]
   have hke:∀k,k<=ss.length->(dM (iD (ps.take k) (ss.take k)) (cK (ss.take k))).length=3*(cK (ss.take k)).length:=λk _=>QI (U4 (by simp[r]));have Eb2:bX h2 rb cs:=(eo (e.trans e2)).bU E.bU O;refine HD (a:=bN) (bb:=bN) (λ(i1 j1:Int) v=>∃j:Nat,j1=(j:Int)/\i<j/\j<=ss.length/\i1=((cK (ss.take j)).length:Int)/\(cK (ss.take j)).length<j/\Ext (λb=>b=rb\/n3<=b) σ1 v/\wI n3 c (Z9 (ss.take j)) v ∧
    bX v rb (dM (iD (ps.take j) (ss.take j)) (cK (ss.take j))++cs.drop (3*(cK (ss.take j)).length))) (λ_ j1 _=>ss.length-j1.toNat) ?_ ?_
   ·refine⟨i+1,rfl,O,O,?_,?_,(e.trans e2).sub λb g=>.inr g,?_,?_⟩
    ·rw[N,zZ];omega
    ·rw[N,zZ];omega
    ·rw[q1'];exact⟨o2,ac,A⟩
    ·rw[N,q3',zZ,oR O];have:dM (ps.take i) (ss.take i)++cs.drop (3*i)=cs:=by
      have h1:(dM (ps.take i) (ss.take i)).length=3*i:=by rw[QI (by simp[r]),zZ];omega
      apply zm;intro k;rcases jX k (3*i)with hk|hk
      ·rw[zg O];have h2:(dM ps ss)[k]?=(dM (ps.take i) (ss.take i))[k]? := by
        conv=>lhs;rw[←mY i ps,←mY i ss,KC (by simp[r])]
        rw[zg O]
       rw[←h2];have h3:k<(dM ps ss).length:=by rw[QI r];omega
       rw[cW h3];exact(E.get (cW h3)).symm
      ·rw[zn O,kj,h1]
       congr 1;omega
     rw[this];exact Eb2
   ·rintro i1 j1 v ⟨j,rfl,hij,hj,rfl,hKj,ev,⟨o3,C,K⟩,z⟩;have y:=hke j hj;have evo:Ext (λb=>b=rb\/n3<=b) U v:=e1.to.trans ev;refine cR (λhlt2=>?_) λhge2=>?_
    ·have hj':j<ss.length:=by omega
     obtain⟨yy,u,V,H,af⟩:=h.jm hj';have P:=Qu V H;have hSul:=af.lt;have ae:=Qa V;refine ix O O ?_;rw[add_lit,show 0+(j:Int).toNat*3=3*j by omega];have get:∀d,d<3->∀w,(dM ps ss)[3*j+d]?=some w->(dM (iD (ps.take j) (ss.take j)) (cK (ss.take j))++cs.drop (3*(cK (ss.take j)).length))[3*j+d]?=some w:=by
      intro d hd w hw;rw[zn O,kj,y,show 3*(cK (ss.take j)).length+(3*j+d-3*(cK (ss.take j)).length)=3*j+d by omega];exact E.get hw
     refine uM (e:=0) z (get 0 O _ P.1) (get 1 O _ P.2.1) (get 2 O _ P.2.2) (AK λv5 X b5=>b5.rI rfl (b5.rI rfl (b5.rP rfl ?_)));have hn3v:n3<v.size:=C.lt;have Y:=aI.mono K (G:=λb=>n3<b/\b<v.size) λb g hf=>⟨hf,g⟩;have M:=Pm (ss.take j);rw[zZ]at M;refine DW (X.bU C id) (aI.bO Y X) (λb g=>g.1) O ((af.bS evo (λW=>by rcases W with h|h;exact E.fr.2.2 (h▸ae.1);omega) (λW=>by rcases W with h|h;exact E.fr.2.2 (h▸ae.2);omega)).bO X) λv6 o6 e6 aa B=>?_;have hsz5:=X.1;have B:=aI.mono B (G:=λb=>n3<b) λb _ g=>by
      rcases g with h|h
      ·exact h.1
      ·omega
     have b6:bX v6 v.size [.int .i64 (u.many:Int),.int .i64 (u.st:Int),.pointer (some ⟨yy.1,0,none⟩)]:=e6.bU b5 λW=>by rcases W with h|h;omega;have:=h.2;omega
     have hrb:rb<U.size:=E.bU.lt;have L:=e6.bU (X.bU z id) λW=>by rcases W with h|h;omega;have:=h.1;omega
     have ab:Ext (λb=>b=rb\/n3<=b) σ1 v6:=(ev.trans X.to).trans (e6.sub λb g=>by rcases g with h|h;omega;have:=h.1;omega);rw[←UP H]at B;have st:=Hb H;have kt:=xr r V H;by_cases hum:u.many=0
     ·rw[zC hum,lF]at st kt;have:(u.many==0)=true:=by simp[hum]
      rw[this];refine cE rfl (cQ (m:=j+1) O O ⟨⟨j+1,rfl,O,O,?_,?_,ab,⟨o6,aa,B⟩,?_⟩,O⟩)
      ·rw[st]
      ·rw[st];omega
      ·rw[st,kt];exact L
     ·rw[zB hum]at st kt;have:(u.many==0)=false:=by simp[hum]
      rw[this];refine cB rfl (b6.rI rfl (b6.rI rfl (b6.rP rfl (ix O O ?_))));rw[add_lit,show 0+((cK (ss.take j)).length:Int).toNat*3=3*(cK (ss.take j)).length by omega];have hlen6:(dM (iD (ps.take j) (ss.take j)) (cK (ss.take j))++cs.drop (3*(cK (ss.take j)).length)).length=cs.length:=by
       rw[zQ,y,jM];omega
      refine L.s1 O λv7 o7 b7=>b7.s1 aE λv8 o8 b8=>b8.s1 aE λv9 o9 b9=>?_;rw[zz,wW y.symm (by rw[jM];omega),List.drop_drop]at b9;have ev9:Ext (λb=>b=rb\/n3<=b) σ1 v9:=((ab.trans (o7.ext.sub λb g=>.inl g)).trans (o8.ext.sub λb g=>.inl g)).trans (o9.ext.sub λb g=>.inl g);have ad:Ext (· = rb) v6 v9:=(o7.ext.trans o8.ext).trans o9.ext;refine cQ (m:=(cK (ss.take j)).length+1) O O (cQ (m:=j+1) O O ⟨⟨j+1,rfl,O,O,?_,?_,ev9,⟨o6,ad.bU aa O,aI.bS B ad λb _ g he=>O⟩,?_⟩,O⟩)
      ·rw[st];simp
      ·rw[st];simp;omega
      ·rw[st,kt,KC (U4 (by simp[r]))];simp only[zQ,zW,kI,dM];rw[show 3*((cK (ss.take j)).length+(0+1))=3*(cK (ss.take j)).length+3 by omega];exact b9
    ·have hjj:j=ss.length:=by omega
     subst hjj;rw[mX]at *;have Q:ps.take ss.length=ps:=by rw[←r,mX]
     rw[Q]at z y;have M:=Lj ss;refine jf O O O ?_;have hK3:3*(cK ss).length<=cs.length:=by omega
     have hlt3:(cK ss).length<ss.length:=hKj;rw[zB O];simp only[E.a,zc,add_lit,zH];refine⟨by simp[dV],?_⟩;simp only;have hz:(List.replicate (sl.len-(cK ss).length) [Value.int .i64 0,.int .i64 0,.pointer none]).flatten.length=3*(sl.len-(cK ss).length):=by
      rw[tG,sv,vd];simp;omega
     refine Vu (o:=(cK ss).length*3) (i:=0) z (by rw[hz,zQ,y,jM];omega) λv10 gG b10=>?_;refine jf (lo:=0) O O O ?_;have ag:Ext (λb=>b=rb\/n3<=b) σ1 v10:=ev.trans (gG.ext.sub λb g=>.inl g);refine hR v10 _ (ag.sub λb g=>?_) ⟨o3,Wr gG C (by have:=E.bU.lt;omega),aI.bS K gG.ext λb _ g he=>by have:=E.bU.lt;omega⟩ (.inr ?_)
     ·rcases g with rfl|h
      ·exact .inl E.fr
      ·exact .inr h
     ·refine⟨by rw[QI (U4 r)];simp;omega,.inr ⟨rb,_,E.fr,?_,b10,?_,?_,?_⟩⟩
      ·simp only[E.a];split<;>simp[add_lit]
      ·simp only;omega
      ·simp only[zQ,zZ,jM,hz,y];omega
      ·rw[QI (U4 r),zz,show(cK ss).length*3=3*(cK ss).length by omega];rw[jW,nt (by rw[zZ,zQ,y];omega),vQ,Nat.min_self];rw[nt O,mi O]
  ·have x:¬s.many=0:=by simpa using hm
   rw[zB x,lF]at A;refine cQ (m:=i+1) O O ⟨⟨i+1,rfl,O,e.trans e2,⟨o2,ac,A⟩,?_,?_,?_⟩,O⟩
   ·rw[UP J,q1,zB x];rfl
   ·rw[Hb J,q2,zB x,lj,J];rfl
   ·rw[xr r hp J,q3,zB x,lj,hp];rfl
 ·have hii:i=ss.length:=by omega
  subst hii;rw[mX]at *;have Q:ps.take ss.length=ps:=by rw[←r,mX]
  rw[Q]at q3;have D:((-1:Int)==(-1))=true:=rfl;refine cB D (hR h' sl (e.sub λb g=>.inr g) ?_ (.inl ⟨rfl,q1,q2,q3,e⟩));rw[q1];exact⟨o,S,ah⟩
theorem eU.l7 (h:eU U F p c ps ss):∃sl:Sl,bX U p [.int .i64 (c.size:Int),.int .i64 (c.aF:Int),.int .i64 (c.batch:Int),.slice sl.a sl.len sl.cap]/\sl.len=ss.length/\bW sl 3 (dM ps ss) U (λb=>F b/\b≠p/\b∉dU ps) ∧
 ∃rb cs,(ss≠[]->qt U F p ps ss sl rb cs/\sl.len<=sl.cap/\cs.length=sl.cap*3):=by
 obtain⟨sl,m,g⟩:=h.hd;have i:=g.1;rw[QI h.len]at i;refine⟨sl,m,O,g,?_⟩;rcases g.2 with⟨h0,_⟩|⟨b,cs,hq,ha,hbb,hle,hcl,ht⟩
 ·exact⟨0,[],λe=>by have:=pn.2 e;omega⟩
 ·refine⟨b,cs,λ_=>⟨⟨ha,hbb,hq,λ{j v} d=>?_,?_⟩,hle,hcl⟩⟩
  ·rw[←ht,zj]at d;split at d
   ·exact d
   ·cases d
  ·have:=congrArg List.length ht;rw[zZ,QI h.len]at this;omega
theorem Pk (h:eU U F p c ps ss){R:Sl->Hp->Prop}
 (hR:∀o σ',Ext F U σ'->bW o 2 (iv c (Z9 ss)) σ' (λb=>U.size<=b)->eU σ' (Cut F U) p c (iD ps ss) (cK ss)->R o σ'):XH.c (aW p) U R:=by
 refine XH.o ?_;unfold XH.v;have h:=eU.loc.cut h;obtain⟨sl,a,B,y,S,cs,Q⟩:=h.l7;refine Vs h (cE rfl (nw (cs:=[.slice none 0 0]) λV P e1 C=>aG ((e1.bU a id).rS rfl ?_)));refine MG h e1 B (zD _) Q ⟨⟨none,0,0⟩,C,bW.nil _ _ _ _⟩ λW l7 e2 ⟨o,w,H⟩ r=>aG ?_;have K:=a.lt;have e:=h.nd;have d:=IY (xE (ps:=ps) (ss:=ss));simp only[zt]at e;refine(e2.bU (e1.bU a id) λD=>by rcases D with h|h;exact h.2.1 rfl;omega).s1 aA λv3 o3 E=>?_;have z:=Wr o3 w (by have:=w.lt;omega);refine z.sJ rfl (hR o v3 ?_ (aI.bS (aI.mono H λb _ a=>O) o3.ext λb _ a g=>O) ?_)
 ·refine(e1.to.dS e2 λb a=>?_).dS o3.ext λb a=>?_
  ·rcases a with h|h
   ·exact .inl h.1.1
   ·exact .inr h
  ·subst a;exact .inl h.fp.1
 ·have u:∀b,b∈dU ps->b<U.size->¬(Cut F U b/\b≠p/\b∉dU ps\/U.size<=b):=λb a M D=>by
   rcases D with h|h
   ·exact h.2.2 a
   ·omega
  refine⟨⟨l7,E,?_⟩,λi x s N L=>?_,h.fp,λb a=>h.fb b (d.subset a),?_,U4 h.len,h.ok,h.pf.sublist qU⟩
  ·rcases r with⟨rfl,_,q2,q3,ex⟩|hr
   ·rw[q2,q3];exact aI.bS (aI.bS (aI.bO y e1) ex λb _ a g=>by have:=a.1.2;omega) o3.ext λb _ a g=>a.2.1 g
   ·exact aI.bS (aI.mono hr λb _ a=>⟨a.1,a.2.1,λm=>a.2.2 (d.subset m)⟩) o3.ext λb _ a g=>a.2.1 g
  ·obtain⟨j,A,G⟩:=Bx h.len N L;have J:=h.sp j x s A G;have m:=Qa A;have B:=J.lt;exact((J.bO e1).bS e2 (u _ m.1 B.1) (u _ m.2 B.2)).bS o3.ext (λg=>e.1 (g▸m.1)) (λg=>e.1 (g▸m.2))
  ·simp only[zt];exact⟨λm=>e.1 (d.subset m),e.2.sublist d⟩
theorem Fh {x:Int}{k i:Nat}{s:cF}(hc:0<c.size)(hk:kb c ss x=some k)(hs:ss[k]?=some s)(v:Bool)(y:Int):kb c (ss.set k (s.put i v)) y=kb c ss y:=by
 have b:∀t:cF,∀j w z,idx c (t.put j w) z=idx c t z:=λt j w z=>by unfold idx cF.put;simp only[nk]
 unfold kb;have a:=(cX.1 hs).1;have:(ss.set k (s.put i v)).map (λs=>(idx c s y).isSome)=ss.map (λs=>(idx c s y).isSome):=by
  apply zm;intro j;simp only[zd];by_cases hjk:j=k
  ·subst hjk;rw[zJ a,hs];simp[b]
  ·rw[ze (Ne.symm hjk)]
 have d:∀l:List cF,l.findIdx? (λs=>(idx c s y).isSome)=(l.map λs=>(idx c s y).isSome).findIdx? id:=λl=>by rw[List.findIdx?_map];rfl
 rw[d,d,this]
def jQ (c:bZ)(ss:List cF)(xs:List Int):Prop:=(∀x∈xs,dT c ss x=some true)/\xs.Nodup
theorem HZ {x:Int}{b:Bool}(h:dT c ss x=some b):∃k s i,kb c ss x=some k/\ss[k]?=some s/\obj c s x=some i/\s.is i=b:=by
 unfold dT at h;split at h
 ·rename_i k hk;split at h
  ·rename_i s hs;cases ho:obj c s x with
   | none=>rw[ho]at h;cases h
   | some i=>rw[ho]at h;exact⟨k,s,i,hk,hs,ho,by simpa[cF.is]using h⟩
  ·cases h
 ·cases h
theorem vu {x:Int}{k i:Nat}{s:cF}(hk:kb c ss x=some k)(hs:ss[k]?=some s)(ho:obj c s x=some i):eW c ss x=ss.set k (s.put i false):=by
 simp[eW,hk,hs,ho]
theorem On {x y:Int}(hc:0<c.size)(hx:dT c ss x=some true)(hne:y≠x):dT c (eW c ss x) y=dT c ss y:=by
 obtain⟨k,s,i,u,d,A,_⟩:=HZ hx;rw[vu u d A];have g:=(cX.1 d).1;have a:=Fh hc u d false (i:=i) y;have p:∀t:cF,∀j w z,obj c (t.put j w) z=obj c t z:=λt j w z=>by unfold obj idx at_ cF.put;simp only[nk]
 cases hy:kb c ss y with
 | none=>rw[Gf (a.trans hy),Gf hy]
 | some m=>
  by_cases hmk:m=k
  ·subst hmk;rw[Vg (a.trans hy) (zJ g),Vg hy d,p];cases hoy:obj c s y with
   | none=>rfl
   | some j=>
    simp only[zc,Option.some.injEq];have r:i≠j:=λe=>by
     subst e;exact hne (((V6 hc).1 hoy).1.trans ((V6 hc).1 A).1.symm)
    simp[cF.is,cF.put,zN,ze r]
  ·have b:m<ss.length:=(mQ.1 hy).1;rw[Vg (a.trans hy) ((ze (Ne.symm hmk)).trans (cW b)),Vg hy (cW b)]
theorem jQ.next {x:Int}{xs:List Int}(hc:0<c.size)(h:jQ c ss (x::xs)):jQ c (eW c ss x) xs:=by
 have b:=zt.1 h.2;refine⟨λy a=>?_,b.2⟩;rw[On hc (h.1 x aA) λe=>b.1 (e▸a)];exact h.1 y (by simp[a])
theorem Cm {xs:List Int}(h:iq c ss xs=0):jQ c ss xs:=by
 unfold iq at h;split at h
 ·cases h
 ·rename_i h1;split at h
  ·cases h
  ·rename_i h2;simp only[mP,not_or,oT,lN,Bool.not_eq_false',zS,zV]at h1 h2;refine⟨λx d=>?_,h2.2⟩;have a:=h1 x d;have b:=h2.1 x d;cases ht:dT c ss x with
   | none=>rw[ht]at a;simp at a
   | some v=>
    cases v
    ·rw[ht]at b;exact absurd rfl b
    ·rfl
theorem IV {sl:Sl}{xs:List Int}{X:Rg}(h:eU U F p c ps ss)(hs:cT sl 1 (xs.map (Value.int .i64)) U X)(hX:∀b,X b->¬F b)(hi:∀x∈xs,iu x)(hA:jQ c ss xs)(hl:xs.length<=1000000){K:aP}
 (hK:∀σ',Ext F U σ'->eU σ' F p c ps (xs.foldl (eW c) ss)->K σ') :
 YC [bN] (λI1=>I1 0 U) λJ3 (t49:Int) v6=>If (decide (t49<((sl.len:Nat):Int))) (Ix sl.a sl.len t49 1 λa51=>gP .i64 a51 v6 λaddr1=>
  XA.c (aW p) addr1 v6 λvx v7=>bT vx λa57=>fQ (a57.add 2) v7 λt59=>Zh.c t59 addr1 v7 λt61 v8=>bT vx λa63=>gP .i64 ((a63.add 0).add 0) v8 λt66=>
  Ar .i64 (t66-1) λt67=>bT vx λa68=>eP ((a68.add 0).add 0) (.int .i64 t67) v8 λv9=>Ar .i64 (t49+1) λt71=>J3 t71 v9) (K v6):=by
 have hlen:sl.len=xs.length:=by have:=hs.1;simp at this;omega
 have z:0<c.size:=by have:=h.ok.1;omega
 refine Z5 (a:=bN) (λ(t:Int) M=>∃(i:Nat) (u:List cF),t=(i:Int)/\i<=xs.length/\Ext F U M/\eU M F p c ps u/\jQ c u (xs.drop i)/\(xs.drop i).foldl (eW c) u=xs.foldl (eW c) ss) (λt _=>xs.length-t.toNat) ⟨0,ss,rfl,O,Ext.refl _ _,h,by simpa using hA,by simp⟩ ?_;rintro t M ⟨i,u,rfl,hil,e,J,w,G⟩;refine cR (λhlt=>?_) λhge=>?_
 ·have y:i<xs.length:=by omega
  have hx:xs[i]?=some xs[i]:=cW y;have hd:xs.drop i=xs[i]::xs.drop (i+1):=xq y;rw[hd]at w G;refine(aH.bS hs e λb _ P hF=>hX b P hF).od hx ?_;obtain⟨k,s,j,N,g,L,B⟩:=HZ (w.1 xs[i] qs);have H:=hi xs[i] (j3 y);refine yW J xs[i] H (λhn=>by rw[N]at hn;cases hn) λk' l7 rb cs D Q P E=>aG ?_;rw[N]at D;cases D;obtain⟨Z,s',V,C,Y⟩:=J.jm Q;rw[g]at C;cases C;have eg:=Qu V g;have hj:=((V6 z).1 L).2;refine E.bU.rP (x:=some ⟨Z.1,0,none⟩) (E.get eg.2.2) ?_;refine Ie Y H L B λv8 e8 W=>aG ?_;have A:=Qa V;have S:¬(rb=Z.1\/rb=Z.2):=λhh=>E.fr.2.2 (by rcases hh with h|h<;>rw[h];exact A.1;exact A.2)
  have hml:=yr s;have d:=HJ hj false;rw[B]at d;have hsl:=Y.len;have hnl:=Y.ok.jV;have r:((s.put j false).many:Int)=s.many-1:=by simp at d;omega
  refine(e8.bU E.bU S).fR (E.get eg.1) (ar O O (aG ?_));simp only[add_lit,zz];rw[←r];refine J.nA (s':=s.put j false) V g rfl e8 W P E λv9 e9 R=>?_;refine cQ (m:=i+1) O O ⟨⟨i+1,_,rfl,O,e.trans e9,R,?_,?_⟩,O⟩
  ·have:=jQ.next z w
   rwa [vu N g L]at this
  ·rw[pO,vu N g L]at G;exact G
 ·have:i=xs.length:=by omega
  subst this;rw[List.drop_length,List.foldl_nil]at G;subst G;exact hK M e J
theorem FL (h:eU U F p c ps ss){sl:Sl}{xs:List Int}{X:Rg}(hs:cT sl 1 (xs.map (Value.int .i64)) U X)(hX:∀b,X b->¬F b)(hi:∀x∈xs,iu x)(hl:xs.length<=1000000)(hcap:sl.len<=sl.cap){R:Sl->Int->Hp->Prop}
 (h0:iq c ss xs≠0->R ⟨none,0,0⟩ (iq c ss xs) U)
 (h1:iq c ss xs=0->∀o σ',Ext F U σ'->bW o 2 (iv c (Z9 (xs.foldl (eW c) ss))) σ' (λb=>U.size<=b)->eU σ' (Cut F U) p c (iD ps (xs.foldl (eW c) ss)) (cK (xs.foldl (eW c) ss))->R o 0 σ') :
 Yt.c (aW p) sl U R:=by
 refine Yt.o ?_;unfold Yt.v;have hlen:sl.len=xs.length:=by have:=hs.1;simp at this;omega
 refine Vs h (cE rfl ?_);have tw:∀i,(xs.take i).any (λx=>dT c ss x==some false)=true\/¬(xs.take i).Nodup->(∀x∈xs,(dT c ss x).isSome=true)->iq c ss xs=9:=by
  intro i d hall;unfold iq;rw[zB,zC]
  ·rcases d with d|d
   ·rw[jU]at d;obtain⟨x,u,hx2⟩:=d;have:xs.any (λx=>dT c ss x==some false)=true:=jU.2 ⟨x,tF u,hx2⟩;rw[this];rfl
   ·have:¬xs.Nodup:=λE=>d (E.sublist (yB _ _));simp[this]
  ·simp only[oT,lN];intro x u;have:=hall x u;cases ht:dT c ss x
   ·rw[ht]at this;cases this
   ·simp
 refine HD (a:=.b) (bb:=bN) (λ(tw:Bool) (t:Int) B=>∃i:Nat,t=(i:Int)/\i<=xs.length/\B=U/\(∀x∈xs.take i,(dT c ss x).isSome=true)/\(tw=true↔(xs.take i).any (λx=>dT c ss x==some false)=true\/¬(xs.take i).Nodup)) (λ_ t _=>xs.length-t.toNat)
  ⟨0,rfl,O,rfl,by simp,by simp⟩ ?_
 rintro w t B ⟨i,rfl,hil,rfl,g,D⟩;refine cR (λhlt=>?_) λhge=>?_
 ·have C:i<xs.length:=by omega
  have u:xs[i]?=some xs[i]:=cW C;have aa:=hi xs[i] (j3 C);have L:xs.take (i+1)=xs.take i++[xs[i]]:=by rw[lj,u];rfl
  refine hs.od u (Gn h xs[i] aa (λb d=>cE rfl ?_) λE=>cB rfl ?_)
  ·have A:∀x∈xs.take (i+1),(dT c ss x).isSome=true:=by
    rw[L];intro x u;rcases zL.1 u with h1|h1
    ·exact g x h1
    ·simp at h1;subst h1;rw[d];rfl
   have fin:∀H:Bool,(H=true↔(xs.take (i+1)).any (λx=>dT c ss x==some false)=true\/¬(xs.take (i+1)).Nodup)->Ar .i64 ((i:Int)+1) λs=>
    (∃j:Nat,s=(j:Int)/\j<=xs.length/\B=B/\(∀x∈xs.take j,(dT c ss x).isSome=true)/\(H=true↔(xs.take j).any (λx=>dT c ss x==some false)=true\/¬(xs.take j).Nodup))/\xs.length-s.toNat<xs.length-(i:Int).toNat:=
    λH Q=>cQ (m:=i+1) O O ⟨⟨i+1,rfl,O,rfl,A,Q⟩,O⟩
   have ab:∀y:Int,(xs.take i++[y]).Nodup↔(xs.take i).Nodup/\y∉xs.take i:=λy=>by
    rw[nL];constructor
    ·exact λh=>⟨h.1,λM=>h.2.2 y M y aA rfl⟩
    ·exact λh=>⟨h.1,by simp,λa ha z hz e=>by simp at hz;subst hz;exact h.2 (e▸ha)⟩
   have ex:(xs.take (i+1)).any (λx=>dT c ss x==some false)=true\/¬(xs.take (i+1)).Nodup↔(w=true\/b=false)\/xs[i]∈xs.take i:=by
    rw[L,ab,List.any_append,D];simp only[List.any_cons,List.any_nil,Bool.or_false,mP,d];have N:((some b==some false)=true)↔b=false:=by cases b<;>simp
    rw[N];constructor
    ·rintro((h|h)|h)
     ·exact .inl (.inl (.inl h))
     ·exact .inl (.inr h)
     ·by_cases E:(xs.take i).Nodup
      ·by_cases M:xs[i]∈xs.take i
       ·exact .inr M
       ·exact absurd ⟨E,M⟩ h
      ·exact .inl (.inl (.inr E))
    ·rintro(((h|h)|h)|h)
     ·exact .inl (.inl h)
     ·exact .inr λJ=>h J.1
     ·exact .inl (.inr h)
     ·exact .inr λJ=>J.2 h
   have J1:∀r:Bool,(r=true↔w=true\/b=false)->bR (λH v4=>Ar .i64 ((i:Int)+1) λs=>
    (∃j:Nat,s=(j:Int)/\j<=xs.length/\v4=B/\(∀x∈xs.take j,(dT c ss x).isSome=true)/\(H=true↔(xs.take j).any (λx=>dT c ss x==some false)=true\/¬(xs.take j).Nodup))/\xs.length-s.toNat<xs.length-(i:Int).toNat) λJ2=>
    If r (J2 true B) (eY sl 1 0 (i:Int) (sl.cap:Nat) λZ=>Wo.c Z xs[i] B λP v5=>J2 P v5):=by
    intro r hr;refine bR.intro ?_;cases r
    ·refine cE rfl ?_;refine jf (lo:=0) O O O ?_;have K:cT ⟨if sl.cap=0 then sl.a else sl.a.map (·.add (0*1)),i-0,sl.cap-0⟩ 1 ((xs.take i).map (Value.int .i64)) B X:=by
      refine⟨by simp;omega,?_⟩;rcases hs.2 with h0|⟨b',o',cs',hf',ha',hb',hc'⟩
      ·left;have:xs=[]:=by simpa using h0
       simp[this]
      ·refine .inr ⟨b',o',cs',hf',?_,hb',λj hj=>?_⟩
       ·rw[zB O,ha'];simp[add_lit]
       ·simp only[zl,zZ]at hj;rw[hc' j aE,List.map_take,zj,zC O]
     refine Jr K aE _ (fin _ ?_);rw[ex,←hr];simp
    ·refine cB rfl (fin true ?_);rw[ex,←hr];simp
   refine bR.intro ?_;cases w
   ·refine cE rfl (J1 _ ?_);cases b<;>simp
   ·exact cB rfl (J1 _ aA)
  ·have:iq c ss xs=8:=by
    unfold iq;rw[zC];exact jU.2 ⟨xs[i],j3 C,by rw[E];rfl⟩
   have h0:=h0 (by rw[this];decide);rw[this]at h0;exact h0
 ·have:i=xs.length:=by omega
  subst this;rw[mX]at *;cases w
  ·refine cE rfl ?_;have hE:iq c ss xs=0:=by
    unfold iq;have V:¬(xs.any (λx=>dT c ss x==some false)=true\/¬xs.Nodup):=λJ=>by have:=D.2 J;cases this
    rw[zB,zB]
    ·simp only[not_or,oT,Decidable.not_not]at V;rw[V.1];simp[V.2]
    ·simp only[oT,lN];intro x u;have:=g x u;cases ht:dT c ss x
     ·rw[ht]at this;cases this
     ·simp
   refine IV (eU.loc.cut h) hs (λb d hf=>hX b d hf.1) hi (Cm hE) hl λv6 e6 S=>?_;refine Pk S λo Y W ac G=>?_;exact h1 hE o Y ((e6.trans W).sub λb d=>d.1) (aI.mono ac λb _ d=>ky e6.1 d) (eU.loc.mono G λb _ d=>d.1)
  ·refine cB rfl ?_;have h9:=tw xs.length (by rw[mX];exact D.1 rfl) g;have h0:=h0 (by rw[h9];decide);rw[h9]at h0;exact h0
theorem Lg {x y:Sl}{a o b o':Nat}{cs ds:List Value}(hx:x.a=some ⟨a,o,none⟩)(hy:y.a=some ⟨b,o',none⟩)(ha:bX U a cs)(hb:bX U b ds)(hne:a≠b)(hd:ds≠[]){K:aO}(hK:K false U) :
 qN Tryz.prog 288 [.slice x.a x.len x.cap,.slice y.a y.len y.cap] U K:=by
 rintro w rfl;obtain⟨d,ha⟩:=ha;obtain⟨g,hb⟩:=hb;refine⟨false,w,?_,.refl _,hK⟩;rw[hx,hy,run_callFunc_extern Tryz.func288 (by kernel_rfl) (by kernel_rfl) (by kernel_rfl) (e:=Extern.SlicesOverlaps.overlaps #[255,255] #[4]) (by kernel_rfl)];have:=Lib.run_overlaps_apart (P:=Tryz.prog) w 255 4 262 Tryz.underlying255 3 Tryz.sizeOf262
  ⟨a,o,none⟩ ⟨b,o',none⟩ x.len x.cap y.len y.cap hne d g cs.length ds.length (by simp[World.shape?,ha]) (by simp[World.shape?,hb]) (by simpa using hd) (by simp[World.frozen?,ha]) (by simp[World.frozen?,ha])
 rw[this];rfl
theorem JM {Q:Rg}{s:Sl}{xs:List Value}{i m vb:Nat}{x y z:Value}(h:bW s 3 xs U Q)(hlen:s.len=m)(hm:m<=2000)(hi:i<=m)(hv:bX U vb [x,y,z])(hvb:¬Q vb)(h1:∀v∈xs,dV v=true)(h2:dV x=true/\dV y=true/\dV z=true)
 {R:Sl->Hp->Prop} (hR:∀s' σ',Ext Q U σ'->bW s' 3 (xs.take (3*i)++[x,y,z]++xs.drop (3*i)) σ' (Grow Q U)->R s' σ') :
 Wf.c s (i:Int) ⟨some ⟨vb,0,none⟩,1,1⟩ U R:=by
 refine Wf.o ?_;unfold Wf.v;have hxl:=h.1;have hcap:s.len<=s.cap:=by
  rcases h.2 with⟨h0,h0'⟩|⟨b,cs,_,_,_,M,_⟩
  ·omega
  ·exact M
 have af:Rd U (some ⟨vb,0,none⟩) [x,y,z]:=by
  intro j u hu;rw[add_lit,zH,hv.cell];exact hu
 have X:∀v∈[x,y,z],dV v=true:=by simp[h2]
 refine jf O O O (cE rfl (cY (λhe=>?_) λhe=>?_))
 ·have hie:i=m:=by
   have:(i:Int)=((s.len:Nat):Int):=by simpa using he
   omega
  refine h.app (ys:=[x,y,z]) rfl rfl af X aD aD mI λs' h' hl' e' ad=>hR s' h' e' ?_
  rw[mi O,List.drop_of_length_le O,lF];exact ad
 ·have hie:i<m:=by
   have:¬(i:Int)=((s.len:Nat):Int):=by simpa using he
   omega
  obtain⟨b,cs,V,Y,G,M,J,ht⟩:∃b cs,Q b/\s.a=some ⟨b,0,none⟩/\bX U b cs/\s.len<=s.cap/\cs.length=s.cap*3/\cs.take xs.length=xs:=by
   rcases h.2 with⟨h0,_⟩|h
   ·omega
   ·exact h
  have K:vb≠b:=λe=>hvb (e▸V);have w:∀j v,xs[j]?=some v->cs[j]?=some v:=λj v p=>by
   rw[←ht,zj]at p;split at p
   ·exact p
   ·cases p
  refine cQ (m:=m+1) aD O (cR (λhgt=>?_) λhle2=>?_)
  ·-- no room: a new row
   refine jf (lo:=0) O O O (cQ (m:=m+1) aD O (cQ (m:=m+1-i) O O ?_))
   have E:¬s.cap=0:=by omega
   rw[zB E];simp only[Y,zc,add_lit,tz,zz,Nat.sub_zero];refine⟨O,xs.take (3*i),by rw[zZ];simp only;omega,?_,by simp[dV],by simp only;omega,by simp only;omega,O,λac=>by simp only at ac;omega,λ_ cc H=>?_⟩
   ·intro j v p;rw[add_lit,zH,G.cell];rw[zj]at p;split at p
    ·exact w j v p
    ·cases p
   simp only[dC]at H ⊢;have ae:i+(m+1-i)=m+1:=by omega
   rw[ae]at H ⊢;refine nw λv2 hz2 e2 Z=>?_;have B:∀k,(List.replicate k [Value.int .i64 0,.int .i64 0,.pointer none]).flatten.length=3*k:=λk=>by
    rw[tG,sv,vd];simp;omega
   have g:(xs.take (3*i)).length=3*i:=by rw[zZ];omega
   refine jf aD aD aD ?_
   have hv2:=e2.bU hv id;have n1:(if cc=i then(some ⟨U.size,0,none⟩:Option Addr)else(some ⟨U.size,0,none⟩:Option Addr).map (·.add (i*3)))=some ⟨U.size,i*3,none⟩:=by
    have:¬cc=i:=by omega
    rw[zB this];simp[add_lit]
   rw[n1];refine⟨[x,y,z],by simp only;rw[oR O];rfl,?_,X,?_⟩
   ·intro j u hu;rw[add_lit,zH,hv2.cell];exact hu
   simp only;refine Vu (o:=i*3) (i:=0) Z (by simp only[zQ,g,B,zW,kI];omega) λv3 o3 S=>?_;refine cQ (m:=i+1) aD O (jf aD aD aD (jf O O O ?_))
   have P:bX v3 b cs:=Wr o3 (e2.bU G id) (by have:=G.lt;omega);have d:(xs.drop (3*i)).length=3*(m-i):=by rw[jM];omega
   refine⟨xs.drop (3*i),by simp only;rw[oR O,d];omega,?_,λv hv=>h1 v (rF hv),?_⟩
   ·have r:¬s.cap=i:=by omega
    rw[zB r];simp only[Y,zc,add_lit];intro j v p;rw[add_lit,P.cell];rw[kj]at p;have:=w _ _ p;rw[show 0+i*3+j=3*i+j by omega];exact this
   have hbig:(xs.take (3*i)++(List.replicate (m+1-i) [Value.int .i64 0,.int .i64 0,.pointer none]).flatten++(List.replicate (cc-(m+1)) [Value.int .i64 0,.int .i64 0,.pointer none]).flatten).length=3*cc:=by
    simp only[zQ,g,B];omega
   have tk:∀L:List Value,((xs.take (3*i)++(List.replicate (m+1-i) [Value.int .i64 0,.int .i64 0,.pointer none]).flatten++(List.replicate (cc-(m+1)) [Value.int .i64 0,.int .i64 0,.pointer none]).flatten).take (3*i))=xs.take (3*i):=λ_=>by
    rw[jW,nt O,mi O]
   have fin:∀v4,Qg v3 v4 U.size->bX v4 U.size ((xs.take (3*i)++[x,y,z])++xs.drop (3*i)++((xs.take (3*i)++(List.replicate (m+1-i) [Value.int .i64 0,.int .i64 0,.pointer none]).flatten++(List.replicate (cc-(m+1)) [Value.int .i64 0,.int .i64 0,.pointer none]).flatten).drop (3*i+3)).drop (3*(m-i)))->R ⟨some ⟨U.size,0,none⟩,m+1,cc⟩ v4:=by
    intro v4 o4 A;refine hR _ v4 ?_ ⟨?_,.inr ⟨U.size,_,.inr (zD _),rfl,A,by simp only;omega,?_,?_⟩⟩
    ·exact((e2.to.dS o3.ext λi hi=>by subst hi;exact .inr (zD _)).dS o4.ext λi hi=>by subst hi;exact .inr (zD _))
    ·simp only[zQ,g,d,zW,kI];omega
    ·simp only[zQ,g,d,zW,kI,jM,B];omega
    ·rw[jW (xs.take (3*i)++[x,y,z]),←jW,wu];rfl
   have e3:(xs.take (3*i)++(List.replicate (m+1-i) [Value.int .i64 0,.int .i64 0,.pointer none]).flatten++(List.replicate (cc-(m+1)) [Value.int .i64 0,.int .i64 0,.pointer none]).flatten).take (i*3+0)=xs.take (3*i):=by
    rw[show i*3+0=3*i by omega];exact tk []
   rw[e3]at S;have C:(xs.take (3*i)++[x,y,z]++(xs.take (3*i)++(List.replicate (m+1-i) [Value.int .i64 0,.int .i64 0,.pointer none]).flatten++(List.replicate (cc-(m+1)) [Value.int .i64 0,.int .i64 0,.pointer none]).flatten).drop (i*3+0 + [x,y,z].length)).length=3*cc:=by
    simp only[zQ,jM,g,B,zW,kI];omega
   by_cases r:cc=i+1
   ·exfalso;omega
   ·rw[zB r];simp only[zc,add_lit,zH];refine Vu (o:=(i+1)*3) (i:=0) S (by rw[C,d];omega) λv4 o4 A=>fin v4 o4 ?_;have q1:(i+1)*3+0=(xs.take (3*i)++[x,y,z]).length:=by rw[zQ,g];simp;omega
    have q2:(i+1)*3+0+(xs.drop (3*i)).length=(xs.take (3*i)++[x,y,z]).length+3*(m-i):=by rw[d,q1]
    rw[q2,q1,wu,List.drop_append]at A
    ·rw[List.drop_of_length_le (show(xs.take (3*i)++[x,y,z]).length<=(xs.take (3*i)++[x,y,z]).length+3*(m-i) by omega),r5]at A;have q3:i*3+0 + [x,y,z].length=3*i+3:=by simp;omega
     rw[q3]at A;have q4:(xs.take (3*i)++[x,y,z]).length+3*(m-i)-(xs.take (3*i)++[x,y,z]).length=3*(m-i):=by omega
     rw[q4]at A;exact A
    ·rfl
  ·-- room: the rest moves
   have hle3:m+1<=s.cap:=by omega
   have E:¬s.cap=0:=by omega
   have r:¬s.cap=i:=by omega
   refine cQ (m:=m+1) aD O (jf (lo:=0) O O O ?_)
   rw[zB E];simp only[Y,zc,add_lit,tz,zz,Nat.sub_zero];refine cQ (m:=i+1) aD O (jf aD aD aD ?_)
   have D:cs.take (3*m)=xs:=by rw[←hlen,show 3*s.len=xs.length by omega];exact ht
   have W:∃o',(if s.cap=i+1 then(some ⟨b,0,none⟩:Option Addr)else(some ⟨b,0,none⟩:Option Addr).map (·.add ((i+1)*3)))=some ⟨b,o',none⟩:=by
    split
    ·exact⟨0,rfl⟩
    ·exact⟨_,by simp[add_lit];rfl⟩
   obtain⟨o',W⟩:=W;refine Lg (x:=⟨some ⟨vb,0,none⟩,1,1⟩) (a:=vb) (o:=0) (b:=b) rfl W hv G K (λe=>by rw[e]at J;simp at J;omega) (cB rfl ?_);refine cQ (m:=i+1) aD O (jf aD aD aD (jf aD aD aD ?_))
   have N:¬s.cap=i+1:=by omega
   rw[zB N,zB r];simp only[zc,add_lit,zH];have d:(xs.drop (3*i)).length=3*(m-i):=by rw[jM];omega
   refine⟨xs.drop (3*i),by simp only;rw[Nat.min_eq_right O,d];omega,?_,λv hv=>h1 v (rF hv),?_⟩
   ·intro j v p;rw[add_lit,G.cell];rw[kj]at p;have:=w _ _ p;rw[show i*3+j=3*i+j by omega];exact this
   refine Vu (o:=(i+1)*3) (i:=0) G (by rw[d];omega) λv3 o3 S=>?_;refine jf aD aD aD ?_
   rw[zB r];simp only[zc,add_lit,zH];have ab:=Wr o3 hv K;refine⟨[x,y,z],by simp only;rw[oR O];rfl,?_,X,?_⟩
   ·intro j u hu;rw[add_lit,zH,ab.cell];exact hu
   have aa:(cs.take ((i+1)*3+0)++xs.drop (3*i)++cs.drop ((i+1)*3+0+(xs.drop (3*i)).length)).length=cs.length:=by
    simp only[zQ,zZ,jM,d];omega
   refine Vu (o:=i*3) (i:=0) S (by rw[aa];simp;omega) λv4 o4 A=>?_;have a1:(cs.take ((i+1)*3+0)).length=3*i+3:=by rw[zZ];omega
   have g:(xs.take (3*i)).length=3*i:=by rw[zZ];omega
   have p1:(cs.take ((i+1)*3+0)++xs.drop (3*i)++cs.drop ((i+1)*3+0+(xs.drop (3*i)).length)).take (i*3+0)=xs.take (3*i):=by
    rw[jW,nt O,vQ,oR O,←D,vQ,oR O]
    congr 1;omega
   have p2:(cs.take ((i+1)*3+0)++xs.drop (3*i)++cs.drop ((i+1)*3+0+(xs.drop (3*i)).length)).drop (i*3+0 + [x,y,z].length)=xs.drop (3*i)++cs.drop ((i+1)*3+0+(xs.drop (3*i)).length):=by
    rw[jW,List.drop_left'];rw[a1];simp;omega
   rw[p1,p2,←jW]at A;refine hR _ v4 ((Ext.eD (F:=Q) o3 V).trans (Ext.eD o4 V)) ⟨?_,.inr ⟨b,_,.inl V,rfl,A,aD,?_,?_⟩⟩
   ·simp only[zQ,g,zW,kI,d];omega
   ·simp only[zQ,g,jM,zW,kI,d];omega
   ·rw[wu];rfl
def Y7 (ss:List cF)(st:Nat):Nat:=(ss.takeWhile (λs=>s.st<st)).length
theorem Hc (l:List cF)(P:cF->Bool):l.takeWhile P=l.take (l.takeWhile P).length/\l.dropWhile P=l.drop (l.takeWhile P).length:=by
 induction l with
 | nil=>simp
 | cons x l ih=>
  simp only[List.takeWhile_cons,List.dropWhile_cons];cases P x
  ·simp
  ·simp only[zP,zW,wQ,vC];exact⟨by rw[←ih.1],ih.2⟩
theorem GH (c:bZ)(ss:List cF)(st:Nat):gU c ss st=ss.take (Y7 ss st)++⟨st,List.replicate c.n false⟩::ss.drop (Y7 ss st):=by
 have:=Hc ss (λs=>decide (s.st<st));unfold gU Y7;rw[this.2,←this.1]
theorem UY (hs:ss.Pairwise (λa b=>a.st<b.st))(st:Nat):Y7 ss st<=ss.length/\∀(i:Nat) s,ss[i]?=some s->(s.st<st↔i<Y7 ss st):=by
 unfold Y7
 induction ss with
 | nil=>simp
 | cons x ss ih=>
  have e:=qd.1 hs;obtain⟨j,g⟩:=ih e.2;simp only[List.takeWhile_cons];by_cases hx:x.st<st
  ·simp only[hx,decide_true,zP,zW];refine⟨O,λi s d=>?_⟩;cases i with
   | zero=>simp at d;subst d;simp[hx]
   | succ i=>have:=g i s (by simpa using d);omega
  ·simp only[hx,decide_false,za,zp,kI,Nat.zero_le,Nat.not_lt_zero,iff_false,rU];intro i s d;cases i with
   | zero=>simp at d;subst d;exact hx
   | succ i=>
    have:=e.1 s (zG (i:=i) (by simpa using d));omega
theorem Pn (h:eU U F p c ps ss){σ1:Hp}(e1:bK U σ1){sl:Sl}{rb:Nat}{cs:List Value}(hl:sl.len=ss.length)(hE:ss≠[]->qt U F p ps ss sl rb cs)(st:Nat)(hst:st<=1024){R:Int->Bool->Hp->Prop}(hR:∀σ' b,bK σ1 σ'->R (Y7 ss st:Int) b σ') :
 Wb.c sl (st:Int) ⟨259,#[],#[]⟩ σ1 R:=by
 refine Wb.o ?_;unfold Wb.v;have P:=h.oy;obtain⟨L,kc⟩:=UY h.pf st;have A:∀(k:Nat) (x:Nat×Nat) s (v:Hp) (K:aN),ps[k]?=some x->ss[k]?=some s->bK σ1 v->(∀B,bK v B->K ((s.st:Int)-(st:Int)) B) →
  VE Tryz.prog ⟨259,#[],#[]⟩ [.agg #[.int .i64 (s.many:Int),.int .i64 (s.st:Int),.pointer (some ⟨x.1,0,none⟩)],.int .i64 (st:Int)] [.one bN] v K:=by
  intro k x s v K y g ev hK;refine oS (all := #[.agg #[.int .i64 (s.many:Int),.int .i64 (s.st:Int),.pointer (some ⟨x.1,0,none⟩)],.int .i64 (st:Int)]) (by kernel_rfl) aA ?_;refine Yl.o ?_;unfold Yl.v;have hf:=(h.sp k x s y g).fit;refine nw (cs:=[.int .i64 (s.many:Int),.int .i64 (s.st:Int),.pointer (some ⟨x.1,0,none⟩)]) λX hz e J=>J.fR rfl (ar O O (hK X e))
 refine HD (a:=bN) (bb:=bN) (λ(i j:Int) v=>∃a b:Nat,i=(a:Int)/\j=(b:Int)/\a<=Y7 ss st/\Y7 ss st<=b/\b<=ss.length/\bK σ1 v) (λi j _=>j.toNat-i.toNat) ⟨0,ss.length,rfl,by rw[hl],O,L,O,Ext.refl _ _⟩ ?_;rintro i j v ⟨a,b,rfl,rfl,Z,J,D,ev⟩;have C:bK U v:=e1.trans ev;refine cR (λW=>?_) λhge=>?_
 ·have u:ss≠[]:=by rintro rfl;simp at D;omega
  have E:=hE u;refine cQ (m:=a+b) O O ?_;have hw:IntKind.u64.wrap ((a+b:Nat):Int)=((a+b:Nat):Int):=by
   unfold IntKind.wrap;simp[IntKind.bits,IntKind.signed];omega
  refine xT ?_;rw[hw];refine nn O ?_;have M:min (1:Int).toNat IntKind.u64.bits=1:=by decide
  rw[M,Du];have z:(((a+b:Nat):Int)/2^1)=(((a+b)/2:Nat):Int):=by omega
  refine cQ (m:=(a+b)/2) z O ?_;have d:(a+b)/2<ss.length:=by omega
  obtain⟨x,s,y,g,Y⟩:=h.jm d;have w:=Qu y g;rw[E.a];refine ix O O ?_;rw[add_lit,show 0+(((a+b)/2:Nat):Int).toNat*3=3*((a+b)/2) by omega];refine uM (e:=0) (C.bU E.bU id) (E.get w.1) (E.get w.2.1) (E.get w.2.2) (A _ x s v _ y g ev λB G=>?_);have r:=kc _ s g;show If (decide (((s.st:Int)-(st:Int))<0)) _ _;refine cR (λS=>?_) λQ=>?_
  ·exact cQ (m:=(a+b)/2+1) O O ⟨⟨_,b,rfl,rfl,by have:=r.1 O;omega,J,D,ev.trans G⟩,O⟩
  ·exact⟨⟨a,_,rfl,rfl,Z,by
    apply Classical.byContradiction;intro hc;have:=r.2 O;omega,O,ev.trans G⟩,O⟩
 ·have H:a=Y7 ss st:=by omega
  subst H;refine bR.intro (cR (λN=>?_) λV=>hR v _ ev);have d:Y7 ss st<ss.length:=by omega
  have u:ss≠[]:=by rintro rfl;simp at d
  have E:=hE u;obtain⟨x,s,y,g,Y⟩:=h.jm d;have w:=Qu y g;rw[E.a];refine ix O O ?_;rw[add_lit,show 0+(Y7 ss st:Int).toNat*3=3*Y7 ss st by omega];refine uM (e:=0) (C.bU E.bU id) (E.get w.1) (E.get w.2.1) (E.get w.2.2) (A _ x s v _ y g ev λB G=>hR B _ (ev.trans G))
theorem LK (h:eU U F p c ps ss){st:Nat}(hf:st+c.aF<=1024){R:aN}(h9:HC c ss st=9->∀σ',bK U σ'->R 9 σ')
 (h0:HC c ss st=0->∀σ' ps',Ext F U σ'->eU σ' (Grow F U) p c ps' (gU c ss st)->R 0 σ'):Yq.c (aW p) (st:Int) U R:=by
 refine Yq.o ?_;unfold Yq.v;have h:=eU.loc.cut h;obtain⟨sl,d,hl,hrow,rb,cs,hE⟩:=h.l7;have hfew:=h.oy;have hc:=h.ok;have hck:=hc;unfold bZ.ok at hck;refine Vs h (cE rfl (aG (d.fR rfl (d.fR rfl (d.fR rfl ?_)))));refine OQ hc hf λv1 A K e1 hpn hqn Q=>cE rfl (aG ((e1.bU d id).rS rfl ?_));have hplt:=d.lt;refine Z5 (a:=bN) (λ(t:Int) v=>∃i:Nat,t=(i:Int)/\i<=ss.length/\bK v1 v/\∀(j:Nat) s,j<i->ss[j]?=some s->¬max s.st st-min s.st st<c.aF) (λt _=>ss.length-t.toNat) ⟨0,rfl,O,Ext.refl _ _,λj s y=>O⟩ ?_;rintro t v ⟨i,rfl,Z,ev,N⟩;have u:=e1.trans ev;refine cR (λad=>?_) λhge=>?_
 ·simp only at ad;have ab:i<ss.length:=by omega
  obtain⟨E,hcap,hcl⟩:=hE (by rintro rfl;simp at ab);obtain⟨x,s,z,g,hS⟩:=h.jm ab;have eg:=Qu z g;have hsf:=hS.fit;rw[E.a];refine ix O O ?_;rw[add_lit,show 0+(i:Int).toNat*3=3*i by omega];refine uM (e:=0) (u.bU E.bU id) (E.get eg.1) (E.get eg.2.1) (E.get eg.2.2) (AK λv6 e6 b6=>b6.fR rfl (b6.fR rfl ?_));have hd:(if(st:Int)>(s.st:Int)then(st:Int)else(s.st:Int))-(if(st:Int)<(s.st:Int)then(st:Int)else(s.st:Int))=((max s.st st-min s.st st:Nat):Int):=by
   split<;>split<;>omega
  refine cQ (m:=max s.st st-min s.st st) hd O (aG (((u.trans e6).bU d id).fR rfl ?_));refine cR (λhlt2=>h9 ?_ _ (u.trans e6)) λhge2=>?_
  ·unfold HC;rw[zC];exact jU.2 ⟨s,zG g,by simpa using(by omega:max s.st st-min s.st st<c.aF)⟩
  ·refine cQ (m:=i+1) O O ⟨⟨i+1,rfl,O,ev.trans e6,λj s' y S=>?_⟩,O⟩;by_cases e:j=i
   ·subst e;rw[g]at S;cases S;omega
   ·exact N j s' O S
 ·have hii:i=ss.length:=by simp only at hge;omega
  subst hii;have hE0:HC c ss st=0:=by
   unfold HC;rw[zB];simp only[oT,lN,zS];intro s g;obtain⟨j,y⟩:=zO g;exact N j s (cX.1 y).1 y
  refine aG ((u.bU d id).rS rfl ?_);refine Pn h u hl (λV=>(hE V).1) st O λv7 bb e7=>aG (((u.trans e7).bU d id).rS rfl ?_);have e07:=u.trans e7;obtain⟨hp1,kc⟩:=UY h.pf st;refine nw (cs:=[.int .i64 0,.int .i64 st,.pointer (some ⟨A,0,none⟩)]) λv8 hz8 e8 hb8=>?_;have J:=e07.trans e8;have Y:=aI.bO hrow J;have hsz7:=e07.1;refine JM Y hl O hp1 hb8 (λr=>by have:=r.1.2;omega) C5 ⟨rfl,rfl,rfl⟩ λs' v9 e9 hr9=>aG ?_;have hb9:=e9.bU (J.bU d id) λr=>r.2.1 rfl;refine hb9.s1 aA λX gG hb10=>?_;have H:=h.len;have C:=h.nd;simp only[zt]at C;have ad:=Q.lt;have hsz1:=(ev.trans e7).trans e8 |>.1;have B:∀b∈dU ps,b<U.size:=λb d=>(h.fb b d).2;have hS9:∀{a b s'},gN v8 a b c s'->¬(Cut F U a/\a≠p/\a∉dU ps)->¬(Cut F U b/\b≠p/\b∉dU ps)->a≠p->b≠p->gN X a b c s':=λhS n1 n2 m1 m2=>(hS.bS e9 n1 n2).bS gG.ext m1 m2;have hnew:=((Q.bO ev).bO e7).bO e8;have aa:dM (ps.take (Y7 ss st)++(A,K)::ps.drop (Y7 ss st)) (ss.take (Y7 ss st)++⟨st,List.replicate c.n false⟩::ss.drop (Y7 ss st)) =
   (dM ps ss).take (3*Y7 ss st)++[.int .i64 0,.int .i64 st,.pointer (some ⟨A,0,none⟩)]++(dM ps ss).drop (3*Y7 ss st):=by
   rw[KC (by simp[H])];have w:dM ps ss=dM (ps.take (Y7 ss st)) (ss.take (Y7 ss st))++dM (ps.drop (Y7 ss st)) (ss.drop (Y7 ss st)):=by
    rw[←KC (by simp[H]),mY,mY]
   have h2:(dM (ps.take (Y7 ss st)) (ss.take (Y7 ss st))).length=3*Y7 ss st:=by rw[QI (by simp[H]),zZ];omega
   rw[w,wu h2,List.drop_left' h2,jW];have:cF.many ⟨st,List.replicate c.n false⟩=0:=by simp[cF.many,wq]
   simp[dM,this]
  refine h0 hE0 X (ps.take (Y7 ss st)++(A,K)::ps.drop (Y7 ss st)) ?_ ?_
  ·refine(((bK.to J).trans (e9.sub λb d=>d.1.1))).trans (gG.ext.sub λb d=>d▸h.fp.1)
  ·have D:(dU (ps.take (Y7 ss st)++(A,K)::ps.drop (Y7 ss st))).Perm (A::K::dU ps):=by
    have:dU ps=dU (ps.take (Y7 ss st))++dU (ps.drop (Y7 ss st)):=by
     conv=>lhs;rw[←mY (Y7 ss st) ps]
     simp only[dU,List.flatMap_append]
    rw[this];have h3:dU (ps.take (Y7 ss st)++(A,K)::ps.drop (Y7 ss st))=dU (ps.take (Y7 ss st))++A::K::dU (ps.drop (Y7 ss st)):=by simp[dU]
    rw[h3];exact List.perm_middle.trans ((List.perm_middle).cons A)
   have P:∀b,b∈dU (ps.take (Y7 ss st)++(A,K)::ps.drop (Y7 ss st))↔b=A\/b=K\/b∈dU ps:=by
    intro b;rw[D.mem_iff];simp
   refine⟨⟨s',hb10,?_⟩,λi x s z g=>?_,.inl h.fp.1,λb d=>?_,?_,?_,hc,?_⟩
   ·rw[GH,aa];refine aI.bS (aI.mono hr9 λb _ d=>?_) gG.ext λb _ d he=>d.2.1 he;rw[P];rcases d with d|d
    ·exact⟨.inl d.1.1,d.2.1,λr=>by
      rcases r with h|h|h
      ·have:=d.1.2;omega
      ·have:=d.1.2;omega
      ·exact d.2.2 h⟩
    ·exact⟨.inr O,O,λr=>by
      rcases r with h|h|h
      ·omega
      ·omega
      ·have:=B b h;omega⟩
   ·rw[GH]at g;have L:(ps.take (Y7 ss st)).length=Y7 ss st:=by rw[zZ];omega
    have M:(ss.take (Y7 ss st)).length=Y7 ss st:=by rw[zZ];omega
    have ac:∀j:Nat,ps[j]?=some x->ss[j]?=some s->gN X x.1 x.2 c s:=λj w h2=>by
     have G:=Qa w;exact hS9 ((h.sp j x s w h2).bO J) (λr=>r.2.2 G.1) (λr=>r.2.2 G.2) (λe=>C.1 (e▸G.1)) (λe=>C.1 (e▸G.2))
    rcases oF i (Y7 ss st)with hlt'|heq|hgt
    ·rw[zg O,zj,zC hlt']at z g;exact ac i z g
    ·rw[zn O]at z g;rw[L,heq,pT]at z;rw[M,heq,pT]at g;simp at z g;subst z;subst g;exact hS9 hnew (λr=>by have:=r.1.2;simp only at this;omega) (λr=>by have:=r.1.2;simp only at this;omega) aC aC
    ·rw[zn O]at z g;rw[L]at z;rw[M]at g;obtain⟨k,hk⟩:∃k,i-Y7 ss st=k+1:=⟨i-Y7 ss st-1,O⟩;rw[hk,xV,kj]at z g;exact ac _ z g
   ·rcases(P b).1 d with w|w|w
    ·subst w;exact .inr hpn
    ·subst w;exact .inr hqn
    ·exact .inl (h.fb b w).1
   ·simp only[zt];refine⟨λG=>?_,?_⟩
    ·rcases(P p).1 G with w|w|w
     ·omega
     ·omega
     ·exact C.1 w
    ·rw[D.nodup_iff];simp only[zt,zX,not_or];have V:=Q.ne;exact⟨⟨V,λG=>by have:=B _ G;omega⟩,λG=>by have:=B _ G;omega,C.2⟩
   ·rw[GH];simp[H]
   ·rw[GH];rw[oE];have W:=h.pf;refine⟨W.sublist (yB _ _),qd.2 ⟨λs g=>?_,W.sublist (List.drop_sublist _ _)⟩,λa ha b d=>?_⟩
    ·obtain⟨j,y⟩:=zO g;rw[kj]at y;have w:=kc _ s y;have h2:s.st≠st:=λe=>by
      have:=N (Y7 ss st+j) s (cX.1 y).1 y;rw[e]at this;simp at this;omega
     show st<s.st;omega
    ·obtain⟨i,Z⟩:=zO ha;rw[zj]at Z;split at Z
     ·rename_i hlt';have hat:=(kc i a Z).2 hlt';rcases zX.1 d with rfl|d
      ·exact hat
      ·obtain⟨j,y⟩:=zO d;rw[kj]at y;obtain⟨hi1,hi2⟩:=cX.1 Z;obtain⟨hj1,hj2⟩:=cX.1 y;have:=lu.1 W i (Y7 ss st+j) hi1 hj1 O;rw[hi2,hj2]at this;exact this
     ·cases Z
end Go.Ar
namespace Go.Proofs
open Go.Vc
set_option maxRecDepth 100000
def Xf.h:Hn:=.q .o1 (.q (.cS (.seq [.op,.op,.op,.cO true 5 (RI.ops 5),.op])) .l)
def Xf.v (a:R2)(b:Hp)(c:aO):Prop:=bR (λd e=>c d e) λf=>If (!a.isNone) (bD a 0 b λh=>f (decide (h>0)) b) (f false b)
theorem Xf.o {a b c}(d:Xf.v a b c):Xf.c a b c:=Wa Tryz.func180 (x:=Xf.h) (R0 d)
def ZG.h:Hn:=.q .o2 (.q (.q (.cS (.seq [.op,.op,.op,.cO false 2 [.op,.op],.op,.cO false 2 [.op,.op],.op,.cO false 2 [.op,.op]])) .aJ) (.q .o6 .l))
def ZG.v (a b:Int)(c:Hp)(d:Option Addr->Int->Hp->Prop):Prop:=bR (λe f=>bR (λg h=>bR (λi j=>If i (d none 1 j) (aV #[.I a,.I b,.I 0,.slice none 0 0] 266 j λk l=>d (some k) 0 l)) λm=>If g (m true h) (m (decide (b>8)) h)) λn=>If e (n true f) (n (decide (b<0)) f)) λo=>If (a<1) (o true c) (o (decide (a>32)) c)
theorem ZG.o {a b c d}(e:ZG.v a b c d):ZG.c a b c d:=Wa Tryz.func200 (x:=ZG.h) (R0 e)
def WA.h:Hn:=.q .o2 (.q (.k (.q .o4 (.c .aL (.q .o7 .aJ)))) (.q .o7 (.q .o8 (.q .gG (.q .gG (.q .o3 .l))))))
def WA.v (a:R2)(b:Hp)(c:Sl->Int->Hp->Prop):Prop:=Xf.c a b λd e=>If (!d) (c ⟨none,0,0⟩ 5 e) (bE a 3 e λg=>If (((g.len:Nat):Int)==0) (c ⟨none,0,0⟩ 4 e) (bE a 3 e λi=>bL (((i.len:Nat):Int)-1) λj=>bE a 3 e λl=>Ix l.a l.len j 1 λm=>ja m e λn=>bE a 3 e λp=>eY p 1 0 j (p.cap:Nat) λq=>bT a λr=>aR r 3 (.slice q.a q.len q.cap) e λs=>bD a 2 s λu=>bT a λv=>aR v 2 (.I (if j<u then j else u)) s λw=>c n 0 w))
theorem WA.o {a b c}(d:WA.v a b c):WA.c a b c:=Wa Tryz.func207 (x:=WA.h) (R0 d)
def WY.h:Hn:=.q .o2 (.q (.k (.q .o4 (.c .aL (.q .o8 (.c .aL (.q (.oq 11) .aJ)))))) (.q (.cS (.held true [8,11] (.tk [0,1,2,3,4,5] (.all [(6,.all [(7,.all [(8,.take 9 (.take 10 (.all [(11,.done)])))])])])))) .aL))
def WY.v (a:R2)(b:Sl)(c:Hp)(d:Bool->Int->Hp->Prop):Prop:=Xf.c a c λe f=>If (!e) (d false 5 f) (bD a 0 f λh=>If (((b.len:Nat):Int) != h) (d false 1 f) (bE a 3 f λj=>bD a 1 f λl=>If (((j.len:Nat):Int)≥l) (d false 0 f) (eN f λm=>bT a λn=>aT m n 3 λo=>WD.c b f λp q=>And (m q) <| aV #[.slice p.a p.len p.cap] 34 q λr s=>And (m s) <| App o 1 24 34 [.slice none 0 0] ⟨some r,1,1⟩ s λt u=>bT a λv=>aR v 3 (.slice t.a t.len t.cap) u λw=>d true 0 w)))
theorem WY.o {a b c d}(e:WY.v a b c d):WY.c a b c d:=Wa Tryz.func266 (x:=WY.h) (R0 e)
end Go.Proofs
namespace Go.Ar
open Go Go.Vc Go.Proofs
variable {U:Hp}{F:Rg}{p batch room:Nat}{t:fX}
def ox (s:Sl):Value:=.slice s.a s.len s.cap
def Wx (xs:List Int):List Value:=xs.map (Value.int .i64)
theorem Ve {l:List Int}:∀v∈Wx l,dV v=true:=by
 intro v hv;simp only[Wx,zF]at hv;obtain⟨x,_,rfl⟩:=hv;rfl
def pG (sls:List Sl)(bs:List (List Int))(U:Hp)(D:Rg):Prop:=sls.length=bs.length/\∀(i:Nat) s xs,sls[i]?=some s->bs[i]?=some xs->cT s 1 (Wx xs) U D/\s.len<=s.cap
theorem pG.loc (sls:List Sl)(bs:List (List Int)):dK (pG sls bs):=λU j F G h g e=>⟨h.1,λi s b d a=>⟨cT.loc _ _ _ _ _ _ _ (h.2 i s b d a).1 g e,(h.2 i s b d a).2⟩⟩
def Dj (sls:List Sl):Prop:=sls.Pairwise λs t=>∀a a',s.a=some a->t.a=some a'->a.block≠a'.block
def j9 (s:Sl)(b:Nat):Prop:=∃a,s.a=some a/\a.block=b
theorem _root_.Go.Vc.cT.lh {s:Sl}{sz:Nat}{xs:List Value}{D:Rg}(h:cT s sz xs U D):cT s sz xs U λb=>D b/\j9 s b:=
 ⟨h.1,h.2.imp id λ⟨b,o,e,d,a,r⟩=>⟨b,o,e,⟨d,_,a,rfl⟩,a,r⟩⟩
theorem _root_.Go.Vc.cT.bU {s:Sl}{sz:Nat}{xs:List Value}{D:Rg}(h:cT s sz xs U D)(hx:xs≠[]){b:Nat}(hb:j9 s b):D b/\b<U.size:=by
 rcases h.2 with h0|⟨b',o,cs,hq,ha,hc,_⟩
 ·exact absurd h0 hx
 ·obtain⟨a,d,rfl⟩:=hb;rw[ha]at d;cases d;exact⟨hq,hc.lt⟩
theorem Dj.snoc {sls:List Sl}{bs:List (List Int)}{D:Rg}{z:Nat}{s':Sl}{xs:List Value}{v:Hp}(h:Dj sls)(hB:pG sls bs U D)(hne:∀xs∈bs,xs≠[])(hz:∀b,D b->b<z)(hs:bW s' 1 xs v λb=>z<=b)(hx:xs≠[]):Dj (sls++[s']):=by
 refine oE.2 ⟨h,List.pairwise_singleton _ _,λs g u j a x w r=>?_⟩;rw[zR]at j;subst j;obtain⟨i,m⟩:=zO g;have e:=(cX.1 m).1;have d:bs[i]?=some (bs[i]'(by rw[←hB.1];exact e)):=cW _;have p:=((hB.2 i s _ m d).1.bU (by simp only[Wx,ne_eq,wR];exact hne _ (zG d)) ⟨a,w,rfl⟩).1;have y:=(hs.ig.bU hx ⟨x,r,rfl⟩).1;have:=hz _ p;omega
structure jb (U:Hp) (F:Rg) (p batch room:Nat) (t:fX):Prop where
 mem:∃(sl:Sl) (sls:List Sl) (D:Rg),bX U p [.int .i64 (batch:Int),.int .i64 (room:Int),.int .i64 (t.low:Int),.slice sl.a sl.len sl.cap]/\bW sl 1 (sls.map ox) U (λb=>F b/\b≠p/\¬D b)/\pG sls t.bs U D/\(∀b,D b->F b/\b≠p)/\Dj sls
 fp:F p
 b1:1<=batch/\batch<=32
 r1:room<=8
 oy:t.bs.length<=room
 low:t.low<=t.bs.length
 all:∀xs∈t.bs,xs.length=batch
theorem jb.loc:dK λU F=>jb U F p batch room t:=λU x F G h r d=>by
 obtain⟨sl,i,D,a,w,s,j,u⟩:=h.mem;refine⟨⟨sl,i,λb=>D b/\b<U.size,?_,?_,?_,λb a=>⟨(d b a.2 (j b a.1).1).1,(j b a.1).2⟩,u⟩,(d p a.lt h.fp).1,h.b1,h.r1,h.oy,h.low,h.all⟩
 ·obtain⟨e,m⟩:=a;exact⟨e,(d p (bX.lt ⟨e,m⟩) h.fp).2.trans m⟩
 ·exact bW.loc _ _ _ _ _ _ _ w r λb a g=>⟨⟨(d b a g.1).1,g.2.1,λhd=>g.2.2 hd.1⟩,(d b a g.1).2⟩
 ·exact pG.loc _ _ _ _ _ _ s r λb a hd=>⟨⟨hd,a⟩,(d b a (j b hd).1).2⟩
theorem xN (h:jb U F p batch room t){R:aO}(hR:R true U):Xf.c (aW p) U R:=by
 refine Xf.o ?_;unfold Xf.v;obtain⟨sl,a,D,b,_⟩:=h.mem;have:=h.b1;refine bR.intro (cB rfl (aG (b.rI rfl ?_)));rw[zK O];exact hR
theorem _root_.Go.Vc.cT.Ms {s:Sl}{F:Rg}{sls:List Sl}(h:cT s 1 (sls.map ox) U F){i:Nat}{x:Sl}(hx:sls[i]?=some x){K:Sl->Prop}(hK:K x):Ix s.a s.len (i:Int) 1 λa=>ja a U K:=by
 have m:=(cX.1 hx).1;obtain⟨b,o,g,e⟩:=h.cell (j:=i) (v:=ox x) (by simp[hx]);have d:=h.1;rw[zl]at d;rw[g];refine ix O O ?_;rw[add_lit];exact m4 (by simpa[ox]using e) hK
theorem FJ (h1:1<=batch)(h2:batch<=32)(h3:room<=8){R:Option Addr->Int->Hp->Prop}(hR:∀σ' p,bK U σ'->U.size<=p->p<σ'.size->jb σ' (· = p) p batch room ⟨0,[]⟩->R (some ⟨p,0,none⟩) 0 σ'):ZG.c batch room U R:=by
 refine ZG.o ?_;unfold ZG.v;refine bR.intro (fM O (bR.intro (fM O (bR.intro (fM O (fM O ?_))))));refine nw (cs:=[.int .i64 batch,.int .i64 room,.int .i64 0,.slice none 0 0]) λv g e a=>?_;exact hR v _ e (zD _) O ⟨⟨⟨none,0,0⟩,[],λ_=>False,a,bW.nil _ _ _ _,⟨rfl,λi s d h=>by simp at h⟩,λb h=>h.elim,List.Pairwise.nil⟩,rfl,⟨h1,h2⟩,h3,by simp,by simp,by simp⟩
theorem EY (h:jb U F p batch room t){sl:Sl}{xs:List Int}{X:Rg}(hs:cT sl 1 (Wx xs) U X)(hl:xs.length<=1000000){R:Bool->Int->Hp->Prop}(h1:xs.length≠batch->R false 1 U)(h2:xs.length=batch->room<=t.bs.length->R false 0 U)
 (h3:xs.length=batch->t.bs.length<room->∀σ',Ext F U σ'->jb σ' (Grow F U) p batch room {t with bs:=t.bs++[xs]}->R true 0 σ'):WY.c (aW p) sl U R:=by
 refine WY.o ?_;unfold WY.v;have h:=jb.loc.cut h;obtain⟨C,w,D,d,hr,A,K,hJ⟩:=h.mem;have r:sl.len=xs.length:=by have:=hs.1;simp[Wx]at this;omega
 have hso:C.len=t.bs.length:=by have:=hr.1;rw[zl,A.1]at this;omega
 have hr8:=h.r1;have hb1:=h.b1;refine xN h (cE rfl (aG (d.rI rfl ?_)));rw[pc];refine cY (λx=>h1 (by rw[←r];simpa using x)) λaa=>?_;have g:xs.length=batch:=by rw[←r];simpa using aa
 refine aG (d.rS rfl (aG (d.rI rfl (cR (λW=>h2 g (by simp only at W;omega)) λM=>?_))));simp only at M;refine⟨λh'=>bX h' p [.int .i64 (batch:Int),.int .i64 (room:Int),.int .i64 (t.low:Int),.slice C.a C.len C.cap],d,aG ⟨C,λh' Q=>by rw[add_lit,Q.cell];rfl,?_⟩⟩;refine UH hs Ve O λB v1 hl1 e1 y=>⟨e1.bU d id,?_⟩;refine nw (cs:=[.slice B.a B.len B.cap]) λv2 hz2 e2 S=>⟨(e1.trans e2).bU d id,?_⟩;have P:=aI.bO (aI.bO hr e1) e2;refine P.app (ys:=[ox B]) rfl rfl ?_ (by simp[dV,ox]) ?_ ?_ mI λs2 v3 hl3 Y L=>aG ?_
 ·intro j u hu;rw[add_lit,zH,S.cell];exact hu
 ·simp only;have:(C.len+1)*24<=9*24:=lp O O;omega
 ·simp only;omega
 ·have V:=Y.bU ((e1.trans e2).bU d id) λH=>H.2.1 rfl;have hplt:=d.lt;have hs1:=e1.1;refine V.s1 aA λv4 o4 N=>h3 g O v4 ?_ ?_
  ·exact((bK.to (e1.trans e2)).trans (Y.sub λb d=>d.1.1)).trans (o4.ext.sub λb d=>d▸h.fp.1)
  ·refine⟨⟨s2,w++[B],λb=>D b/\b<U.size\/U.size<=b/\b<v1.size,N,?_,⟨by simp[A.1],λi s ys z m=>?_⟩,λb d=>?_,?_⟩,.inl h.fp.1,h.b1,h.r1,by simp;omega,by have:=h.low;simp;omega,λys m=>?_⟩
   ·rw[lI];refine aI.bS (aI.mono L λb _ d=>?_) o4.ext λb _ d Z=>d.2.1 Z;rcases d with d|d
    ·exact⟨.inl d.1.1,d.2.1,λhd=>by
      rcases hd with hd|hd
      ·exact d.2.2 hd.1
      ·have:=d.1.2;omega⟩
    ·exact⟨.inr O,O,λhd=>by rcases hd with hd|hd<;>omega⟩
   ·have mv:∀{s:Sl} {ys:List Int} {G:Rg},cT s 1 (Wx ys) v2 G->(∀b,G b->b≠p/\¬(Cut F U b/\b≠p/\¬D b))->cT s 1 (Wx ys) v4 G:=λQ hn=>
     aH.bS (aH.bS Q Y λb _ d=>(hn b d).2) o4.ext λb _ d Z=>(hn b d).1 Z
    rcases jX i w.length with hi'|hi'
    ·rw[zg hi']at z;rw[zg (by rw[←A.1];exact hi')]at m;obtain⟨k1,k2⟩:=A.2 i s ys z m;refine⟨aH.mono (mv (aH.bO (aH.bO (aH.mono k1 (G:=λb=>D b/\b<U.size) λb d hd=>⟨hd,d⟩) e1) e2) λb hd=>⟨(K b hd.1).2,λH=>H.2.2 hd.1⟩) λb _ hd=>.inl hd,k2⟩
    ·rw[zn hi']at z;rw[zn (by rw[←A.1];exact hi')]at m;have J:i-w.length=0:=by
      have:=(cX.1 z).1;simp at this;omega
     rw[J]at z;rw[show i-t.bs.length=0 by rw[←A.1];exact J]at m;simp at z m;subst z;subst m;have E:B.len<=B.cap:=by
      rcases y.2 with⟨q1,q2⟩|⟨_,_,_,_,_,q,_⟩
      ·omega
      ·exact q
     refine⟨aH.mono (mv (aH.bO (aH.mono y.ig (G:=λb=>U.size<=b/\b<v1.size) λb d hd=>⟨hd,d⟩) e2) λb hd=>⟨O,λH=>by have:=H.1.2;omega⟩) λb _ hd=>.inr hd,E⟩
   ·rcases d with hd|hd
    ·exact⟨.inl (K b hd.1).1.1,(K b hd.1).2⟩
    ·exact⟨.inr hd.1,O⟩
   ·have x:∀ys∈t.bs,ys≠[]:=λys m e=>by have:=jb.all ‹_› ys m;rw[e]at this;simp at this;omega
    exact hJ.snoc A x (λb hd=>(K b hd).1.2) y (by simp only[Wx,ne_eq,wR];intro e;rw[e]at g;simp at g;omega)
   ·rcases zL.1 m with h|h
    ·exact jb.all ‹_› ys h
    ·simp at h;subst h;exact g
theorem NQ (h:jb U F p batch room t)(h0:t.bs=[]){R:Sl->Int->Hp->Prop}(hR:R ⟨none,0,0⟩ 4 U):WA.c (aW p) U R:=by
 refine WA.o ?_;unfold WA.v;obtain⟨i,d,D,e,g,b,m,j⟩:=h.mem;have a:i.len=t.bs.length:=by have:=g.1;rw[zl,b.1]at this;omega
 refine xN h (cE rfl (aG (e.rS rfl (cB ?_ hR))));simp[a,h0]
theorem FT (h:jb U F p batch room t)(h0:t.bs≠[]){R:Sl->Int->Hp->Prop}(hR:∀out σ',Ext F U σ'->(∀b,j9 out b->F b)->cT out 1 (Wx (t.bs.getLast?.getD [])) σ' (j9 out)->out.len<=out.cap->jb σ' (λb=>F b/\¬j9 out b) p batch room t.rem->R out 0 σ'):WA.c (aW p) U R:=by
 refine WA.o ?_;unfold WA.v;obtain⟨V,g,D,d,H,z,B,hJ⟩:=h.mem;have hso:V.len=t.bs.length:=by have:=H.1;rw[zl,z.1]at this;omega
 have Y:=pn.2 h0;have hr8:=h.r1;have hfw:=h.oy;have Z:=h.low;have Q:t.bs.length-1<g.length:=by rw[z.1];omega
 obtain⟨o,L⟩:∃o,g[t.bs.length-1]?=some o:=⟨_,cW Q⟩;have j:t.bs[t.bs.length-1]?=some (t.bs.getLast?.getD []):=by
  rw[List.getLast?_eq_getElem?,cW O];rfl
 obtain⟨W,k2⟩:=z.2 _ o _ L j;refine xN h (cE rfl (aG (d.rS rfl (cE ?_ ?_))))
 ·simp only[lM];omega
 refine aG (d.rS rfl (cQ (m:=t.bs.length-1) aC O (aG (d.rS rfl ?_))));refine H.ig.Ms L (aG (d.rS rfl ?_));have X:V.len<=V.cap:=by
  rcases H.2 with⟨q1,q2⟩|⟨_,_,_,_,_,q,_⟩
  ·omega
  ·exact q
 refine jf (lo:=0) O aD aD (aG (d.s1 aA λv1 o1 C=>aG (C.rI rfl (aG ?_))))
 refine C.s1 aA λv2 o2 r=>?_;have u:Ext (· = p) U v2:=o1.ext.trans o2.ext;have E:(if((t.bs.length-1:Nat):Int)<(t.low:Int)then((t.bs.length-1:Nat):Int)else(t.low:Int))=((min t.low (t.bs.length-1):Nat):Int):=by split<;>omega
 rw[E]at r;have K:∀A∈t.bs,A≠[]:=λA w e=>by have h1:=h.all A w;have h2:=h.b1;rw[e]at h1;simp at h1;omega
 have x:∀b,j9 o b->D b:=λb d=>(W.bU (by simp only[Wx,ne_eq,wR];exact K _ (zG j)) d).1;refine hR o v2 (u.sub λb d=>d▸h.fp) (λb d=>(B b (x b d)).1) (aH.mono (aH.bS W u λb _ d G=>(B b d).2 G).lh λb _ hd=>hd.2) k2 ⟨⟨_,g.dropLast,λb=>D b/\¬j9 o b,r,?_,⟨by simp[z.1,fX.rem],λi s A J w=>?_⟩,λb hd=>⟨⟨(B b hd.1).1,hd.2⟩,(B b hd.1).2⟩,List.Pairwise.sublist (List.dropLast_sublist _) hJ⟩,⟨h.fp,λd=>(B p (x p d)).2 rfl⟩,h.b1,h.r1,by simp[fX.rem];omega,by simp[fX.rem];omega,λA w=>h.all A (List.dropLast_subset _ w)⟩
 ·refine aI.bS ?_ u λb _ d G=>d.2.1 G;refine⟨by simp[z.1],?_⟩;rcases H.2 with⟨q1,q2⟩|⟨b,cs,hq,M,hbb,hle,hcl,ht⟩
  ·omega
  ·refine .inr ⟨b,cs,⟨⟨hq.1,λd=>hq.2.2 (x b d)⟩,hq.2.1,λhd=>hq.2.2 hd.1⟩,?_,hbb,by simp only;omega,by simp only;omega,?_⟩
   ·simp only[M];split<;>simp[add_lit]
   ·simp only[zl]at ht ⊢;have hd:g.dropLast.map ox=(g.map ox).take (g.length-1):=by rw[wT,List.map_take]
    rw[hd,←ht,vQ,xl]
    congr 1;omega
 ·have y:i<t.bs.length-1:=by
   have:=(cX.1 w).1;simpa[fX.rem]using this
  rw[wT,zj]at J;simp only[fX.rem,wT,zj]at w;rw[zC (by rw[z.1];exact y)]at J;rw[zC y]at w;obtain⟨m1,m2⟩:=z.2 i s A J w;refine⟨aH.mono (aH.bS m1 u λb _ d G=>(B b d).2 G).lh λb _ d=>⟨d.1,λr=>?_⟩,m2⟩;obtain⟨a,M,e1⟩:=d.2;obtain⟨a',N,e2⟩:=r;obtain⟨P,rfl⟩:=cX.1 J;obtain⟨S,rfl⟩:=cX.1 L;exact lu.1 hJ i _ P S y a a' M N (e1.trans e2.symm)
def ur (out:Sl)(bs:List (List Int))(U:Hp)(G:Rg):Prop:=∃sls:List Sl,cT out 1 (sls.map ox) U G/\pG sls bs U G
theorem ur.loc (out:Sl)(bs:List (List Int)):dK (ur out bs):=λU i F G ⟨a,g,e⟩ d b=>⟨a,cT.loc _ _ _ _ _ _ _ g d b,pG.loc _ _ _ _ _ _ e d b⟩
end Go.Ar
namespace Go.Ar
open Go Go.Vc Go.Proofs
open Go.Bu (Y4)
variable {U:Hp}{F:Rg}{p:Nat}{ow:Nat->Nat}
def sI (ow:Nat->Nat)(x:Nat)(l:List (Nat×Nat×Nat)):Prop:=
 l.length<=x/\(∀r∈l,1<=r.2.1/\r.1+r.2.1<=x/\∀y,r.1<=y->y<r.1+r.2.1->ow y=r.2.2)/\∀y,y<x->ow y≠0->∃r∈l,r.1<=y/\y<r.1+r.2.1
theorem sI.new {x:Nat}{l:List (Nat×Nat×Nat)}(h:sI ow x l):sI ow (x+1) (l++[(x,1,ow x)]):=by
 refine⟨by simp;exact h.1,λr d=>?_,λy g e=>?_⟩
 ·rcases zL.1 d with a|a
  ·exact⟨(h.2.1 r a).1,by have:=(h.2.1 r a).2.1;omega,(h.2.1 r a).2.2⟩
  ·simp at a;subst a;exact⟨zD _,zD _,λy a b=>by simp only at a b ⊢;rw[show y=x by omega]⟩
 ·rcases jX y x with a|a
  ·obtain⟨r,d,b⟩:=h.2.2 y a e;exact⟨r,kv _ d,b⟩
  ·exact⟨(x,1,ow x),by simp,by simp only;omega⟩
theorem sI.more {x a m no:Nat}{l:List (Nat×Nat×Nat)}(h:sI ow x (l++[(a,m,no)]))(he:a+m=x)(hno:ow x=no):sI ow (x+1) (l++[(a,m+1,no)]):=by
 refine⟨by have:=h.1;simp at this ⊢;omega,λr e=>?_,λy i g=>?_⟩
 ·rcases zL.1 e with b|b
  ·have:=h.2.1 r (kv _ b);exact⟨this.1,O,this.2.2⟩
  ·simp at b;subst b;have:=h.2.1 (a,m,no) aA;refine⟨by simp only;omega,by simp only;omega,λy b d=>?_⟩;simp only at b d ⊢;rcases jX y (a+m)with h3|h3
   ·exact this.2.2 y b h3
   ·rw[show y=x by omega];exact hno
 ·rcases jX y x with b|b
  ·obtain⟨r,e,d⟩:=h.2.2 y b g;rcases zL.1 e with h3|h3
   ·exact⟨r,kv _ h3,d⟩
   ·simp at h3;subst h3;exact⟨(a,m+1,no),by simp,by simp only at d ⊢;omega⟩
  ·exact⟨(a,m+1,no),by simp,by simp only;have:=h.2.1 (a,m,no) aA;simp only at this;omega⟩
end Go.Ar
namespace Go.Proofs
open Go.Vc
set_option maxRecDepth 100000
def X9.h:Hn:=.q .o1 (.q (.q .o4 (.q .o2 .aJ)) (.q .o5 .aM))
def X9.v (a:R2)(b c:Int)(d:Hp)(e:aN):Prop:=Xp.c a b 1 d λf g=>If (f != 0) (e f g) (Nz 8<|bL (b.tdiv 8) λh=>YJ.c a h c g λi=>e 0 i)
theorem X9.o {a b c d e}(f:X9.v a b c d e):X9.c a b c d e:=Wa Tryz.func62 (x:=X9.h) (R0 f)
def Yw.h:Hn:=.q .o2 (.q (.q .o4 (.q .o2 (.c (.q .o3 .l) .l))) (.q .o6 .l))
def Yw.v (a:R2)(b:Int)(c:Hp)(d:Int->Int->Hp->Prop):Prop:=Xp.c a b 1 c λe f=>If (e != 0) (d 0 e f) (Nz 8<|bL (b.tdiv 8) λg=>YM.c a g f λh i=>d h 0 i)
theorem Yw.o {a b c d}(e:Yw.v a b c d):Yw.c a b c d:=Wa Tryz.func83 (x:=Yw.h) (R0 e)
def Xp.h:Hn:=.q .o1 (.q (.k (.q .o4 (.c .aM (.q .o3 (.c .aM (.q (.cS (.seq [.op,.op,.op,.cO false 3 (RI.ops 3),.op])) .aK)))))) (.q .gG (.q (.q (.cS (.gQ true [] [(50,.one .b)] (.tk [0,1,2,3,4,5,6,7] (.split 39 (.tk [8,9,10,11,12,13,14,15,16,17,18] (.done)) (.tk [8,9,10,11,12,13,14,15,16] (.all [(17,.take 18 (.done))])))))) .aK) .aM)))
def Xp.v (a:R2)(b c:Int)(d:Hp)(e:aN):Prop:=Xt.c a d λf g=>If (!f) (e 5 g) (If (c==0) (e 0 g) (bR (λh i=>If h (e 7 i) (Nz 256<|bL (b.tdiv 256) λj=>Nz 8<|bL (b.tdiv 8) λk=>bL (k+c) λl=>bL (l-1) λm=>Nz 32<|bL (m.tdiv 32) λn=>Jn [.b] (λ(o:Bool) p=>If o (e 7 p) (e 0 p)) λq=>eN i λr=>bT a λs=>aT r s 0 λt=>If (n≥((t.len:Nat):Int)) (q true i) (bT a λu=>aT r u 0 λv=>bL (n+1) λw=>eY v 2 j w (v.cap:Nat) λx=>fV r .b ((Addr.mk 0 0 none).add 0) λ(y:Bool)=>fV r .b ((Addr.mk 0 0 none).add 1) λ(z:Bool)=>Wj.c x y z i λaa ab=>And (r ab) <| q aa ab))) λac=>If (b<0) (ac true g) (Nz 8 <| ac ((b.tmod 8) != 0) g)))
theorem Xp.o {a b c d e}(f:Xp.v a b c d e):Xp.c a b c d e:=Wa Tryz.func88 (x:=Xp.h) (R0 f)
def YJ.h:Hn:=.q .o3 (.jT [] (.q (.oq 9) (.c (.q (.cS (.tail 7 (RI.ops 7) [.op])) (.q (.cS (.held true [6] (.tk [0,1,2,3,4] (.all [(5,.all [(6,.done)])])))) (.cS (.tail 13 (RI.ops 13) [.op])))) .l)) (.o 11))
def YJ.v (a:R2)(b c:Int)(d:Hp)(e:aP):Prop:=Nz 32<|bL (b.tdiv 32) λf=>Jn [] (λg=>bI a 1 g λi=>Lk .i64 .s i f g λj=>Nz 32 <| Ix (j.getD ⟨none,0,0⟩).a (j.getD ⟨none,0,0⟩).len (b.tmod 32) 1 λk=>eP k (.I c) g λl=>e l) λm=>bE a 0 d λo=>Ix o.a o.len f 2 λp=>aZ p 0 d λq=>aZ p 1 d λr=>kR ((Addr.mk 1 0 none).add 0) d λs=>kR ((Addr.mk 1 0 none).add 1) d λt=>If (!((q==s)&&((r==t)&&true))) (bE a 0 d λv=>kR ((Addr.mk 1 0 none).add 0) d λw=>kR ((Addr.mk 1 0 none).add 1) d λx=>Ix v.a v.len f 2 λy=>aR y 0 (.bool w) d λz=>aR y 1 (.bool x) z λaa=>eN aa λab=>bT a λac=>fV ab .m (ac.add 1) λ(ad:Option Nat)=>Mk 32 32 8 3 [.I 0] aa λae af=>And (ab af) <| j2 .i64 .s ad f ae af λag=>bD a 2 ag λai=>bI a 1 ag λak=>pa .i64 .s ak ag λal=>bT a λam=>aR am 2 (.I (if al>ai then al else ai)) ag λan=>m an) (m d)
theorem YJ.o {a b c d e}(f:YJ.v a b c d e):YJ.c a b c d e:=Wa Tryz.func89 (x:=YJ.h) (R0 f)
def Xx.h:Hn:=.q .o1 (.q (.q .o3 .aK) (.q .o6 .l))
def Xx.v (a:R2)(b:Hp)(c:aN):Prop:=Xt.c a b λd e=>If (!d) (c 0 e) (bE a 0 e λg=>c ((g.len:Nat):Int) e)
theorem Xx.o {a b c}(d:Xx.v a b c):Xx.c a b c:=Wa Tryz.func108 (x:=Xx.h) (R0 d)
def Xt.h:Hn:=.q .o1 (.q (.cS (.seq [.op,.op,.op,.cO true 6 (RI.ops 6),.op])) .l)
def Xt.v (a:R2)(b:Hp)(c:aO):Prop:=bR (λd e=>c d e) λf=>If (!a.isNone) (bE a 0 b λh=>f (decide (((h.len:Nat):Int)>0)) b) (f false b)
theorem Xt.o {a b c}(d:Xt.v a b c):Xt.c a b c:=Wa Tryz.func109 (x:=Xt.h) (R0 d)
def YM.h:Hn:=.q .o1 (.q (.q (.o 12) (.q .o1 (.c (.q .o6 .l) .l))) .aM)
def YM.v (a:R2)(b:Int)(c:Hp)(d:aN):Prop:=bI a 1 c λf=>Nz 32<|bL (b.tdiv 32) λg=>Lk .i64 .s f g c λh=>If h.isSome (Nz 32 <| Ix (h.getD ⟨none,0,0⟩).a (h.getD ⟨none,0,0⟩).len (b.tmod 32) 1 λi=>bM i c λj=>d j c) (d 0 c)
theorem YM.o {a b c d}(e:YM.v a b c d):YM.c a b c d:=Wa Tryz.func117 (x:=YM.h) (R0 e)
def QE.h:Hn:=.q .o2 (.q (.q (.cS (.seq [.op,.op,.op,.cO false 2 [.op,.op]])) .aJ) (.q .o7 .l))
def QE.v (a:Int)(b:Hp)(c:Option Addr->Int->Hp->Prop):Prop:=bR (λd e=>If d (c none 1 e) (Mk a a 2 161 [.bool false,.bool false] e λf g=>Nw (.map #[] 0) g λh i=>aV #[.slice f.a f.len f.cap,.map (some h.block),.I 0] 165 i λj k=>c (some j) 0 k)) λl=>If (a<1) (l true b) (l (decide (a>1024)) b)
theorem QE.o {a b c}(d:QE.v a b c):QE.c a b c:=Wa Tryz.func142 (x:=QE.h) (R0 d)
def YN.h:Hn:=.q .o2 (.q (.k (.q .o4 (.c .aL (.q (.cS (.seq [.op,.op,.op,.cO false 2 [.op,.op],.op,.cO false 7 (RI.ops 7),.op,.cO false 9 (RI.ops 9),.op])) .aJ)))) (.q (.o 11) .l))
def YN.v (a:R2)(b c:Int)(d:Hp)(e:Sl->Int->Hp->Prop):Prop:=Xt.c a d λf g=>If (!f) (e ⟨none,0,0⟩ 5 g) (bR (λh i=>bR (λj k=>bR (λl m=>If l (e ⟨none,0,0⟩ 1 m) (bE a 0 m λo=>bL (b+c) λp=>eY o 2 b p (o.cap:Nat) λq=>e q 0 m)) λr=>If j (r true k) (bE a 0 k λt=>bL (((t.len:Nat):Int)-b) λu=>r (decide (c>u)) k)) λv=>If h (v true i) (bE a 0 i λx=>v (decide (b>((x.len:Nat):Int))) i)) λy=>If (b<0) (y true g) (y (decide (c<1)) g))
theorem YN.o {a b c d e}(f:YN.v a b c d e):YN.c a b c d e:=Wa Tryz.func273 (x:=YN.h) (R0 f)
def YV.h:Hn:=.q .o1 (.q .o2 (.k (.loop [(8,.I)] (.q (.q .o5 (.c .l .l)) (.q (.k (.q (.cS (.tail 7 (RI.ops 7) [.op])) .o6)) .o3)))))
def YV.v (a:R2)(b c:Int)(d e:Bool)(f:Hp)(g:aP):Prop:=aV #[.bool d,.bool e] 161 f λh i=>YC [bN] (λj=>j b i) λk (l:Int) m=>bL (b+c) λn=>If (l<n) (bE a 0 m λp=>aZ h 0 m λq=>aZ h 1 m λr=>Ix p.a p.len l 2 λs=>aR s 0 (.bool q) m λt=>aR s 1 (.bool r) t λu=>bI a 1 u λw=>kY .i64 .s w l u λx=>bL (l+1) λy=>k y x) (g m)
theorem YV.o {a b c d e f g}(h:YV.v a b c d e f g):YV.c a b c d e f g:=Wa Tryz.func274 (x:=YV.h) (R0 h)
def YP.h:Hn:=.q .o1 (.q .o9 (.q (.k (.q .o3 (.c .aL (.q .o3 .aK)))) (.q .o5 .aM)))
def YP.v (a:R2)(b c:Int)(d:Hp)(e:aN):Prop:=YN.c a b c d λf g h=>If (g != 0) (e g h) (Wg.c f ⟨309,#[],#[]⟩ h λi j=>If i (e 5 j) (kR ((Addr.mk 2 0 none).add 0) j λk=>kR ((Addr.mk 2 0 none).add 1) j λl=>YV.c a b c k l j λm=>e 0 m))
theorem YP.o {a b c d e}(f:YP.v a b c d e):YP.c a b c d e:=Wa Tryz.func286 (x:=YP.h) (R0 f)
def Yh.h:Hn:=.q .o2 (.q .o4 .l)
def Yh.v (a b:Bool)(c:Hp)(d:aO):Prop:=aV #[.bool a,.bool b] 161 c λe f=>aZ e 0 f λg=>aZ e 1 f λh=>kR ((Addr.mk 0 0 none).add 0) f λi=>kR ((Addr.mk 0 0 none).add 1) f λj=>d (!((g==i)&&((h==j)&&true))) f
theorem Yh.o {a b c d}(e:Yh.v a b c d):Yh.c a b c d:=Wa Tryz.func309 (x:=Yh.h) (R0 e)
end Go.Proofs
namespace Go.Ar
open Go Go.Vc Go.Proofs
open Go.Bu (Y4)
variable {U:Hp}{F:Rg}{p q r:Nat}{sp:Sp}
structure Gl (U:Hp):Prop where
 c0:cell U ⟨2,0,none⟩=some (.bool true)
 c1:cell U ⟨2,1,none⟩=some (.bool false)
 u0:cell U ⟨0,0,none⟩=some (.bool false)
 u1:cell U ⟨0,1,none⟩=some (.bool false)
structure Gc (U:Hp):Prop where
 d0:cell U ⟨1,0,none⟩=some (.bool true)
 d1:cell U ⟨1,1,none⟩=some (.bool true)
structure Gd (U:Hp):Prop where
 lt:1<U.size
def iC (F:Rg):Prop:=∀b,F b->b≠2/\b≠0
theorem QW {h:Hp}{b o:Nat}{v:Value}(hc:cell h ⟨b,o,none⟩=some v):b<h.size:=(I3 hc).1
theorem Gl.bS {σ':Hp}(g:Gl U)(e:Ext F U σ')(hF:iC F):Gl σ':=by
 have a:¬F 2:=λh=>(hF _ h).1 rfl;have b:¬F 0:=λh=>(hF _ h).2 rfl;exact⟨(Ka e (QW g.c0) a).trans g.c0,(Ka e (QW g.c1) a).trans g.c1,(Ka e (QW g.u0) b).trans g.u0,(Ka e (QW g.u1) b).trans g.u1⟩
theorem Gc.bS {σ':Hp}(g:Gc U)(e:Ext F U σ')(hF:¬F 1):Gc σ':=⟨(Ka e (QW g.d0) hF).trans g.d0,(Ka e (QW g.d1) hF).trans g.d1⟩
theorem Gc.bO {σ':Hp}(g:Gc U)(e:bK U σ'):Gc σ':=g.bS e id
theorem Gd.bS {σ':Hp}(g:Gd U)(e:Ext F U σ')(hF:¬F 1):Gd σ':=⟨sr g.lt e.1⟩
theorem Gd.bO {σ':Hp}(g:Gd U)(e:bK U σ'):Gd σ':=g.bS e id
theorem Gc.gd (g:Gc U):Gd U:=⟨QW g.d0⟩
theorem Gl.bO {σ':Hp}(g:Gl U)(e:bK U σ'):Gl σ':=g.bS e λ_ h=>h.elim
theorem iC.grow (hF:iC F)(g:Gl U):iC (Grow F U):=λb a=>by
 rcases a with h|h
 ·exact hF b h
 ·have e:=QW g.c0;have d:=QW g.u0;exact⟨O,O⟩
theorem iC.sub {G:Rg}(hF:iC F)(h:∀b,G b->F b):iC G:=λb a=>hF b (h b a)
def fP:Nat->Bool×Bool
 | 0=>(false,false)
 | 1=>(true,false)
 | _=>(true,true)
def gE (st:List Nat):List Value:=st.flatMap λx=>[.bool (fP x).1,.bool (fP x).2]
theorem KU (l:List Nat):(gE l).length=2*l.length:=by
 induction l with
 | nil=>rfl
 | cons x l ih=>simp only[gE,qQ,zQ,zW,kI]at *;omega
theorem DX {l:List Nat}{i x:Nat}(h:l[i]?=some x):(gE l)[2*i]?=some (.bool (fP x).1)/\(gE l)[2*i+1]?=some (.bool (fP x).2):=by
 induction l generalizing i with
 | nil=>simp at h
 | cons y l ih=>
  have e:gE (y::l)=[.bool (fP y).1,.bool (fP y).2]++gE l:=by simp[gE]
  rw[e];cases i with
  | zero=>simp at h;subst h;simp
  | succ i=>
   have:=ih (i:=i) (by simpa using h);rw[show 2*(i+1)=2*i+2 by omega];simpa using this
theorem Di {l:List Nat}{i v:Nat}(h:i<l.length)(rest:List Value):((gE l++rest).set (2*i) (.bool (fP v).1)).set (2*i+1) (.bool (fP v).2)=gE (l.set i v)++rest:=by
 induction l generalizing i with
 | nil=>simp at h
 | cons y l ih=>
  have e:∀z m,gE (z::m)=.bool (fP z).1 :: .bool (fP z).2::gE m:=λz m=>by simp[gE]
  cases i with
  | zero=>simp[e]
  | succ i=>
   have:=ih (i:=i) (by simpa using h);rw[qe,e,e,show 2*(i+1)=2*i+1+1 by omega];simp only[kG,qe];rw[this]
theorem y5 {x y:Nat}(hx:x<=2)(hy:y<=2):(((fP x).1==(fP y).1)&&(((fP x).2==(fP y).2)&&true))=(x==y):=by
 match x,y,hx,hy with
 | 0,0,_,_=>rfl
 | 1,1,_,_=>rfl
 | 2,2,_,_=>rfl
 | 0,1,_,_=>rfl
 | 0,2,_,_=>rfl
 | 1,0,_,_=>rfl
 | 1,2,_,_=>rfl
 | 2,0,_,_=>rfl
 | 2,1,_,_=>rfl
theorem QQ {α:Type}(x:Int×α)(l:List (Int×α))(k:Int):bY (x::l) k=if x.1=k then some x.2 else bY l k:=by
 unfold bY;rw[sE];by_cases h:x.1=k
 ·simp[h]
 ·have:(x.1==k)=false:=by simpa using h
  rw[this,zB h]
theorem ON {α:Type}(l:List (Int×α))(n k:Int)(v:α):bY (l.map λx=>if x.1==n then(n,v)else x) k=if k=n then(if l.any (λx=>x.1==n)then some v else none)else bY l k:=by
 induction l with
 | nil=>simp[bY]
 | cons x l ih=>
  rw[zU,QQ,ih,QQ,List.any_cons];by_cases hx:x.1=n
  ·by_cases hk:k=n
   ·subst hk;simp[hx]
   ·have:¬n=k:=λe=>hk e.symm;simp[hx,hk,this]
  ·have a:(x.1==n)=false:=by simpa using hx
   simp only[a,za,zp,vU];by_cases hk:k=n
   ·subst hk;simp[hx]
   ·simp[hk]
theorem Nt {α:Type}(l:List (Int×α))(n k:Int)(v:α)(h:l.any (λx=>x.1==n)=false):bY (l++[(n,v)]) k=if k=n then some v else bY l k:=by
 induction l with
 | nil=>
  rw[r5,QQ];by_cases hk:k=n
  ·simp[hk]
  ·have:¬n=k:=λe=>hk e.symm;simp[hk,this,bY]
 | cons x l ih=>
  rw[List.any_cons,Bool.or_eq_false_iff]at h;rw[kG,QQ,ih h.2,QQ];have a:¬x.1=n:=by simpa using h.1
  by_cases hk:k=n
  ·subst hk;simp[a]
  ·simp[hk]
theorem Gm {α:Type}(l:List (Int×α))(n k:Int)(v:α):bY (dG l n v) k=if k=n then some v else bY l k:=by
 unfold dG;cases h:l.any (λx=>x.1==n)
 ·rw[zB aA,Nt l n k v h]
 ·rw[zC rfl,ON,h];simp
theorem DQ {α:Type}(l:List (Int×α))(n k:Int):bY (di l n) k=if k=n then none else bY l k:=by
 unfold di
 induction l with
 | nil=>simp[bY]
 | cons x l ih=>
  rw[rT,QQ];by_cases hx:x.1=n
  ·have:(!(x.1==n))=false:=by simp[hx]
   rw[this];simp only[za,zp,ih];by_cases hk:k=n
   ·simp[hk]
   ·have:¬x.1=k:=λe=>hk (e.symm.trans hx);simp[hk,this]
  ·have:(!(x.1==n))=true:=by simpa using hx
   rw[this,zC rfl,QQ,ih];by_cases hk:k=n
   ·subst hk;simp[hx]
   ·simp[hk]
theorem V1 {α:Type}{l:List (Int×α)}{k:Int}{v:α}(h:bY l k=some v):(k,v)∈l:=by
 unfold bY at h;cases hf:l.find? (λx=>x.1==k)with
 | none=>rw[hf]at h;cases h
 | some x=>
  rw[hf]at h;have d:=rH hf;have a:=rR hf;have b:x.1=k:=by simpa using d
  have e:x.2=v:=by simpa using h
  rw[←b,←e];exact a
theorem Is {α:Type}{l:List (Int×α)}{k:Int}:(bY l k).isSome=true↔k∈l.map (·.1):=by
 unfold bY;rw[Option.isSome_map,Ae];simp
def D7 (U:Hp)(s:Sl)(b:Nat)(f:Nat->Int):Prop:=s.a=some ⟨b,0,none⟩/\s.len=32/\32<=s.cap/\∃cs,bX U b cs/\32<=cs.length/\∀j,j<32->cs[j]?=some (.int .i64 (f j))
structure eX (U:Hp) (F:Rg) (p q r:Nat) (l:List (Int×Sl)) (B:Nat->Nat) (sp:Sp):Prop where
 hd:∃cap,sp.st.length<=cap/\bX U p [.slice (some ⟨q,0,none⟩) sp.st.length cap,.map (some r),.int .i64 (sp.pk:Int)]
 row:∃rest,bX U q (gE sp.st++rest)
 map:dI U r .i64 .s l
 keys:∀x:Int,(bY l x).isSome=true↔∃k:Nat,x=k/\sp.st[k]?=some 2
 wd:∀(k:Nat) s,bY l (k:Int)=some s->D7 U s (B k) λj=>sp.wd (32*k+j)
 inj:∀k k':Nat,sp.st[k]?=some 2->sp.st[k']?=some 2->B k=B k'->k=k'
 out:∀k:Nat,sp.st[k]?=some 2->F (B k)/\B k≠p/\B k≠q/\B k≠r
 fs:F p/\F q/\F r/\p≠q/\p≠r/\q≠r
 zero:∀w:Nat,sp.st[w/32]?≠some 2->sp.wd w=0
 n1:1<=sp.st.length
 n2:sp.st.length<=1024
 qi:∀x∈sp.st,x<=2
 pk:sp.pk<=1024
def dJ (U:Hp)(F:Rg)(p:Nat)(sp:Sp):Prop:=∃q r l B,eX U F p q r l B sp
theorem eX.entry {l:List (Int×Sl)}{B:Nat->Nat}(h:eX U F p q r l B sp){k:Nat}(hk:sp.st[k]?=some 2):∃s,bY l (k:Int)=some s/\D7 U s (B k) λj=>sp.wd (32*k+j):=by
 have:=(h.keys (k:Int)).2 ⟨k,rfl,hk⟩;obtain⟨s,a⟩:=om.1 this;exact⟨s,a,h.wd k s a⟩
theorem eX.kV {l:List (Int×Sl)}{B:Nat->Nat}(h:eX U F p q r l B sp){k:Nat}{s:Sl}(hs:bY l (k:Int)=some s):sp.st[k]?=some 2:=by
 obtain⟨k',e,a⟩:=(h.keys (k:Int)).1 (by rw[hs];rfl);have:k=k':=by omega
 subst this;exact a
theorem dJ.loc:dK λU F=>dJ U F p sp:=λU K F G ⟨q,r,l,B,h⟩ P x=>by
 have d:∀{b:Nat} {g:List Value},bX U b g->F b->bX K b g/\G b:=by
  rintro b g ⟨e,D⟩ M;have:=x b (bX.lt ⟨e,D⟩) M;exact⟨⟨e,this.2.trans D⟩,this.1⟩
 obtain⟨c,J,hd⟩:=h.hd;obtain⟨j,a⟩:=h.row;obtain⟨L,u,y,H⟩:=h.map;have m:=x r (zy.1 y).1 h.fs.2.2.1;refine⟨q,r,l,B,⟨c,J,(d hd h.fs.1).1⟩,⟨j,(d a h.fs.2.1).1⟩,⟨L,u,m.2.trans y,H⟩,h.keys,λk s i=>?_,h.inj,λk i=>?_,⟨(d hd h.fs.1).2,(d a h.fs.2.1).2,m.1,h.fs.2.2.2⟩,h.zero,h.n1,h.n2,h.qi,h.pk⟩
 ·obtain⟨A,z,E,g,w,C⟩:=h.wd k s i;exact⟨A,z,E,g,(d w (h.out k (h.kV i)).1).1,C⟩
 ·obtain⟨s,N,A,z,E,g,w,C⟩:=h.entry i;exact⟨(d w (h.out k i).1).2,(h.out k i).2⟩
theorem dJ.bO {σ':Hp}(h:dJ U F p sp)(e:bK U σ'):dJ σ' F p sp:=dK.bO dJ.loc h e
variable {l:List (Int×Sl)}{B:Nat->Nat}
theorem eX.rS (h:eX U F p q r l B sp){K:Sl->Prop}(hK:∀cap,sp.st.length<=cap->K ⟨some ⟨q,0,none⟩,sp.st.length,cap⟩):ja (Addr.add ⟨p,0,none⟩ 0) U K:=by
 obtain⟨c,a,hd⟩:=h.hd;exact hd.rS rfl (hK c a)
theorem eX.rM (h:eX U F p q r l B sp){K:Option Nat->Prop}(hK:K (some r)):kF (Addr.add ⟨p,0,none⟩ 1) U K:=by
 obtain⟨c,a,hd⟩:=h.hd;exact hd.rM rfl hK
theorem eX.wK (h:eX U F p q r l B sp){i x:Nat}(hx:sp.st[i]?=some x){K:Bool->Bool->Prop}(hK:K (fP x).1 (fP x).2):kR (Addr.add ⟨q,2*i,none⟩ 0) U λa=>kR (Addr.add ⟨q,2*i,none⟩ 1) U λb=>K a b:=by
 obtain⟨g,d⟩:=h.row;have j:=(cX.1 hx).1;have e:=DX hx;refine d.rB (x:=(fP x).1) ?_ (d.rB (x:=(fP x).2) ?_ hK)
 ·rw[zz,zg (by rw[KU];omega)];exact e.1
 ·rw[zg (by rw[KU];omega)];exact e.2
theorem G0 (h:dJ U F p sp){R:aO}(hR:R true U):Xt.c (aW p) U R:=by
 refine Xt.o ?_;unfold Xt.v;obtain⟨q,r,l,B,h⟩:=h;have:=h.n1;refine bR.intro (cB rfl (aG (h.rS λcap _=>?_)));rw[zK aC];exact hR
theorem CI (h:dJ U F p sp){R:aN}(hR:R (sp.st.length:Int) U):Xx.c (aW p) U R:=by
 refine Xx.o ?_;unfold Xx.v;have a:=h;obtain⟨q,r,l,B,h⟩:=h;exact G0 a (cE rfl (aG (h.rS λcap _=>hR)))
theorem eX.tT (h:eX U F p q r l B sp):l.length=sp.st.count 2:=by
 have m:=h.map.nodup;have j:(l.map (·.1)).Perm (((List.range sp.st.length).filter λk=>sp.st[k]?==some 2).map λk=>((k:Nat):Int)):=by
  rw[yR m]
  ·intro x;rw[←Is,h.keys];simp only[zF,zI,zh,zV];constructor
   ·rintro⟨k,rfl,hk⟩;exact⟨k,⟨(cX.1 hk).1,hk⟩,rfl⟩
   ·rintro⟨k,⟨_,hk⟩,rfl⟩;exact⟨k,rfl,hk⟩
  ·have d:((List.range sp.st.length).filter λk=>sp.st[k]?==some 2).Pairwise (· ≠ ·):=List.Pairwise.sublist qU List.nodup_range;exact List.Pairwise.map _ (λa b (e:a≠b) g=>e (by exact_mod_cast g)) d
 have i:=j.length_eq;simp only[zl]at i;rw[i,←vp];have key:∀st:List Nat,(List.range st.length).countP (λk=>st[k]?==some 2)=st.count 2:=by
  intro st
  induction st with
  | nil=>rfl
  | cons x st ih=>
   rw[zW,List.range_succ_eq_map,uI,List.countP_map,List.count_cons,←ih]
   congr 1
 exact key sp.st
end Go.Ar
namespace Go.Ar
open Go Go.Vc Go.Proofs
open Go.Bu (Y4)
variable {U:Hp}{F:Rg}{p q r:Nat}{sp:Sp}{l:List (Int×Sl)}{B:Nat->Nat}
theorem MX (l:List Nat)(n:Nat):gE (l.take n)=(gE l).take (2*n):=by
 induction l generalizing n with
 | nil=>simp[gE]
 | cons y l ih=>
  have e:∀z m,gE (z::m)=.bool (fP z).1 :: .bool (fP z).2::gE m:=λz m=>by simp[gE]
  cases n with
  | zero=>simp[gE]
  | succ n=>
   rw[wQ,e,e,ih,show 2*(n+1)=2*n+1+1 by omega];simp
theorem Ik (l:List Nat)(n:Nat):gE (l.drop n)=(gE l).drop (2*n):=by
 induction l generalizing n with
 | nil=>simp[gE]
 | cons y l ih=>
  have e:∀z m,gE (z::m)=.bool (fP z).1 :: .bool (fP z).2::gE m:=λz m=>by simp[gE]
  cases n with
  | zero=>simp[gE]
  | succ n=>
   rw[vC,e,ih,show 2*(n+1)=2*n+1+1 by omega];simp
theorem O0 (n v:Nat):gE (List.replicate n v)=(List.replicate n [Value.bool (fP v).1,.bool (fP v).2]).flatten:=by
 induction n with
 | zero=>rfl
 | succ n ih=>rw[tY,tY,uR,←ih];simp[gE]
theorem _root_.Go.Vc.cT.wK {s:Sl}{l:List Nat}(h:cT s 2 (gE l) U F){i x:Nat}(hx:l[i]?=some x){K:Bool->Bool->Prop}(hK:K (fP x).1 (fP x).2) :
 Ix s.a s.len (i:Int) 2 λa=>kR (a.add 0) U λu=>kR (a.add 1) U λw=>K u w:=by
 have y:=(cX.1 hx).1;have j:=DX hx;obtain⟨b,o,g,p⟩:=h.cell j.1;obtain⟨r,o1,d,e⟩:=h.cell j.2;rw[g]at d;cases d;have m:=h.1;rw[KU]at m;rw[g];refine ix O O ?_;rw[add_lit];refine mO ?_ (mO ?_ hK)<;>rw[add_lit]
 ·rw[show o+(i:Int).toNat*2+0=o+2*i by omega];exact p
 ·rw[show o+(i:Int).toNat*2+1=o+(2*i+1) by omega];exact e
theorem _root_.Go.Vc.cT.uj {s:Sl}{l:List Nat}(h:cT s 2 (gE l) U F):s.len=l.length:=by
 have:=h.1;rw[KU]at this;omega
theorem Nk {s:Sl}{xs:List Nat}(h:cT s 2 (gE xs) U F)(hl:xs.length<=1000000)(h2:∀x∈xs,x<=2){v:Nat}(hv:v<=2){R:aN}
 (hR:∀(t:Int) σ',bK U σ'->decide (t≥0)=xs.contains v->R t σ'):Wn.c s (fP v).1 (fP v).2 U R:=by
 refine Wn.o ?_;unfold Wn.v;have u:=h.uj;refine nw (cs:=[.bool (fP v).1,.bool (fP v).2]) λw G e A=>?_;have h:=aH.bO h e;refine Z5 (a:=bN) (λ(t:Int) y=>∃i:Nat,t=(i:Int)/\i<=xs.length/\y=w/\∀j,j<i->xs[j]?≠some v) (λt _=>xs.length-t.toNat) ⟨0,rfl,O,rfl,λj g=>O⟩ ?_;rintro t y ⟨i,rfl,E,rfl,d⟩;refine cR (λC=>?_) λB=>?_
 ·have b:i<xs.length:=by omega
  have z:xs[i]?=some xs[i]:=cW b;refine A.rB rfl (A.rB rfl (h.wK z ?_));rw[y5 hv (h2 _ (j3 b))];refine cY (λp=>?_) λp=>?_
  ·have:v=xs[i]:=by simpa using p
   refine hR _ _ e ?_;have D:xs.contains v=true:=by rw[this];simp
   rw[D,zK O]
  ·have r:¬v=xs[i]:=by simpa using p
   refine cQ (m:=i+1) O O ⟨⟨i+1,rfl,O,rfl,λj g=>?_⟩,O⟩;by_cases e:j=i
   ·subst e;rw[z];intro e2;cases e2;exact r rfl
   ·exact d j O
 ·refine hR _ _ e ?_;have:xs.contains v=false:=by
   simp only[qg,decide_eq_false_iff_not];intro hm;obtain⟨j,g⟩:=zO hm;have:=(cX.1 g).1;exact d j O g
  rw[this];rfl
theorem OW {s:Sl}{xs:List Nat}(h:cT s 2 (gE xs) U F)(hl:xs.length<=1000000)(h2:∀x∈xs,x<=2){v:Nat}(hv:v<=2){R:aO}
 (hR:∀σ',bK U σ'->R (xs.contains v) σ'):Wj.c s (fP v).1 (fP v).2 U R:=by
 refine Wj.o ?_;unfold Wj.v;refine nw (cs:=[.bool (fP v).1,.bool (fP v).2]) λw g e a=>a.rB rfl (a.rB rfl ?_);refine Nk (aH.bO h e) hl h2 hv λt σ' d b=>?_;rw[b];exact hR σ' (Ext.trans e d)
theorem Ox (g:Gl U){x:Nat}(hx:x<=2){R:aO}(hR:∀σ',bK U σ'->R (x != 0) σ'):Yh.c (fP x).1 (fP x).2 U R:=by
 refine Yh.o ?_;unfold Yh.v;refine nw (cs:=[.bool (fP x).1,.bool (fP x).2]) λv d e a=>a.rB rfl (a.rB rfl ?_);have g:=g.bO e;refine mO (by rw[←g.u0];rfl) (mO (by rw[←g.u1];rfl) ?_);have b:(((fP x).1==false)&&(((fP x).2==false)&&true))=(x==0):=y5 hx (y:=0) O;rw[b];exact hR v e
theorem F2 {s:Sl}{xs:List Nat}(h:cT s 2 (gE xs) U F)(g:Gl U)(hl:xs.length<=1000000)(h2:∀x∈xs,x<=2){R:aO}
 (hR:∀σ',bK U σ'->R (xs.any (· != 0)) σ'):Wg.c s ⟨309,#[],#[]⟩ U R:=by
 refine Wg.o ?_;unfold Wg.v;refine Wm.o ?_;unfold Wm.v;have z:=h.uj;refine Z5 (a:=bN) (λ(t:Int) D=>∃i:Nat,t=(i:Int)/\i<=xs.length/\bK U D/\∀(j x:Nat),j<i->xs[j]?=some x->x=0) (λt _=>xs.length-t.toNat) ⟨0,rfl,O,Ext.refl _ _,λj x r=>O⟩ ?_;rintro t w ⟨i,rfl,H,e,p⟩;refine cR (λG=>?_) λE=>?_
 ·have b:i<xs.length:=by omega
  have A:xs[i]?=some xs[i]:=cW b;refine(aH.bO h e).wK A ?_;refine oS (all := #[.agg #[.bool (fP xs[i]).1,.bool (fP xs[i]).2]]) (by kernel_rfl) aA ?_;refine Ox (g.bO e) (h2 _ (j3 b)) λC B=>?_;refine cY (λu=>?_) λu=>?_
  ·have:xs.any (· != 0)=true:=jU.2 ⟨_,j3 b,u⟩;have:=hR C (Ext.trans e B);rw[‹xs.any (· != 0)=true›]at this;show R (decide ((i:Int)≥0)) _;rw[zK O];exact this
  ·have y:xs[i]=0:=by simpa using u
   refine cQ (m:=i+1) O O ⟨⟨i+1,rfl,O,Ext.trans e B,λj x r d=>?_⟩,O⟩;by_cases e:j=i
   ·subst e;rw[A]at d;cases d;exact y
   ·exact p j x O d
 ·have:xs.any (· != 0)=false:=by
   rw[lN];intro x hm;obtain⟨j,r⟩:=zO hm;have:=(cX.1 r).1;simpa using p j x O r
  have:=hR w e;rw[‹xs.any (· != 0)=false›]at this;exact this
theorem eX.part (h:eX U F p q r l B sp){x y c:Nat}(hl:x+y<=sp.st.length):cT ⟨some ⟨q,2*x,none⟩,y,c⟩ 2 (gE ((sp.st.drop x).take y)) U F:=by
 obtain⟨d,b⟩:=h.row;have a:(gE ((sp.st.drop x).take y)).length=y*2:=by rw[KU,zZ,jM];omega
 refine⟨a,.inr ⟨q,2*x,_,h.fs.2.1,rfl,b.q,λj e=>?_⟩⟩;rw[a]at e;rw[zg (by rw[KU];omega),MX,Ik,zj,zC O,kj]
theorem Mp (h:dJ U F p sp)(a m:Int){R:Sl->Int->Hp->Prop}(h0:Y4 sp.st.length a m=false->R ⟨none,0,0⟩ 1 U)
 (h1:∀(x y:Nat) s,a=x->m=y->1<=y->x+y<=sp.st.length->cT s 2 (gE ((sp.st.drop x).take y)) U F->R s 0 U):YN.c (aW p) a m U R:=by
 refine YN.o ?_;unfold YN.v;have j:=h;obtain⟨q,r,l,B,h⟩:=h;have n2:=h.n2;have b:¬(0<=a/\1<=m/\m<=sp.st.length-a)->R ⟨none,0,0⟩ 1 U:=λw=>h0 (by simp only[Y4,←sW];exact zM w);refine G0 j (cE rfl (bR.intro (cR (λz=>bR.intro (cB rfl (bR.intro (cB rfl (cB rfl (b O)))))) λz=>?_)));refine bR.intro (cR (λg=>bR.intro (cB rfl (cB rfl (b O)))) λg=>aG (h.rS λcap d=>?_));simp only;refine bR.intro (cR (λA=>cB rfl (b O)) λA=>?_);refine aG (h.rS λcap d=>ar aC aC ?_);simp only;refine cR (λi=>b O) λi=>?_;obtain⟨x,rfl⟩:=zY (show 0<=a by omega);obtain⟨y,rfl⟩:=zY (show 0<=m by omega);refine aG (h.rS λcap d=>cQ (m:=x+y) O O ?_);refine jf O aC (zD _) ?_;simp only;rw[zB O];refine h1 x y _ rfl rfl O O ?_;have:=h.part (x:=x) (y:=y) (c:=cap-x) O;have e:(Option.map (λ(u:Addr)=>u.add (x*2)) (some (⟨q,0,none⟩:Addr)))=some ⟨q,2*x,none⟩:=by
  simp only[zc,add_lit];congr 2;omega
 rw[e,yq];exact this
def Sp.jK (s:Sp)(k v:Nat):Sp:={s with st:=s.st.set k v,wd:=λw=>if k*32<=w/\w<(k+1)*32 then 0 else s.wd w}
theorem CJ {st:List Nat}(h:∀x∈st,x<=2){k v:Nat}(hv:v<=2):∀x∈st.set k v,x<=2:=by
 intro x hx;rcases vT hx with h1|h1
 ·exact h x h1
 ·omega
theorem eX.jK (h:eX U F p q r l B sp){k v:Nat}(hk:k<sp.st.length)(hv:v<=1){σ':Hp}(e:Ext (λb=>b=q\/b=r) U σ'){rest:List Value}
 (hb:bX σ' q (gE (sp.st.set k v)++rest)) (hm:dI σ' r .i64 .s (di l (k:Int))):eX σ' F p q r (di l (k:Int)) B (sp.jK k v):=by
 have a:∀j:Nat,(sp.st.set k v)[j]?=some 2↔j≠k/\sp.st[j]?=some 2:=λj=>by
  rw[mH];by_cases hjk:k=j
  ·subst hjk;rw[zC rfl,zC hk];constructor
   ·intro h;have:v=2:=by simpa using h
    omega
   ·intro h;exact absurd rfl h.1
  ·rw[zB hjk];exact⟨λh=>⟨λe=>hjk e.symm,h⟩,λh=>h.2⟩
 obtain⟨c,C,hd⟩:=h.hd;have D:¬(p=q\/p=r):=by have:=h.fs;omega
 refine⟨⟨c,by simpa[Sp.jK]using C,by simpa[Sp.jK]using e.bU hd D⟩,⟨rest,hb⟩,hm,λx=>?_,λj s g=>?_,λj y J m=>?_,λj d=>?_,h.fs,λw u=>?_,by simpa[Sp.jK]using h.n1,by simpa[Sp.jK]using h.n2,CJ h.qi O,h.pk⟩
 ·rw[DQ];by_cases hx:x=(k:Int)
  ·rw[zC hx];constructor
   ·intro h;cases h
   ·rintro⟨j,rfl,d⟩;have:=(a j).1 d;omega
  ·rw[zB hx,h.keys];constructor
   ·rintro⟨j,rfl,d⟩;exact⟨j,rfl,(a j).2 ⟨O,d⟩⟩
   ·rintro⟨j,rfl,d⟩;exact⟨j,rfl,((a j).1 d).2⟩
 ·rw[DQ]at g;by_cases hx:(j:Int)=(k:Int)
  ·rw[zC hx]at g;cases g
  ·rw[zB hx]at g;obtain⟨z,L,E,G,H,A,K⟩:=h.wd j s g;have N:=h.out j (h.kV g);refine⟨z,L,E,G,e.bU H O,A,λi M=>?_⟩;rw[K i M];simp only[Sp.jK];rw[zB O]
 ·exact h.inj j y ((a j).1 J).2 ((a y).1 m).2
 ·exact h.out j ((a j).1 d).2
 ·simp only[Sp.jK]at u ⊢;by_cases hin:k*32<=w/\w<(k+1)*32
  ·rw[zC hin]
  ·rw[zB hin];refine h.zero w λm=>u ((a _).2 ⟨O,m⟩)
theorem Sp.nO (s:Sp)(a v:Nat):s.set a 0 v=s:=by
 have d:fW s.st a (a+0) v=s.st:=by
  apply zm;intro i;rw[Uv];cases s.st[i]? with
  | none=>rfl
  | some x=>simp only[zc];rw[zB O]
 have b:(λw=>if a*32<=w/\w<(a+0)*32 then 0 else s.wd w)=s.wd:=by
  funext w;rw[zB O]
 simp only[Sp.set,d,b]
theorem Sp.nC (s:Sp)(a m v:Nat)(h:a+m<s.st.length):(s.set a m v).jK (a+m) v=s.set a (m+1) v:=by
 have d:(fW s.st a (a+m) v).set (a+m) v=fW s.st a (a+(m+1)) v:=by
  apply zm;intro i;rw[mH,Uv,Uv,Ki];by_cases hi:a+m=i
  ·subst hi;rw[zC rfl,zC h,cW h,zc,zC O]
  ·rw[zB hi];cases s.st[i]? with
   | none=>rfl
   | some x=>
    simp only[zc];by_cases hin:a<=i/\i<a+m
    ·rw[zC hin,zC O]
    ·rw[zB hin,zB O]
 have b:(λw=>if(a+m)*32<=w/\w<(a+m+1)*32 then 0 else(if a*32<=w/\w<(a+m)*32 then 0 else s.wd w))=λw=>if a*32<=w/\w<(a+(m+1))*32 then 0 else s.wd w:=by
  funext w
  by_cases d:(a+m)*32<=w/\w<(a+m+1)*32
  ·rw[zC d,zC O]
  ·rw[zB d];by_cases b:a*32<=w/\w<(a+m)*32
   ·rw[zC b,zC O]
   ·rw[zB b,zB O]
 simp only[Sp.set,Sp.jK,d,b]
theorem EB (h:dJ U F p sp){x y v:Nat}(hl:x+y<=sp.st.length)(hv:v<=1){R:aP}(hR:∀σ',Ext F U σ'->dJ σ' F p (sp.set x y v)->R σ') :
 YV.c (aW p) x y (fP v).1 (fP v).2 U R:=by
 refine YV.o ?_;unfold YV.v;have Z:sp.st.length<=1024:=by obtain⟨q,r,l,B,h⟩:=h;exact h.n2
 have s:dJ U (Cut F U) p sp:=dK.cut dJ.loc h;refine nw (cs:=[.bool (fP v).1,.bool (fP v).2]) λu hz e g=>?_;have S:=s.bO e;refine Z5 (a:=bN) (λ(t:Int) w=>∃i:Nat,t=((x+i:Nat):Int)/\i<=y/\Ext (Cut F U) u w/\bX w U.size [.bool (fP v).1,.bool (fP v).2]/\dJ w (Cut F U) p (sp.set x i v)) (λt _=>x+y-t.toNat)
  ⟨0,rfl,O,Ext.refl _ _,g,by rw[Sp.nO];exact S⟩ ?_
 rintro t w ⟨i,rfl,hi,E,j,q,r,l,B,d⟩;refine cQ (m:=x+y) O O (cR (λQ=>?_) λY=>?_)
 ·have M:(sp.set x i v).st.length=sp.st.length:=Ki _ _ _ _;refine aG (d.rS λcap G=>j.rB rfl (j.rB rfl (ix O aC ?_)));rw[add_lit,show 0+((x+i:Nat):Int).toNat*2=2*(x+i) by omega];obtain⟨H,z⟩:=d.row;have L:x+i<(sp.set x i v).st.length:=by omega
  refine z.s1 (by rw[zQ,KU];omega) λw1 o1 W=>W.s1 (by rw[nk,zQ,KU];omega) λw2 o2 K=>?_;rw[zz,Di L]at K;have e2:Ext (· = q) w w2:=o1.ext.trans o2.ext;obtain⟨c,V,hd⟩:=d.hd;have A:=e2.bU hd d.fs.2.2.2.1;refine aG (A.rM rfl ⟨l,e2.fK d.map (λe=>d.fs.2.2.2.2.2 e.symm),λw3 C _ D=>?_⟩);have o3:=C r rfl;have P:Ext (λb=>b=q\/b=r) w w3:=(e2.sub λb g=>.inl g).trans (o3.ext.sub λb g=>.inr g);have N:=d.jK L hv P (Wr o3 K d.fs.2.2.2.2.2) D;rw[Sp.nC _ _ _ _ O]at N;have J:Ext (Cut F U) w w3:=P.sub λb g=>by
   rcases g with rfl|rfl
   ·exact d.fs.2.1
   ·exact d.fs.2.2.1
  refine cQ (m:=x+(i+1)) O O ⟨⟨i+1,rfl,O,E.trans J,J.bU j λX=>by have:=X.2;omega,_,_,_,_,N⟩,O⟩
 ·have:i=y:=by omega
  subst this;refine hR w (Ext.cut (e.to.trans E)) (dK.mono dJ.loc ⟨q,r,l,B,d⟩ λb _ g=>g.1)
theorem OU (h:dJ U F p sp)(g:Gl U)(hF:iC F)(a m:Int){R:aN}(hR:∀σ',Ext F U σ'->dJ σ' F p (fN sp a m)->R (eT sp a m) σ') :
 YP.c (aW p) a m U R:=by
 refine YP.o ?_;unfold YP.v;have e:(∀x∈sp.st,x<=2)/\sp.st.length<=1024:=by obtain⟨q,r,l,B,h⟩:=h;exact⟨h.qi,h.n2⟩
 refine Mp h a m (λi=>?_) λx y s E u K C w=>?_
 ·have e1:eT sp a m=1:=by unfold eT;rw[i];rfl
  have e2:fN sp a m=sp:=by unfold fN;rw[e1];rfl
  have:=hR U (Ext.refl _ _);rw[e1,e2]at this;exact cB rfl (this h)
 ·subst E;subst u;have i:Y4 sp.st.length (x:Int) (y:Int)=true:=by simp only[Y4,zE,zS];omega
  refine cE rfl (F2 w g (by rw[zZ,jM];omega) (λz J=>e.1 z (rF (tF J))) λD e1=>?_);have d:eT sp x y=if((sp.st.drop x).take y).any (· != 0)then 5 else 0:=by unfold eT;rw[i];rfl
  refine cY (λb=>?_) λb=>?_
  ·rw[b]at d;have e2:fN sp x y=sp:=by unfold fN;rw[d];rfl
   have:=hR D (bK.to e1);rw[d,e2]at this;exact this (h.bO e1)
  ·rw[b]at d;have e2:fN sp x y=sp.set x y 1:=by unfold fN;rw[d];rfl
   have j:=g.bO e1;refine mO (by rw[←j.c0];rfl) (mO (by rw[←j.c1];rfl) ?_);refine EB (v:=1) (h.bO e1) C O λA H G=>?_;have:=hR A (Ext.trans (bK.to e1) H);rw[d,e2]at this;exact this G
theorem BL (h:dJ U F p sp)(g:Gl U)(x:Int)(hx:x<=9223372036854775807){R:aN}(hR:∀σ',bK U σ'->R (fG sp x) σ') :
 Xp.c (aW p) x 1 U R:=by
 refine Xp.o ?_;unfold Xp.v;have E:=h;obtain⟨q,r,l,B,h⟩:=h;have n2:=h.n2;have i:(x<0\/x%8≠0)->R 7 U:=λj=>by
  have:=hR U (Ext.refl _ _);unfold fG at this;rw[zC j]at this;exact this
 refine G0 E (cE rfl (cE rfl (bR.intro (cR (λA=>cB rfl (i (.inl A))) λA=>nz aB ?_))));obtain⟨y,rfl⟩:=zY (show 0<=x by omega);refine cY (λd=>?_) λd=>?_
 ·refine i (.inr ?_);rw[Qz O]at d;simpa using d
 have K:y%8=0:=by
  rw[Qz O]at d;have:((y:Int)%8)=0:=by simpa using d
  omega
 have ok:¬((y:Int)<0\/(y:Int)%8≠0):=by omega
 refine nz aB (cQ (m:=y/256) (by rw[Yi O];simp) O (nz aB (cQ (m:=y/8) (by rw[Yi O];simp) O ?_)));refine cQ (m:=y/8+1) O O (cQ (m:=y/8) O O (nz aB (cQ (m:=y/256) (by rw[Yi O];simp;omega) O ?_)));have fin:∀(b:Bool) σ',bK U σ'->(b=true↔sp.st.getD (y/256) 0=0)->If b (R 7 σ') (R 0 σ'):=λb σ' e j=>by
  have:=hR σ' e;unfold fG at this;rw[zB ok]at this;refine cY (λh=>?_) λh=>?_
  ·rw[zC (by simpa using j.1 h)]at this;exact this
  ·rw[zB (λG=>by rw[j.2 (by simpa using G)]at h;cases h)]at this;exact this
 obtain⟨c,J,hd⟩:=h.hd;refine Jn.intro ⟨λm=>bX m p [.slice (some ⟨q,0,none⟩) sp.st.length c,.map (some r),.int .i64 (sp.pk:Int)]/\Gl m,⟨hd,g⟩,?_⟩;refine aG ⟨⟨some ⟨q,0,none⟩,sp.st.length,c⟩,λm a=>by rw[add_lit,a.1.cell];rfl,?_⟩;refine cR (λw=>?_) λw=>?_
 ·simp only at w;refine fin _ U (Ext.refl _ _) ⟨λ_=>?_,λ_=>rfl⟩;rw[zN,zT O];rfl
 simp only at w;refine aG ⟨⟨some ⟨q,0,none⟩,sp.st.length,c⟩,λm a=>by rw[add_lit,a.1.cell];rfl,?_⟩;refine cQ (m:=y/256+1) O O (jf O aC (zD _) ?_);simp only;rw[zB O];refine⟨false,λm a=>a.2.u0,⟨false,λm a=>a.2.u1,?_⟩⟩;have e:(Option.map (λ(u:Addr)=>u.add (y/256*2)) (some (⟨q,0,none⟩:Addr)))=some ⟨q,2*(y/256),none⟩:=by
  simp only[zc,add_lit];congr 2;omega
 rw[e,yq];have D:=h.part (x:=y/256) (y:=1) (c:=c-y/256) O;refine OW (v:=0) D (by rw[zZ,jM];omega) (λz H=>h.qi z (rF (tF H))) O λσ' s=>?_;refine⟨⟨s.bU hd id,g.bO s⟩,fin _ σ' s ?_⟩;have C:y/256<sp.st.length:=by omega
 rw[zN,cW C,xq C,wQ,List.take_zero];simp[eq_comm]
theorem Oa (h:dJ U F p sp){w:Nat}(hw:w<=2305843009213693952){R:aN}(hR:R (sp.wd w) U):YM.c (aW p) (w:Int) U R:=by
 refine YM.o ?_;unfold YM.v;obtain⟨q,r,l,B,h⟩:=h;refine aG (h.rM (nz aB (cQ (m:=w/32) (by rw[Yi O];simp) O ⟨l,h.map,?_⟩)));cases hg:bY l ((w/32:Nat):Int)with
 | none=>
  refine cE rfl ?_;have:sp.st[w/32]?≠some 2:=λa=>by
   have:=(h.keys _).2 ⟨_,rfl,a⟩;rw[hg]at this;cases this
  rw[h.zero w this]at hR;exact hR
 | some s=>
  obtain⟨b,u,i,j,e,x,g⟩:=h.wd _ s hg;refine cB rfl (nz aB ?_);simp only[oB];have d:((w:Int).tmod 32)=((w%32:Nat):Int):=by rw[Qz O];simp
  rw[b,d];refine ix O O ?_;rw[add_lit];refine e.se ?_ hR;rw[show 0+((w%32:Nat):Int).toNat*1=w%32 by omega,g _ O];simp only;rw[show 32*(w/32)+w%32=w by omega]
theorem NI (h:dJ U F p sp)(g:Gl U)(x:Int)(hx:x<=9223372036854775807){R:Int->Int->Hp->Prop}(hR:∀σ',bK U σ'->R (if fG sp x=0 then sp.wd (x.toNat/8)else 0) (fG sp x) σ') :
 Yw.c (aW p) x U R:=by
 refine Yw.o ?_;unfold Yw.v;refine BL h g x hx λσ' e=>?_;have:=hR σ' e;refine cY (λb=>?_) λb=>?_
 ·have i:¬fG sp x=0:=by simpa using b
  rw[zB i]at this;exact this
 ·have a:fG sp x=0:=by simpa using b
  rw[zC a,a]at this;have d:0<=x:=by
   rcases(by omega:x<0\/0<=x)with hlt|hge
   ·unfold fG at a;rw[zC (.inl hlt)]at a;cases a
   ·exact hge
  obtain⟨y,rfl⟩:=zY d;exact nz aB (cQ (m:=y/8) (by rw[Yi O];simp) O (Oa (h.bO e) O this))
theorem eX.yu (h:eX U F p q r l B sp){k:Nat}(hk:k<sp.st.length)(hn:sp.st[k]?≠some 2){σ':Hp}{b:Nat}{s:Sl}{T:Rg}(e:Ext T U σ')(hT:∀i,i<U.size->T i->i=q\/i=r)(hz:U.size<=b){rest:List Value}
 (hb:bX σ' q (gE (sp.st.set k 2)++rest)) (hm:dI σ' r .i64 .s (dG l (k:Int) s)) (ha:s.a=some ⟨b,0,none⟩) (hl:s.len=32) (hc:s.cap=32) (hw:bX σ' b (List.replicate 32 (.int .i64 0))) :
 eX σ' (Grow F U) p q r (dG l (k:Int) s) (λj=>if j=k then b else B j) {sp with st:=sp.st.set k 2}:=by
 have u:∀j:Nat,(sp.st.set k 2)[j]?=some 2↔j=k\/sp.st[j]?=some 2:=λj=>by
  rw[mH];by_cases hjk:k=j
  ·subst hjk;rw[zC rfl,zC hk];simp
  ·rw[zB hjk];exact⟨λh=>.inr h,λh=>h.resolve_left λe=>hjk e.symm⟩
 obtain⟨c,G,hd⟩:=h.hd;obtain⟨_,C⟩:=h.row;have S:=hd.lt;have X:=C.lt;have W:=h.map.lt;have V:=e.1;have g:=h.fs;have A:∀{j:Nat},sp.st[j]?=some 2->B j<U.size:=λ{j} d=>by
  obtain⟨t,_,_,_,_,cs,H,_⟩:=h.entry d;exact H.lt
 have cP:∀{i:Nat} {cs:List Value},bX U i cs->i≠q->i≠r->bX σ' i cs:=λ{i cs} D E y=>e.bU D λL=>by
  rcases hT i D.lt L with h|h
  ·exact E h
  ·exact y h
 refine⟨⟨c,by simpa using G,by simpa using cP hd g.2.2.2.1 g.2.2.2.2.1⟩,⟨rest,hb⟩,hm,λx=>?_,λj t d=>?_,λj z E y m=>?_,λj d=>?_,⟨.inl g.1,.inl g.2.1,.inl g.2.2.1,g.2.2.2⟩,λw J=>?_,by simpa using h.n1,by simpa using h.n2,CJ h.qi O,h.pk⟩
 ·rw[Gm];by_cases hx:x=(k:Int)
  ·rw[zC hx];subst hx;simp only[Option.isSome_some,true_iff];exact⟨k,rfl,(u k).2 (.inl rfl)⟩
  ·rw[zB hx,h.keys];constructor
   ·rintro⟨j,rfl,d⟩;exact⟨j,rfl,(u j).2 (.inr d)⟩
   ·rintro⟨j,rfl,d⟩;exact⟨j,rfl,((u j).1 d).resolve_left O⟩
 ·rw[Gm]at d;by_cases hx:(j:Int)=(k:Int)
  ·have:j=k:=by omega
   subst this;rw[zC rfl]at d;cases d;rw[zC rfl];refine⟨ha,hl,O,_,hw,by simp,λi D=>?_⟩;rw[lJ,zC D];simp only;rw[h.zero _ (by rw[show(32*j+i)/32=j by omega];exact hn)]
  ·rw[zB hx]at d;obtain⟨N,M,Q,cs,H,P,R⟩:=h.wd j t d;have K:=h.out j (h.kV d);rw[zB O];exact⟨N,M,Q,cs,cP H K.2.2.1 K.2.2.2,P,R⟩
 ·by_cases e1:j=k
  ·by_cases e2:z=k
   ·omega
   ·rw[zC e1,zB e2]at m;have:=A (((u z).1 y).resolve_left e2);omega
  ·rw[zB e1]at m;by_cases e2:z=k
   ·rw[zC e2]at m;have:=A (((u j).1 E).resolve_left e1);omega
   ·rw[zB e2]at m;exact h.inj j z (((u j).1 E).resolve_left e1) (((u z).1 y).resolve_left e2) m
 ·by_cases e1:j=k
  ·rw[zC e1];exact⟨.inr hz,O,O,O⟩
  ·rw[zB e1];have:=h.out j (((u j).1 d).resolve_left e1);exact⟨.inl this.1,this.2⟩
 ·refine h.zero w λy=>J ((u _).2 (.inr y))
theorem eX.yT (h:eX U F p q r l B sp){σ':Hp}{n c:Nat}(hn:n<=1024)(ho:Qg U σ' p)(hc:sp.st.length<=c)(hb:bX σ' p [.slice (some ⟨q,0,none⟩) sp.st.length c,.map (some r),.int .i64 (n:Int)]):eX σ' F p q r l B {sp with pk:=n}:=by
 have d:=h.fs;obtain⟨b,a⟩:=h.row;refine⟨⟨c,hc,hb⟩,⟨b,Wr ho a O⟩,UN ho h.map O,h.keys,λj t e=>?_,h.inj,h.out,d,h.zero,h.n1,h.n2,h.qi,hn⟩;obtain⟨g,w,i,m,s,x,u⟩:=h.wd j t e;exact⟨g,w,i,m,Wr ho s (h.out j (h.kV e)).2.1,x,u⟩
theorem eX.word (h:eX U F p q r l B sp){w:Nat}{v:Int}(hk:sp.st[w/32]?=some 2){σ':Hp}{cs:List Value}(h32:32<=cs.length)(ho:Qg U σ' (B (w/32)))(hcs:∀j,j<32->cs[j]?=some (.int .i64 (sp.wd (32*(w/32)+j))))
 (hb:bX σ' (B (w/32)) (cs.set (w%32) (.int .i64 v))):eX σ' F p q r l B {sp with wd:=λu=>if u=w then v else sp.wd u}:=by
 have z:=h.out _ hk;obtain⟨c,E,hd⟩:=h.hd;obtain⟨b,a⟩:=h.row;refine⟨⟨c,E,Wr ho hd O⟩,⟨b,Wr ho a O⟩,UN ho h.map O,h.keys,λj t x=>?_,h.inj,h.out,h.fs,λu y=>?_,h.n1,h.n2,h.qi,h.pk⟩
 ·obtain⟨s,C,A,d,G,D,H⟩:=h.wd j t x;by_cases hjk:j=w/32
  ·subst hjk;refine⟨s,C,A,_,hb,by simpa using h32,λi m=>?_⟩;rw[mH];by_cases hiw:w%32=i
   ·rw[zC hiw,zC O];simp only;rw[zC O]
   ·rw[zB hiw];simp only;rw[zB O];exact hcs i m
  ·have g:B j≠B (w/32):=λe=>hjk (h.inj _ _ (h.kV x) hk e);refine⟨s,C,A,d,Wr ho G g,D,λi m=>?_⟩;rw[H i m];simp only;rw[zB O]
 ·have:u≠w:=λe=>by subst e;exact y hk
  simp only;rw[zB this];exact h.zero u y
theorem Mb (h:dJ U F p sp)(g:Gc U){w:Nat}(hw:w/32<sp.st.length)(v:Int){R:aP}(hR:∀σ',Ext F U σ'->dJ σ' (Grow F U) p (mr sp w v)->R σ') :
 YJ.c (aW p) (w:Int) v U R:=by
 refine YJ.o ?_;unfold YJ.v;obtain⟨q,r,l,B,h⟩:=h;have ad:=h.n2;have j:sp.st[w/32]?=some sp.st[w/32]:=cW hw;have tm:((w:Int).tmod 32)=((w%32:Nat):Int):=by rw[Qz O];simp
 have word:∀(u:Hp) (s':Sp) (l':List (Int×Sl)) (B':Nat->Nat),Ext F U u->eX u (Grow F U) p q r l' B' s'->s'.st[w/32]?=some 2->({s' with wd:=λz=>if z=w then v else s'.wd z}:Sp)=mr sp w v →
  bT (some ⟨p,0,none⟩) λac=>kF (ac.add 1) u λX=>Lk .i64 .s X ((w/32:Nat):Int) u λJ=>Nz 32<|Ix (J.getD ⟨none,0,0⟩).a (J.getD ⟨none,0,0⟩).len ((w:Int).tmod 32) 1 λS=>eP S (.int .i64 v) u λv1=>R v1:=by
  intro u s' l' B' eu hu A he;refine aG (hu.rM ⟨l',hu.map,nz aB ?_⟩);obtain⟨s,hs,w1,w2,w3,cs,w4,w5,w6⟩:=hu.entry A;rw[hs,tm];simp only[oB];rw[w1];refine ix O O ?_;rw[add_lit,show 0+((w%32:Nat):Int).toNat*1=w%32 by omega];refine w4.s0 O λu2 o2 P=>?_;have h2:=hu.word (v:=v) A w5 o2 w6 P;rw[he]at h2;exact hR u2 (eu.dS o2.ext λb d=>by subst d;exact(hu.out _ A).1) ⟨_,_,_,_,h2⟩
 refine nz aB (cQ (m:=w/32) (by rw[Yi O];simp) O (Jn.intro (aG (h.rS λcap E=>ix O aC ?_))));rw[add_lit,show 0+((w/32:Nat):Int).toNat*2=2*(w/32) by omega];refine h.wK j (mO (n:=true) g.d0 (mO (n:=true) g.d1 ?_));have e0:(((fP sp.st[w/32]).1==true)&&(((fP sp.st[w/32]).2==true)&&true))=(sp.st[w/32]==2):=y5 (h.qi _ (j3 hw)) (y:=2) O;rw[e0];refine cY (λhd=>?_) λhd=>?_
 ·have D:sp.st[w/32]≠2:=by simpa using hd
  refine aG (h.rS λcap E=>mO (n:=true) g.d0 (mO (n:=true) g.d1 (ix O aC ?_)));rw[add_lit,show 0+((w/32:Nat):Int).toNat*2=2*(w/32) by omega];obtain⟨G,K⟩:=h.row;refine K.s1 (by rw[zQ,KU];omega) λu1 o1 b1=>b1.s1 (by rw[nk,zQ,KU];omega) λu2 o2 P=>?_;rw[zz]at P;have ab:bX u2 q (gE (sp.st.set (w/32) 2)++G):=by rw[←Di hw];exact P
  have e2:Ext (· = q) U u2:=o1.ext.trans o2.ext;obtain⟨c,hc,H⟩:=h.hd;have C:=e2.bU H h.fs.2.2.2.1;refine⟨λm=>bX m p [.slice (some ⟨q,0,none⟩) sp.st.length c,.map (some r),.int .i64 (sp.pk:Int)],C,aG ⟨some r,λm hm=>by rw[add_lit,hm.cell];rfl,?_⟩⟩;refine mk (n:=32) O O λu3 hz3 M b3=>⟨Ext.bU M C id,?_⟩;have Q:bX u3 u2.size (List.replicate 32 (.int .i64 0)):=b3;have q3:=Ext.bU M ab id;have Y:=e2.fK h.map (λe=>h.fs.2.2.2.2.2 e.symm);refine⟨r,l,rfl,Ext.fK M Y id,λu4 o4 W=>?_⟩;have sz2:u2.size=U.size:=by rw[o2.1,o1.1]
  have hrlt:=h.map.lt;have hplt:=H.lt;have e4:Ext (λb=>b=q\/b=r) U u4:=((e2.sub λb d=>.inl d).trans (bK.to M)).trans (o4.ext.sub λb d=>.inr d);have N:=h.yu hw (by rw[j];simpa using D) (s:=⟨some ⟨u2.size,0,none⟩,32,32⟩) (b:=u2.size) e4 (λi _ L=>L) O (Wr o4 q3 h.fs.2.2.2.2.2) W rfl rfl rfl (Wr o4 Q O);obtain⟨c4,Z,x⟩:=N.hd;refine aG (x.rI rfl (aG (x.rM rfl ⟨_,N.map,aG ?_⟩)));rw[N.tT];have hcl:(sp.st.set (w/32) 2).count 2<=1024:=ky List.count_le_length (by simpa using ad);have hpk:=h.pk;have hv:(if((List.count 2 (sp.st.set (w/32) 2):Nat):Int)>(sp.pk:Int)then((List.count 2 (sp.st.set (w/32) 2):Nat):Int)else(sp.pk:Int))=((max sp.pk ((sp.st.set (w/32) 2).count 2):Nat):Int):=by
   by_cases hgt:((List.count 2 (sp.st.set (w/32) 2):Nat):Int)>(sp.pk:Int)
   ·rw[zC hgt];omega
   ·rw[zB hgt];omega
  simp only;rw[hv];refine x.s1 aA λu5 o5 b5=>?_;have h5:=N.yT O o5 Z b5;have e5:Ext F U u5:=(e4.sub λb d=>by
   rcases d with rfl|rfl
   ·exact h.fs.2.1
   ·exact h.fs.2.2.1).trans (o5.ext.sub λb d=>by subst d;exact h.fs.1)
  refine word u5 _ _ _ e5 h5 (by simp only;rw[mH,zC rfl,zC hw]) ?_;unfold mr;rw[zB (by rw[zN,j];exact D)]
 ·have V:sp.st[w/32]=2:=by simpa using hd
  rw[V]at j;have aa:eX U (Grow F U) p q r l B sp:={h with out:=λk A=>⟨.inl (h.out k A).1,(h.out k A).2⟩,fs:=⟨.inl h.fs.1,.inl h.fs.2.1,.inl h.fs.2.2.1,h.fs.2.2.2⟩};refine word U sp l B (Ext.refl _ _) aa j ?_;unfold mr;rw[zC (by rw[zN,j];rfl)];have:sp.st.set (w/32) 2=sp.st:=by
   apply zm;intro i;rw[mH];by_cases L:w/32=i
   ·subst L;rw[zC rfl,zC hw,j]
   ·rw[zB L]
  rw[this]
theorem II (h:dJ U F p sp)(g:Gl U)(gd:Gc U)(x:Int)(hx:x<=9223372036854775807)(v:Int){R:aN}(hR:∀σ',Ext F U σ'->dJ σ' (Grow F U) p (ZL sp x v)->R (fG sp x) σ') :
 X9.c (aW p) x v U R:=by
 refine X9.o ?_;unfold X9.v;have j:dJ U (Cut F U) p sp:=dK.cut dJ.loc h;refine BL h g x hx λz e=>?_;have w:=j.bO e;have C:=g.bO e;refine cY (λr=>?_) λr=>?_
 ·have s:¬fG sp x=0:=by simpa using r
  refine hR z (bK.to e) ?_;unfold ZL;rw[zB s];exact dK.mono dJ.loc w λb _ a=>.inl a.1
 ·have d:fG sp x=0:=by simpa using r
  have i:0<=x/\sp.st.getD (x.toNat/256) 0≠0:=by
   unfold fG at d;by_cases a:x<0\/x%8≠0
   ·rw[zC a]at d;cases d
   ·rw[zB a]at d;by_cases hz:sp.st.getD (x.toNat/256) 0=0
    ·rw[zC hz]at d;cases d
    ·exact⟨O,hz⟩
  obtain⟨y,rfl⟩:=zY i.1;have u:y/8/32<sp.st.length:=by
   rcases jX (y/256) sp.st.length with h|h
   ·omega
   ·exact absurd (by rw[zN,zT (by simpa using h)];rfl) i.2
  refine nz aB (cQ (m:=y/8) (by rw[Yi O];simp) O (Mb w (gd.bO e) u v λB e2 A=>?_));have:=hR B (Ext.cut ((bK.to e).trans e2)) ?_
  ·rw[d]at this;exact this
  ·unfold ZL;rw[zC d];exact dK.mono dJ.loc A λb _ a=>by
    rcases a with a|a
    ·exact .inl a.1
    ·exact .inr (ky e.1 a)
def KZ (n:Nat):Sp:=⟨List.replicate n 0,λ_=>0,0⟩
theorem Ov {U:Hp}{F:Rg}{p q r n c:Nat}(h1:1<=n)(h2:n<=1024)(hc:n<=c)(hd:bX U p [.slice (some ⟨q,0,none⟩) n c,.map (some r),.int .i64 0])(hq:bX U q (gE (List.replicate n 0)))(hr:dI U r .i64 .s [])
 (hF:F p/\F q/\F r) (hne:p≠q/\p≠r/\q≠r):eX U F p q r [] (λ_=>0) (KZ n):=by
 have b:∀k:Nat,(List.replicate n 0)[k]?≠some 2:=λk a=>by
  rw[lJ]at a;split at a<;>cases a
 refine⟨⟨c,by simpa[KZ]using hc,by simpa[KZ]using hd⟩,⟨[],by simpa[KZ]using hq⟩,hr,λx=>?_,λk s e=>(by cases e),λk g h1=>absurd h1 (b k),λk a=>absurd a (b k),⟨hF.1,hF.2.1,hF.2.2,hne⟩,λw _=>rfl,by simpa[KZ]using h1,by simpa[KZ]using h2,λx d=>?_,by simp[KZ]⟩
 ·constructor
  ·intro h;cases h
  ·rintro⟨k,_,a⟩;exact absurd a (b k)
 ·have:=yg d;omega
theorem EO {n:Nat}(h1:1<=n)(h2:n<=1024){R:Option Addr->Int->Hp->Prop}(hR:∀σ' p',bK U σ'->U.size<=p'->dJ σ' (λb=>U.size<=b) p' (KZ n)->R (some ⟨p',0,none⟩) 0 σ'):QE.c (n:Int) U R:=by
 refine QE.o ?_;unfold QE.v;refine bR.intro (fM O ?_);rw[zM O];refine cE rfl (mk O O λd w e1 m=>qZ λr x e2 g=>nw (cs:=[.slice (some ⟨U.size,0,none⟩) n n,.map (some d.size),.int .i64 0]) λj u a e=>?_);have p:=Ext.bU a (Ext.bU e2 m id) id;have i:=Ext.fK a (g .i64 .s) id;refine hR j _ (Ext.trans (Ext.trans e1 e2) a) O ⟨U.size,d.size,[],_,Ov h1 h2 (zD _) e ?_ i ⟨O,O,O⟩ O⟩;rw[O0];exact p
end Go.Ar
namespace Go.Vc
open Go
def ui (h:Hp)(it r:Nat):Nat:=
 match h[it]?,h[r]? with
 | some (.mapIter _ _ seen _),some (.map es _)=>(es.toList.filter λe=>!seen.contains e.born).length
 | _,_=>0
variable {U:Hp}{k:IntKind}{c:CK}{l todo:List (Int×c.T)}{cur:Option (Int×c.T)}{r it:Nat}
theorem It.num {h:Hp}(hi:It h it k c (some r) l todo cur):ui h it r=todo.length:=by
 obtain⟨i,d,a,e,b,m,u,p,j,g,s⟩:=hi;unfold ui;rw[e,b];have:=congrArg List.length g;simpa using this
theorem It.bS {h h':Hp}(hi:It h it k c (some r) l todo cur)(h1:h'[it]?=h[it]?)(h2:h'[r]?=h[r]?):It h' it k c (some r) l todo cur:=by
 obtain⟨i,d,a,g,e,b⟩:=hi;exact⟨i,d,a,h1.trans g,h2.trans e,b⟩
theorem xk {A:aP}{body:Int->c.T->Hp->(Hp->Prop)->Prop}(hm:dI U r k c l)(I:List (Int×c.T)->Hp->Prop)
 (h0:∀v,v.size=U.size+1->bK U v->I l v)
 (hend:∀v,I [] v->A v)
 (hstep:∀todo n x v v' (J:aP),I todo v->(n,x)∈todo->Qg v v' U.size->U.size<v.size->(∀w,w[U.size]?=v'[U.size]?->w[r]?=v'[r]?->I (todo.filter λy=>!(y.1==n)) w->J w)->body n x v' J) :
 mW k c (some r) U λit v3=>YC [] (λI=>I v3) λJ1 v4=>mV k c it v4 (A v4) λ_ _ v5=>mT k c it v5 λkey1 val1=>body key1 val1 v5 J1:=by
 refine⟨l,hm,λv M L N=>?_⟩;have K:bK U v:=⟨O,λb s _=>L b s⟩;refine CD (λw=>∃todo d,It w U.size k c (some r) l todo d/\I todo w/\U.size<w.size) (λw=>ui w U.size r) ⟨l,none,N,h0 v M K,O⟩ ?_;rintro w ⟨todo,d,g,C,j⟩;refine⟨rfl,some r,l,todo,d,g,λD=>?_,λn x B E H e=>?_⟩
 ·subst D;exact hend w C
 ·refine⟨rfl,some r,l,_,n,x,e,hstep todo n x w E _ C B H j λu i p m=>?_⟩;have a:=e.bS i p;refine⟨⟨_,_,a,m,?_⟩,?_⟩
  ·obtain⟨P,G,z,F,_⟩:=a;exact(zy.1 F).1
  ·rw[a.num,g.num];exact yE.2 ⟨(n,x),B,by simp⟩
theorem uY {a:CK}{x0:a.T}{A:a.T->Hp->Prop}{body:Int->c.T->a.T->Hp->(a.T->Hp->Prop)->Prop}(hm:dI U r k c l)(I:List (Int×c.T)->a.T->Hp->Prop)
 (h0:∀v,v.size=U.size+1->bK U v->I l x0 v)
 (hend:∀z v,I [] z v->A z v)
 (hstep:∀todo n x z v v' (J:a.T->Hp->Prop),I todo z v->(n,x)∈todo->Qg v v' U.size->U.size<v.size->(∀z' w,w[U.size]?=v'[U.size]?->w[r]?=v'[r]?->I (todo.filter λy=>!(y.1==n)) z' w->J z' w)->body n x z v' J) :
 mW k c (some r) U λit v3=>YC [a] (λI=>I x0 v3) λJ1 z v4=>mV k c it v4 (A z v4) λ_ _ v5=>mT k c it v5 λkey1 val1=>body key1 val1 z v5 J1:=by
 refine⟨l,hm,λv P N Q=>?_⟩;have M:bK U v:=⟨O,λb B _=>N b B⟩;refine Z5 (a:=a) (λz w=>∃todo e,It w U.size k c (some r) l todo e/\I todo z w/\U.size<w.size) (λ_ w=>ui w U.size r) ⟨l,none,Q,h0 v P M,O⟩ ?_;rintro z w ⟨todo,e,i,E,m⟩;refine⟨rfl,some r,l,todo,e,i,λF=>?_,λn x D G L g=>?_⟩
 ·subst F;exact hend z w E
 ·refine⟨rfl,some r,l,_,n,x,g,hstep todo n x z w G _ E D L m λz' u j s p=>?_⟩;have d:=g.bS j s;refine⟨⟨_,_,d,p,?_⟩,?_⟩
  ·obtain⟨R,K,C,H,_⟩:=d;exact(zy.1 H).1
  ·rw[d.num,i.num];exact yE.2 ⟨(n,x),D,by simp⟩
end Go.Vc
namespace Go.Ar
open Go Go.Vc Go.Proofs
open Go.Bu (Y4)
variable {U:Hp}{F:Rg}{p q r:Nat}{sp:Sp}{l:List (Int×Sl)}{B:Nat->Nat}
theorem Vt {α:Type}{l:List (Int×α)}(hn:(l.map (·.1)).Nodup){n:Int}{x:α}(h:(n,x)∈l):bY l n=some x:=by
 induction l with
 | nil=>simp at h
 | cons y l ih=>
  rw[QQ];simp only[zU,zt]at hn;rcases zX.1 h with h1|h1
  ·subst h1;rw[zC rfl]
  ·have:¬y.1=n:=λe=>hn.1 (zF.2 ⟨_,h1,e.symm⟩);rw[zB this];exact ih hn.2 h1
end Go.Ar
namespace Go.Bu
open Go Go.Vc Go.Proofs
variable {U:Hp}{p n sb:Nat}{S:Nat->Bool}{ms:List Nat}
def jZ (ms:List Nat):List Value:=ms.map λm=>Value.map (some m)
structure Part (B:Nat) (h:Hp) (p n:Nat) (j:Nat) (s:Sl) (ms:List Nat):Prop where
 len:ms.length=j
 sl:s.len=j
 hd:bX h p [.int .i64 n,.slice s.a s.len s.cap]
 own:Go.Vc.Own (λb=>B<=b/\b≠p/\b∉ms) h s 1 (jZ ms)
 new:∀m∈ms,B<=m/\m≠p/\m<h.size
 nd:ms.Nodup
theorem Part.done {B:Nat}{h:Hp}{j:Nat}{s:Sl}(hp:Part B h p n j s ms)(hB:B<=p)(hj:0<j)(n1:1<=n)(n2:n<=1024)(lo:2^j<=2*n)(hi:n<2^j)(iZ:Bounded S n)
 (maps:∀k m,ms[k]?=some m->∃B:List (Int×Bool),dI h m .i64 .b B/\Keys S k B):∃sb,BH h p n S sb ms/\∀b,fp p sb ms b->B<=b:=by
 rcases hp.own.2 with⟨_,hl,_⟩|⟨sb,cs,⟨hq,hqp,hqm⟩,ha,hb,hle,hcl,ht⟩
 ·have:=hp.sl;omega
 ·refine⟨sb,⟨?_,?_,maps,?_,n1,n2,?_,?_,iZ⟩,?_⟩
  ·refine⟨s.cap,?_⟩;have:=hp.hd;rw[ha,hp.sl,←hp.len]at this;exact this
  ·refine⟨cs.drop (jZ ms).length,?_⟩;have:jZ ms++cs.drop (jZ ms).length=cs:=by
    conv=>lhs;lhs;rw[←ht]
    exact mY _ _
   show bX h sb (jZ ms++_);rw[this];exact hb
  ·simp only[zt,zX,not_or];exact⟨⟨λe=>hqp e.symm,λa=>(hp.new p a).2.1 rfl⟩,hqm,hp.nd⟩
  ·rw[hp.len];exact lo
  ·rw[hp.len];exact hi
  ·intro b hb;simp only[fp,zX]at hb;rcases hb with rfl|rfl|h
   ·exact hB
   ·exact hq
   ·exact(hp.new b h).1
theorem Part.LY {B:Nat}{h:Hp}{j:Nat}{s:Sl}(hp:Part B h p n j s ms):cell h ⟨p,1,none⟩=some (.slice s.a s.len s.cap):=by rw[hp.hd.cell];rfl
theorem Part.bO {B:Nat}{h h':Hp}{j:Nat}{s:Sl}(hp:Part B h p n j s ms)(e:bK h h'):Part B h' p n j s ms:=
 ⟨hp.len,hp.sl,e.bU hp.hd id,hp.own.bO e,λm a=>⟨(hp.new m a).1,(hp.new m a).2.1,sr (hp.new m a).2.2 e.1⟩,hp.nd⟩
theorem Part.step {B:Nat}{h:Hp}{j m e t bytes:Nat}{s:Sl}{zs:List Value}{K:Sl->Hp->Prop}(hp:Part B h p n j s ms)(hj:j<=1000)(hbt:bytes<=1000)(hz:zs.length=1)(hm:B<=m)(hmp:m≠p)(hml:m<h.size)(hmn:m∉ms)(hms:¬UI s m)
 (hpB:p<h.size) (hBh:B<=h.size)
 (hgo:∀s' h',Ext (UI s) h h'->s'.len=j+1->bX h' p [.int .i64 n,.slice s.a s.len s.cap] →
  (∀h2,Qg h' h2 p->bX h2 p [.int .i64 n,.slice s'.a s'.len s'.cap]->Part B h2 p n (j+1) s' (ms++[m]))->K s' h') :
 App s 1 bytes e zs ⟨some ⟨h.size,0,none⟩,1,1⟩ (h.push (.cells #[.map (some m)] t (0,0))) K:=by
 have E:=hp.sl;have u:Go.Vc.Own (λb=>B<=b/\b≠p/\b∉ms++[m]) (h.push (.cells #[.map (some m)] t (0,0))) s 1 (jZ ms):=by
  have d:=hp.own;have h2:Go.Vc.Own (λb=>B<=b/\b≠p/\b∉ms++[m]) h s 1 (jZ ms):=by
   refine⟨d.1,d.2.imp id ?_⟩;rintro⟨b,cs,⟨q1,q2,q3⟩,ha,r⟩;refine⟨b,cs,⟨q1,q2,?_⟩,ha,r⟩;simp only[zL,zR,not_or];exact⟨q3,λe=>hms ⟨0,by rw[ha,e]⟩⟩
  exact h2.bO (Ux _ _)
 have z:(h.push (.cells #[.map (some m)] t (0,0))).size=h.size+1:=by simp
 refine u.app (ys:=[.map (some m)]) ?_ hz rfl NN (by simp[dV]) ?_ ?_ mI λs' h' D N H G=>?_
 ·intro b i;rw[z]at i;refine⟨O,O,?_⟩;simp only[zL,zR,not_or];exact⟨λy=>by have:=(hp.new b y).2.2;omega,O⟩
 ·simp only;have:(s.len+1)*bytes<=1001*1000:=lp O hbt;omega
 ·simp only;omega
 ·simp only at D;have g:Ext (UI s) h h':=(Ux h _).to.trans N;have C:¬UI s p:=λi=>(hp.own.iY i).1.2.1 rfl;refine hgo s' h' g O (g.bU hp.hd C) λh2 w A=>⟨by simp[hp.len],O,A,?_,?_,?_⟩
  ·have:jZ (ms++[m])=jZ ms++[.map (some m)]:=by simp[jZ]
   rw[this];exact H.bS (Ext.eD (F:=(· = p)) w rfl) (λb M _ L=>M.2.1 L)
  ·intro x hx;have J:h2.size=h'.size:=w.1;have:=g.1;rcases zL.1 hx with d|d
   ·have:=hp.new x d;exact⟨this.1,this.2.1,O⟩
   ·simp at d;subst d;exact⟨hm,hmp,O⟩
  ·rw[nL];refine⟨hp.nd,by simp,?_⟩;intro a ha b i;simp at i;subst i;rintro rfl;exact hmn ha
def gZ:Nat->Bool:=λ_=>false
theorem OF (k:Nat):Keys gZ k []:=by
 refine⟨by simp,λq a=>?_⟩;have:=Vp a (Kb k q);simp[gZ]at this
theorem rk (aF:Int){R:Option Addr->Int->Hp->Prop}(hbad:¬(1<=aF/\aF<=1024)->R none 1 U)
 (hR:∀(n:Nat),aF=(n:Int)->1<=n->n<=1024->∀σ' sb ms,bK U σ'->BH σ' U.size n gZ sb ms->(∀b,fp U.size sb ms b->U.size<=b)->R (some ⟨U.size,0,none⟩) 0 σ'):QD.c aF U R:=by
 refine QD.o ?_;unfold QD.v;refine bR.intro (cR (λg=>cB rfl (hbad O)) λg=>?_);refine cR (λh2=>hbad O) λh2=>?_;obtain⟨n,rfl⟩:=zY (show 0<=aF by omega);have L:1<=n:=by omega
 have M:n<=1024:=by omega
 unfold Nw;have e0:=Ux U (.cells #[.int .i64 (n:Int),.slice none 0 0] 52 (0,0));refine Z5 (a:=bN) (λt h=>∃(j:Nat) (s:Sl) (ms:List Nat),t=((2^j:Nat):Int)/\2^j<=2*n/\bK U h/\U.size<h.size/\Part U.size h U.size n j s ms/\∀m∈ms,dI h m .i64 .b []) (λt _=>2*n+1-t.toNat)
  ⟨0,⟨none,0,0⟩,[],rfl,by simp;omega,Ext.push _ _ _,by simp,⟨rfl,rfl,bX.push _ _ _,Own.nil _ _ _,by simp,by simp⟩,by simp⟩ ?_
 rintro t h ⟨j,s,ms,rfl,G,N,V,d,w⟩;have hj:j<=11:=by
  apply Classical.byContradiction;intro hc;have:2^12<=2^j:=nZ aB O;omega
 have hpj:=ka j;refine cR (λW=>?_) (λC=>?_)
 ·refine aG ?_;rw[add_lit,zH];refine m4 d.LY ?_;have e1:=Ux h (.map #[] 0);have X:(h.push (.map #[] 0)).size=h.size+1:=by simp
  have A:=d.bO e1;refine A.step (m:=h.size) O O rfl O O O (λy=>by have:=(d.new _ y).2.2;omega) (λu=>by have:=(d.own.iY u).2;omega) O O λs' h' J hl u r=>?_;refine aG (u.OV aA λh2 z D=>?_);have K:=r h2 z D;have H:bK U h2:=by
   refine Ext.fresh (Ext.fresh (N.trans e1) J λi E=>(d.own.iY E).1.1) (Ext.eD (F:=(· = U.size)) z rfl) λi E=>?_;rw[E];exact zD _
  refine cQ (m:=2^(j+1)) (by rw[lP];omega) (by rw[lP];omega) ⟨⟨j+1,s',ms++[h.size],rfl,by rw[lP];omega,H,?_,K,?_⟩,by rw[lP];omega⟩
  ·have:=z.1;have:=J.1;omega
  ·intro m y;have Gi:∀{m:Nat},dI (h.push (.map #[] 0)) m .i64 .b []->¬UI s m->m≠U.size->dI h2 m .i64 .b []:=λQ P B=>UN z (J.fK Q P) B;rcases zL.1 y with g|g
   ·exact Gi (e1.fK (w m g) id) (λu=>(d.own.iY u).1.2.2 g) (d.new m g).2.1
   ·simp at g;subst g;exact Gi (dI.push _ _ _) (λu=>by have:=(d.own.iY u).2;omega) O
 ·have p:0<j:=by
   rcases xC j with e|e
   ·subst e;simp at C;omega
   ·exact e
  obtain⟨sb,Z,Y⟩:=d.done (S:=gZ) (zD _) p L M G O (λx hx=>by simp[gZ]at hx) λk m y=>⟨[],w m (zG y),OF k⟩;exact hR n rfl L M h sb ms N Z Y
end Go.Bu