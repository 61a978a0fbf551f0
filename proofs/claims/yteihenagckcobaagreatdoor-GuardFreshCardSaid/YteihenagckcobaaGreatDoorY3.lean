/- Texts joined. -/
import Derived.Lib.Overlaps
import Derived.Laws.Externs
import Derived.Test.YteihenagckcobaaGreatDoorY2
set_option linter.unusedVariables false
set_option linter.unusedSimpArgs false
namespace Go.Ar
open Go Go.Vc Go.Proofs
variable {U:Hp}
theorem DX (x y z:Int){R:aO}(hR:∀σ',bK U σ'->R (VU x y z) σ'):Qt.c x y z U R:=by
 refine Qt.o ?_;unfold Qt.v;refine nw (cs:=[.int .i64 x,.int .i64 y,.int .i64 z]) λh A e b=>?_;have s:VU x y z=false->R false h:=λg=>g▸hR h e;have a:¬(8<=x/\x<=512/\x%8=0/\1<=y/\y<=4/\x<=y*256/\1<=z/\z<=32)->R false h:=λg=>s (by rw[←pN,UQ];exact g);refine b.rI rfl (bV.intro ?_);refine cQ (λi=>b.rI rfl (bV.intro ?_)) λi=>?_
 case refine_2=>
  iterate 6 refine bV.intro (cB rfl ?_)
  exact a O
 refine cQ (λj=>b.rI rfl (nz aB (bV.intro ?_))) λj=>?_
 case refine_2=>
  iterate 5 refine bV.intro (cB rfl ?_)
  exact a O
 rw[Qm O];refine cO (λd=>b.rI rfl (bV.intro ?_)) λd=>?_
 case refine_2=>
  have:¬x%8=0:=by simpa using d
  iterate 4 refine bV.intro (cB rfl ?_)
  exact a O
 have p:x%8=0:=by simpa using d
 refine cQ (λr=>b.rI rfl (bV.intro ?_)) λr=>?_
 case refine_2=>
  iterate 3 refine bV.intro (cB rfl ?_)
  exact a O
 refine cQ (λw=>b.rI rfl (ar O O (b.rI rfl (bV.intro ?_)))) λw=>?_
 case refine_2=>
  iterate 2 refine bV.intro (cB rfl ?_)
  exact a O
 refine cQ (λu=>b.rI rfl (bV.intro ?_)) λu=>?_
 case refine_2=>exact bV.intro (cB rfl (a O))
 refine cQ (λm=>b.rI rfl ?_) λm=>a O;have:decide (z<=32)=VU x y z:=by
  rw[lO,UQ];simp;omega
 rw[this];exact hR h e
theorem LH {c:bZ}(hc:c.ok){R:aN}(hR:∀σ',bK U σ'->R (c.n:Int) σ'):Zv.c c.size c.aF c.batch U R:=by
 refine Zv.o ?_;unfold Zv.v;have h:=hc;unfold bZ.ok at h;refine nw (cs:=[.int .i64 c.size,.int .i64 c.aF,.int .i64 c.batch]) λh b e a=>?_;refine a.rI rfl (cP (m:=c.aF*256) aA O (a.rI rfl (nz O ?_)));refine cP (m:=c.n) ?_ (by have:=hc.kx;omega) (hR _ e);rw[Xs O];simp[bZ.n]
theorem D7 (x y z:Int){R:Int->Int->Hp->Prop}(h1:∀c:bZ,c.ok->x=c.size->y=c.aF->z=c.batch->∀σ',bK U σ'->R (c.n:Int) 0 σ')(h0:VU x y z=false->∀σ',bK U σ'->R 0 1 σ'):Zn.c x y z U R:=by
 refine Zn.o ?_;unfold Zn.v;refine nw (cs:=[.int .i64 x,.int .i64 y,.int .i64 z]) λh j e b=>?_;refine b.rI rfl (b.rI rfl (b.rI rfl (DX _ _ _ λi e2=>?_)));have a:=e2.bT b id;cases hk:VU x y z
 ·exact cD rfl (h0 hk _ (e.trans e2))
 ·obtain⟨c,d,_,rfl,rfl,rfl⟩:=Gk hk;exact cB rfl (a.rI rfl (a.rI rfl (a.rI rfl (LH d λm g=>h1 c d rfl rfl rfl _ ((e.trans e2).trans g)))))
end Go.Ar
namespace Go.Proofs
open Go.Vc
set_option maxRecDepth 100000
def Xi.h:Hn:=.q .o1 (.q (.cR (.seq [.op,.op,.op,.cU true 6 (RI.ops 6),.op])) .l)
def Xi.v (a:R2)(b:Hp)(c:aO):Prop:=bV (λd e=>c d e) λf=>If (!a.isNone) (bE a 0 b λh=>f (decide (((h.len:Nat):Int)>0)) b) (f false b)
theorem Xi.o {a b c}(d:Xi.v a b c):Xi.c a b c:=Wa Tryz.func191 (x:=Xi.h) (R0 d)
def Km.h:Hn:=.q .o2 (.q (.q (.cR (.seq [.op,.op,.op,.cU false 2 [.op,.op],.op,.cU false 3 (RI.ops 3)])) .aJ) (.q .o6 .l))
def Km.v (a:Int)(b:Hp)(c:Option Addr->Int->Hp->Prop):Prop:=bV (λd e=>bV (λf g=>If f (c none 1 g) (Mk a a 8 3 [.I 0] g λh i=>aV #[.slice h.a h.len h.cap] 280 i λj k=>c (some j) 0 k)) λl=>If d (l true e) (Nz 16 <| l ((a.tmod 16) != 0) e)) λm=>If (a<16) (m true b) (m (decide (a>1024)) b)
theorem Km.o {a b c}(d:Km.v a b c):Km.c a b c:=Wa Tryz.func198 (x:=Km.h) (R0 d)
def Xl.h:Hn:=.q .o1 (.q .o6 .l)
def Xl.v (a:R2)(b c:Int)(d:Hp)(e:aN):Prop:=aV #[.I 1] 3 d λf g=>XE.c a b c 2 ⟨some f,1,1⟩ g λh i=>e h i
theorem Xl.o {a b c d e}(f:Xl.v a b c d e):Xl.c a b c d e:=Wa Tryz.func220 (x:=Xl.h) (R0 f)
def YL.h:Hn:=.q .o1 (.q .o7 .l)
def YL.v (a:R2)(b:Hp)(c:aN):Prop:=bE a 0 b λe=>Nz 16<|bL (((e.len:Nat):Int).tdiv 16) λf=>c f b
theorem YL.o {a b c}(d:YL.v a b c):YL.c a b c:=Wa Tryz.func224 (x:=YL.h) (R0 d)
def YY.h:Hn:=.q .o1 (.q (.o 11) .l)
def YY.v (a:R2)(b:Int)(c:Hp)(d:Sl->Hp->Prop):Prop:=bE a 0 c λf=>bL (b*16) λg=>bL (b+1) λh=>bL (h*16) λi=>eY f 1 g i (f.cap:Nat) λj=>d j c
theorem YY.o {a b c d}(e:YY.v a b c d):YY.c a b c d:=Wa Tryz.func226 (x:=YY.h) (R0 e)
def XE.h:Hn:=.q .o2 (.q (.k (.q .o4 (.c .aM (.q (.cR (.seq [.op,.op,.op,.cU false 2 [.op,.op],.op,.cU false 7 (RI.ops 7),.op,.cU false 9 (RI.ops 9),.op])) .aK)))) (.q .gQ (.q (.q .o3 .aK) (.q .o3 .aM))))
def XE.v (a:R2)(b c d:Int)(e:Sl)(f:Hp)(g:aN):Prop:=aV #[.slice e.a e.len e.cap] 34 f λh i=>Xi.c a i λj k=>If (!j) (g 5 k) (bV (λl m=>bV (λn o=>bV (λp q=>If p (g 1 q) (bE a 0 q λs=>bL (b+c) λt=>eY s 1 b t (s.cap:Nat) λu=>Wx.c u ⟨271,#[],#[.pointer (some h)]⟩ q λv w=>If v (g 5 w) (Qf.c u d w λx=>g 0 x))) λy=>If n (y true o) (bE a 0 o λaa=>bL (((aa.len:Nat):Int)-b) λab=>y (decide (c>ab)) o)) λac=>If l (ac true m) (bE a 0 m λae=>ac (decide (b>((ae.len:Nat):Int))) m)) λaf=>If (b<0) (af true k) (af (decide (c<1)) k))
theorem XE.o {a b c d e f g}(h:XE.v a b c d e f g):XE.c a b c d e f g:=Wa Tryz.func230 (x:=XE.h) (R0 h)
def Yk.h:Hn:=.q .o2 (.q (.k (.q .o4 (.c .aL (.q (.cR (.seq [.op,.op,.op,.cU false 4 (RI.ops 4),.op])) .aJ)))) (.q .o5 .l))
def Yk.v (a:R2)(b:Int)(c:Hp)(d:Sl->Int->Hp->Prop):Prop:=Xi.c a c λe f=>If (!e) (d ⟨none,0,0⟩ 5 f) (bV (λg h=>If g (d ⟨none,0,0⟩ 1 h) (YY.c a b h λi j=>d i 0 j)) λk=>If (b<0) (k true f) (YL.c a f λl m=>k (decide (b≥l)) m))
theorem Yk.o {a b c d}(e:Yk.v a b c d):Yk.c a b c d:=Wa Tryz.func233 (x:=Yk.h) (R0 e)
def Qf.h:Hn:=.q .o3 (.k (.loop [(7,.I)] (.q .o1 (.q (.c .l .l) (.q (.k (.q .o2 .o5)) .o2)))))
def Qf.v (a:Sl)(b:Int)(c:Hp)(d:aP):Prop:=Yp [bN] (λe=>e 0 c) λf (g:Int) h=>If (g<((a.len:Nat):Int)) (Ix a.a a.len g 1 λi=>dX i (.I b) h λj=>bL (g+1) λk=>f k j) (d h)
theorem Qf.o {a b c d}(e:Qf.v a b c d):Qf.c a b c d:=Wa Tryz.func235 (x:=Qf.h) (R0 e)
def Xv.h:Hn:=.q .o1 (.q .o6 .l)
def Xv.v (a:R2)(b c:Int)(d:Hp)(e:aN):Prop:=aV #[.I 2,.I 3] 3 d λf g=>XE.c a b c 1 ⟨some f,2,2⟩ g λh i=>e h i
theorem Xv.o {a b c d e}(f:Xv.v a b c d e):Xv.c a b c d e:=Wa Tryz.func255 (x:=Xv.h) (R0 f)
def Yr.h:Hn:=.q .o1 (.q .o5 .l)
def Yr.v (a:Int)(b:Addr)(c:Hp)(d:aO):Prop:=jq b c λe=>Wp.c e a c λf g=>d (!f) g
theorem Yr.o {a b c d}(e:Yr.v a b c d):Yr.c a b c d:=Wa Tryz.func271 (x:=Yr.h) (R0 e)
def XN.h:Hn:=.q .o1 (.q (.q (.cR (.seq [.op,.op,.op,.op,.cU false 2 [.op,.op],.op,.cU false 7 (RI.ops 7)])) .aK) (.q .o8 .l))
def XN.v (a:R2)(b:Int)(c:Hp)(d:aN):Prop:=Xi.c a c λe f=>bV (λg h=>bV (λi j=>If i (d (-1) j) (bE a 0 j λl=>Ix l.a l.len b 1 λm=>bM m j λn=>d n j)) λo=>If g (o true h) (bE a 0 h λq=>o (decide (b≥((q.len:Nat):Int))) h)) λr=>If (!e) (r true f) (r (decide (b<0)) f)
theorem XN.o {a b c d}(e:XN.v a b c d):XN.c a b c d:=Wa Tryz.func281 (x:=XN.h) (R0 e)
def XS.h:Hn:=.q .o1 (.q .o8 (.q (.k (.q .o3 (.c .aL (.q .o5 .aK)))) (.q .o2 .aM)))
def XS.v (a:R2)(b:Int)(c:Hp)(d:aN):Prop:=Yk.c a b c λe f g=>If (f != 0) (d f g) (Ix e.a e.len 0 1 λh=>bM h g λi=>If (i != 0) (d 5 g) (Qf.c e 3 g λj=>d 0 j))
theorem XS.o {a b c d}(e:XS.v a b c d):XS.c a b c d:=Wa Tryz.func287 (x:=XS.h) (R0 e)
end Go.Proofs
namespace Go.Ar
open Go Go.Vc Go.Proofs
open Go.Bu (Zb)
variable {U:Hp}{F:Rg}{p q:Nat}{st:List Nat}
structure ia (U:Hp) (p q:Nat) (st:List Nat):Prop where
 hd:∃cap,st.length<=cap/\bY U p [.slice (some ⟨q,0,none⟩) st.length cap]
 row:∃rest,bY U q (ints st++rest)
 ne:p≠q
 n1:16<=st.length
 n2:st.length<=1024
 n3:st.length%16=0
theorem ia.bR {σ':Hp}(h:ia U p q st)(e:Ext F U σ')(hp:¬F p)(hq:¬F q):ia σ' p q st:=
 ⟨by obtain⟨c,a,b⟩:=h.hd;exact⟨c,a,e.bT b hp⟩,by obtain⟨r,a⟩:=h.row;exact⟨r,e.bT a hq⟩,h.ne,h.n1,h.n2,h.n3⟩
theorem ia.bO {σ':Hp}(h:ia U p q st)(e:bK U σ'):ia σ' p q st:=h.bR e id id
theorem ia.lt (h:ia U p q st):p<U.size/\q<U.size:=by
 obtain⟨_,_,a⟩:=h.hd;obtain⟨_,b⟩:=h.row;exact⟨a.lt,b.lt⟩
theorem ia.rS (h:ia U p q st){K:Sl->Prop}(hK:∀cap,st.length<=cap->K ⟨some ⟨q,0,none⟩,st.length,cap⟩):jq (Addr.add ⟨p,0,none⟩ 0) U K:=by
 obtain⟨c,a,b⟩:=h.hd;exact b.rS rfl (hK c a)
theorem ia.part (h:ia U p q st){s:Sl}{a n:Nat}(ha:s.a=some ⟨q,a,none⟩)(hn:s.len=n)(hl:a+n<=st.length):cX s 1 (ints ((st.drop a).take n)) U (· = q):=by
 obtain⟨r,e⟩:=h.row;have b:((st.drop a).take n).length=n:=by simp;omega
 refine e.gY ha (by rw[QB,b,hn];simp) λj d=>?_;rw[QB,b]at d;rw[zh (by rw[QB];omega)];simp[ints,zj,d,kL]
theorem jD {b o n c:Nat}{cs:List Value}(hb:bY U b cs)(hl:o+n<=cs.length)(hn:n<=1000000)(v:Nat){R:aP}
 (hR:∀σ',Qk U σ' b->bY σ' b (cs.take o++List.replicate n (.int .i64 (v:Int))++cs.drop (o+n))->R σ'):Qf.c ⟨some ⟨b,o,none⟩,n,c⟩ v U R:=by
 refine Qf.o ?_;unfold Qf.v;refine ZS (a:=bN) (λ(t:Int) p=>∃i:Nat,t=(i:Int)/\i<=n/\Qk U p b/\bY p b (cs.take o++List.replicate i (.int .i64 (v:Int))++cs.drop (o+i))) (λt _=>n-t.toNat) ⟨0,rfl,O,⟨rfl,λ_ _=>rfl⟩,by simpa using hb⟩ ?_;rintro t p ⟨i,rfl,y,s,g⟩;refine cQ (λu=>?_) λr=>?_
 ·simp only at u;refine ix O aC ?_;rw[add_lit];refine g.s0 aE λx j d=>?_;refine cP (m:=i+1) O O ⟨⟨i+1,rfl,O,⟨j.1.trans s.1,λk w=>(j.2 k w).trans (s.2 k w)⟩,?_⟩,O⟩;have:(cs.take o++List.replicate i (Value.int .i64 (v:Int))++cs.drop (o+i)).set (o+(i:Int).toNat*1) (Value.int .i64 (v:Int))=cs.take o++List.replicate (i+1) (Value.int .i64 (v:Int))++cs.drop (o+(i+1)):=by
   rw[List.set_append_right _ _ aE];have e:o+(i:Int).toNat*1-(cs.take o++List.replicate i (Value.int .i64 (v:Int))).length=0:=by simp;omega
   rw[e,vG O,List.set_cons_zero,Ao];simp[zz,vE]
  rw[this]at d;exact d
 ·simp only at r;have:i=n:=by omega
  subst this;exact hR p s g
theorem ia.fill (h:ia U p q st){a n:Nat}{r:List Value}{σ':Hp}{v:Nat}(hrow:bY U q (ints st++r))(hl:a+n<=st.length)(ho:Qk U σ' q)
 (hb:bY σ' q ((ints st++r).take a++List.replicate n (.int .i64 (v:Int))++(ints st++r).drop (a+n))):ia σ' p q (gg st a (a+n) v):=by
 obtain⟨c,d,e⟩:=h.hd;have b:=Kv st a (a+n) v;refine⟨⟨c,by rw[b];exact d,?_⟩,⟨r,?_⟩,h.ne,by rw[b];exact h.n1,by rw[b];exact h.n2,by rw[b];exact h.n3⟩
 ·rw[b];exact Ws ho e h.ne
 ·rw[JK O hl,UD,UD];have e1:(ints st++r).take a=ints (st.take a):=by
   rw[nX (by rw[QB];omega)];simp[ints]
  have e2:(ints st++r).drop (a+n)=ints (st.drop (a+n))++r:=by
   rw[List.drop_append_of_le_length (by rw[QB];omega)];simp[ints]
  have g:ints (List.replicate (a+n-a) v)=List.replicate n (.int .i64 (v:Int)):=by
   rw[yr];simp[ints]
  rw[e1,e2]at hb;rw[g];simpa[zz]using hb
theorem ia.jD (h:ia U p q st){a n c:Nat}(hl:a+n<=st.length)(v:Nat){R:aP}(hR:∀σ',Ext (· = q) U σ'->ia σ' p q (gg st a (a+n) v)->R σ') :
 Qf.c ⟨some ⟨q,a,none⟩,n,c⟩ v U R:=by
 obtain⟨r,b⟩:=h.row;have:=h.n2;exact Ar.jD b (by simp[QB];omega) O v λσ' d e=>hR σ' d.ext (h.fill b hl d e)
theorem BL (h:ia U p q st){R:aO}(hR:R true U):Xi.c (aW p) U R:=by
 refine Xi.o ?_;unfold Xi.v;refine bV.intro (cD rfl (aG (h.rS λcap _=>?_)));have:=h.n1;rw[zJ aC];exact hR
theorem RW (h:ia U p q st){R:aN}(hR:R ((st.length/16:Nat):Int) U):YL.c (aW p) U R:=by
 refine YL.o ?_;unfold YL.v;have:=h.n2;refine aG (h.rS λcap _=>nz aB ?_);refine cP (m:=st.length/16) ?_ O hR;rw[Xs O];simp
theorem Lr (h:ia U p q st){k:Nat}(hk:16*k+16<=st.length){R:Sl->Hp->Prop}(hR:∀c,R ⟨some ⟨q,16*k,none⟩,16,c⟩ U):YY.c (aW p) (k:Int) U R:=by
 refine YY.o ?_;unfold YY.v;have:=h.n2;refine aG (h.rS λcap a=>?_);refine cP (m:=16*k) O O (cP (m:=k+1) O O (cP (m:=16*k+16) O O ?_));refine iU O aC aC ?_;have e:16*k+16-16*k=16:=by omega
 rw[zB aC,e];simp only[zX,add_lit,mX,zH];exact hR _
theorem I0 (h:ia U p q st)(k:Int){R:Sl->Int->Hp->Prop}(h1:∀(x:Nat) c,k=(x:Int)->16*x+16<=st.length->R ⟨some ⟨q,16*x,none⟩,16,c⟩ 0 U)(h0:tD st.length k=false->R ⟨none,0,0⟩ 1 U) :
 Yk.c (aW p) k U R:=by
 refine Yk.o ?_;unfold Yk.v;have n3:=h.n3;refine BL h (cB rfl (bV.intro (cQ (λa=>cD rfl (h0 ?_)) λa=>RW h ?_)))
 ·simp[tD];omega
 ·refine cQ (λb=>h0 ?_) λd=>?_
  ·simp[tD];omega
  ·obtain⟨x,rfl⟩:=za (show 0<=k by omega);exact Lr h O λc=>h1 x c rfl O
theorem E5 {n x:Nat}(h:16*x+16<=n):tD n (x:Int)=true:=by simp[tD];omega
theorem ia.first (h:ia U p q st){x c:Nat}(hx:16*x+16<=st.length){K:Int->Prop}(hK:K ((st.getD (16*x) 0:Nat):Int)) :
 Ix (some ⟨q,16*x,none⟩) 16 0 1 λa=>gA .i64 a U K:=by
 have b:=h.part (s:=⟨some ⟨q,16*x,none⟩,16,c⟩) (n:=16) rfl rfl hx;refine b.rG (i:=0) (x:=st.getD (16*x) 0) ?_ hK;simp[zj,kL,zO];rw[cV O];simp
theorem RA (h:ia U p q st)(k:Int){R:aN}(hR:∀σ',Ext (· = q) U σ'->ia σ' p q (iQ st k)->R (j6 st k) σ'):XS.c (aW p) k U R:=by
 refine XS.o ?_;unfold XS.v;refine I0 h k (λx c g i=>?_) λg=>?_
 ·subst g;have b:=E5 i;refine cB rfl (h.first (c:=c) i (cO (λd=>?_) λd=>?_))
  ·have e1:¬st.getD (16*x) 0=0:=by simpa using d
   have:j6 st (x:Int)=5:=by simp only[j6,b,dE,zR,zB e1]
   have e2:iQ st (x:Int)=st:=by simp[iQ,this]
   have:=hR U (Ext.refl _ _);rw[e2]at this;simpa[*]using this h
  ·have e1:st.getD (16*x) 0=0:=by simpa using d
   have a:j6 st (x:Int)=0:=by simp only[j6,b,dE,zR,e1]
   have e2:iQ st (x:Int)=gg st (16*x) (16*x+16) 3:=by simp[iQ,a]
   refine h.jD i 3 λσ' e j=>?_;have:=hR σ' e;rw[a,e2]at this;exact this j
 ·have a:j6 st k=1:=by simp[j6,g]
  have e2:iQ st k=st:=by simp[iQ,a]
  refine cD rfl ?_;have:=hR U (Ext.refl _ _);rw[a,e2]at this;exact this h
theorem CB {s:Sl}{xs:List Nat}(h:cX s 1 (ints xs) U F)(hl:xs.length<=1000000)(v:Nat){R:aN}(h1:∀i:Nat,xs[i]?=some v->(∀j:Nat,j<i->xs[j]?≠some v)->R (i:Int) U)(h0:v∉xs->R (-1) U) :
 WC.c s (v:Int) U R:=by
 refine WC.o ?_;unfold WC.v;have x:=h.oJ;refine ZS (a:=bN) (λ(t:Int) w=>∃i:Nat,t=(i:Int)/\i<=xs.length/\w=U/\∀j,j<i->xs[j]?≠some v) (λt _=>xs.length-t.toNat) ⟨0,rfl,O,rfl,λj d=>O⟩ ?_;rintro t w ⟨i,rfl,B,rfl,b⟩;refine cQ (λz=>?_) λy=>?_
 ·have u:i<xs.length:=by omega
  have p:xs[i]?=some xs[i]:=cV u;refine h.rG p ?_;rw[k5];refine cO (λg=>?_) λg=>?_
  ·have:v=xs[i]:=by simpa using g
   exact h1 i (by rw[p,this]) b
  ·have r:¬v=xs[i]:=by simpa using g
   refine cP (m:=i+1) O O ⟨⟨i+1,rfl,O,rfl,λj d=>?_⟩,O⟩;by_cases e:j=i
   ·subst e;rw[p];intro e2;cases e2;exact r rfl
   ·exact b j O
 ·refine h0 λA=>?_;obtain⟨j,d⟩:=zQ A;have:=(cW.1 d).1;exact b j O d
theorem ML {s:Sl}{xs:List Nat}(h:cX s 1 (ints xs) U F)(hl:xs.length<=1000000)(v:Nat){R:aO}(hR:R (xs.contains v) U):Wp.c s (v:Int) U R:=by
 refine Wp.o ?_;unfold Wp.v;refine CB h hl v (λi a _=>?_) λb=>?_
 ·have:xs.contains v=true:=by simpa using zG a
  rw[this]at hR;rw[zJ O];exact hR
 ·have:xs.contains v=false:=by simpa using b
  rw[this]at hR;exact hR
theorem LS {s:Sl}{xs:List Int}(h:cX s 1 (xs.map (Value.int .i64)) U F)(hl:xs.length<=1000000000)(v:Int){R:aO}(hR:R (xs.contains v) U):Wp.c s v U R:=by
 refine Wp.o ?_;unfold Wp.v;refine WC.o ?_;unfold WC.v;have x:s.len=xs.length:=by have:=h.1;simp at this;omega
 refine ZS (a:=bN) (λ(t:Int) u=>∃i:Nat,t=(i:Int)/\i<=xs.length/\u=U/\∀j,j<i->xs[j]?≠some v) (λt _=>xs.length-t.toNat) ⟨0,rfl,O,rfl,λj d=>O⟩ ?_;rintro t u ⟨i,rfl,A,rfl,b⟩;refine cQ (λz=>?_) λy=>?_
 ·have r:i<xs.length:=by omega
  have w:xs[i]?=some xs[i]:=cV r;refine h.nr w (cO (λg=>?_) λg=>?_)
  ·have e:v=xs[i]:=by simpa using g
   have:xs.contains v=true:=by rw[e];simp
   rw[this]at hR;show R (decide ((i:Int)≥0)) _;rw[zJ O];exact hR
  ·have p:¬v=xs[i]:=by simpa using g
   refine cP (m:=i+1) O O ⟨⟨i+1,rfl,O,rfl,λj d=>?_⟩,O⟩;by_cases e:j=i
   ·subst e;rw[w];intro e2;cases e2;exact p rfl
   ·exact b j O
 ·have:xs.contains v=false:=by
   simp only[qH,decide_eq_false_iff_not];intro hm;obtain⟨j,d⟩:=zQ hm;have:=(cW.1 d).1;exact b j O d
  rw[this]at hR;exact hR
def Er (f:Fv)(p:Nat->Bool)(U:Hp):Prop:=∀(x:Nat) (σ':Hp) (R:aO),bK U σ'->(∀σ'',bK σ' σ''->R (p x) σ'')->VH Tryz.prog f [.int .i64 (x:Int)] [.one .b] σ' R
theorem P9 {s:Sl}{xs:List Nat}(h:cX s 1 (ints xs) U F)(hl:xs.length<=1000000){f:Fv}{pr:Nat->Bool}(hf:Er f pr U){R:aO}(hR:∀σ',bK U σ'->R (xs.any pr) σ') :
 Wx.c s f U R:=by
 refine Wx.o ?_;unfold Wx.v;refine WP.o ?_;unfold WP.v;have w:=h.oJ;refine ZS (a:=bN) (λ(t:Int) u=>∃i:Nat,t=(i:Int)/\i<=xs.length/\bK U u/\∀j x,j<i->xs[j]?=some x->pr x=false) (λt _=>xs.length-t.toNat) ⟨0,rfl,O,Ext.refl _ _,λj x p=>O⟩ ?_;rintro t u ⟨i,rfl,B,e,d⟩;refine cQ (λz=>?_) λy=>?_
 ·have g:i<xs.length:=by omega
  have r:xs[i]?=some xs[i]:=cV g;refine(aH.bO h e).rG r (hf _ _ _ e λA e2=>?_);cases hp:pr xs[i]
  ·refine cB rfl (cP (m:=i+1) O O ⟨⟨i+1,rfl,O,e.trans e2,λj x p b=>?_⟩,O⟩);by_cases e3:j=i
   ·subst e3;rw[r]at b;cases b;exact hp
   ·exact d j x O b
  ·refine cD rfl ?_;have:xs.any pr=true:=j9.2 ⟨_,kg g,hp⟩;show R (decide ((i:Int)≥0)) _;rw[zJ O,←this];exact hR _ (e.trans e2)
 ·have:xs.any pr=false:=by
   rw[mh];intro x r;obtain⟨j,p⟩:=zQ r;have:=(cW.1 p).1;simp[d j x O p]
  show R (decide ((-1:Int)≥0)) _;rw[show decide ((-1:Int)≥0)=false from rfl,←this];exact hR _ e
theorem Pa {c:Nat}{s:Sl}{fr:List Nat}{σ0:Hp}(hb:bY σ0 c [.slice s.a s.len s.cap])(hs:cX s 1 (ints fr) σ0 F)(hl:fr.length<=1000):Er ⟨271,#[],#[.pointer (some ⟨c,0,none⟩)]⟩ (λx=>!fr.contains x) σ0:=by
 intro x σ' R e hR;refine pd (all := #[.int .i64 (x:Int),.pointer (some ⟨c,0,none⟩)]) (by kernel_rfl) aA ?_;refine Yr.o ?_;unfold Yr.v;refine(e.bT hb id).tx rfl ?_;exact ML (aH.bO hs e) O x (hR _ (Ext.refl _ _))
theorem FR (h:ia U p q st)(a m:Int)(v:Nat){s:Sl}{fr:List Nat}(hs:cX s 1 (ints fr) U F)(hl:fr.length<=1000){R:aN}(hR:∀σ',Ext (· = q) U σ'->ia σ' p q (V2 st a m v fr)->R (GE st a m fr) σ') :
 XE.c (aW p) a m v s U R:=by
 refine XE.o ?_;unfold XE.v;have n2:=h.n2;have P:=h.lt.2;refine nw (cs:=[.slice s.a s.len s.cap]) λv1 N i L=>?_;have e:=h.bO i;have b:¬(0<=a/\1<=m/\m<=st.length-a)->R 1 v1:=λM=>by
  have d:Zb st.length a m=false:=by simp only[Zb,←uB];exact zM M
  have e1:GE st a m fr=1:=by simp[GE,d]
  have e2:V2 st a m v fr=st:=by simp[V2,e1]
  have:=hR v1 i.to;rw[e1,e2]at this;exact this e
 refine BL e (cB rfl (bV.intro ?_));refine cQ (λD=>bV.intro (cD rfl (bV.intro (cD rfl (cD rfl (b O)))))) λD=>?_;refine bV.intro (cQ (λE=>bV.intro (cD rfl (cD rfl (b O)))) λE=>?_);refine aG (e.rS λcap A=>bV.intro (cQ (λB=>cD rfl (b (by simp only at *;omega))) λB=>?_));simp only at B;refine aG (e.rS λcap A=>ar aC aC (cQ (λw=>b (by simp only at *;omega)) λw=>?_));simp only at w;obtain⟨x,rfl⟩:=za (show 0<=a by omega);obtain⟨y,rfl⟩:=za (show 0<=m by omega);have j:x+y<=st.length:=by omega
 have d:Zb st.length (x:Int) (y:Int)=true:=by simp only[Zb,zF,zU];omega
 refine aG (e.rS λcap A=>cP (m:=x+y) O O (iU O aC aC ?_));rw[zB aC];simp only[zX,add_lit,mX,zH];have H:x+y-x=y:=by omega
 rw[H];have C:=e.part (s:=⟨some ⟨q,x,none⟩,y,cap-x⟩) (n:=y) rfl rfl j;refine P9 C aE (Pa (s:=s) L (aH.bO hs i) hl) λG e2=>?_;have u:=e.bO e2;have g:((st.drop x).take y).any (λz=>!fr.contains z) = !tC st x y fr:=by
  rw[tC,List.all_eq_not_any_not,Bool.not_not]
 rw[g];cases hA:tC st x y fr
 ·have e1:GE st (x:Int) (y:Int) fr=5:=by simp[GE,d,hA]
  have r:V2 st (x:Int) (y:Int) v fr=st:=by simp[V2,e1]
  have:=hR G (i.to.trans e2.to);rw[e1,r]at this;exact cD rfl (this u)
 ·have e1:GE st (x:Int) (y:Int) fr=0:=by simp[GE,d,hA]
  have r:V2 st (x:Int) (y:Int) v fr=gg st x (x+y) v:=by simp[V2,e1]
  refine cB rfl (u.jD j v λv3 J K=>?_);have:=hR v3 (i.to.trans (e2.to.trans J));rw[e1,r]at this;exact this K
theorem xC {h:Hp}{b:Nat}{xs:List Nat}{n c:Nat}(hb:bY h b (ints xs))(hn:n=xs.length):cX ⟨some ⟨b,0,none⟩,n,c⟩ 1 (ints xs) h (· = b):=
 hb.gY (o:=0) rfl (by rw[QB];simp[hn]) λj _=>by rw[zH]
theorem LG (h:ia U p q st)(a m:Int){R:aN}(hR:∀σ',Ext (· = q) U σ'->ia σ' p q (V2 st a m 1 [2,3])->R (GE st a m [2,3]) σ'):Xv.c (aW p) a m U R:=by
 refine Xv.o ?_;unfold Xv.v;refine nw (cs:=ints [2,3]) λv i e d=>?_;exact FR (h.bO e) a m 1 (xC d rfl) aA λσ' b g=>hR σ' (e.to.trans b) g
theorem Nq (h:ia U p q st)(a m:Int){R:aN}(hR:∀σ',Ext (· = q) U σ'->ia σ' p q (V2 st a m 2 [1])->R (GE st a m [1]) σ'):Xl.c (aW p) a m U R:=by
 refine Xl.o ?_;unfold Xl.v;refine nw (cs:=ints [1]) λv i e d=>?_;exact FR (h.bO e) a m 2 (xC d rfl) aA λσ' b g=>hR σ' (e.to.trans b) g
def yp (st:List Nat)(x:Int):Int:=if 0<=x/\x<st.length then((st.getD x.toNat 0:Nat):Int)else -1
theorem JH (h:ia U p q st)(x:Int){R:aN}(hR:R (yp st x) U):XN.c (aW p) x U R:=by
 refine XN.o ?_;unfold XN.v;have n2:=h.n2;unfold yp at hR;refine BL h (bV.intro (cB rfl (bV.intro (cQ (λg=>cD rfl ?_) λg=>aG (h.rS λcap i=>cQ (λb=>?_) λb=>?_)))))
 ·rw[zB O]at hR;exact hR
 ·simp only at b;rw[zB O]at hR;exact hR
 ·simp only at b;rw[zC O]at hR;obtain⟨y,rfl⟩:=za (show 0<=x by omega);refine aG (h.rS λcap i=>?_);have e:=h.part (s:=⟨some ⟨q,0,none⟩,st.length,cap⟩) (a:=0) (n:=st.length) rfl rfl O;rw[List.drop_zero,m7]at e;have d:y<st.length:=by omega
  refine e.rG (cV d) ?_;simpa[zO,cV d]using hR
theorem U5 {s:Sl}{vs:List Value}(h:cX s 1 vs U F)(h1:∀v∈vs,dQ v=true)(hl:s.len<=1000000){R:Sl->Hp->Prop}
 (hR:∀s' σ',s'.len=s.len->bK U σ'->bS s' 1 vs σ' (λb=>U.size<=b)->R s' σ'):WD.c s U R:=by
 refine WD.o ?_;unfold WD.v;exact Dk h aB rfl h1 aB hl hR
theorem L9 {n:Nat}(h1:16<=n)(h2:n<=1024)(h3:n%16=0){R:Option Addr->Int->Hp->Prop}(hR:∀σ' p q,bK U σ'->U.size<=p->U.size<=q->ia σ' p q (List.replicate n 0)->R (some ⟨p,0,none⟩) 0 σ'):Km.c (n:Int) U R:=by
 refine Km.o ?_;unfold Km.v;refine bV.intro (fS O (bV.intro (fS O (nz aB ?_))));rw[Qm O];have:(((n:Int)%16) != 0)=false:=by
  have:((n:Int)%16)=0:=by omega
  rw[this];rfl
 rw[this];refine cB rfl (mk O O λv i e b=>nw (cs:=[.slice (some ⟨U.size,0,none⟩) n n]) λj g e2 a=>?_);have d:(List.replicate n [Value.int .i64 0]).flatten=ints (List.replicate n 0):=by
  have:[Value.int .i64 0]=ints [0]:=rfl;rw[this];clear b hR
  induction n with
  | zero=>rfl
  | succ n ih=>simp[wK,ints]
 rw[d]at b;refine hR _ _ _ (e.trans e2) O (zD _) ⟨⟨n,by simp,by simpa using a⟩,⟨[],by simpa using e2.bT b id⟩,O,by simpa using h1,by simpa using h2,by simpa using h3⟩
end Go.Ar
namespace Go.Proofs
open Go.Vc
set_option maxRecDepth 100000
def Zw.h:Hn:=.q .o1 (.q (.q .o3 .aJ) (.q (.cR (.tail 10 (RI.ops 10) [.op])) .l))
def Zw.v (a:R2)(b:Hp)(c:Int->Int->Hp->Prop):Prop:=aV #[.I 0,.I 0] 251 b λd e=>Yh.c a e λf g=>If (!f) (aR d 0 (.I 0) g λh=>aR d 1 (.I 0) h λi=>aQ d 0 i λj=>aQ d 1 i λk=>c j k i) (bD a 0 g λm=>bU a λn=>bM ((n.add 1).add 1) g λo=>aR d 0 (.I m) g λp=>aR d 1 (.I o) p λq=>aQ d 0 q λr=>aQ d 1 q λs=>c r s q)
theorem Zw.o {a b c}(d:Zw.v a b c):Zw.c a b c:=Wa Tryz.func179 (x:=Zw.h) (R0 d)
def Yd.h:Hn:=.q .o1 (.q (.q .o3 .aK) (.q .o6 .l))
def Yd.v (a:R2)(b:Hp)(c:aN):Prop:=Yh.c a b λd e=>If (!d) (c 0 e) (bE a 4 e λg=>c ((g.len:Nat):Int) e)
theorem Yd.o {a b c}(d:Yd.v a b c):Yd.c a b c:=Wa Tryz.func182 (x:=Yd.h) (R0 d)
def Yh.h:Hn:=.q .o1 (.q (.cR (.seq [.op,.op,.op,.cU true 6 (RI.ops 6),.op])) .l)
def Yh.v (a:R2)(b:Hp)(c:aO):Prop:=bV (λd e=>c d e) λf=>If (!a.isNone) (bE a 4 b λh=>f (decide (((h.len:Nat):Int)>0)) b) (f false b)
theorem Yh.o {a b c}(d:Yh.v a b c):Yh.c a b c:=Wa Tryz.func242 (x:=Yh.h) (R0 d)
def Ko.h:Hn:=.q .o3 (.q .o7 (.q (.q (.cR (.seq [.op,.op,.op,.cU false 2 [.op,.op],.op,.cU false 5 (RI.ops 5)])) .aJ) (.q (.cR (.held true [] (.tk [0,1,2] (.all [(3,.take 4 (.all [(5,.take 6 (.take 7 (.done)))]))])))) .l)))
def Ko.v (a b c d:Int)(e:Hp)(f:Option Addr->Int->Hp->Prop):Prop:=aV #[.I b,.I c,.I d] 137 e λg h=>aQ g 0 h λi=>aQ g 1 h λj=>aQ g 2 h λk=>Zn.c i j k h λl m n=>bV (λo p=>bV (λq r=>If q (f none 1 r) (eO r λs=>aS s g 0 λt=>aS s g 1 λu=>aS s g 2 λv=>Mk l l 8 3 [.I 0] r λw x=>And (s x) <| aV #[.I a,.I t,.I u,.I v,.slice w.a w.len w.cap,.I 0] 322 x λy z=>And (s z) <| f (some y) 0 z)) λaa=>If o (aa true p) (aQ g 1 p λab=>bL (1024-ab) λac=>aa (decide (a>ac)) p)) λad=>If (m != 0) (ad true n) (ad (decide (a<0)) n)
theorem Ko.o {a b c d e f}(g:Ko.v a b c d e f):Ko.c a b c d e f:=Wa Tryz.func257 (x:=Ko.h) (R0 g)
def Zo.h:Hn:=.q .o1 (.q .o8 (.q (.k (.q .o3 (.c .aL (.q .o9 .aK)))) (.q .o4 .aM)))
def Zo.v (a:R2)(b:Int)(c:Hp)(d:aN):Prop:=X7.c a b c λe f g=>If (f != 0) (d f g) (bE a 4 g λi=>Ix i.a i.len e 1 λj=>bM j g λk=>If (k==0) (d 9 g) (aV #[.I e] 3 g λl m=>YV.c a 0 ⟨some l,1,1⟩ m λn=>d 0 n))
theorem Zo.o {a b c d}(e:Zo.v a b c d):Zo.c a b c d:=Wa Tryz.func278 (x:=Zo.h) (R0 e)
def Zh.h:Hn:=.q .o2 (.q (.q .o3 .aJ) (.q .o6 (.q (.q .o2 .aJ) (.q .o4 (.q .o5 .l)))))
def Zh.v (a:R2)(b:Hp)(c:Int->Int->Hp->Prop):Prop:=Yh.c a b λd e=>If (!d) (c 0 5 e) (bE a 4 e λg=>WC.c g 0 e λh i=>If (h<0) (c 0 6 i) (aV #[.I h] 3 i λj k=>YV.c a 1 ⟨some j,1,1⟩ k λl=>Ym.c a h l λm n=>c m 0 n))
theorem Zh.o {a b c}(d:Zh.v a b c):Zh.c a b c:=Wa Tryz.func283 (x:=Zh.h) (R0 d)
def X3.h:Hn:=.q .o2 (.q (.q .o3 .aJ) (.q .o5 (.q (.q (.cR (.hO false [] [(32,.one .b)] (.take 0 (.take 1 (.all [(2,.take 3 (.take 4 (.split 18 (.take 5 (.take 6 (.take 7 (.take 8 (.take 9 (.take 10 (.take 11 (.take 12 (.take 13 (.take 14 (.take 15 (.take 16 (.take 17 (.take 18 (.done))))))))))))))) (.take 5 (.take 6 (.take 7 (.take 8 (.take 11 (.take 12 (.take 13 (.take 14 (.all [(9,.take 10 (.all [(15,.take 16 (.take 17 (.take 18 (.done))))])),(15,.all [(9,.take 10 (.take 16 (.take 17 (.take 18 (.done)))))])]))))))))))))]))))) .aJ) (.q .o9 .l))))
def X3.v (a:R2)(b:Int)(c:Hp)(d:Int->Int->Hp->Prop):Prop:=Yh.c a c λe f=>If (!e) (d 0 5 f) (Ym.c a 0 f λg h=>bL (b-g) λi=>Jn [.b] (λ(j:Bool) k=>If j (d 0 8 k) (bU a λl=>bM ((l.add 1).add 0) k λm=>Nz m<|bL (i.tdiv m) λn=>d n 0 k)) λo=>Ym.c a 0 h λp q=>If (b<p) (o true q) (bU a λr=>bU a λs=>(aX r 4 q λt=>bM ((s.add 1).add 0) q λu=>bL (((t.len:Nat):Int)*u) λv=>o (decide (i≥v)) q) ∧ (bM ((s.add 1).add 0) q λw=>aX r 4 q λx=>bL (((x.len:Nat):Int)*w) λy=>o (decide (i≥y)) q)))
theorem X3.o {a b c d}(e:X3.v a b c d):X3.c a b c d:=Wa Tryz.func290 (x:=X3.h) (R0 e)
def Yn.h:Hn:=.q .o2 (.q .o8 (.q (.q .o2 (.c (.q .o3 .l) .l)) (.q .gQ .l)))
def Yn.v (a:R2)(b:Int)(c:Hp)(d:Bool->Int->Hp->Prop):Prop:=X7.c a b c λe f g=>If (f != 0) (d false f g) (bE a 4 g λi=>Ix i.a i.len e 1 λj=>bM j g λk=>d (k==1) 0 g)
theorem Yn.o {a b c d}(e:Yn.v a b c d):Yn.c a b c d:=Wa Tryz.func292 (x:=Yn.h) (R0 e)
def X7.h:Hn:=.q .o2 (.q .o8 (.q (.q (.cR (.seq [.op,.op,.op,.cU true 5 (RI.ops 5)])) .aJ) (.q .o4 .l)))
def X7.v (a:R2)(b:Int)(c:Hp)(d:Int->Int->Hp->Prop):Prop:=X3.c a b c λe f g=>bV (λh i=>If h (d 0 8 i) (d e f i)) λj=>If (f==0) (Ym.c a e g λk l=>j (k != b) l) (j false g)
theorem X7.o {a b c d}(e:X7.v a b c d):X7.c a b c d:=Wa Tryz.func304 (x:=X7.h) (R0 e)
def YV.h:Hn:=.q .o3 (.k (.loop [(10,.I)] (.q .o1 (.q (.c .l .l) (.q (.k (.q .o3 (.q (.cR (.tail 16 (RI.ops 16) [.op])) .o8))) .o2)))))
def YV.v (a:R2)(b:Int)(c:Sl)(d:Hp)(e:aP):Prop:=Yp [bN] (λf=>f 0 d) λg (h:Int) i=>If (h<((c.len:Nat):Int)) (Ix c.a c.len h 1 λj=>bM j i λk=>bD a 5 i λm=>bE a 4 i λo=>Ix o.a o.len k 1 λp=>bM p i λq=>bL (b-q) λr=>bL (m+r) λs=>bU a λt=>aR t 5 (.I s) i λu=>bE a 4 u λw=>Ix w.a w.len k 1 λx=>dX x (.I b) u λy=>bL (h+1) λz=>g z y) (e i)
theorem YV.o {a b c d e}(f:YV.v a b c d e):YV.c a b c d e:=Wa Tryz.func305 (x:=YV.h) (R0 f)
def Ym.h:Hn:=.q .o1 (.q (.oq 14) .l)
def Ym.v (a:R2)(b:Int)(c:Hp)(d:aN):Prop:=bD a 0 c λf=>bL (f*256) λg=>bU a λh=>bM ((h.add 1).add 0) c λi=>bL (b*i) λj=>bL (g+j) λk=>d k c
theorem Ym.o {a b c d}(e:Ym.v a b c d):Ym.c a b c d:=Wa Tryz.func306 (x:=Ym.h) (R0 e)
end Go.Proofs
namespace Go.Ar
open Go Go.Vc Go.Proofs
variable {U:Hp}{F:Rg}{p q:Nat}{c:bZ}{s:cG}
def m4 (tk:List Bool):List Nat:=tk.map λb=>if b then 1 else 0
theorem uS (tk:List Bool):(m4 tk).length=tk.length:=by simp[m4]
theorem Hq {tk:List Bool}{i:Nat}{b:Bool}(h:tk[i]?=some b):(m4 tk)[i]?=some (if b then 1 else 0):=by simp[m4,h]
theorem MA (tk:List Bool)(i:Nat)(b:Bool):m4 (tk.set i b)=(m4 tk).set i (if b then 1 else 0):=by simp[m4,vz]
structure gT (U:Hp) (p q:Nat) (c:bZ) (s:cG):Prop where
 hd:∃cap,c.n<=cap/\bY U p [.int .i64 (s.st:Int),.int .i64 (c.size:Int),.int .i64 (c.aF:Int),.int .i64 (c.batch:Int),.slice (some ⟨q,0,none⟩) c.n cap,.int .i64 (s.many:Int)]
 row:∃rest,bY U q (ints (m4 s.tk)++rest)
 ne:p≠q
 len:s.tk.length=c.n
 ok:c.ok
 fit:s.st+c.aF<=1024
theorem gT.bR {σ':Hp}(h:gT U p q c s)(e:Ext F U σ')(hp:¬F p)(hq:¬F q):gT σ' p q c s:=
 ⟨by obtain⟨c,a,b⟩:=h.hd;exact⟨c,a,e.bT b hp⟩,by obtain⟨r,a⟩:=h.row;exact⟨r,e.bT a hq⟩,h.ne,h.len,h.ok,h.fit⟩
theorem gT.bO {σ':Hp}(h:gT U p q c s)(e:bK U σ'):gT σ' p q c s:=h.bR e id id
theorem gT.lt (h:gT U p q c s):p<U.size/\q<U.size:=by
 obtain⟨_,_,a⟩:=h.hd;obtain⟨_,b⟩:=h.row;exact⟨a.lt,b.lt⟩
theorem gT.rS (h:gT U p q c s){K:Sl->Prop}(hK:∀cap,c.n<=cap->K ⟨some ⟨q,0,none⟩,c.n,cap⟩):jq (Addr.add ⟨p,0,none⟩ 4) U K:=by
 obtain⟨d,a,b⟩:=h.hd;exact b.rS rfl (hK d a)
theorem gT.rI (h:gT U p q c s){i:Nat}{x:Int}(hx:∀a b:Value,([.int .i64 (s.st:Int),.int .i64 (c.size:Int),.int .i64 (c.aF:Int),.int .i64 (c.batch:Int),a,.int .i64 (s.many:Int)]:List Value)[0+i]?=some (.int .i64 x)){K:Int->Prop}(hK:K x):gA .i64 (Addr.add ⟨p,0,none⟩ i) U K:=by
 obtain⟨g,e,d⟩:=h.hd;exact d.rI (hx _ .nilFunc) hK
theorem gT.eZ (h:gT U p q c s){i j:Nat}{x:Int}(hx:∀a b:Value,([.int .i64 (s.st:Int),.int .i64 (c.size:Int),.int .i64 (c.aF:Int),.int .i64 (c.batch:Int),a,.int .i64 (s.many:Int)]:List Value)[0+i+j]?=some (.int .i64 x)){K:Int->Prop}(hK:K x):gA .i64 (Addr.add (Addr.add ⟨p,0,none⟩ i) j) U K:=by
 obtain⟨g,e,d⟩:=h.hd;exact d.eZ (hx _ .nilFunc) hK
theorem gT.kP (h:gT U p q c s)(cap:Nat):cX ⟨some ⟨q,0,none⟩,c.n,cap⟩ 1 (ints (m4 s.tk)) U (· = q):=by
 obtain⟨r,b⟩:=h.row;refine b.gY (o:=0) rfl (by rw[QB,uS,h.len];simp) λj a=>?_;rw[zH,zh a]
theorem Ge (h:gT U p q c s){R:aO}(hR:R true U):Yh.c (aW p) U R:=by
 refine Yh.o ?_;unfold Yh.v;refine bV.intro (cD rfl (aG (h.rS λcap _=>?_)));have:=h.ok.qG;rw[zJ aC];exact hR
theorem IS (h:gT U p q c s){R:aN}(hR:R (c.n:Int) U):Yd.c (aW p) U R:=by
 refine Yd.o ?_;unfold Yd.v;exact Ge h (cB rfl (aG (h.rS λcap _=>hR)))
theorem xk (h:gT U p q c s)(i:Nat)(hi:i<=1000){R:aN}(hR:R ((at_ c s i:Nat):Int) U):Ym.c (aW p) (i:Int) U R:=by
 refine Ym.o ?_;unfold Ym.v;have a:=h.ok;unfold bZ.ok at a;have:=h.fit;have b:i*c.size<=1000*512:=lR hi O;refine aG (h.rI (λ_ _=>rfl) (cP (m:=s.st*256) aA O (aG (h.eZ (λ_ _=>rfl) ?_))));exact cP (m:=i*c.size) aA O (cP (m:=at_ c s i) (by simp[at_]) (by unfold at_;omega) hR)
theorem Bh (h:gT U p q c s)(x:Int)(hx2:x<=9223372036854775807){R:Int->Int->Hp->Prop}(h1:∀i,idx c s x=some i->R (i:Int) 0 U)(h0:idx c s x=none->R 0 8 U):X3.c (aW p) x U R:=by
 refine X3.o ?_;unfold X3.v;have z:=h.ok;unfold bZ.ok at z;have C:=h.ok.kx;have r:=h.fit;have a:=h.len;have E:c.n*c.size<=128*512:=lR C O;refine Ge h (cB rfl (xk h 0 O ?_));have j:at_ c s 0=s.st*256:=by simp[at_]
 rw[j];refine xp ?_;refine Jn.intro (xk h 0 O ?_);rw[j];refine cQ (λB=>cD rfl (h0 ?_)) λA=>?_
 ·unfold idx;rw[zC O]
 ·rw[Ud O O];obtain⟨y,D⟩:=za (show 0<=x by omega);have key:If (decide (x-((s.st*256:Nat):Int)≥((c.n*c.size:Nat):Int))) (R 0 8 U)
   (bU (some ⟨p,0,none⟩) λe=>gA .i64 ((e.add 1).add 0) U λb=>Nz b<|Ar .i64 ((x-((s.st*256:Nat):Int)).tdiv b) λg=>R g 0 U):=by
   refine cQ (λu=>h0 ?_) λw=>aG (h.eZ (λ_ _=>rfl) (nz O ?_))
   ·unfold idx;rw[a,zC O]
   ·have:idx c s x=some ((x-((s.st*256:Nat):Int)).toNat/c.size):=by unfold idx;rw[a,zB O]
    refine cP (m:=(x-((s.st*256:Nat):Int)).toNat/c.size) ?_ ?_ (h1 _ this)
    ·rw[Xs O];have:x-((s.st*256:Nat):Int)=(((x-((s.st*256:Nat):Int)).toNat:Nat):Int):=by omega
     rw[this];simp
    ·have:=Nat.div_le_self (x-((s.st*256:Nat):Int)).toNat c.size;omega
  refine aG (aG ⟨h.rS λcap d=>h.eZ (λ_ _=>rfl) (cP (m:=c.n*c.size) aA O key),h.eZ (λ_ _=>rfl) (h.rS λcap d=>cP (m:=c.n*c.size) aA O key)⟩)
theorem CG (h:gT U p q c s)(x:Int)(hx2:x<=9223372036854775807){R:Int->Int->Hp->Prop}(h1:∀i,obj c s x=some i->i<c.n->R (i:Int) 0 U)(h0:obj c s x=none->R 0 8 U):X7.c (aW p) x U R:=by
 refine X7.o ?_;unfold X7.v;have g:=h.ok;unfold bZ.ok at g;have j:=h.ok.kx;refine Bh h x hx2 (λi b=>bV.intro (cD rfl ?_)) λb=>bV.intro (cB rfl (cB rfl (h0 (by unfold obj;rw[b]))));have a:=((VP O).1 b).2.2;rw[h.len]at a;refine xk h i O (cO (λd=>h0 ?_) λd=>h1 i ?_ a)
 ·have:¬x=((at_ c s i:Nat):Int):=λe=>by rw[e]at d;simp at d
  unfold obj;rw[b];simp[this]
 ·have:x=((at_ c s i:Nat):Int):=by
   have:((at_ c s i:Nat):Int)=x:=by simpa using d
   exact this.symm
  unfold obj;rw[b];simp[this]
def cG.is (s:cG)(i:Nat):Bool:=s.tk.getD i false
theorem cG.kN {s:cG}{i:Nat}(hi:i<s.tk.length):s.tk[i]?=some (s.is i):=by
 simp[cG.is,zO,cV hi]
theorem Ra (h:gT U p q c s)(x:Int)(hx2:x<=9223372036854775807){R:Bool->Int->Hp->Prop}(h1:∀i,obj c s x=some i->R (s.is i) 0 U)(h0:obj c s x=none->R false 8 U):Yn.c (aW p) x U R:=by
 refine Yn.o ?_;unfold Yn.v;refine CG h x hx2 (λi b a=>cB rfl (aG (h.rS λcap d=>?_))) λb=>cD rfl (h0 b);rw[←h.len]at a;refine(h.kP cap).rG (Hq (cG.kN a)) ?_;have:=h1 i b;cases hb:s.is i<;>rw[hb]at this<;>simpa using this
theorem H5 {s:cG}{i:Nat}(hi:i<s.tk.length)(v:Bool):((s.put i v).many:Int)=s.many+((if v then 1 else 0)-(if s.is i then 1 else 0)):=by
 have key:∀(l:List Bool) (i:Nat) (b:Bool),l[i]?=some b->(((l.set i v).count true:Nat):Int)=(l.count true:Nat)+((if v then 1 else 0)-(if b then 1 else 0)):=by
  intro l
  induction l with
  | nil=>intro i b h;simp at h
  | cons x l ih=>
   intro i b h;cases i with
   | zero=>
    simp at h;subst h;cases v<;>cases x<;>simp[List.count_cons]<;>omega
   | succ i=>
    have:=ih i b (by simpa using h);simp only[q9,List.count_cons]
    push_cast
    omega
 exact key s.tk i _ (cG.kN hi)
theorem AU (s:cG):s.many<=s.tk.length:=List.count_le_length
theorem Cx (h:gT U p q c s){i:Nat}(hi:i<c.n)(v:Bool){sl:Sl}{G:Rg}(hs:cX sl 1 (ints [i]) U G){R:aP}(hR:∀σ',Ext (λb=>b=p\/b=q) U σ'->gT σ' p q c (s.put i v)->R σ') :
 YV.c (aW p) (if v then 1 else 0) sl U R:=by
 refine YV.o ?_;unfold YV.v;have M:sl.len=1:=hs.oJ;have V:=h.ok.kx;have H:=h.len;have S:=AU s;have A:i<s.tk.length:=by omega
 have d:=H5 A v;refine ZS (a:=bN) (λ(t:Int) C=>t=0/\C=U\/t=1/\Ext (λb=>b=p\/b=q) U C/\gT C p q c (s.put i v)) (λt _=>1-t.toNat) (.inl ⟨rfl,rfl⟩) ?_;rintro t C (⟨rfl,rfl⟩|⟨rfl,e,K⟩)
 ·refine lB O ?_;refine hs.rG (i:=0) (x:=i) rfl (aG (h.rI (λ_ _=>rfl) (aG (h.rS λcap E=>?_))));refine(h.kP cap).rG (Hq (cG.kN A)) ?_;have L:(0:Int)<=(if v then 1 else 0)/\(if v then(1:Int)else 0)<=1:=by cases v<;>simp
  have J:(0:Int)<=((if s.is i then 1 else 0:Nat):Int)/\((if s.is i then 1 else 0:Nat):Int)<=1:=by cases s.is i<;>simp
  have g:((if s.is i then 1 else 0:Nat):Int)=(if s.is i then 1 else 0):=by cases s.is i<;>rfl
  refine ar O O (ar O O (aG ?_));obtain⟨N,D,hd⟩:=h.hd;obtain⟨r,w⟩:=h.row;refine hd.s1 aA λP B y=>?_;have j:=Ws B w (Ne.symm h.ne);refine aG (y.rS rfl (ix O aC ?_));rw[add_lit];refine j.s0 (by simp[QB,uS];omega) λQ u z=>?_;refine cP (m:=1) O O ⟨.inr ⟨rfl,?_,?_⟩,by decide⟩
  ·exact(Ext.eM (F:=λb=>b=p\/b=q) B (.inl rfl)).trans (Ext.eM u (.inr rfl))
  ·refine⟨⟨N,D,?_⟩,⟨r,?_⟩,h.ne,by simp[cG.put,h.len],h.ok,h.fit⟩
   ·have:=Ws u y h.ne;rw[d,←g];exact this
   ·have e:(ints (m4 s.tk)++r).set (0+(i:Int).toNat*1) (.int .i64 (if v then 1 else 0))=ints (m4 (s.put i v).tk)++r:=by
     rw[List.set_append_left _ _ (by simp[QB,uS];omega)]
     congr 1
     simp only[cG.put,MA,ints,vz];have:(0+(i:Int).toNat*1)=i:=by omega
     rw[this]
     congr 1
     cases v<;>rfl
    rw[e]at z;exact z
 ·exact fS O (hR _ e K)
theorem F3 (h:gT U p q c s){x:Int}{i:Nat}(hx2:x<=9223372036854775807)(ho:obj c s x=some i)(ht:s.is i=true){R:aN}(hR:∀σ',Ext (λb=>b=p\/b=q) U σ'->gT σ' p q c (s.put i false)->R 0 σ') :
 Zo.c (aW p) x U R:=by
 refine Zo.o ?_;unfold Zo.v;refine CG h x hx2 (λj g d=>cB rfl (aG (h.rS λcap m=>?_))) λr=>by rw[ho]at r;cases r
 rw[ho]at g;cases g;have a:i<s.tk.length:=by rw[h.len];exact d
 refine(h.kP cap).rG (Hq (cG.kN a)) ?_;rw[ht];refine cB rfl (nw (cs:=ints [i]) λv z e y=>?_);have A:=h.lt;exact Cx (h.bO e) d false (xC y rfl) λσ' u w=>hR σ' (e.to.trans u) w
theorem Ly (h:gT U p q c s){i:Nat}(hlow:low s=some i){R:Int->Int->Hp->Prop}(hR:∀σ',Ext (λb=>b=p\/b=q) U σ'->gT σ' p q c (s.put i true)->R ((at_ c s i:Nat):Int) 0 σ') :
 Zh.c (aW p) U R:=by
 refine Zh.o ?_;unfold Zh.v;have E:=h.ok.kx;have d:=m5.1 hlow;obtain⟨m,B,C⟩:=d;have g:s.tk[i]=false:=by simpa using B
 refine Ge h (cB rfl (aG (h.rS λcap z=>?_)));refine CB (h.kP cap) (by simp[uS,h.len];omega) 0 (λj u a=>?_) λa=>?_
 ·have x:j<s.tk.length:=by
   have:=(cW.1 u).1
   rwa [uS]at this
  have r:j=i:=by
   rcases oZ j i with h1|h1|h1
   ·have:=C j h1;rw[Hq (cV x)]at u;have:s.tk[j]=true:=by simpa using this
    simp[this]at u
   ·exact h1
   ·exact absurd (by rw[Hq (cV m),g];rfl) (a i h1)
  subst r;rw[h.len]at m;refine fS O (nw (cs:=ints [j]) λv D e w=>?_);refine Cx (h.bO e) m true (xC w rfl) λσ' A y=>xk y j O (hR σ' (e.to.trans A) y)
 ·exfalso;apply a;exact zG (i:=i) (by rw[Hq (cV m),g];rfl)
theorem LO (h:gT U p q c s){R:Int->Int->Hp->Prop}(hR:∀σ',bK U σ'->R (s.st:Int) (c.aF:Int) σ'):Zw.c (aW p) U R:=by
 refine Zw.o ?_;unfold Zw.v;refine nw (cs:=[.int .i64 0,.int .i64 0]) λv u e r=>?_;have g:=h.bO e;refine Ge g (cB rfl (aG (g.rI (λ_ _=>rfl) (aG (g.eZ (λ_ _=>rfl) ?_)))));refine r.s1 aA λw j b=>b.s1 aA λv3 d a=>?_;refine a.rI rfl (a.rI rfl (hR _ ?_));exact Ext.fresh (Ext.fresh e (Ext.eM (F:=(· = U.size)) j rfl) λi m=>O) (Ext.eM (F:=(· = U.size)) d rfl) λi m=>by omega
theorem Mu (n:Nat):(List.replicate n [Value.int .i64 0]).flatten=ints (List.replicate n 0):=by
 induction n with
 | zero=>rfl
 | succ n ih=>simp only[wK,wD,ih];rfl
theorem L5 (hc:c.ok){st:Nat}(hf:st+c.aF<=1024){R:Option Addr->Int->Hp->Prop}(hR:∀σ' p q,bK U σ'->U.size<=p->U.size<=q->gT σ' p q c ⟨st,List.replicate c.n false⟩->R (some ⟨p,0,none⟩) 0 σ') :
 Ko.c (st:Int) c.size c.aF c.batch U R:=by
 refine Ko.o ?_;unfold Ko.v;have G:=hc;unfold bZ.ok at G;have P:=hc.kx;refine nw (cs:=[.int .i64 c.size,.int .i64 c.aF,.int .i64 c.batch]) λv J e y=>?_;refine y.rI rfl (y.rI rfl (y.rI rfl (D7 _ _ _ (λg D e1 e2 H B A=>?_) λu=>?_)))
 case refine_2=>rw[(C0 c).2 hc]at u;cases u
 have:g=c:=by
  obtain⟨a,b,d⟩:=c;obtain⟨N,K,M⟩:=g;simp only at e1 e2 H
  congr 1<;>omega
 subst this;have i:=A.bT y id;refine bV.intro (cB rfl (bV.intro (fS O (i.rI rfl (cP (m:=1024-g.aF) O O (fS O ?_))))));refine⟨λx=>bY x U.size [.int .i64 g.size,.int .i64 g.aF,.int .i64 g.batch],i,⟨_,λx w=>by rw[add_lit,w.cell];rfl,⟨_,λx w=>by rw[add_lit,w.cell];rfl,⟨_,λx w=>by rw[add_lit,w.cell];rfl,?_⟩⟩⟩⟩;refine mk O O λL F j s=>⟨j.bT i id,nw (cs:=[.int .i64 (st:Int),.int .i64 g.size,.int .i64 g.aF,.int .i64 g.batch,.slice (some ⟨B.size,0,none⟩) g.n g.n,.int .i64 0]) λv3 E r z=>⟨(j.trans r).bT i id,?_⟩⟩;rw[Mu]at s;have C:=A.1;refine hR _ _ _ (((e.trans A).trans j).trans r) O (show U.size<=B.size by omega) ⟨⟨g.n,zD _,?_⟩,⟨[],?_⟩,O,by simp,hc,hf⟩
 ·have:cG.many ⟨st,List.replicate g.n false⟩=0:=by simp[cG.many,xZ]
  rw[this];exact z
 ·have:m4 (List.replicate g.n false)=List.replicate g.n 0:=by simp[m4]
  rw[this,kX];exact r.bT s id
end Go.Ar
namespace Go.Proofs
open Go.Vc
set_option maxRecDepth 100000
def XK.h:Hn:=.q .o1 (.q (.q .o3 .aK) (.q .o1 (.q .gQ .aL)))
def XK.v (a:R2)(b:Hp)(c:Sl->Hp->Prop):Prop:=WF.c a b λd e=>If (!d) (c ⟨none,0,0⟩ e) (aV #[.slice none 0 0] 181 e λf g=>bE a 3 g λi=>We.c i ⟨223,#[],#[.pointer (some f)]⟩ g λj k=>bU a λl=>aR l 3 (.slice j.a j.len j.cap) k λm=>jq f m λn=>c n m)
theorem XK.o {a b c}(d:XK.v a b c):XK.c a b c:=Wa Tryz.func166 (x:=XK.h) (R0 d)
def WF.h:Hn:=.q .o1 (.q (.cR (.seq [.op,.op,.op,.cU true 6 (RI.ops 6),.op])) .l)
def WF.v (a:R2)(b:Hp)(c:aO):Prop:=bV (λd e=>c d e) λf=>If (!a.isNone) (bU a λg=>bM ((g.add 0).add 0) b λh=>f (decide (h>0)) b) (f false b)
theorem WF.o {a b c}(d:WF.v a b c):WF.c a b c:=Wa Tryz.func178 (x:=WF.h) (R0 d)
def Z2.h:Hn:=.q .o3 (.q (.q .o7 (.q .o2 .aJ)) (.q .o5 .l))
def Z2.v (a b c:Int)(d:Hp)(e:Option Addr->Int->Hp->Prop):Prop:=aV #[.I a,.I b,.I c] 137 d λf g=>aQ f 0 g λh=>aQ f 1 g λi=>aQ f 2 g λj=>Zn.c h i j g λk l m=>If (l != 0) (e none 1 m) (aQ f 0 m λn=>aQ f 1 m λo=>aQ f 2 m λp=>aV #[.I n,.I o,.I p,.slice none 0 0] 257 m λq r=>e (some q) 0 r)
theorem Z2.o {a b c d e}(f:Z2.v a b c d e):Z2.c a b c d e:=Wa Tryz.func199 (x:=Z2.h) (R0 f)
def W4.h:Hn:=.q .o2 (.q (.k (.q .o4 (.c .aL (.q .o3 .aJ)))) (.q .o1 (.q (.k (.loop [(6,.one .s)] (.q (.q .o4 (.c .l .l)) (.k (.q .o7 (.q (.q .o2 (.c .l .l)) .o5)))))) (.q .o3 .l))))
def W4.v (a:R2)(b:Int)(c:Hp)(d:Sl->Int->Hp->Prop):Prop:=WF.c a c λe f=>If (!e) (d ⟨none,0,0⟩ 5 f) (If (b<0) (d ⟨none,0,0⟩ 1 f) (Yp [.s] (λg=>g ⟨none,0,0⟩ f) λh (i:Sl) j=>If (((i.len:Nat):Int)<b) (YM.c a j λk l m=>If (!l) (d i 0 m) (aV #[.I k] 3 m λn o=>App i 1 8 3 [.I 0] ⟨some n,1,1⟩ o λp q=>h p q)) (d i 0 j)))
theorem W4.o {a b c d}(e:W4.v a b c d):W4.c a b c d:=Wa Tryz.func208 (x:=W4.h) (R0 e)
def YC.h:Hn:=.q .o1 (.q (.q .o3 .aK) (.q (.o 11) (.q (.q .o2 .aJ) (.q (.q .o6 (.k (.loop [(31,.I)] (.q .o1 (.q (.c .l .l) (.q (.k (.q .o4 (.q (.oq 17) .aK))) .o2)))))) (.q (.o 11) (.q (.o 15) .aM))))))
def YC.v (a:R2)(b:Int)(c:Hp)(d:aN):Prop:=WF.c a c λe f=>If (!e) (d 5 f) (bU a λg=>bM ((g.add 0).add 0) f λh=>bM ((g.add 0).add 1) f λi=>bM ((g.add 0).add 2) f λj=>Ko.c b h i j f λk l m=>If (l != 0) (d l m) (bE a 3 m λo=>Yp [bN] (λp=>p 0 m) λq (r:Int) s=>If (r<((o.len:Nat):Int)) (Ix o.a o.len r 3 λt=>aQ t 0 s λu=>aQ t 1 s λv=>aY t 2 s λw=>aV #[.I 0,.I 0,.pointer none] 262 s λx y=>aR x 0 (.I u) y λz=>aR x 1 (.I v) z λaa=>aR x 2 (.pointer w) aa λab=>bM ((x.add 0).add 1) ab λac=>bM ((x.add 0).add 1) ab λad=>bL ((if b>ac then b else ac)-(if b<ad then b else ad)) λae=>bU a λaf=>bM ((af.add 0).add 1) ab λag=>If (ae<ag) (d 9 ab) (bL (r+1) λah=>q ah ab)) (bE a 3 s λaj=>Wb.c aj b ⟨259,#[],#[]⟩ s λak al am=>bE a 3 am λao=>aV #[.I 0,.I b,.pointer k] 262 am λap aq=>Wf.c ao ak ⟨some ap,1,1⟩ aq λar au=>bU a λav=>aR av 3 (.slice ar.a ar.len ar.cap) au λaw=>d 0 aw)))
theorem YC.o {a b c d}(e:YC.v a b c d):YC.c a b c d:=Wa Tryz.func210 (x:=YC.h) (R0 e)
def XO.h:Hn:=.q .o2 (.kr [] (.q .o4 (.c (.cR (.held true [6] (.tk [0,1,2] (.all [(3,.all [(4,.all [(5,.all [(6,.done)])])])])))) .l)) (.q .o5 .l))
def XO.v (a b:Int)(c:R2)(d:Addr)(e:Hp)(f:aO):Prop:=aV #[.I a,.I b,.pointer c] 262 e λg h=>Jn [] (λi=>bM ((g.add 0).add 0) i λj=>f (j==0) i) λk=>bM ((g.add 0).add 0) h λl=>If (l==0) (eO h λm=>gD m .s d λ(n:Sl)=>aU m g 2 λo=>Zw.c o h λp q r=>And (m r) <| aV #[.I p,.I q] 251 r λs t=>And (m t) <| App n 2 16 251 [.I 0,.I 0] ⟨some s,1,1⟩ t λu v=>And (m v) <| dX d (.slice u.a u.len u.cap) v λw=>k w) (k h)
theorem XO.o {a b c d e f}(g:XO.v a b c d e f):XO.c a b c d e f:=Wa Tryz.func223 (x:=XO.h) (R0 g)
def YG.h:Hn:=.q .o2 (.q (.q .o3 .aJ) (.q .o1 (.q (.q .o3 (.k (.loop [(6,.one .b),(19,.I)] (.q .o1 (.q (.c .l .l) (.q (.k (.q .o5 (.q .o8 (.q (.q .o2 (.c (.q .o3 .l) .l)) (.cR (.seq [.op,.op,.cU false 2 [.op,.op],.op,.cU false 5 (RI.ops 5),.op])))))) .o2)))))) (.q (.q .o1 .aJ) (.q (.q .o3 (.k (.loop [(49,.I)] (.q .o1 (.q (.c .l .l) (.q (.k (.q .o3 (.q .o4 (.q .o6 .gQ)))) .o2)))))) (.q .o4 .l))))))
def YG.v (a:R2)(b:Sl)(c:Hp)(d:Sl->Int->Hp->Prop):Prop:=WF.c a c λe f=>If (!e) (d ⟨none,0,0⟩ 5 f) (Yp [.b,bN] (λg=>g false 0 f) λh (i:Bool) (j:Int) k=>If (j<((b.len:Nat):Int)) (Ix b.a b.len j 1 λl=>bM l k λm=>WX.c a m k λn o p=>If (o != 0) (d ⟨none,0,0⟩ o p) (bV (λq r=>bV (λs t=>bL (j+1) λu=>h s u t) λv=>If q (v true r) (eY b 1 0 j (b.cap:Nat) λw=>Wp.c w m r λx y=>v x y)) λz=>If i (z true p) (z (!n) p))) (If i (d ⟨none,0,0⟩ 9 k) (Yp [bN] (λaa=>aa 0 k) λab (ac:Int) ad=>If (ac<((b.len:Nat):Int)) (Ix b.a b.len ac 1 λae=>bM ae ad λaf=>XF.c a af ad λag ah=>bF ag 2 ah λaj=>Zo.c aj af ah λak al=>bU ag λam=>bM ((am.add 0).add 0) al λan=>bL (an-1) λao=>bU ag λap=>dX ((ap.add 0).add 0) (.I ao) al λaq=>bL (ac+1) λar=>ab ar aq) (XK.c a ad λau av=>d au 0 av))))
theorem YG.o {a b c d}(e:YG.v a b c d):YG.c a b c d:=Wa Tryz.func241 (x:=YG.h) (R0 e)
def YM.h:Hn:=.q .o2 (.q .o1 (.q (.q .o6 (.k (.loop [(4,.one .p),(14,.I)] (.q .o1 (.q (.c .l .l) (.q (.k (.q .o2 (.q .o7 (.q (.cR (.hO true [] [(48,.one .b)] (.tk [0,1,2,3,4,5,6,7,8] (.all [(9,.take 10 (.take 11 (.split 34 (.take 12 (.take 13 (.take 14 (.split 37 (.take 15 (.take 16 (.take 17 (.take 18 (.take 19 (.take 20 (.take 21 (.take 22 (.take 23 (.take 24 (.take 25 (.done)))))))))))) (.take 15 (.take 16 (.take 17 (.take 19 (.take 20 (.take 21 (.all [(18,.all [(22,.all [(23,.take 24 (.take 25 (.done)))])]),(22,.all [(18,.all [(23,.take 24 (.take 25 (.done)))])])]))))))))))) (.take 12 (.take 13 (.take 14 (.take 15 (.take 16 (.take 17 (.take 18 (.take 19 (.take 20 (.take 21 (.take 22 (.take 23 (.take 24 (.take 25 (.done))))))))))))))))))])))) (.c .o2 .l))))) .o2)))))) (.q (.q .o2 .aJ) (.q .gQ (.q .gQ (.q .o3 .l))))))
def YM.v (a:R2)(b:Hp)(c:Int->Bool->Hp->Prop):Prop:=bE a 3 b λe=>Yp [.p,bN] (λf=>f none 0 b) λg (h:R2) (i:Int) j=>If (i<((e.len:Nat):Int)) (bE a 3 j λl=>Ix l.a l.len i 3 λm=>Jn [.b] (λ(n:Bool) o=>If n (bL (i+1) λp=>g (some m) p o) (bL (i+1) λq=>g h q o)) λr=>eO j λs=>bU (some m) λt=>gD s bN ((t.add 0).add 0) λ(u:Int)=>bU (some m) λv=>aU s v 2 λw=>Yd.c w j λx y=>And (s y) <| If (u<x) (If h.isNone (r true y) (bU (some m) λz=>bU h λaa=>(bM ((z.add 0).add 0) y λab=>bM ((z.add 0).add 1) y λac=>And (s y) <| bM ((aa.add 0).add 0) y λad=>bM ((aa.add 0).add 1) y λae=>And (s y) <| WV.c ab ac ad ae y λaf ag=>And (s ag) <| r af ag) ∧ (bM ((aa.add 0).add 0) y λah=>bM ((aa.add 0).add 1) y λai=>And (s y) <| bM ((z.add 0).add 0) y λaj=>bM ((z.add 0).add 1) y λak=>And (s y) <| WV.c aj ak ah ai y λal am=>And (s am) <| r al am))) (r false y)) (If h.isNone (c 0 false j) (bF h 2 j λao=>Zh.c ao j λap aq ar=>bU h λau=>bM ((au.add 0).add 0) ar λav=>bL (av+1) λaw=>bU h λax=>dX ((ax.add 0).add 0) (.I aw) ar λay=>c ap true ay))
theorem YM.o {a b c}(d:YM.v a b c):YM.c a b c:=Wa Tryz.func252 (x:=YM.h) (R0 d)
def Yz.h:Hn:=.q .o2 (.q .o6 .l)
def Yz.v (a b:Int)(c:R2)(d:Int)(e:Hp)(f:aN):Prop:=aV #[.I a,.I b,.pointer c] 262 e λg h=>bM ((g.add 0).add 1) h λi=>bL (i-d) λj=>f j h
theorem Yz.o {a b c d e f}(g:Yz.v a b c d e f):Yz.c a b c d e f:=Wa Tryz.func259 (x:=Yz.h) (R0 g)
def Ye.h:Hn:=.q .o2 (.q (.q .o3 .aJ) (.q .o4 (.q (.q .o2 .aJ) (.q (.o 11) (.q (.oq 16) .l)))))
def Ye.v (a:R2)(b:Int)(c:Hp)(d:Int->Int->Hp->Prop):Prop:=WF.c a c λe f=>If (!e) (d 0 5 f) (XF.c a b f λg h=>If g.isNone (d 0 8 h) (bF g 2 h λj=>X3.c j b h λk l m=>bU g λn=>bM ((n.add 0).add 1) m λo=>bL (o*256) λp=>bU a λq=>bM ((q.add 0).add 0) m λr=>bL (k*r) λs=>bL (p+s) λt=>d t 0 m))
theorem Ye.o {a b c d}(e:Ye.v a b c d):Ye.c a b c d:=Wa Tryz.func262 (x:=Ye.h) (R0 e)
def WX.h:Hn:=.q .o2 (.q (.q .o3 .aJ) (.q .o4 (.q (.q .o2 .aJ) (.q .gQ .l))))
def WX.v (a:R2)(b:Int)(c:Hp)(d:Bool->Int->Hp->Prop):Prop:=WF.c a c λe f=>If (!e) (d false 5 f) (XF.c a b f λg h=>If g.isNone (d false 8 h) (bF g 2 h λj=>Yn.c j b h λk l m=>d k l m))
theorem WX.o {a b c d}(e:WX.v a b c d):WX.c a b c d:=Wa Tryz.func265 (x:=WX.h) (R0 e)
def XF.h:Hn:=.q .o1 (.q (.q .o6 (.k (.loop [(13,.I)] (.q .o1 (.q (.c .l .l) (.q (.k (.q .o2 (.q (.o 15) (.q .o2 (.c (.q .o7 .l) .l))))) .o2)))))) .aM)
def XF.v (a:R2)(b:Int)(c:Hp)(d:Option Addr->Hp->Prop):Prop:=bE a 3 c λf=>Yp [bN] (λg=>g 0 c) λh (i:Int) j=>If (i<((f.len:Nat):Int)) (bE a 3 j λl=>Ix l.a l.len i 3 λm=>aY m 2 j λn=>X3.c n b j λo p q=>If (p==0) (bE a 3 q λs=>Ix s.a s.len i 3 λt=>d (some t) q) (bL (i+1) λu=>h u q)) (d none j)
theorem XF.o {a b c d}(e:XF.v a b c d):XF.c a b c d:=Wa Tryz.func277 (x:=XF.h) (R0 e)
def WV.h:Hn:=.q .o3 (.q (.cR (.seq [.op,.op,.op,.op,.op,.op,.cU false 12 [.op,.op,.op,.op,.op,.op,.cU true 5 (RI.ops 5)],.op])) .l)
def WV.v (a b c d:Int)(e:Hp)(f:aO):Prop:=aV #[.I a,.I b] 259 e λg h=>aV #[.I c,.I d] 259 h λi j=>aQ g 0 j λk=>aQ i 0 j λl=>bV (λm n=>f m n) λo=>If (k>l) (o true j) (aQ g 0 j λp=>aQ i 0 j λq=>bV (λr s=>o r s) λt=>If (p==q) (aQ g 1 j λu=>aQ i 1 j λv=>t (decide (u<v)) j) (t false j))
theorem WV.o {a b c d e f}(g:WV.v a b c d e f):WV.c a b c d e f:=Wa Tryz.func282 (x:=WV.h) (R0 g)
end Go.Proofs
namespace Go.Ar
open Go Go.Vc Go.Proofs
variable {U:Hp}{F:Rg}{p:Nat}{c:bZ}{ps:List (Nat×Nat)}{ss:List cG}
def dW (ps:List (Nat×Nat)):List Nat:=ps.flatMap λx=>[x.1,x.2]
theorem UP {ps:List (Nat×Nat)}{b:Nat}:b∈dW ps↔∃x∈ps,b=x.1\/b=x.2:=by simp[dW]
def dP:List (Nat×Nat)->List cG->List Value
 | x::ps,s::ss=>.int .i64 (s.many:Int) :: .int .i64 (s.st:Int) :: .pointer (some ⟨x.1,0,none⟩)::dP ps ss
 | _,_=>[]
theorem QP:∀{ps:List (Nat×Nat)} {ss:List cG},ps.length=ss.length->(dP ps ss).length=3*ss.length
 | [],[],_=>rfl
 | x::ps,s::ss,h=>by simp only[dP,zY]at *;rw[QP O];omega
theorem QE:∀{ps:List (Nat×Nat)} {ss:List cG} {i:Nat} {x:Nat×Nat} {s:cG},ps[i]?=some x->ss[i]?=some s →
 (dP ps ss)[3*i]?=some (.int .i64 (s.many:Int))/\(dP ps ss)[3*i+1]?=some (.int .i64 (s.st:Int))/\(dP ps ss)[3*i+2]?=some (.pointer (some ⟨x.1,0,none⟩))
 | [],_,_,_,_,h,_=>by simp at h
 | _::_,[],_,_,_,_,h=>by simp at h
 | y::ps,t::ss,0,x,s,h1,h2=>by simp at h1 h2;subst h1;subst h2;simp[dP]
 | y::ps,t::ss,i+1,x,s,h1,h2=>by
  have:=QE (ps:=ps) (ss:=ss) (i:=i) (by simpa using h1) (by simpa using h2);simp only[dP];rw[show 3*(i+1)=3*i+3 by omega];simpa using this
theorem KR:∀{ps ps':List (Nat×Nat)} {ss ss':List cG},ps.length=ss.length->dP (ps++ps') (ss++ss')=dP ps ss++dP ps' ss'
 | [],_,[],_,_=>rfl
 | x::ps,_,s::ss,_,h=>by simp only[kW,dP,KR (ps:=ps) (ss:=ss) (by simpa using h)]
theorem EG:∀{ps:List (Nat×Nat)} {ss:List cG},∀v∈dP ps ss,dQ v=true
 | [],_,v,h=>by simp[dP]at h
 | _::_,[],v,h=>by simp[dP]at h
 | x::ps,s::ss,v,h=>by
  simp only[dP,zW]at h;rcases h with rfl|rfl|rfl|h
  ·rfl
  ·rfl
  ·rfl
  ·exact EG v h
structure fD (U:Hp) (F:Rg) (p:Nat) (c:bZ) (ps:List (Nat×Nat)) (ss:List cG):Prop where
 hd:∃sl:Sl,bY U p [.int .i64 (c.size:Int),.int .i64 (c.aF:Int),.int .i64 (c.batch:Int),.slice sl.a sl.len sl.cap]/\bS sl 3 (dP ps ss) U (λb=>F b/\b≠p/\b∉dW ps)
 sp:∀(i:Nat) (x:Nat×Nat) s,ps[i]?=some x->ss[i]?=some s->gT U x.1 x.2 c s
 fp:F p
 fb:∀b∈dW ps,F b
 nd:(p::dW ps).Nodup
 len:ps.length=ss.length
 ok:c.ok
 qD:ss.Pairwise (λa b=>a.st<b.st)
theorem fD.loc:dM λU F=>fD U F p c ps ss:=λU D F G h K j=>by
 obtain⟨sl,a,u⟩:=h.hd;have bR:∀b,b<U.size->F b->D[b]?=U[b]? := λb a d=>(j b a d).2;have y:∀{b:Nat} {cs:List Value},bY U b cs->F b->bY D b cs:=by
  rintro b cs ⟨e,B⟩ d;exact⟨e,(bR b (bY.lt ⟨e,B⟩) d).trans B⟩
 have lt:∀b∈dW ps,b<U.size:=by
  intro b a;obtain⟨x,m,w⟩:=UP.1 a;obtain⟨i,C⟩:=zQ m;have z:=(cW.1 C).1;have:=(h.sp i x _ C (cV (by rw[←h.len];exact z))).lt;rcases w with rfl|rfl
  ·exact this.1
  ·exact this.2
 refine⟨⟨sl,y a h.fp,bS.loc _ _ _ _ _ _ _ u K λb a d=>⟨⟨(j b a d.1).1,d.2⟩,(j b a d.1).2⟩⟩,λi x s m A=>?_,(j p a.lt h.fp).1,λb a=>(j b (lt b a) (h.fb b a)).1,h.nd,h.len,h.ok,h.qD⟩;have g:=h.sp i x s m A;have E:x.1∈dW ps:=UP.2 ⟨x,zG m,.inl rfl⟩;have J:x.2∈dW ps:=UP.2 ⟨x,zG m,.inr rfl⟩;obtain⟨L,H,hd⟩:=g.hd;obtain⟨r,u⟩:=g.row;exact⟨⟨L,H,y hd (h.fb _ E)⟩,⟨r,y u (h.fb _ J)⟩,g.ne,g.len,g.ok,g.fit⟩
theorem fD.bO {σ':Hp}(h:fD U F p c ps ss)(e:bK U σ'):fD σ' F p c ps ss:=dM.bO fD.loc h e
theorem fD.pw (h:fD U F p c ps ss):ss.length<=1024:=by
 have key:∀i (hi:i<ss.length),i<=ss[i].st:=by
  intro i
  induction i with
  | zero=>intro _;omega
  | succ i ih=>
   intro hi;have b:=ih O;have d:=l3.1 h.qD i (i+1) O hi O;omega
 rcases BI ss.length with h0|h0
 ·omega
 ·have a:ss.length-1<ss.length:=by omega
  have b:=key _ a;have e:ss.length-1<ps.length:=by rw[h.len];exact a
  have d:=(h.sp _ _ _ (cV e) (cV a)).fit;have:=h.ok.2.2.2.1;omega
structure rz (U:Hp) (F:Rg) (p:Nat) (ps:List (Nat×Nat)) (ss:List cG) (sl:Sl) (rb:Nat) (cs:List Value):Prop where
 a:sl.a=some ⟨rb,0,none⟩
 bT:bY U rb cs
 fr:F rb/\rb≠p/\rb∉dW ps
 get:∀{j:Nat} {v:Value},(dP ps ss)[j]?=some v->cs[j]?=some v
 yC:3*ss.length<=cs.length
theorem fD.sl (h:fD U F p c ps ss):∃sl:Sl,bY U p [.int .i64 (c.size:Int),.int .i64 (c.aF:Int),.int .i64 (c.batch:Int),.slice sl.a sl.len sl.cap]/\sl.len=ss.length/\(ss≠[]->∃rb cs,rz U F p ps ss sl rb cs):=by
 obtain⟨sl,r,g⟩:=h.hd;have m:=g.1;rw[QP h.len]at m;refine⟨sl,r,O,λe=>?_⟩;have i:0<ss.length:=pf.2 e;rcases g.2 with⟨h0,_⟩|⟨b,cs,hq,ha,hbb,hle,hcl,ht⟩
 ·omega
 ·refine⟨b,cs,ha,hbb,hq,λ{j v} d=>?_,?_⟩
  ·rw[←ht,zj]at d;split at d
   ·exact d
   ·cases d
  ·have:=congrArg List.length ht;rw[zZ,QP h.len]at this;omega
theorem fD.jv (h:fD U F p c ps ss){i:Nat}(hi:i<ss.length):∃x s,ps[i]?=some x/\ss[i]?=some s/\gT U x.1 x.2 c s:=by
 have a:i<ps.length:=by rw[h.len];exact hi
 have b:ps[i]?=some ps[i]:=cV a;exact⟨_,_,b,cV hi,h.sp i _ _ b (cV hi)⟩
theorem VK (h:fD U F p c ps ss){R:aO}(hR:R true U):WF.c (aW p) U R:=by
 refine WF.o ?_;unfold WF.v;obtain⟨sl,a,d,e⟩:=h.sl;have b:=h.ok;unfold bZ.ok at b;refine bV.intro (cD rfl (aG (a.eZ rfl ?_)));rw[zJ O];exact hR
def iC (x:Int):Prop:=x<=9223372036854775807
theorem Ak (h:fD U F p c ps ss)(x:Int)(hx:iC x){R:Option Addr->Hp->Prop}(h0:kB c ss x=none->R none U)
 (h1:∀(i:Nat) sl rb cs,kB c ss x=some i->i<ss.length->bY U p [.int .i64 (c.size:Int),.int .i64 (c.aF:Int),.int .i64 (c.batch:Int),.slice sl.a sl.len sl.cap]->rz U F p ps ss sl rb cs->R (some ⟨rb,3*i,none⟩) U):XF.c (aW p) x U R:=by
 refine XF.o ?_;unfold XF.v;obtain⟨sl,A,S,H⟩:=h.sl;have G:=h.pw;refine aG (A.rS rfl ?_);refine ZS (a:=bN) (λ(t:Int) D=>∃i:Nat,t=(i:Int)/\i<=ss.length/\D=U/\∀(j:Nat) s,j<i->ss[j]?=some s->idx c s x=none) (λt _=>ss.length-t.toNat) ⟨0,rfl,O,rfl,λj s y=>O⟩ ?_;rintro t D ⟨i,rfl,Q,rfl,u⟩;refine cQ (λC=>?_) λB=>?_
 ·simp only at C;have b:i<ss.length:=by omega
  obtain⟨M,s,J,z,L⟩:=h.jv b;obtain⟨rb,cs,E⟩:=H (by rintro rfl;simp at b);have K:=QE J z;refine aG (A.rS rfl ?_);rw[E.a];refine ix O O ?_;rw[add_lit];refine E.bT.rP (x:=some ⟨M.1,0,none⟩) ?_ ?_
  ·have:=E.get K.2.2;rw[show 0+(i:Int).toNat*3+2=3*i+2 by omega];exact this
  have d:∀r,idx c s x=some r->kB c ss x=some i:=by
   intro r w;refine m5.2 ⟨b,?_,λj y=>?_⟩
   ·have:ss[i]=s:=by rw[cV b]at z;simpa using z
    rw[this,w];rfl
   ·rw[u j _ y (cV O)];simp
  refine Bh L x hx (λr w=>cD rfl (aG (A.rS rfl ?_))) λN=>cB rfl ?_
  ·rw[E.a];refine ix O O ?_;rw[add_lit,show 0+(i:Int).toNat*3=3*i by omega];exact h1 i sl rb cs (d r w) b A E
  ·refine cP (m:=i+1) O O ⟨⟨i+1,rfl,O,rfl,λj P y g=>?_⟩,O⟩;by_cases e:j=i
   ·subst e;rw[z]at g;cases g;exact N
   ·exact u j P O g
 ·refine h0 ?_;refine ub.2 λs z=>?_;obtain⟨j,y⟩:=zQ z;have:=(cW.1 y).1;rw[u j s (by simp only at B;omega) y];rfl
theorem Vs {x:Int}{k:Nat}{s:cG}(hk:kB c ss x=some k)(hs:ss[k]?=some s):dY c ss x=(obj c s x).map s.is:=by
 unfold dY;rw[hk];simp only[hs];rfl
theorem GV {x:Int}(hk:kB c ss x=none):dY c ss x=none:=by unfold dY;rw[hk]
theorem G4 (h:fD U F p c ps ss)(x:Int)(hx:iC x){R:Bool->Int->Hp->Prop}(h1:∀b,dY c ss x=some b->R b 0 U)(h0:dY c ss x=none->R false 8 U):WX.c (aW p) x U R:=by
 refine WX.o ?_;unfold WX.v;refine VK h (cB rfl (Ak h x hx (λd=>cD rfl (h0 (GV d))) λi sl B A a m C E=>cB rfl (aG ?_)));obtain⟨r,s,u,g,z⟩:=h.jv m;have y:=QE u g;refine E.bT.rP (x:=some ⟨r.1,0,none⟩) (E.get y.2.2) ?_;have e:=Vs a g;exact Ra z x hx (λj w=>h1 _ (by rw[e,w];rfl)) λd=>h0 (by rw[e,d];rfl)
theorem HC {x:Int}{k:Nat}{s:cG}(hk:kB c ss x=some k)(hs:ss[k]?=some s):pM c ss x=(idx c s x).map (at_ c s):=by
 unfold pM;rw[hk];simp only[hs]
theorem Fu {x:Int}(hk:kB c ss x=none):pM c ss x=none:=by unfold pM;rw[hk]
theorem LF {x:Int}{k:Nat}{s:cG}(hk:kB c ss x=some k)(hs:ss[k]?=some s):∃i,idx c s x=some i:=by
 obtain⟨b,a,_⟩:=m5.1 hk;have:ss[k]=s:=by rw[cV b]at hs;simpa using hs
 rw[this]at a;exact pj.1 a
theorem N1 (h:fD U F p c ps ss)(x:Int)(hx:iC x){R:Int->Int->Hp->Prop}(h1:∀a,pM c ss x=some a->R (a:Int) 0 U)(h0:pM c ss x=none->R 0 8 U):Ye.c (aW p) x U R:=by
 refine Ye.o ?_;unfold Ye.v;refine VK h (cB rfl (Ak h x hx (λe=>cD rfl (h0 (Fu e))) λi sl L J b B H E=>cB rfl (aG ?_)));obtain⟨D,s,A,w,j⟩:=h.jv B;have y:=QE A w;obtain⟨r,g⟩:=LF b w;have G:=HC b w;have C:=h.ok;unfold bZ.ok at C;have u:=((VP O).1 g).2.2;rw[j.len]at u;have e:=h.ok.kx;have z:=j.fit;have M:r*c.size<=128*512:=lR O O;refine E.bT.rP (x:=some ⟨D.1,0,none⟩) (E.get y.2.2) ?_;refine Bh j x hx (λK d=>?_) λe=>by rw[g]at e;cases e
 rw[g]at d;cases d;refine aG (E.bT.eZ (x:=s.st) (E.get y.2.1) (cP (m:=s.st*256) aA O (aG (H.eZ rfl ?_))));refine cP (m:=r*c.size) aA O (cP (m:=at_ c s r) (by simp[at_]) (by unfold at_;omega) (h1 _ (by rw[G,g];rfl)))
theorem vt {h:Hp}{rb i:Nat}{cs:List Value}{x y:Int}{z:Option Addr}{e:Nat}(hb:bY h rb cs)(h0:cs[3*i]?=some (.int .i64 x))(h1:cs[3*i+1]?=some (.int .i64 y))(h2:cs[3*i+2]?=some (.pointer z))
 {K:Int->Int->Option Addr->Prop} (hK:K x y z):gA .i64 (Addr.add ⟨rb,3*i,none⟩ 0) h λu=>gA .i64 (Addr.add ⟨rb,3*i,none⟩ 1) h λv=>fU (Addr.add ⟨rb,3*i,none⟩ 2) h λw=>K u v w:=
 hb.rI h0 (hb.rI h1 (hb.rP h2 hK))
theorem Cm {h:Hp}{x y:Int}{z:Option Addr}{e:Nat}{K:Addr->Hp->Prop}(hK:∀h',bK h h'->bY h' h.size [.int .i64 x,.int .i64 y,.pointer z]->K ⟨h.size,0,none⟩ h') :
 Nw (.cells #[.int .i64 0,.int .i64 0,.pointer none] e (0,0)) h λn v=>dX (n.add 0) (.int .i64 x) v λv1=>dX (n.add 1) (.int .i64 y) v1 λv2=>dX (n.add 2) (.pointer z) v2 λv3=>K n v3:=by
 refine nw (cs:=[.int .i64 0,.int .i64 0,.pointer none]) λv m e j=>j.s1 aA λv1 o1 d=>d.s1 aA λv2 o2 g=>g.s1 aA λv3 o3 b=>?_;refine hK v3 ?_ b;exact Ext.fresh (Ext.fresh (Ext.fresh e o1.ext λi a=>O) o2.ext λi a=>O) o3.ext λi a=>by omega
def iE (c:bZ)(l:List Nat):List Value:=l.flatMap λ(s:Nat)=>[.int .i64 (s:Int),.int .i64 (c.aF:Int)]
theorem MC (c:bZ)(l:List Nat):(iE c l).length=2*l.length:=by
 induction l with
 | nil=>rfl
 | cons x l ih=>simp only[iE,p8,zP,zY,lH]at *;omega
theorem Ru (hc:c.ok){R:Option Addr->Int->Hp->Prop}(hR:∀σ' p,bK U σ'->U.size<=p->p<σ'.size->fD σ' (· = p) p c [] []->R (some ⟨p,0,none⟩) 0 σ'):Z2.c c.size c.aF c.batch U R:=by
 refine Z2.o ?_;unfold Z2.v;refine nw (cs:=[.int .i64 c.size,.int .i64 c.aF,.int .i64 c.batch]) λv u e d=>?_;refine d.rI rfl (d.rI rfl (d.rI rfl (D7 _ _ _ (λw m e1 e2 y s i=>?_) λb=>?_)))
 case refine_2=>rw[(C0 c).2 hc]at b;cases b
 have a:=i.bT d id;refine cB rfl (a.rI rfl (a.rI rfl (a.rI rfl (nw (cs:=[.int .i64 c.size,.int .i64 c.aF,.int .i64 c.batch,.slice none 0 0]) λx r j g=>?_))));exact hR _ _ ((e.trans i).trans j) (by have:=i.1;omega) O ⟨⟨⟨none,0,0⟩,g,bS.nil _ _ _ _⟩,by simp,rfl,by simp[dW],by simp[dW],rfl,hc,by simp⟩
theorem RY (a b a' b':Nat){R:aO}(hR:∀σ',bK U σ'->R (decide (a>a')||(a==a'&&decide (b<b'))) σ'):WV.c (a:Int) (b:Int) (a':Int) (b':Int) U R:=by
 refine WV.o ?_;unfold WV.v;refine nw (cs:=[.int .i64 a,.int .i64 b]) λv s e p=>nw (cs:=[.int .i64 a',.int .i64 b']) λr m e1 g=>?_;have i:=e1.bT p id;have d:=hR _ (e.trans e1);refine i.rI rfl (g.rI rfl (bV.intro (cQ (λh=>?_) λh=>?_)))
 ·have:decide (a>a')=true:=by simpa using h
  rw[this,Bool.true_or]at d;exact d
 ·have:decide (a>a')=false:=by simpa using h
  rw[this,xd]at d;refine i.rI rfl (g.rI rfl (bV.intro ?_));rw[k5];refine cO (λj=>?_) λj=>?_
  ·rw[j,pV]at d;refine i.rI rfl (g.rI rfl ?_);have:decide ((b:Int)<(b':Int))=decide (b<b'):=by rw[decide_eq_decide];omega
   rw[this];exact d
  ·rw[j,uC]at d;exact d
theorem QC:∀{i k:Nat},Y9 ss i=some k->k<i/\∃s,ss[k]?=some s/\s.many<s.tk.length
 | 0,_,h=>by simp[Y9]at h
 | i+1,k,h=>by
  have up:Y9 ss i=some k->k<i+1/\∃s,ss[k]?=some s/\s.many<s.tk.length:=λh=>by
   have:=QC h;exact⟨O,this.2⟩
  simp only[Y9]at h;split at h
  ·rename_i x hx;split at h
   ·rename_i hlt;have a:i<i+1/\∃s,ss[i]?=some s/\s.many<s.tk.length:=⟨O,x,hx,hlt⟩;split at h
    ·rename_i j hj;split at h
     ·split at h
      ·cases h;exact a
      ·cases h;exact up hj
     ·cases h;exact a
    ·cases h;exact a
   ·exact up h
  ·exact up h
theorem Gw {s:cG}(h:s.many<s.tk.length):∃i,low s=some i/\i<s.tk.length/\s.is i=false:=by
 unfold low;cases hf:s.tk.findIdx? (· == false)with
 | some i=>
  obtain⟨a,d,_⟩:=m5.1 hf;refine⟨i,rfl,a,?_⟩;have:s.tk[i]=false:=by simpa using d
  simp[cG.is,zO,cV a,this]
 | none=>
  exfalso;have b:=ub.1 hf;have:s.many=s.tk.length:=by
   unfold cG.many;rw[List.count_eq_length];intro x hx;have:=b x hx;cases x
   ·simp at this
   ·rfl
  omega
theorem EX:∀{ps:List (Nat×Nat)} {ss:List cG} {k:Nat} {s s':cG},ps.length=ss.length->ss[k]?=some s->s'.st=s.st->dP ps (ss.set k s')=(dP ps ss).set (3*k) (.int .i64 (s'.many:Int))
 | [],[],_,_,_,_,h,_=>by simp at h
 | [],_::_,_,_,_,h,_,_=>by simp at h
 | _::_,[],_,_,_,_,h,_=>by simp at h
 | x::ps,t::ss,0,s,s',_,h,e=>by simp at h;subst h;simp[dP,e]
 | x::ps,t::ss,k+1,s,s',hl,h,e=>by
  simp only[q9,dP];rw[EX (ps:=ps) (ss:=ss) (s:=s) (by simpa using hl) (by simpa using h) e];rw[show 3*(k+1)=3*k+1+1+1 by omega];simp
theorem PY {h:Hp}{b:Nat}{cs cs':List Value}(h1:bY h b cs)(h2:bY h b cs'):cs=cs':=by
 obtain⟨e,d⟩:=h1;obtain⟨g,a⟩:=h2;rw[d]at a;simp only[Option.some.injEq,Obj.cells.injEq]at a;simpa using congrArg Array.toList a.1
theorem Qe {x:Nat×Nat}{i:Nat}(hx:ps[i]?=some x):x.1∈dW ps/\x.2∈dW ps:=
 ⟨UP.2 ⟨x,zG hx,.inl rfl⟩,UP.2 ⟨x,zG hx,.inr rfl⟩⟩
theorem D8:∀{ps:List (Nat×Nat)},(dW ps).Nodup->∀{i j:Nat} {x y:Nat×Nat},ps[i]?=some x->ps[j]?=some y->i≠j->∀b,(b=x.1\/b=x.2)->¬(b=y.1\/b=y.2)
 | [],_,_,_,_,_,h,_,_=>by simp at h
 | z::ps,hn,i,j,x,y,h1,h2,hij=>by
  have hn':z.1∉dW ps/\z.2∉dW ps/\z.1≠z.2/\(dW ps).Nodup:=by
   simp only[dW,p8,kW,sA,zr,zW,not_or]at hn;exact⟨hn.1.2,hn.2.1,hn.1.1,hn.2.2⟩
  intro b hb hb'
  match i,j,hij with
  | 0,0,h=>exact h rfl
  | 0,j+1,_=>
   simp at h1;subst h1;have:=Qe (ps:=ps) (i:=j) (by simpa using h2);rcases hb with rfl|rfl<;>rcases hb' with e|e<;>rw[e]at hn'<;>simp[this]at hn'
  | i+1,0,_=>
   simp at h2;subst h2;have:=Qe (ps:=ps) (i:=i) (by simpa using h1);rcases hb with rfl|rfl<;>rcases hb' with e|e<;>rw[←e]at hn'<;>simp[this]at hn'
  | i+1,j+1,h=>exact D8 hn'.2.2.2 (by simpa using h1) (by simpa using h2) O b hb hb'
theorem fD.oK (h:fD U F p c ps ss){k:Nat}{x:Nat×Nat}{s s':cG}(hx:ps[k]?=some x)(hs:ss[k]?=some s)(hst:s'.st=s.st){σ1:Hp}(e1:Ext (λb=>b=x.1\/b=x.2) U σ1)(hS:gT σ1 x.1 x.2 c s')
 {sl:Sl} {rb:Nat} {cs:List Value} (hb:bY U p [.int .i64 (c.size:Int),.int .i64 (c.aF:Int),.int .i64 (c.batch:Int),.slice sl.a sl.len sl.cap]) (E:rz U F p ps ss sl rb cs)
 {K:aP} (hK:∀σ2,Ext F U σ2->fD σ2 F p c ps (ss.set k s')->K σ2):dX ⟨rb,3*k,none⟩ (.int .i64 (s'.many:Int)) σ1 K:=by
 obtain⟨my,B,N⟩:=h.hd;have H:my=sl:=by
  have:=PY B hb;simp at this;obtain⟨a,n,c⟩:=sl;obtain⟨S,W,V⟩:=my;simp at this ⊢;exact this
 subst H;have g:=Qe hx;have e:=h.nd;simp only[zr]at e;have w:=(cW.1 hs).1;have A:=(bS.loc my 3 (dP ps ss)).bR N e1 λb hb P=>λd=>P.2.2 (by rcases d with rfl|rfl;exact g.1;exact g.2);have J:=e1.bT hb λd=>e.1 (by rcases d with h|h<;>rw[h];exact g.1;exact g.2)
 refine A.st (j:=3*k) (by rw[QP h.len];omega) (λb m=>by rw[E.a]at m;cases m;rfl) λσ2 e2 D=>?_;have G:Ext F U σ2:=(e1.sub λi C=>h.fb i (by rcases C with rfl|rfl;exact g.1;exact g.2)).trans (e2.sub λi C=>C.1);refine hK σ2 G ⟨⟨my,e2.bT J λd=>d.2.1 rfl,?_⟩,λi y t u z=>?_,h.fp,h.fb,h.nd,by simpa using h.len,h.ok,?_⟩
 ·rw[EX h.len hs hst];exact D
 ·have r:=Qe u;have Q:gT σ1 y.1 y.2 c t:=by
   by_cases hik:i=k
   ·subst hik;rw[hx]at u;cases u;rw[zL w]at z;cases z;exact hS
   ·rw[zk (Ne.symm hik)]at z;have M:=D8 e.2 u hx hik;exact(h.sp i y t u z).bR e1 (M _ (.inl rfl)) (M _ (.inr rfl))
  exact Q.bR e2 (λd=>d.2.2 r.1) (λd=>d.2.2 r.2)
 ·have:(ss.set k s').map (·.st)=ss.map (·.st):=by
   apply zo;intro i;simp only[zg];by_cases hik:i=k
   ·subst hik;rw[zL w,hs];simp[hst]
   ·rw[zk (Ne.symm hik)]
  have L:=h.qD;rw[←uk (f:=cG.st) (R:=(· < ·))]at L ⊢;rw[this];exact L
theorem P4 (h:fD U F p c ps ss){R:Int->Bool->Hp->Prop}(h1:∀x ss',iY c ss=some (x,ss')->∀σ',Ext F U σ'->fD σ' F p c ps ss'->R (x:Int) true σ')(h0:iY c ss=none->∀σ',bK U σ'->R 0 false σ') :
 YM.c (aW p) U R:=by
 refine YM.o ?_;unfold YM.v;obtain⟨sl,Z,hl,hr⟩:=h.sl;have hfew:=h.pw;have hn:=h.ok.kx;obtain⟨d,cs,E⟩:∃d cs,ss≠[]->rz U F p ps ss sl d cs:=by
  by_cases hne:ss=[]
  ·exact⟨0,[],λh=>absurd hne h⟩
  ·obtain⟨d,cs,E⟩:=hr hne;exact⟨d,cs,λ_=>E⟩
 refine aG (Z.rS rfl ?_);refine UO (a:=.p) (bb:=bN) (λ(iH:Option Addr) (t:Int) D=>∃i:Nat,t=(i:Int)/\i<=ss.length/\bK U D/\iH=(Y9 ss i).map λk=>⟨d,3*k,none⟩) (λ_ t _=>ss.length-t.toNat) ⟨0,rfl,O,Ext.refl _ _,rfl⟩ ?_;rintro iH t D ⟨i,rfl,hi,e,rfl⟩;refine cQ (λV=>?_) λX=>?_
 ·simp only at V;have N:i<ss.length:=by omega
  have E:=E (by rintro rfl;simp at N);obtain⟨P,s,K,H,w⟩:=h.jv N;have A:=QE K H;have ac:=w.len;refine aG ((e.bT Z id).rS rfl ?_);rw[E.a];refine ix O O ?_;rw[add_lit,show 0+(i:Int).toNat*3=3*i by omega];have Eb:=e.bT E.bT id;have B:Y9 ss (i+1)=if s.many<s.tk.length then(match Y9 ss i with
   | some j=>match ss[j]? with
    | some y=>if wx s y then some i else some j
    | none=>some i
   | none=>some i)else Y9 ss i:=by
   simp only[Y9,H];rfl
  have J:∀(r:Bool) (v:Hp),bK U v->(if r then some i else Y9 ss i)=Y9 ss (i+1) →
   If r (Ar .i64 ((i:Int)+1) λb=>(∃j:Nat,b=(j:Int)/\j<=ss.length/\bK U v/\some (⟨d,3*i,none⟩:Addr)=(Y9 ss j).map λk=>⟨d,3*k,none⟩)/\ss.length-b.toNat<ss.length-(i:Int).toNat)
    (Ar .i64 ((i:Int)+1) λb=>(∃j:Nat,b=(j:Int)/\j<=ss.length/\bK U v/\((Y9 ss i).map λk=>(⟨d,3*k,none⟩:Addr))=(Y9 ss j).map λk=>⟨d,3*k,none⟩)/\ss.length-b.toNat<ss.length-(i:Int).toNat):=by
   intro r v ev hr';cases r
   ·refine cB rfl (cP (m:=i+1) O O ⟨⟨i+1,rfl,O,ev,?_⟩,O⟩);rw[←hr'];rfl
   ·refine cD rfl (cP (m:=i+1) O O ⟨⟨i+1,rfl,O,ev,?_⟩,O⟩);rw[←hr'];rfl
  refine Jn.intro ⟨λG=>bY G d cs,Eb,aG ⟨_,λG w=>by rw[add_lit,add_lit,w.cell];exact E.get A.1,aG ⟨_,λG w=>by rw[add_lit,w.cell];exact E.get A.2.2,?_⟩⟩⟩;refine IS (w.bO e) ⟨Eb,?_⟩;refine cQ (λhlt2=>?_) λhge2=>?_
  ·have hm:s.many<s.tk.length:=by omega
   rw[zC hm]at B;cases hbf:Y9 ss i with
   | none=>
    rw[hbf]at B J;exact cD rfl (J true D e B.symm)
   | some j=>
    rw[hbf]at B J;obtain⟨hji,y,hy,hym⟩:=QC hbf;simp only[hy]at B;have hpj:j<ps.length:=by rw[h.len];omega
    have u:=QE (cV hpj) hy;have fin:WV.c (s.many:Int) (s.st:Int) (y.many:Int) (y.st:Int) D λQ v3=>bY v3 d cs ∧
     If Q (Ar .i64 ((i:Int)+1) λb=>(∃j:Nat,b=(j:Int)/\j<=ss.length/\bK U v3/\some (⟨d,3*i,none⟩:Addr)=(Y9 ss j).map λk=>⟨d,3*k,none⟩)/\ss.length-b.toNat<ss.length-(i:Int).toNat)
      (Ar .i64 ((i:Int)+1) λb=>(∃j':Nat,b=(j':Int)/\j'<=ss.length/\bK U v3/\((some j).map λk=>(⟨d,3*k,none⟩:Addr))=(Y9 ss j').map λk=>⟨d,3*k,none⟩)/\ss.length-b.toNat<ss.length-(i:Int).toNat):=by
     refine RY _ _ _ _ λv3 e3=>⟨e3.bT Eb id,J _ v3 (e.trans e3) ?_⟩;rw[B];rfl
    refine cB rfl (aG (aG ⟨?_,?_⟩))
    ·exact Eb.eZ (E.get A.1) (Eb.eZ (E.get A.2.1) ⟨Eb,Eb.eZ (E.get u.1) (Eb.eZ (E.get u.2.1) ⟨Eb,fin⟩)⟩)
    ·exact Eb.eZ (E.get u.1) (Eb.eZ (E.get u.2.1) ⟨Eb,Eb.eZ (E.get A.1) (Eb.eZ (E.get A.2.1) ⟨Eb,fin⟩)⟩)
  ·have hm:¬s.many<s.tk.length:=by omega
   rw[zB hm]at B;exact J false D e B.symm
 ·have ad:i=ss.length:=by simp only at X;omega
  subst ad;cases hbf:Y9 ss ss.length with
  | none=>
   refine cD rfl (h0 ?_ _ e);simp[iY,iH,hbf]
  | some k=>
   obtain⟨hk,s,H,ab⟩:=QC hbf;have E:=E (by rintro rfl;simp at hk);obtain⟨P,s',K,M,w⟩:=h.jv hk;rw[H]at M;cases M;have A:=QE K H;obtain⟨r,C,aa,S⟩:=Gw ab;have D:=h.bO e;have one:iY c ss=some (at_ c s r,ss.set k (s.put r true)):=by simp[iY,iH,hbf,H,C]
   have E':rz _ F p ps ss sl d cs:=⟨E.a,e.bT E.bT id,E.fr,E.get,E.yC⟩;refine cB rfl (aG (E'.bT.rP (x:=some ⟨P.1,0,none⟩) (E.get A.2.2) ?_));refine Ly (w.bO e) C λv5 e5 W=>aG ?_;have L:=Qe K;have Y:¬(d=P.1\/d=P.2):=λhh=>E.fr.2.2 (by rcases hh with h|h<;>rw[h];exact L.1;exact L.2)
   have hml:=AU s;have g:=H5 aa true;rw[S]at g;have z:(s.put r true).many=s.many+1:=by simp at g;omega
   have ac:=w.len;refine(e5.bT E'.bT Y).eZ (E.get A.1) (cP (m:=s.many+1) O O (aG ?_));rw[add_lit,add_lit,jY,jY,←z];exact D.oK (s':=s.put r true) K H rfl e5 W (e.bT Z id) E' λv6 e6 h6=>h1 _ _ one v6 (e.to.trans e6) h6
theorem PA {k:Nat}{s s':cG}(hs:ss[k]?=some s):nN (ss.set k s')+(s.tk.length-s.many)=nN ss+(s'.tk.length-s'.many):=by
 unfold nN
 induction ss generalizing k with
 | nil=>simp at hs
 | cons x ss ih=>
  cases k with
  | zero=>simp at hs;subst hs;simp;omega
  | succ k=>
   have:=ih (by simpa using hs);simp only[q9,zT,nB];omega
theorem Pd {x:Nat}{ss':List cG}(h:iY c ss=some (x,ss')):nN ss'+1=nN ss:=by
 unfold iY at h;split at h
 ·rename_i k hk;obtain⟨_,s,j,a⟩:=QC hk;rw[j]at h;simp only at h;split at h
  ·rename_i i hi;cases h;obtain⟨r,g,b,d⟩:=Gw a;rw[hi]at g;cases g;have m:=PA (s':=s.put i true) j;have e:=H5 b true;rw[d]at e;have p:(s.put i true).tk.length=s.tk.length:=by simp[cG.put]
   simp at e;omega
  ·cases h
 ·cases h
theorem fD.room (h:fD U F p c ps ss):nN ss<=131072:=by
 have key:∀l:List cG,(∀s∈l,s.tk.length<=128)->nN l<=128*l.length:=by
  intro l
  induction l with
  | nil=>intro _;simp[nN]
  | cons x l ih=>
   intro hl;have j:=hl x aA;have m:=ih λs b=>hl s (by simp[b]);simp only[nN,zT,nB,zY]at *;omega
 have:=key ss λs b=>by
  obtain⟨i,e⟩:=zQ b;have d:=(cW.1 e).1;obtain⟨x,r,_,a,g⟩:=h.jv d;rw[e]at a;cases a;rw[g.len];exact h.ok.kx
 have:=h.pw;omega
theorem HD {m:Nat}{x:Nat}{ss':List cG}(h:iY c ss=some (x,ss')):QT c (m+1) ss=(x::(QT c m ss').1,(QT c m ss').2):=by
 simp[QT,h]
theorem J9 (h:fD U F p c ps ss)(m:Int)(hm:0<=m){R:Sl->Int->Hp->Prop}
 (hR:∀s σ',Ext F U σ'->bS s 1 (ints (QT c m.toNat ss).1) σ' (λb=>U.size<=b)->fD σ' (Cut F U) p c ps (QT c m.toNat ss).2->R s 0 σ'):W4.c (aW p) m U R:=by
 refine W4.o ?_;unfold W4.v;have h:=fD.loc.cut h;have J:=fD.room h;refine VK h (cB rfl (fS O ?_));refine ZS (a:=.s) (λ(out:Sl) B=>∃j d,Ext F U B/\bS out 1 (ints j) B (λb=>U.size<=b)/\fD B (Cut F U) p c ps d/\j.length<=m.toNat/\j.length+nN d=nN ss/\QT c m.toNat ss=(j++(QT c (m.toNat-j.length) d).1,(QT c (m.toNat-j.length) d).2))
  (λout _=>m.toNat-out.len) ⟨[],ss,Ext.refl _ _,bS.nil _ _ _ _,h,by simp,by simp,by simp⟩ ?_
 rintro out B ⟨j,d,e,g,K,S,W,r⟩;have P:=g.oJ;refine cQ (λV=>?_) λZ=>?_
 ·have u:m.toNat-j.length=(m.toNat-(j.length+1))+1:=by omega
  refine P4 K (λx G w v2 e2 H=>cB rfl ?_) λy v2 e2=>cD rfl ?_
  ·have C:Ext F U v2:=e.trans (e2.sub λi E=>E.1);have z:=aI.bR g e2 λb _ D M=>by have:=M.2;omega
   refine z.push (vs:=[.int .i64 (x:Int)]) (λb D=>ze C.1 D) rfl rfl (by simp[dQ]) O O λs' v4 Y N L=>?_;have Q:=Pd w;refine⟨⟨j++[x],G,C.dV N λi E=>.inr E,by rw[UD];exact L,fD.loc.bR H N λb _ D M=>(by have:=D.2;omega),by simp;omega,by simp;omega,?_⟩,O⟩;rw[r,u,HD w];simp
  ·have:QT c (m.toNat-j.length) d=([],d):=by rw[u];simp[QT,y]
   rw[this]at r;have A:=hR out v2 (e.trans e2.to);rw[r,kX]at A;exact A (aI.bO g e2) (K.bO e2)
 ·have X:m.toNat-j.length=0:=by omega
  rw[X]at r;have A:=hR out B e;rw[r]at A;simp only[QT,kX]at A;exact A g K
theorem I2 (h:fD U F p c ps ss)(m:Int)(hm:m<0){R:Sl->Int->Hp->Prop}(hR:R ⟨none,0,0⟩ 1 U):W4.c (aW p) m U R:=by
 refine W4.o ?_;unfold W4.v;exact VK h (cB rfl (lB O hR))
def iW:List (Nat×Nat)->List cG->List (Nat×Nat)
 | x::ps,s::ss=>if s.many != 0 then x::iW ps ss else iW ps ss
 | _,_=>[]
theorem Hu:∀{ps:List (Nat×Nat)} {ss:List cG},ps.length=ss.length->(iW ps ss).length=(cF ss).length
 | [],[],_=>rfl
 | x::ps,s::ss,h=>by
  have ih:=Hu (ps:=ps) (ss:=ss) (by simpa using h);simp only[iW,cF,rQ]at *;split<;>simp[ih]
theorem AT:∀{ps:List (Nat×Nat)} {ss:List cG},(iW ps ss).Sublist ps
 | [],_=>by simp[iW]
 | _::_,[]=>by simp[iW]
 | x::ps,s::ss=>by
  simp only[iW];split
  ·exact AT.cons_cons x
  ·exact AT.cons x
theorem Ei:∀{ps ps':List (Nat×Nat)} {ss ss':List cG},ps.length=ss.length->iW (ps++ps') (ss++ss')=iW ps ss++iW ps' ss'
 | [],_,[],_,_=>rfl
 | x::ps,_,s::ss,_,h=>by
  simp only[kW,iW,Ei (ps:=ps) (ss:=ss) (by simpa using h)];split<;>rfl
theorem FH:∀{ps:List (Nat×Nat)} {ss:List cG} {i:Nat} {x:Nat×Nat} {s:cG},ps.length=ss.length->(iW ps ss)[i]?=some x->(cF ss)[i]?=some s->∃j:Nat,ps[j]?=some x/\ss[j]?=some s
 | [],[],_,_,_,_,h,_=>by simp[iW]at h
 | y::ps,t::ss,i,x,s,hl,h1,h2=>by
  have ih:=λi=>FH (ps:=ps) (ss:=ss) (i:=i) (x:=x) (s:=s) (by simpa using hl);simp only[iW,cF,rQ]at h1 h2;cases hm:(t.many != 0)
  ·rw[hm]at h1 h2;obtain⟨j,b,a⟩:=ih i h1 h2;exact⟨j+1,by simpa using b,by simpa using a⟩
  ·rw[hm]at h1 h2;cases i with
   | zero=>simp at h1 h2;exact⟨0,by simp[h1],by simp[h2]⟩
   | succ i=>
    obtain⟨j,b,a⟩:=ih i (by simpa using h1) (by simpa[cF]using h2);exact⟨j+1,by simpa using b,by simpa using a⟩
theorem JT (a b:List cG):cF (a++b)=cF a++cF b:=by simp[cF]
theorem Sk (a b:List cG):Qc (a++b)=Qc a++Qc b:=by simp[Qc]
theorem MD (c:bZ)(a b:List Nat):iE c (a++b)=iE c a++iE c b:=by simp[iE]
theorem PU {a b:List (Nat×Nat)}(h:a.Sublist b):(dW a).Sublist (dW b):=by
 induction h with
 | slnil=>exact List.Sublist.refl _
 | cons x _ ih=>exact(ih.cons _).cons _
 | cons_cons x _ ih=>exact(ih.cons_cons _).cons_cons _
theorem DC {h:Hp}{Q:Rg}{n3:Nat}{o:Sl}{l:List Nat}{x1 x2:Nat}{s:cG}(hb:bY h n3 [.slice o.a o.len o.cap])(hrow:bS o 2 (iE c l) h Q)(hQ:∀b,Q b->n3<b)(hl:l.length<=2000)(hS:gT h x1 x2 c s){R:aO}
 (hR:∀h' o',Ext (λb=>b=n3\/Q b) h h'->bY h' n3 [.slice (Sl.a o') o'.len o'.cap]->bS o' 2 (iE c (l++if s.many=0 then[s.st]else[])) h' (Grow Q h)->R (s.many==0) h') :
 VH Tryz.prog ⟨223,#[],#[.pointer (some ⟨n3,0,none⟩)]⟩ [.agg #[.int .i64 (s.many:Int),.int .i64 (s.st:Int),.pointer (some ⟨x1,0,none⟩)]] [.one .b] h R:=by
 refine pd (all := #[.agg #[.int .i64 (s.many:Int),.int .i64 (s.st:Int),.pointer (some ⟨x1,0,none⟩)],.pointer (some ⟨n3,0,none⟩)]) (by kernel_rfl) aA ?_;refine XO.o ?_;unfold XO.v;refine nw (cs:=[.int .i64 (s.many:Int),.int .i64 (s.st:Int),.pointer (some ⟨x1,0,none⟩)]) λv Z e d=>?_;have M:=hb.lt;have g:=e.bT hb id;have hrow:=(bS.loc o 2 (iE c l)).mono hrow (G:=λb=>Q b/\b<h.size) λb hb y=>⟨y,hb⟩;refine Jn.intro (d.eZ rfl ?_);rw[uT];refine cO (λH=>?_) λH=>?_
 ·have p:s.many=0:=by simpa using H
  rw[zC p]at hR;refine⟨λh'=>bY h' h.size [.int .i64 (s.many:Int),.int .i64 (s.st:Int),.pointer (some ⟨x1,0,none⟩)]/\bY h' n3 [.slice o.a o.len o.cap],⟨d,g⟩,⟨o,λh' hS=>by rw[hS.2.cell];rfl,⟨some ⟨x1,0,none⟩,λh' hS=>by rw[add_lit,hS.1.cell];rfl,?_⟩⟩⟩;refine LO (hS.bO e) λv2 e2=>⟨⟨e2.bT d id,e2.bT g id⟩,?_⟩;have x:=e.trans e2;have m:=aI.bO hrow x;have z:=m.1;rw[MC]at z;refine nw (cs:=[.int .i64 (s.st:Int),.int .i64 (c.aF:Int)]) λv3 N w D=>⟨⟨(e2.trans w).bT d id,(e2.trans w).bT g id⟩,?_⟩;have r:=aI.bO m w;have U:=x.1;refine r.app (ys:=[.int .i64 (s.st:Int),.int .i64 (c.aF:Int)]) rfl rfl ?_ (by simp[dQ]) ?_ ?_ mG λX L W C E=>?_
  ·intro j u hu;rw[add_lit,zH,D.cell];exact hu
  ·simp only;have:(o.len+1)*16<=2001*16:=lR O O;omega
  ·simp only;omega
  ·have J:bY L h.size [.int .i64 (s.many:Int),.int .i64 (s.st:Int),.pointer (some ⟨x1,0,none⟩)]:=C.bT ((e2.trans w).bT d id) λF=>by have:=F.2;omega
   have K:bY L n3 [.slice o.a o.len o.cap]:=C.bT ((e2.trans w).bT g id) λF=>by have:=hQ _ F.1;omega
   refine⟨⟨J,K⟩,K.s0 aA λv5 o5 P=>(Ws o5 J O).eZ rfl ?_⟩;have B:Ext (λb=>b=n3\/Q b) h v5:=(bK.to ((e.trans e2).trans w)).trans (C.sub λi A=>.inr A.1)|>.trans (o5.ext.sub λi A=>.inl A);rw[uT];refine hR v5 X B P ?_;rw[MD];have:iE c [s.st]=[.int .i64 (s.st:Int),.int .i64 (c.aF:Int)]:=rfl;rw[this];have V:=aI.mono E (G:=Grow Q h) λb _ S=>by
    rcases S with h|h
    ·exact .inl h.1
    ·exact .inr O
   exact aI.bR V o5.ext λb _ y Y=>by
    rcases y with h|h
    ·have:=hQ _ h;omega
    ·omega
 ·have p:¬s.many=0:=by simpa using H
  rw[zB p,kX]at hR;refine d.eZ rfl ?_;rw[uT];exact hR v o e.to g (aI.bO (aI.mono hrow λb _ y=>.inl y.1) e)
def xq (n3:Nat)(c:bZ)(l:List Nat)(h:Hp):Prop:=∃o:Sl,bY h n3 [.slice o.a o.len o.cap]/\bS o 2 (iE c l) h (λb=>n3<b)
theorem Ae {A D:List Value}{x y z:Value}{k:Nat}(hk:k=A.length)(hD:3<=D.length):(((A++D).set k x).set (k+1) y).set (k+2) z=A++[x,y,z]++D.drop 3:=by
 subst hk
 match D,hD with
 | d0::d1::d2::D,_=>simp[List.set_append]
theorem Ho {i:Nat}{s:cG}(hs:ss[i]?=some s):Qc (ss.take (i+1))=Qc (ss.take i)++(if s.many=0 then[s.st]else[]):=by
 rw[lI,hs,Sk]
 congr 1
 by_cases hm:s.many=0<;>simp[Qc,hm]
theorem HA {i:Nat}{s:cG}(hs:ss[i]?=some s):cF (ss.take (i+1))=cF (ss.take i)++(if s.many=0 then[]else[s]):=by
 rw[lI,hs,JT]
 congr 1
 by_cases hm:s.many=0<;>simp[cF,hm]
theorem Aw {i:Nat}{x:Nat×Nat}{s:cG}(hl:ps.length=ss.length)(hx:ps[i]?=some x)(hs:ss[i]?=some s):iW (ps.take (i+1)) (ss.take (i+1))=iW (ps.take i) (ss.take i)++(if s.many=0 then[]else[x]):=by
 rw[lI,lI,hs,hx,Ei (by simp[hl])]
 congr 1
 by_cases hm:s.many=0<;>simp[iW,hm]
theorem RP (l:List cG):(Qc l).length<=l.length:=by unfold Qc;rw[zl];exact qe _ _
theorem Jj (l:List cG):(cF l).length<=l.length:=qe _ _
theorem Ji (h:fD U F p c ps ss){sl:Sl}{rb n3:Nat}{cs:List Value}{σ1:Hp}(e1:bK U σ1)(hlen:sl.len=ss.length)(hn3:U.size<=n3)(hE:ss≠[]->rz U F p ps ss sl rb cs/\sl.len<=sl.cap/\cs.length=sl.cap*3)(h0:xq n3 c [] σ1){R:Sl->Hp->Prop}
 (hR:∀h' my,Ext (λb=>F b/\b≠p/\b∉dW ps\/n3<=b) σ1 h'->xq n3 c (Qc ss) h'->(my=sl/\Qc ss=[]/\cF ss=ss/\iW ps ss=ps/\Ext (λb=>n3<=b) σ1 h'\/(bS my 3 (dP (iW ps ss) (cF ss)) h' (λb=>F b/\b≠p/\b∉dW ps)))->R my h') :
 We.c sl ⟨223,#[],#[.pointer (some ⟨n3,0,none⟩)]⟩ σ1 R:=by
 refine We.o ?_;unfold We.v;refine Wh.o ?_;unfold Wh.v;have hfew:=h.pw;have r:=h.len;refine ZS (a:=bN) (λ(t:Int) h'=>∃i:Nat,t=(i:Int)/\i<=ss.length/\Ext (λb=>n3<=b) σ1 h'/\xq n3 c [] h'/\Qc (ss.take i)=[]/\cF (ss.take i)=ss.take i/\iW (ps.take i) (ss.take i)=ps.take i) (λt _=>ss.length-t.toNat) ⟨0,rfl,O,Ext.refl _ _,h0,by simp[Qc],by simp[cF],by simp[iW]⟩ ?_;rintro t h' ⟨i,rfl,hi,e,⟨o,N,ae⟩,q1,q2,q3⟩;have eo:∀{v:Hp},Ext (λb=>n3<=b) σ1 v->Ext (λb=>n3<=b) U v:=λe=>e1.to.trans e;refine cQ (λhlt=>?_) λhge=>?_
 ·have ah:i<ss.length:=by omega
  obtain⟨E,hcap,hcl⟩:=hE (by rintro rfl;simp at ah);obtain⟨xx,s,hp,K,hS⟩:=h.jv ah;have eg:=QE hp K;have hrl:=E.bT.lt;have hSl:=hS.lt;rw[E.a];refine ix O O ?_;rw[add_lit,show 0+(i:Int).toNat*3=3*i by omega];refine vt (e:=0) ((eo e).bT E.bT O) (E.get eg.1) (E.get eg.2.1) (E.get eg.2.2) ?_;have hn3h:n3<h'.size:=N.lt;refine DC N ae (λb h=>h) aA (hS.bR (eo e) O O) λh2 o2 e2 Y A=>?_;have e2:Ext (λb=>n3<=b) h' h2:=e2.sub λb g=>by omega
  have A:=aI.mono A (G:=λb=>n3<b) λb _ g=>by
   rcases g with h|h
   ·exact h
   ·omega
  refine cO (λhm=>?_) λhm=>?_
  ·-- the first that goes
   have x:s.many=0:=by simpa using hm
   rw[zC x,sA]at A;have C:((i:Int)==(-1))=false:=by rw[mf];omega
   show If ((i:Int)==(-1)) _ _;refine cB C (cP (m:=i+1) O O ?_);have q1':Qc (ss.take (i+1))=[s.st]:=by rw[Ho K,q1,zC x];rfl
   have V:cF (ss.take (i+1))=ss.take i:=by rw[HA K,q2,zC x,kX]
   have q3':iW (ps.take (i+1)) (ss.take (i+1))=ps.take i:=by rw[Aw r hp K,q3,zC x,kX]
   have hke:∀k,k<=ss.length->(dP (iW (ps.take k) (ss.take k)) (cF (ss.take k))).length=3*(cF (ss.take k)).length:=λk _=>QP (Hu (by simp[r]));have Eb2:bY h2 rb cs:=(eo (e.trans e2)).bT E.bT O;refine UO (a:=bN) (bb:=bN) (λ(i1 j1:Int) v=>∃j:Nat,j1=(j:Int)/\i<j/\j<=ss.length/\i1=((cF (ss.take j)).length:Int)/\(cF (ss.take j)).length<j/\Ext (λb=>b=rb\/n3<=b) σ1 v/\xq n3 c (Qc (ss.take j)) v ∧
    bY v rb (dP (iW (ps.take j) (ss.take j)) (cF (ss.take j))++cs.drop (3*(cF (ss.take j)).length))) (λ_ j1 _=>ss.length-j1.toNat) ?_ ?_
   ·refine⟨i+1,rfl,O,O,?_,?_,(e.trans e2).sub λb g=>.inr g,?_,?_⟩
    ·rw[V,zZ];omega
    ·rw[V,zZ];omega
    ·rw[q1'];exact⟨o2,Y,A⟩
    ·rw[V,q3',zZ,pB O];have:dP (ps.take i) (ss.take i)++cs.drop (3*i)=cs:=by
      have h1:(dP (ps.take i) (ss.take i)).length=3*i:=by rw[QP (by simp[r]),zZ];omega
      apply zo;intro k;rcases ku k (3*i)with hk|hk
      ·rw[zh O];have h2:(dP ps ss)[k]?=(dP (ps.take i) (ss.take i))[k]? := by
        conv=>lhs;rw[←nu i ps,←nu i ss,KR (by simp[r])]
        rw[zh O]
       rw[←h2];have h3:k<(dP ps ss).length:=by rw[QP r];omega
       rw[cV h3];exact(E.get (cV h3)).symm
      ·rw[zp O,kL,h1]
       congr 1;omega
     rw[this];exact Eb2
   ·rintro i1 j1 v ⟨j,rfl,hij,hj,rfl,hKj,ev,⟨o3,D,J⟩,z⟩;have y:=hke j hj;have evo:Ext (λb=>b=rb\/n3<=b) U v:=e1.to.trans ev;refine cQ (λhlt2=>?_) λhge2=>?_
    ·have hj':j<ss.length:=by omega
     obtain⟨yy,u,S,H,aa⟩:=h.jv hj';have P:=QE S H;have hSul:=aa.lt;have Z:=Qe S;refine ix O O ?_;rw[add_lit,show 0+(j:Int).toNat*3=3*j by omega];have get:∀d,d<3->∀w,(dP ps ss)[3*j+d]?=some w->(dP (iW (ps.take j) (ss.take j)) (cF (ss.take j))++cs.drop (3*(cF (ss.take j)).length))[3*j+d]?=some w:=by
      intro d hd w hw;rw[zp O,kL,y,show 3*(cF (ss.take j)).length+(3*j+d-3*(cF (ss.take j)).length)=3*j+d by omega];exact E.get hw
     refine vt (e:=0) z (get 0 O _ P.1) (get 1 O _ P.2.1) (get 2 O _ P.2.2) (Cm λv5 X b5=>b5.rI rfl (b5.rI rfl (b5.rP rfl ?_)));have hn3v:n3<v.size:=D.lt;have ad:=aI.mono J (G:=λb=>n3<b/\b<v.size) λb g hf=>⟨hf,g⟩;have L:=RP (ss.take j);rw[zZ]at L;refine DC (X.bT D id) (aI.bO ad X) (λb g=>g.1) O ((aa.bR evo (λW=>by rcases W with h|h;exact E.fr.2.2 (h▸Z.1);omega) (λW=>by rcases W with h|h;exact E.fr.2.2 (h▸Z.2);omega)).bO X) λv6 o6 e6 ab B=>?_;have hsz5:=X.1;have B:=aI.mono B (G:=λb=>n3<b) λb _ g=>by
      rcases g with h|h
      ·exact h.1
      ·omega
     have b6:bY v6 v.size [.int .i64 (u.many:Int),.int .i64 (u.st:Int),.pointer (some ⟨yy.1,0,none⟩)]:=e6.bT b5 λW=>by rcases W with h|h;omega;have:=h.2;omega
     have hrb:rb<U.size:=E.bT.lt;have M:=e6.bT (X.bT z id) λW=>by rcases W with h|h;omega;have:=h.1;omega
     have ac:Ext (λb=>b=rb\/n3<=b) σ1 v6:=(ev.trans X.to).trans (e6.sub λb g=>by rcases g with h|h;omega;have:=h.1;omega);rw[←Ho H]at B;have st:=HA H;have kt:=Aw r S H;by_cases hum:u.many=0
     ·rw[zC hum,kX]at st kt;have:(u.many==0)=true:=by simp[hum]
      rw[this];refine cB rfl (cP (m:=j+1) O O ⟨⟨j+1,rfl,O,O,?_,?_,ac,⟨o6,ab,B⟩,?_⟩,O⟩)
      ·rw[st]
      ·rw[st];omega
      ·rw[st,kt];exact M
     ·rw[zB hum]at st kt;have:(u.many==0)=false:=by simp[hum]
      rw[this];refine cD rfl (b6.rI rfl (b6.rI rfl (b6.rP rfl (ix O O ?_))));rw[add_lit,show 0+((cF (ss.take j)).length:Int).toNat*3=3*(cF (ss.take j)).length by omega];have hlen6:(dP (iW (ps.take j) (ss.take j)) (cF (ss.take j))++cs.drop (3*(cF (ss.take j)).length)).length=cs.length:=by
       rw[zP,y,jX];omega
      refine M.s1 O λv7 o7 b7=>b7.s1 aE λv8 o8 b8=>b8.s1 aE λv9 o9 b9=>?_;rw[jY,Ae y.symm (by rw[jX];omega),List.drop_drop]at b9;have ev9:Ext (λb=>b=rb\/n3<=b) σ1 v9:=((ac.trans (o7.ext.sub λb g=>.inl g)).trans (o8.ext.sub λb g=>.inl g)).trans (o9.ext.sub λb g=>.inl g);have af:Ext (· = rb) v6 v9:=(o7.ext.trans o8.ext).trans o9.ext;refine cP (m:=(cF (ss.take j)).length+1) O O (cP (m:=j+1) O O ⟨⟨j+1,rfl,O,O,?_,?_,ev9,⟨o6,af.bT ab O,aI.bR B af λb _ g he=>O⟩,?_⟩,O⟩)
      ·rw[st];simp
      ·rw[st];simp;omega
      ·rw[st,kt,KR (Hu (by simp[r]))];simp only[zP,zY,lH,dP];rw[show 3*((cF (ss.take j)).length+(0+1))=3*(cF (ss.take j)).length+3 by omega];exact b9
    ·have hjj:j=ss.length:=by omega
     subst hjj;rw[m7]at *;have Q:ps.take ss.length=ps:=by rw[←r,m7]
     rw[Q]at z y;have L:=Jj ss;refine iU O O O ?_;have hK3:3*(cF ss).length<=cs.length:=by omega
     have hlt3:(cF ss).length<ss.length:=hKj;rw[zB O];simp only[E.a,zX,add_lit,zH];refine⟨by simp[dQ],?_⟩;simp only;have hz:(List.replicate (sl.len-(cF ss).length) [Value.int .i64 0,.int .i64 0,.pointer none]).flatten.length=3*(sl.len-(cF ss).length):=by
      rw[wh,uh,vR];simp;omega
     refine VF (o:=(cF ss).length*3) (i:=0) z (by rw[hz,zP,y,jX];omega) λv10 gQ b10=>?_;refine iU (lo:=0) O O O ?_;have ag:Ext (λb=>b=rb\/n3<=b) σ1 v10:=ev.trans (gQ.ext.sub λb g=>.inl g);refine hR v10 _ (ag.sub λb g=>?_) ⟨o3,Ws gQ D (by have:=E.bT.lt;omega),aI.bR J gQ.ext λb _ g he=>by have:=E.bT.lt;omega⟩ (.inr ?_)
     ·rcases g with rfl|h
      ·exact .inl E.fr
      ·exact .inr h
     ·refine⟨by rw[QP (Hu r)];simp;omega,.inr ⟨rb,_,E.fr,?_,b10,?_,?_,?_⟩⟩
      ·simp only[E.a];split<;>simp[add_lit]
      ·simp only;omega
      ·simp only[zP,zZ,jX,hz,y];omega
      ·rw[QP (Hu r),jY,show(cF ss).length*3=3*(cF ss).length by omega];rw[zz,nX (by rw[zZ,zP,y];omega),xG,Nat.min_self];rw[nX O,mN O]
  ·have x:¬s.many=0:=by simpa using hm
   rw[zB x,kX]at A;refine cP (m:=i+1) O O ⟨⟨i+1,rfl,O,e.trans e2,⟨o2,Y,A⟩,?_,?_,?_⟩,O⟩
   ·rw[Ho K,q1,zB x];rfl
   ·rw[HA K,q2,zB x,lI,K];rfl
   ·rw[Aw r hp K,q3,zB x,lI,hp];rfl
 ·have hii:i=ss.length:=by omega
  subst hii;rw[m7]at *;have Q:ps.take ss.length=ps:=by rw[←r,m7]
  rw[Q]at q3;have C:((-1:Int)==(-1))=true:=rfl;refine cD C (hR h' sl (e.sub λb g=>.inr g) ?_ (.inl ⟨rfl,q1,q2,q3,e⟩));rw[q1];exact⟨o,N,ae⟩
theorem fD.my (h:fD U F p c ps ss):∃sl:Sl,bY U p [.int .i64 (c.size:Int),.int .i64 (c.aF:Int),.int .i64 (c.batch:Int),.slice sl.a sl.len sl.cap]/\sl.len=ss.length/\bS sl 3 (dP ps ss) U (λb=>F b/\b≠p/\b∉dW ps) ∧
 ∃rb cs,(ss≠[]->rz U F p ps ss sl rb cs/\sl.len<=sl.cap/\cs.length=sl.cap*3):=by
 obtain⟨sl,m,e⟩:=h.hd;have i:=e.1;rw[QP h.len]at i;refine⟨sl,m,O,e,?_⟩;rcases e.2 with⟨h0,_⟩|⟨b,cs,hq,ha,hbb,hle,hcl,ht⟩
 ·exact⟨0,[],λg=>by have:=pf.2 g;omega⟩
 ·refine⟨b,cs,λ_=>⟨⟨ha,hbb,hq,λ{j v} d=>?_,?_⟩,hle,hcl⟩⟩
  ·rw[←ht,zj]at d;split at d
   ·exact d
   ·cases d
  ·have:=congrArg List.length ht;rw[zZ,QP h.len]at this;omega
theorem PB (h:fD U F p c ps ss){R:Sl->Hp->Prop}
 (hR:∀o σ',Ext F U σ'->bS o 2 (iE c (Qc ss)) σ' (λb=>U.size<=b)->fD σ' (Cut F U) p c (iW ps ss) (cF ss)->R o σ'):XK.c (aW p) U R:=by
 refine XK.o ?_;unfold XK.v;have h:=fD.loc.cut h;obtain⟨sl,a,B,u,V,cs,L⟩:=h.my;refine VK h (cB rfl (nw (cs:=[.slice none 0 0]) λS N e1 E=>aG ((e1.bT a id).rS rfl ?_)));refine Ji h e1 B (zD _) L ⟨⟨none,0,0⟩,E,bS.nil _ _ _ _⟩ λW my e2 ⟨o,w,D⟩ r=>aG ?_;have K:=a.lt;have e:=h.nd;have d:=PU (AT (ps:=ps) (ss:=ss));simp only[zr]at e;refine(e2.bT (e1.bT a id) λC=>by rcases C with h|h;exact h.2.1 rfl;omega).s1 aA λv3 o3 G=>?_;have y:=Ws o3 w (by have:=w.lt;omega);refine y.tx rfl (hR o v3 ?_ (aI.bR (aI.mono D λb _ a=>O) o3.ext λb _ a g=>O) ?_)
 ·refine(e1.to.dV e2 λb a=>?_).dV o3.ext λb a=>?_
  ·rcases a with h|h
   ·exact .inl h.1.1
   ·exact .inr h
  ·subst a;exact .inl h.fp.1
 ·have z:∀b,b∈dW ps->b<U.size->¬(Cut F U b/\b≠p/\b∉dW ps\/U.size<=b):=λb a M C=>by
   rcases C with h|h
   ·exact h.2.2 a
   ·omega
  refine⟨⟨my,G,?_⟩,λi x s Q P=>?_,h.fp,λb a=>h.fb b (d.subset a),?_,Hu h.len,h.ok,h.qD.sublist sX⟩
  ·rcases r with⟨rfl,_,q2,q3,ex⟩|hr
   ·rw[q2,q3];exact aI.bR (aI.bR (aI.bO u e1) ex λb _ a g=>by have:=a.1.2;omega) o3.ext λb _ a g=>a.2.1 g
   ·exact aI.bR (aI.mono hr λb _ a=>⟨a.1,a.2.1,λm=>a.2.2 (d.subset m)⟩) o3.ext λb _ a g=>a.2.1 g
  ·obtain⟨j,A,H⟩:=FH h.len Q P;have J:=h.sp j x s A H;have m:=Qe A;have B:=J.lt;exact((J.bO e1).bR e2 (z _ m.1 B.1) (z _ m.2 B.2)).bR o3.ext (λg=>e.1 (g▸m.1)) (λg=>e.1 (g▸m.2))
  ·simp only[zr];exact⟨λm=>e.1 (d.subset m),e.2.sublist d⟩
theorem Og {x:Int}{k i:Nat}{s:cG}(hc:0<c.size)(hk:kB c ss x=some k)(hs:ss[k]?=some s)(v:Bool)(y:Int):kB c (ss.set k (s.put i v)) y=kB c ss y:=by
 have a:∀t:cG,∀j w z,idx c (t.put j w) z=idx c t z:=λt j w z=>by unfold idx cG.put;simp only[nK]
 unfold kB;have b:=(cW.1 hs).1;have:(ss.set k (s.put i v)).map (λs=>(idx c s y).isSome)=ss.map (λs=>(idx c s y).isSome):=by
  apply zo;intro j;simp only[zg];by_cases hjk:j=k
  ·subst hjk;rw[zL b,hs];simp[a]
  ·rw[zk (Ne.symm hjk)]
 have d:∀l:List cG,l.findIdx? (λs=>(idx c s y).isSome)=(l.map λs=>(idx c s y).isSome).findIdx? id:=λl=>by rw[List.findIdx?_map];rfl
 rw[d,d,this]
def j8 (c:bZ)(ss:List cG)(xs:List Int):Prop:=(∀x∈xs,dY c ss x=some true)/\xs.Nodup
theorem H9 {x:Int}{b:Bool}(h:dY c ss x=some b):∃k s i,kB c ss x=some k/\ss[k]?=some s/\obj c s x=some i/\s.is i=b:=by
 unfold dY at h;split at h
 ·rename_i k hk;split at h
  ·rename_i s hs;cases ho:obj c s x with
   | none=>rw[ho]at h;cases h
   | some i=>rw[ho]at h;exact⟨k,s,i,hk,hs,ho,by simpa[cG.is]using h⟩
  ·cases h
 ·cases h
theorem yh {x:Int}{k i:Nat}{s:cG}(hk:kB c ss x=some k)(hs:ss[k]?=some s)(ho:obj c s x=some i):fF c ss x=ss.set k (s.put i false):=by
 simp[fF,hk,hs,ho]
theorem J6 {x y:Int}(hc:0<c.size)(hx:dY c ss x=some true)(hne:y≠x):dY c (fF c ss x) y=dY c ss y:=by
 obtain⟨k,s,i,A,d,u,_⟩:=H9 hx;rw[yh A d u];have r:=(cW.1 d).1;have a:=Og hc A d false (i:=i) y;have g:∀t:cG,∀j w z,obj c (t.put j w) z=obj c t z:=λt j w z=>by unfold obj idx at_ cG.put;simp only[nK]
 cases hy:kB c ss y with
 | none=>rw[GV (a.trans hy),GV hy]
 | some m=>
  by_cases hmk:m=k
  ·subst hmk;rw[Vs (a.trans hy) (zL r),Vs hy d,g];cases hoy:obj c s y with
   | none=>rfl
   | some j=>
    simp only[zX,Option.some.injEq];have p:i≠j:=λe=>by
     subst e;exact hne (((Ue hc).1 hoy).1.trans ((Ue hc).1 u).1.symm)
    simp[cG.is,cG.put,zO,zk p]
  ·have b:m<ss.length:=(m5.1 hy).1;rw[Vs (a.trans hy) ((zk (Ne.symm hmk)).trans (cV b)),Vs hy (cV b)]
theorem j8.next {x:Int}{xs:List Int}(hc:0<c.size)(h:j8 c ss (x::xs)):j8 c (fF c ss x) xs:=by
 have b:=zr.1 h.2;refine⟨λy a=>?_,b.2⟩;rw[J6 hc (h.1 x aA) λe=>b.1 (e▸a)];exact h.1 y (by simp[a])
theorem CS {xs:List Int}(h:iA c ss xs=0):j8 c ss xs:=by
 unfold iA at h;split at h
 ·cases h
 ·rename_i h1;split at h
  ·cases h
  ·rename_i h2;simp only[nm,not_or,pN,mh,Bool.not_eq_false',zU,zS]at h1 h2;refine⟨λx d=>?_,h2.2⟩;have a:=h1 x d;have b:=h2.1 x d;cases ht:dY c ss x with
   | none=>rw[ht]at a;simp at a
   | some v=>
    cases v
    ·rw[ht]at b;exact absurd rfl b
    ·rfl
theorem LL {sl:Sl}{xs:List Int}{X:Rg}(h:fD U F p c ps ss)(hs:cX sl 1 (xs.map (Value.int .i64)) U X)(hX:∀b,X b->¬F b)(hi:∀x∈xs,iC x)(hA:j8 c ss xs)(hl:xs.length<=1000000){K:aP}
 (hK:∀σ',Ext F U σ'->fD σ' F p c ps (xs.foldl (fF c) ss)->K σ') :
 Yp [bN] (λI1=>I1 0 U) λJ3 (t49:Int) v6=>If (decide (t49<((sl.len:Nat):Int))) (Ix sl.a sl.len t49 1 λa51=>gA .i64 a51 v6 λaddr1=>
  XF.c (aW p) addr1 v6 λvx v7=>bU vx λa57=>fU (a57.add 2) v7 λt59=>Zo.c t59 addr1 v7 λt61 v8=>bU vx λa63=>gA .i64 ((a63.add 0).add 0) v8 λt66=>
  Ar .i64 (t66-1) λt67=>bU vx λa68=>dX ((a68.add 0).add 0) (.int .i64 t67) v8 λv9=>Ar .i64 (t49+1) λt71=>J3 t71 v9) (K v6):=by
 have hlen:sl.len=xs.length:=by have:=hs.1;simp at this;omega
 have H:0<c.size:=by have:=h.ok.1;omega
 refine ZS (a:=bN) (λ(t:Int) L=>∃(i:Nat) (r:List cG),t=(i:Int)/\i<=xs.length/\Ext F U L/\fD L F p c ps r/\j8 c r (xs.drop i)/\(xs.drop i).foldl (fF c) r=xs.foldl (fF c) ss) (λt _=>xs.length-t.toNat) ⟨0,ss,rfl,O,Ext.refl _ _,h,by simpa using hA,by simp⟩ ?_;rintro t L ⟨i,r,rfl,hil,e,M,y,G⟩;refine cQ (λhlt=>?_) λhge=>?_
 ·have w:i<xs.length:=by omega
  have hx:xs[i]?=some xs[i]:=cV w;have hd:xs.drop i=xs[i]::xs.drop (i+1):=vG w;rw[hd]at y G;refine(aH.bR hs e λb _ V hF=>hX b V hF).nr hx ?_;obtain⟨k,s,j,N,d,J,D⟩:=H9 (y.1 xs[i] pG);have B:=hi xs[i] (kg w);refine Ak M xs[i] B (λhn=>by rw[N]at hn;cases hn) λk' my rb cs A Q V E=>aG ?_;rw[N]at A;cases A;obtain⟨Y,s',P,C,W⟩:=M.jv Q;rw[d]at C;cases C;have eg:=QE P d;have hj:=((Ue H).1 J).2;refine E.bT.rP (x:=some ⟨Y.1,0,none⟩) (E.get eg.2.2) ?_;refine F3 W B J D λv8 e8 R=>aG ?_;have z:=Qe P;have S:¬(rb=Y.1\/rb=Y.2):=λhh=>E.fr.2.2 (by rcases hh with h|h<;>rw[h];exact z.1;exact z.2)
  have hml:=AU s;have g:=H5 hj false;rw[D]at g;have hsl:=W.len;have hnl:=W.ok.kx;have u:((s.put j false).many:Int)=s.many-1:=by simp at g;omega
  refine(e8.bT E.bT S).eZ (E.get eg.1) (ar O O (aG ?_));simp only[add_lit,jY];rw[←u];refine M.oK (s':=s.put j false) P d rfl e8 R V E λv9 e9 Z=>?_;refine cP (m:=i+1) O O ⟨⟨i+1,_,rfl,O,e.trans e9,Z,?_,?_⟩,O⟩
  ·have:=j8.next H y
   rwa [yh N d J]at this
  ·rw[qs,yh N d J]at G;exact G
 ·have:i=xs.length:=by omega
  subst this;rw[List.drop_length,List.foldl_nil]at G;subst G;exact hK L e M
theorem RG (h:fD U F p c ps ss){sl:Sl}{xs:List Int}{X:Rg}(hs:cX sl 1 (xs.map (Value.int .i64)) U X)(hX:∀b,X b->¬F b)(hi:∀x∈xs,iC x)(hl:xs.length<=1000000)(hcap:sl.len<=sl.cap){R:Sl->Int->Hp->Prop}
 (h0:iA c ss xs≠0->R ⟨none,0,0⟩ (iA c ss xs) U)
 (h1:iA c ss xs=0->∀o σ',Ext F U σ'->bS o 2 (iE c (Qc (xs.foldl (fF c) ss))) σ' (λb=>U.size<=b)->fD σ' (Cut F U) p c (iW ps (xs.foldl (fF c) ss)) (cF (xs.foldl (fF c) ss))->R o 0 σ') :
 YG.c (aW p) sl U R:=by
 refine YG.o ?_;unfold YG.v;have hlen:sl.len=xs.length:=by have:=hs.1;simp at this;omega
 refine VK h (cB rfl ?_);have P:∀i,(xs.take i).any (λx=>dY c ss x==some false)=true\/¬(xs.take i).Nodup->(∀x∈xs,(dY c ss x).isSome=true)->iA c ss xs=9:=by
  intro i d hall;unfold iA;rw[zB,zC]
  ·rcases d with d|d
   ·rw[j9]at d;obtain⟨x,u,Y⟩:=d;have:xs.any (λx=>dY c ss x==some false)=true:=j9.2 ⟨x,vS u,Y⟩;rw[this];rfl
   ·have:¬xs.Nodup:=λE=>d (E.sublist (AE _ _));simp[this]
  ·simp only[pN,mh];intro x u;have:=hall x u;cases ht:dY c ss x
   ·rw[ht]at this;cases this
   ·simp
 refine UO (a:=.b) (bb:=bN) (λ(P:Bool) (t:Int) B=>∃i:Nat,t=(i:Int)/\i<=xs.length/\B=U/\(∀x∈xs.take i,(dY c ss x).isSome=true)/\(P=true↔(xs.take i).any (λx=>dY c ss x==some false)=true\/¬(xs.take i).Nodup)) (λ_ t _=>xs.length-t.toNat)
  ⟨0,rfl,O,rfl,by simp,by simp⟩ ?_
 rintro w t B ⟨i,rfl,hil,rfl,g,D⟩;refine cQ (λhlt=>?_) λhge=>?_
 ·have C:i<xs.length:=by omega
  have u:xs[i]?=some xs[i]:=cV C;have ac:=hi xs[i] (kg C);have G:xs.take (i+1)=xs.take i++[xs[i]]:=by rw[lI,u];rfl
  refine hs.nr u (G4 h xs[i] ac (λb d=>cB rfl ?_) λE=>cD rfl ?_)
  ·have A:∀x∈xs.take (i+1),(dY c ss x).isSome=true:=by
    rw[G];intro x u;rcases zK.1 u with h1|h1
    ·exact g x h1
    ·simp at h1;subst h1;rw[d];rfl
   have fin:∀J:Bool,(J=true↔(xs.take (i+1)).any (λx=>dY c ss x==some false)=true\/¬(xs.take (i+1)).Nodup)->Ar .i64 ((i:Int)+1) λs=>
    (∃j:Nat,s=(j:Int)/\j<=xs.length/\B=B/\(∀x∈xs.take j,(dY c ss x).isSome=true)/\(J=true↔(xs.take j).any (λx=>dY c ss x==some false)=true\/¬(xs.take j).Nodup))/\xs.length-s.toNat<xs.length-(i:Int).toNat:=
    λJ Q=>cP (m:=i+1) O O ⟨⟨i+1,rfl,O,rfl,A,Q⟩,O⟩
   have ad:∀y:Int,(xs.take i++[y]).Nodup↔(xs.take i).Nodup/\y∉xs.take i:=λy=>by
    rw[nt];constructor
    ·exact λh=>⟨h.1,λM=>h.2.2 y M y aA rfl⟩
    ·exact λh=>⟨h.1,by simp,λa ha z hz e=>by simp at hz;subst hz;exact h.2 (e▸ha)⟩
   have ex:(xs.take (i+1)).any (λx=>dY c ss x==some false)=true\/¬(xs.take (i+1)).Nodup↔(w=true\/b=false)\/xs[i]∈xs.take i:=by
    rw[G,ad,List.any_append,D];simp only[List.any_cons,List.any_nil,Bool.or_false,nm,d];have ae:((some b==some false)=true)↔b=false:=by cases b<;>simp
    rw[ae];constructor
    ·rintro((h|h)|h)
     ·exact .inl (.inl (.inl h))
     ·exact .inl (.inr h)
     ·by_cases E:(xs.take i).Nodup
      ·by_cases M:xs[i]∈xs.take i
       ·exact .inr M
       ·exact absurd ⟨E,M⟩ h
      ·exact .inl (.inl (.inr E))
    ·rintro(((h|h)|h)|h)
     ·exact .inl (.inl h)
     ·exact .inr λH=>h H.1
     ·exact .inl (.inr h)
     ·exact .inr λH=>H.2 h
   have J1:∀r:Bool,(r=true↔w=true\/b=false)->bV (λJ v4=>Ar .i64 ((i:Int)+1) λs=>
    (∃j:Nat,s=(j:Int)/\j<=xs.length/\v4=B/\(∀x∈xs.take j,(dY c ss x).isSome=true)/\(J=true↔(xs.take j).any (λx=>dY c ss x==some false)=true\/¬(xs.take j).Nodup))/\xs.length-s.toNat<xs.length-(i:Int).toNat) λJ2=>
    If r (J2 true B) (eY sl 1 0 (i:Int) (sl.cap:Nat) λZ=>Wp.c Z xs[i] B λS v5=>J2 S v5):=by
    intro r hr;refine bV.intro ?_;cases r
    ·refine cB rfl ?_;refine iU (lo:=0) O O O ?_;have K:cX ⟨if sl.cap=0 then sl.a else sl.a.map (·.add (0*1)),i-0,sl.cap-0⟩ 1 ((xs.take i).map (Value.int .i64)) B X:=by
      refine⟨by simp;omega,?_⟩;rcases hs.2 with h0|⟨b',o',cs',hf',ha',hb',hc'⟩
      ·left;have:xs=[]:=by simpa using h0
       simp[this]
      ·refine .inr ⟨b',o',cs',hf',?_,hb',λj hj=>?_⟩
       ·rw[zB O,ha'];simp[add_lit]
       ·simp only[zl,zZ]at hj;rw[hc' j aE,List.map_take,zj,zC O]
     refine LS K aE _ (fin _ ?_);rw[ex,←hr];simp
    ·refine cD rfl (fin true ?_);rw[ex,←hr];simp
   refine bV.intro ?_;cases w
   ·refine cB rfl (J1 _ ?_);cases b<;>simp
   ·exact cD rfl (J1 _ aA)
  ·have:iA c ss xs=8:=by
    unfold iA;rw[zC];exact j9.2 ⟨xs[i],kg C,by rw[E];rfl⟩
   have h0:=h0 (by rw[this];decide);rw[this]at h0;exact h0
 ·have:i=xs.length:=by omega
  subst this;rw[m7]at *;cases w
  ·refine cB rfl ?_;have hE:iA c ss xs=0:=by
    unfold iA;have N:¬(xs.any (λx=>dY c ss x==some false)=true\/¬xs.Nodup):=λH=>by have:=D.2 H;cases this
    rw[zB,zB]
    ·simp only[not_or,pN,Decidable.not_not]at N;rw[N.1];simp[N.2]
    ·simp only[pN,mh];intro x u;have:=g x u;cases ht:dY c ss x
     ·rw[ht]at this;cases this
     ·simp
   refine LL (fD.loc.cut h) hs (λb d hf=>hX b d hf.1) hi (CS hE) hl λv6 e6 aa=>?_;refine PB aa λo V ab W L=>?_;exact h1 hE o V ((e6.trans ab).sub λb d=>d.1) (aI.mono W λb _ d=>ze e6.1 d) (fD.loc.mono L λb _ d=>d.1)
  ·refine cD rfl ?_;have h9:=P xs.length (by rw[m7];exact D.1 rfl) g;have h0:=h0 (by rw[h9];decide);rw[h9]at h0;exact h0
theorem Om {x y:Sl}{a o b o':Nat}{cs ds:List Value}(hx:x.a=some ⟨a,o,none⟩)(hy:y.a=some ⟨b,o',none⟩)(ha:bY U a cs)(hb:bY U b ds)(hne:a≠b)(hd:ds≠[]){K:aO}(hK:K false U) :
 sM Tryz.prog 288 [.slice x.a x.len x.cap,.slice y.a y.len y.cap] U K:=by
 rintro w rfl;obtain⟨d,ha⟩:=ha;obtain⟨g,hb⟩:=hb;refine⟨false,w,?_,.refl _,hK⟩;rw[hx,hy,run_callFunc_extern Tryz.func288 (by kernel_rfl) (by kernel_rfl) (by kernel_rfl) (e:=Extern.SlicesOverlaps.overlaps #[255,255] #[4]) (by kernel_rfl)];have:=Lib.run_overlaps_apart (P:=Tryz.prog) w 255 4 262 Tryz.underlying255 3 Tryz.sizeOf262
  ⟨a,o,none⟩ ⟨b,o',none⟩ x.len x.cap y.len y.cap hne d g cs.length ds.length (by simp[World.shape?,ha]) (by simp[World.shape?,hb]) (by simpa using hd) (by simp[World.frozen?,ha]) (by simp[World.frozen?,ha])
 rw[this];rfl
theorem Oy {Q:Rg}{s:Sl}{xs:List Value}{i m vb:Nat}{x y z:Value}(h:bS s 3 xs U Q)(hlen:s.len=m)(hm:m<=2000)(hi:i<=m)(hv:bY U vb [x,y,z])(hvb:¬Q vb)(h1:∀v∈xs,dQ v=true)(h2:dQ x=true/\dQ y=true/\dQ z=true)
 {R:Sl->Hp->Prop} (hR:∀s' σ',Ext Q U σ'->bS s' 3 (xs.take (3*i)++[x,y,z]++xs.drop (3*i)) σ' (Grow Q U)->R s' σ') :
 Wf.c s (i:Int) ⟨some ⟨vb,0,none⟩,1,1⟩ U R:=by
 refine Wf.o ?_;unfold Wf.v;have hxl:=h.1;have hcap:s.len<=s.cap:=by
  rcases h.2 with⟨h0,h0'⟩|⟨b,cs,_,_,_,M,_⟩
  ·omega
  ·exact M
 have hrd:Rd U (some ⟨vb,0,none⟩) [x,y,z]:=by
  intro j u hu;rw[add_lit,zH,hv.cell];exact hu
 have ho:∀v∈[x,y,z],dQ v=true:=by simp[h2]
 refine iU O O O (cB rfl (cO (λX=>?_) λX=>?_))
 ·have aa:i=m:=by
   have:(i:Int)=((s.len:Nat):Int):=by simpa using X
   omega
  refine h.app (ys:=[x,y,z]) rfl rfl hrd ho aD aD mG λs' h' hl' e' ad=>hR s' h' e' ?_
  rw[mN O,List.drop_of_length_le O,kX];exact ad
 ·have aa:i<m:=by
   have:¬(i:Int)=((s.len:Nat):Int):=by simpa using X
   omega
  obtain⟨b,cs,S,ha,G,M,N,ht⟩:∃b cs,Q b/\s.a=some ⟨b,0,none⟩/\bY U b cs/\s.len<=s.cap/\cs.length=s.cap*3/\cs.take xs.length=xs:=by
   rcases h.2 with⟨h0,_⟩|h
   ·omega
   ·exact h
  have H:vb≠b:=λe=>hvb (e▸S);have w:∀j v,xs[j]?=some v->cs[j]?=some v:=λj v p=>by
   rw[←ht,zj]at p;split at p
   ·exact p
   ·cases p
  refine cP (m:=m+1) aD O (cQ (λhgt=>?_) λhle2=>?_)
  ·-- no room: a new row
   refine iU (lo:=0) O O O (cP (m:=m+1) aD O (cP (m:=m+1-i) O O ?_))
   have C:¬s.cap=0:=by omega
   rw[zB C];simp only[ha,zX,add_lit,uc,jY,Nat.sub_zero];refine⟨O,xs.take (3*i),by rw[zZ];simp only;omega,?_,by simp[dQ],by simp only;omega,by simp only;omega,O,λZ=>by simp only at Z;omega,λ_ cc J=>?_⟩
   ·intro j v p;rw[add_lit,zH,G.cell];rw[zj]at p;split at p
    ·exact w j v p
    ·cases p
   simp only[dE]at J ⊢;have ab:i+(m+1-i)=m+1:=by omega
   rw[ab]at J ⊢;refine nw λv2 hz2 e2 W=>?_;have B:∀k,(List.replicate k [Value.int .i64 0,.int .i64 0,.pointer none]).flatten.length=3*k:=λk=>by
    rw[wh,uh,vR];simp;omega
   have g:(xs.take (3*i)).length=3*i:=by rw[zZ];omega
   refine iU aD aD aD ?_
   have Y:=e2.bT hv id;have n1:(if cc=i then(some ⟨U.size,0,none⟩:Option Addr)else(some ⟨U.size,0,none⟩:Option Addr).map (·.add (i*3)))=some ⟨U.size,i*3,none⟩:=by
    have:¬cc=i:=by omega
    rw[zB this];simp[add_lit]
   rw[n1];refine⟨[x,y,z],by simp only;rw[pB O];rfl,?_,ho,?_⟩
   ·intro j u hu;rw[add_lit,zH,Y.cell];exact hu
   simp only;refine VF (o:=i*3) (i:=0) W (by simp only[zP,g,B,zY,lH];omega) λv3 o3 V=>?_;refine cP (m:=i+1) aD O (iU aD aD aD (iU O O O ?_))
   have P:bY v3 b cs:=Ws o3 (e2.bT G id) (by have:=G.lt;omega);have d:(xs.drop (3*i)).length=3*(m-i):=by rw[jX];omega
   refine⟨xs.drop (3*i),by simp only;rw[pB O,d];omega,?_,λv hv=>h1 v (sd hv),?_⟩
   ·have r:¬s.cap=i:=by omega
    rw[zB r];simp only[ha,zX,add_lit];intro j v p;rw[add_lit,P.cell];rw[kL]at p;have:=w _ _ p;rw[show 0+i*3+j=3*i+j by omega];exact this
   have hbig:(xs.take (3*i)++(List.replicate (m+1-i) [Value.int .i64 0,.int .i64 0,.pointer none]).flatten++(List.replicate (cc-(m+1)) [Value.int .i64 0,.int .i64 0,.pointer none]).flatten).length=3*cc:=by
    simp only[zP,g,B];omega
   have tk:∀L:List Value,((xs.take (3*i)++(List.replicate (m+1-i) [Value.int .i64 0,.int .i64 0,.pointer none]).flatten++(List.replicate (cc-(m+1)) [Value.int .i64 0,.int .i64 0,.pointer none]).flatten).take (3*i))=xs.take (3*i):=λ_=>by
    rw[zz,nX O,mN O]
   have fin:∀v4,Qk v3 v4 U.size->bY v4 U.size ((xs.take (3*i)++[x,y,z])++xs.drop (3*i)++((xs.take (3*i)++(List.replicate (m+1-i) [Value.int .i64 0,.int .i64 0,.pointer none]).flatten++(List.replicate (cc-(m+1)) [Value.int .i64 0,.int .i64 0,.pointer none]).flatten).drop (3*i+3)).drop (3*(m-i)))->R ⟨some ⟨U.size,0,none⟩,m+1,cc⟩ v4:=by
    intro v4 o4 A;refine hR _ v4 ?_ ⟨?_,.inr ⟨U.size,_,.inr (zD _),rfl,A,by simp only;omega,?_,?_⟩⟩
    ·exact((e2.to.dV o3.ext λi hi=>by subst hi;exact .inr (zD _)).dV o4.ext λi hi=>by subst hi;exact .inr (zD _))
    ·simp only[zP,g,d,zY,lH];omega
    ·simp only[zP,g,d,zY,lH,jX,B];omega
    ·rw[zz (xs.take (3*i)++[x,y,z]),←zz,xY];rfl
   have e3:(xs.take (3*i)++(List.replicate (m+1-i) [Value.int .i64 0,.int .i64 0,.pointer none]).flatten++(List.replicate (cc-(m+1)) [Value.int .i64 0,.int .i64 0,.pointer none]).flatten).take (i*3+0)=xs.take (3*i):=by
    rw[show i*3+0=3*i by omega];exact tk []
   rw[e3]at V;have D:(xs.take (3*i)++[x,y,z]++(xs.take (3*i)++(List.replicate (m+1-i) [Value.int .i64 0,.int .i64 0,.pointer none]).flatten++(List.replicate (cc-(m+1)) [Value.int .i64 0,.int .i64 0,.pointer none]).flatten).drop (i*3+0 + [x,y,z].length)).length=3*cc:=by
    simp only[zP,jX,g,B,zY,lH];omega
   by_cases r:cc=i+1
   ·exfalso;omega
   ·rw[zB r];simp only[zX,add_lit,zH];refine VF (o:=(i+1)*3) (i:=0) V (by rw[D,d];omega) λv4 o4 A=>fin v4 o4 ?_;have q1:(i+1)*3+0=(xs.take (3*i)++[x,y,z]).length:=by rw[zP,g];simp;omega
    have q2:(i+1)*3+0+(xs.drop (3*i)).length=(xs.take (3*i)++[x,y,z]).length+3*(m-i):=by rw[d,q1]
    rw[q2,q1,xY,List.drop_append]at A
    ·rw[List.drop_of_length_le (show(xs.take (3*i)++[x,y,z]).length<=(xs.take (3*i)++[x,y,z]).length+3*(m-i) by omega),sA]at A;have q3:i*3+0 + [x,y,z].length=3*i+3:=by simp;omega
     rw[q3]at A;have q4:(xs.take (3*i)++[x,y,z]).length+3*(m-i)-(xs.take (3*i)++[x,y,z]).length=3*(m-i):=by omega
     rw[q4]at A;exact A
    ·rfl
  ·-- room: the rest moves
   have hle3:m+1<=s.cap:=by omega
   have C:¬s.cap=0:=by omega
   have r:¬s.cap=i:=by omega
   refine cP (m:=m+1) aD O (iU (lo:=0) O O O ?_)
   rw[zB C];simp only[ha,zX,add_lit,uc,jY,Nat.sub_zero];refine cP (m:=i+1) aD O (iU aD aD aD ?_)
   have E:cs.take (3*m)=xs:=by rw[←hlen,show 3*s.len=xs.length by omega];exact ht
   have na:∃o',(if s.cap=i+1 then(some ⟨b,0,none⟩:Option Addr)else(some ⟨b,0,none⟩:Option Addr).map (·.add ((i+1)*3)))=some ⟨b,o',none⟩:=by
    split
    ·exact⟨0,rfl⟩
    ·exact⟨_,by simp[add_lit];rfl⟩
   obtain⟨o',na⟩:=na;refine Om (x:=⟨some ⟨vb,0,none⟩,1,1⟩) (a:=vb) (o:=0) (b:=b) rfl na hv G H (λe=>by rw[e]at N;simp at N;omega) (cD rfl ?_);refine cP (m:=i+1) aD O (iU aD aD aD (iU aD aD aD ?_))
   have K:¬s.cap=i+1:=by omega
   rw[zB K,zB r];simp only[zX,add_lit,zH];have d:(xs.drop (3*i)).length=3*(m-i):=by rw[jX];omega
   refine⟨xs.drop (3*i),by simp only;rw[Nat.min_eq_right O,d];omega,?_,λv hv=>h1 v (sd hv),?_⟩
   ·intro j v p;rw[add_lit,G.cell];rw[kL]at p;have:=w _ _ p;rw[show i*3+j=3*i+j by omega];exact this
   refine VF (o:=(i+1)*3) (i:=0) G (by rw[d];omega) λv3 o3 V=>?_;refine iU aD aD aD ?_
   rw[zB r];simp only[zX,add_lit,zH];have ac:=Ws o3 hv H;refine⟨[x,y,z],by simp only;rw[pB O];rfl,?_,ho,?_⟩
   ·intro j u hu;rw[add_lit,zH,ac.cell];exact hu
   have hl3:(cs.take ((i+1)*3+0)++xs.drop (3*i)++cs.drop ((i+1)*3+0+(xs.drop (3*i)).length)).length=cs.length:=by
    simp only[zP,zZ,jX,d];omega
   refine VF (o:=i*3) (i:=0) V (by rw[hl3];simp;omega) λv4 o4 A=>?_;have a1:(cs.take ((i+1)*3+0)).length=3*i+3:=by rw[zZ];omega
   have g:(xs.take (3*i)).length=3*i:=by rw[zZ];omega
   have p1:(cs.take ((i+1)*3+0)++xs.drop (3*i)++cs.drop ((i+1)*3+0+(xs.drop (3*i)).length)).take (i*3+0)=xs.take (3*i):=by
    rw[zz,nX O,xG,pB O,←E,xG,pB O]
    congr 1;omega
   have p2:(cs.take ((i+1)*3+0)++xs.drop (3*i)++cs.drop ((i+1)*3+0+(xs.drop (3*i)).length)).drop (i*3+0 + [x,y,z].length)=xs.drop (3*i)++cs.drop ((i+1)*3+0+(xs.drop (3*i)).length):=by
    rw[zz,List.drop_left'];rw[a1];simp;omega
   rw[p1,p2,←zz]at A;refine hR _ v4 ((Ext.eM (F:=Q) o3 S).trans (Ext.eM o4 S)) ⟨?_,.inr ⟨b,_,.inl S,rfl,A,aD,?_,?_⟩⟩
   ·simp only[zP,g,zY,lH,d];omega
   ·simp only[zP,g,jX,zY,lH,d];omega
   ·rw[xY];rfl
def Zd (ss:List cG)(st:Nat):Nat:=(ss.takeWhile (λs=>s.st<st)).length
theorem Hk (l:List cG)(P:cG->Bool):l.takeWhile P=l.take (l.takeWhile P).length/\l.dropWhile P=l.drop (l.takeWhile P).length:=by
 induction l with
 | nil=>simp
 | cons x l ih=>
  simp only[List.takeWhile_cons,List.dropWhile_cons];cases P x
  ·simp
  ·simp only[zR,zY,ug,xH];exact⟨by rw[←ih.1],ih.2⟩
theorem GL (c:bZ)(ss:List cG)(st:Nat):ie c ss st=ss.take (Zd ss st)++⟨st,List.replicate c.n false⟩::ss.drop (Zd ss st):=by
 have:=Hk ss (λs=>decide (s.st<st));unfold ie Zd;rw[this.2,←this.1]
theorem Hz (hs:ss.Pairwise (λa b=>a.st<b.st))(st:Nat):Zd ss st<=ss.length/\∀(i:Nat) s,ss[i]?=some s->(s.st<st↔i<Zd ss st):=by
 unfold Zd
 induction ss with
 | nil=>simp
 | cons x ss ih=>
  have e:=rD.1 hs;obtain⟨j,g⟩:=ih e.2;simp only[List.takeWhile_cons];by_cases hx:x.st<st
  ·simp only[hx,decide_true,zR,zY];refine⟨O,λi s d=>?_⟩;cases i with
   | zero=>simp at d;subst d;simp[hx]
   | succ i=>have:=g i s (by simpa using d);omega
  ·simp only[hx,decide_false,zd,zy,lH,Nat.zero_le,Nat.not_lt_zero,iff_false,sf];intro i s d;cases i with
   | zero=>simp at d;subst d;exact hx
   | succ i=>
    have:=e.1 s (zG (i:=i) (by simpa using d));omega
theorem JV (h:fD U F p c ps ss){σ1:Hp}(e1:bK U σ1){sl:Sl}{rb:Nat}{cs:List Value}(hl:sl.len=ss.length)(hE:ss≠[]->rz U F p ps ss sl rb cs)(st:Nat)(hst:st<=1024){R:Int->Bool->Hp->Prop}(hR:∀σ' b,bK σ1 σ'->R (Zd ss st:Int) b σ') :
 Wb.c sl (st:Int) ⟨259,#[],#[]⟩ σ1 R:=by
 refine Wb.o ?_;unfold Wb.v;have P:=h.pw;obtain⟨H,kE⟩:=Hz h.qD st;have z:∀(k:Nat) (x:Nat×Nat) s (v:Hp) (K:aN),ps[k]?=some x->ss[k]?=some s->bK σ1 v->(∀D,bK v D->K ((s.st:Int)-(st:Int)) D) →
  VH Tryz.prog ⟨259,#[],#[]⟩ [.agg #[.int .i64 (s.many:Int),.int .i64 (s.st:Int),.pointer (some ⟨x.1,0,none⟩)],.int .i64 (st:Int)] [.one bN] v K:=by
  intro k x s v K y r ev hK;refine pd (all := #[.agg #[.int .i64 (s.many:Int),.int .i64 (s.st:Int),.pointer (some ⟨x.1,0,none⟩)],.int .i64 (st:Int)]) (by kernel_rfl) aA ?_;refine Yz.o ?_;unfold Yz.v;have hf:=(h.sp k x s y r).fit;refine nw (cs:=[.int .i64 (s.many:Int),.int .i64 (s.st:Int),.pointer (some ⟨x.1,0,none⟩)]) λW hz e M=>M.eZ rfl (ar O O (hK W e))
 refine UO (a:=bN) (bb:=bN) (λ(i j:Int) v=>∃a b:Nat,i=(a:Int)/\j=(b:Int)/\a<=Zd ss st/\Zd ss st<=b/\b<=ss.length/\bK σ1 v) (λi j _=>j.toNat-i.toNat) ⟨0,ss.length,rfl,by rw[hl],O,H,O,Ext.refl _ _⟩ ?_;rintro i j v ⟨a,b,rfl,rfl,ha,M,B,ev⟩;have C:bK U v:=e1.trans ev;refine cQ (λY=>?_) λZ=>?_
 ·have u:ss≠[]:=by rintro rfl;simp at B;omega
  have E:=hE u;refine cP (m:=a+b) O O ?_;have hw:IntKind.u64.wrap ((a+b:Nat):Int)=((a+b:Nat):Int):=by
   unfold IntKind.wrap;simp[IntKind.bits,IntKind.signed];omega
  refine xp ?_;rw[hw];refine nn O ?_;have L:min (1:Int).toNat IntKind.u64.bits=1:=by decide
  rw[L,Ef];have A:(((a+b:Nat):Int)/2^1)=(((a+b)/2:Nat):Int):=by omega
  refine cP (m:=(a+b)/2) A O ?_;have d:(a+b)/2<ss.length:=by omega
  obtain⟨x,s,y,r,X⟩:=h.jv d;have w:=QE y r;rw[E.a];refine ix O O ?_;rw[add_lit,show 0+(((a+b)/2:Nat):Int).toNat*3=3*((a+b)/2) by omega];refine vt (e:=0) (C.bT E.bT id) (E.get w.1) (E.get w.2.1) (E.get w.2.2) (z _ x s v _ y r ev λD G=>?_);have g:=kE _ s r;show If (decide (((s.st:Int)-(st:Int))<0)) _ _;refine cQ (λV=>?_) λQ=>?_
  ·exact cP (m:=(a+b)/2+1) O O ⟨⟨_,b,rfl,rfl,by have:=g.1 O;omega,M,B,ev.trans G⟩,O⟩
  ·exact⟨⟨a,_,rfl,rfl,ha,by
    apply Classical.byContradiction;intro hc;have:=g.2 O;omega,O,ev.trans G⟩,O⟩
 ·have J:a=Zd ss st:=by omega
  subst J;refine bV.intro (cQ (λN=>?_) λS=>hR v _ ev);have d:Zd ss st<ss.length:=by omega
  have u:ss≠[]:=by rintro rfl;simp at d
  have E:=hE u;obtain⟨x,s,y,r,X⟩:=h.jv d;have w:=QE y r;rw[E.a];refine ix O O ?_;rw[add_lit,show 0+(Zd ss st:Int).toNat*3=3*Zd ss st by omega];refine vt (e:=0) (C.bT E.bT id) (E.get w.1) (E.get w.2.1) (E.get w.2.2) (z _ x s v _ y r ev λD G=>hR D _ (ev.trans G))
theorem PD (h:fD U F p c ps ss){st:Nat}(hf:st+c.aF<=1024){R:aN}(h9:HX c ss st=9->∀σ',bK U σ'->R 9 σ')
 (h0:HX c ss st=0->∀σ' ps',Ext F U σ'->fD σ' (Grow F U) p c ps' (ie c ss st)->R 0 σ'):YC.c (aW p) (st:Int) U R:=by
 refine YC.o ?_;unfold YC.v;have h:=fD.loc.cut h;obtain⟨sl,d,hl,hrow,rb,cs,hE⟩:=h.my;have hfew:=h.pw;have hc:=h.ok;have hck:=hc;unfold bZ.ok at hck;refine VK h (cB rfl (aG (d.eZ rfl (d.eZ rfl (d.eZ rfl ?_)))));refine L5 hc hf λv1 C L e1 hpn hqn W=>cB rfl (aG ((e1.bT d id).rS rfl ?_));have hplt:=d.lt;refine ZS (a:=bN) (λ(t:Int) v=>∃i:Nat,t=(i:Int)/\i<=ss.length/\bK v1 v/\∀(j:Nat) s,j<i->ss[j]?=some s->¬max s.st st-min s.st st<c.aF) (λt _=>ss.length-t.toNat) ⟨0,rfl,O,Ext.refl _ _,λj s y=>O⟩ ?_;rintro t v ⟨i,rfl,Z,ev,N⟩;have r:=e1.trans ev;refine cQ (λhlt=>?_) λhge=>?_
 ·simp only at hlt;have hi':i<ss.length:=by omega
  obtain⟨E,hcap,hcl⟩:=hE (by rintro rfl;simp at hi');obtain⟨x,s,z,g,hS⟩:=h.jv hi';have eg:=QE z g;have hsf:=hS.fit;rw[E.a];refine ix O O ?_;rw[add_lit,show 0+(i:Int).toNat*3=3*i by omega];refine vt (e:=0) (r.bT E.bT id) (E.get eg.1) (E.get eg.2.1) (E.get eg.2.2) (Cm λv6 e6 b6=>b6.eZ rfl (b6.eZ rfl ?_));have hd:(if(st:Int)>(s.st:Int)then(st:Int)else(s.st:Int))-(if(st:Int)<(s.st:Int)then(st:Int)else(s.st:Int))=((max s.st st-min s.st st:Nat):Int):=by
   split<;>split<;>omega
  refine cP (m:=max s.st st-min s.st st) hd O (aG (((r.trans e6).bT d id).eZ rfl ?_));refine cQ (λhlt2=>h9 ?_ _ (r.trans e6)) λhge2=>?_
  ·unfold HX;rw[zC];exact j9.2 ⟨s,zG g,by simpa using(by omega:max s.st st-min s.st st<c.aF)⟩
  ·refine cP (m:=i+1) O O ⟨⟨i+1,rfl,O,ev.trans e6,λj s' y P=>?_⟩,O⟩;by_cases e:j=i
   ·subst e;rw[g]at P;cases P;omega
   ·exact N j s' O P
 ·have hii:i=ss.length:=by simp only at hge;omega
  subst hii;have hE0:HX c ss st=0:=by
   unfold HX;rw[zB];simp only[pN,mh,zU];intro s g;obtain⟨j,y⟩:=zQ g;exact N j s (cW.1 y).1 y
  refine aG ((r.bT d id).rS rfl ?_);refine JV h r hl (λS=>(hE S).1) st O λv7 bb e7=>aG (((r.trans e7).bT d id).rS rfl ?_);have e07:=r.trans e7;obtain⟨hp1,kE⟩:=Hz h.qD st;refine nw (cs:=[.int .i64 0,.int .i64 st,.pointer (some ⟨C,0,none⟩)]) λv8 hz8 e8 hb8=>?_;have J:=e07.trans e8;have X:=aI.bO hrow J;have hsz7:=e07.1;refine Oy X hl O hp1 hb8 (λw=>by have:=w.1.2;omega) EG ⟨rfl,rfl,rfl⟩ λs' v9 e9 hr9=>aG ?_;have hb9:=e9.bT (J.bT d id) λw=>w.2.1 rfl;refine hb9.s1 aA λV gQ hb10=>?_;have H:=h.len;have B:=h.nd;simp only[zr]at B;have hlt:=W.lt;have hsz1:=(ev.trans e7).trans e8 |>.1;have D:∀b∈dW ps,b<U.size:=λb d=>(h.fb b d).2;have hS9:∀{a b s'},gT v8 a b c s'->¬(Cut F U a/\a≠p/\a∉dW ps)->¬(Cut F U b/\b≠p/\b∉dW ps)->a≠p->b≠p->gT V a b c s':=λhS n1 n2 m1 m2=>(hS.bR e9 n1 n2).bR gQ.ext m1 m2;have hnew:=((W.bO ev).bO e7).bO e8;have hent:dP (ps.take (Zd ss st)++(C,L)::ps.drop (Zd ss st)) (ss.take (Zd ss st)++⟨st,List.replicate c.n false⟩::ss.drop (Zd ss st)) =
   (dP ps ss).take (3*Zd ss st)++[.int .i64 0,.int .i64 st,.pointer (some ⟨C,0,none⟩)]++(dP ps ss).drop (3*Zd ss st):=by
   rw[KR (by simp[H])];have u:dP ps ss=dP (ps.take (Zd ss st)) (ss.take (Zd ss st))++dP (ps.drop (Zd ss st)) (ss.drop (Zd ss st)):=by
    rw[←KR (by simp[H]),nu,nu]
   have h2:(dP (ps.take (Zd ss st)) (ss.take (Zd ss st))).length=3*Zd ss st:=by rw[QP (by simp[H]),zZ];omega
   rw[u,xY h2,List.drop_left' h2,zz];have:cG.many ⟨st,List.replicate c.n false⟩=0:=by simp[cG.many,xZ]
   simp[dP,this]
  refine h0 hE0 V (ps.take (Zd ss st)++(C,L)::ps.drop (Zd ss st)) ?_ ?_
  ·refine(((bK.to J).trans (e9.sub λb d=>d.1.1))).trans (gQ.ext.sub λb d=>d▸h.fp.1)
  ·have A:(dW (ps.take (Zd ss st)++(C,L)::ps.drop (Zd ss st))).Perm (C::L::dW ps):=by
    have:dW ps=dW (ps.take (Zd ss st))++dW (ps.drop (Zd ss st)):=by
     conv=>lhs;rw[←nu (Zd ss st) ps]
     simp only[dW,List.flatMap_append]
    rw[this];have h3:dW (ps.take (Zd ss st)++(C,L)::ps.drop (Zd ss st))=dW (ps.take (Zd ss st))++C::L::dW (ps.drop (Zd ss st)):=by simp[dW]
    rw[h3];exact List.perm_middle.trans ((List.perm_middle).cons C)
   have Y:∀b,b∈dW (ps.take (Zd ss st)++(C,L)::ps.drop (Zd ss st))↔b=C\/b=L\/b∈dW ps:=by
    intro b;rw[A.mem_iff];simp
   refine⟨⟨s',hb10,?_⟩,λi x s z g=>?_,.inl h.fp.1,λb d=>?_,?_,?_,hc,?_⟩
   ·rw[GL,hent];refine aI.bR (aI.mono hr9 λb _ d=>?_) gQ.ext λb _ d he=>d.2.1 he;rw[Y];rcases d with d|d
    ·exact⟨.inl d.1.1,d.2.1,λw=>by
      rcases w with h|h|h
      ·have:=d.1.2;omega
      ·have:=d.1.2;omega
      ·exact d.2.2 h⟩
    ·exact⟨.inr O,O,λw=>by
      rcases w with h|h|h
      ·omega
      ·omega
      ·have:=D b h;omega⟩
   ·rw[GL]at g;have M:(ps.take (Zd ss st)).length=Zd ss st:=by rw[zZ];omega
    have K:(ss.take (Zd ss st)).length=Zd ss st:=by rw[zZ];omega
    have old:∀j:Nat,ps[j]?=some x->ss[j]?=some s->gT V x.1 x.2 c s:=λj u h2=>by
     have G:=Qe u;exact hS9 ((h.sp j x s u h2).bO J) (λw=>w.2.2 G.1) (λw=>w.2.2 G.2) (λe=>B.1 (e▸G.1)) (λe=>B.1 (e▸G.2))
    rcases oZ i (Zd ss st)with hlt'|heq|hgt
    ·rw[zh O,zj,zC hlt']at z g;exact old i z g
    ·rw[zp O]at z g;rw[M,heq,pK]at z;rw[K,heq,pK]at g;simp at z g;subst z;subst g;exact hS9 hnew (λw=>by have:=w.1.2;simp only at this;omega) (λw=>by have:=w.1.2;simp only at this;omega) aC aC
    ·rw[zp O]at z g;rw[M]at z;rw[K]at g;obtain⟨k,hk⟩:∃k,i-Zd ss st=k+1:=⟨i-Zd ss st-1,O⟩;rw[hk,A9,kL]at z g;exact old _ z g
   ·rcases(Y b).1 d with u|u|u
    ·subst u;exact .inr hpn
    ·subst u;exact .inr hqn
    ·exact .inl (h.fb b u).1
   ·simp only[zr];refine⟨λG=>?_,?_⟩
    ·rcases(Y p).1 G with u|u|u
     ·omega
     ·omega
     ·exact B.1 u
    ·rw[A.nodup_iff];simp only[zr,zW,not_or];have S:=W.ne;exact⟨⟨S,λG=>by have:=D _ G;omega⟩,λG=>by have:=D _ G;omega,B.2⟩
   ·rw[GL];simp[H]
   ·rw[GL];rw[px];have Q:=h.qD;refine⟨Q.sublist (AE _ _),rD.2 ⟨λs g=>?_,Q.sublist (List.drop_sublist _ _)⟩,λa ha b d=>?_⟩
    ·obtain⟨j,y⟩:=zQ g;rw[kL]at y;have u:=kE _ s y;have h2:s.st≠st:=λe=>by
      have:=N (Zd ss st+j) s (cW.1 y).1 y;rw[e]at this;simp at this;omega
     show st<s.st;omega
    ·obtain⟨i,Z⟩:=zQ ha;rw[zj]at Z;split at Z
     ·rename_i hlt';have hat:=(kE i a Z).2 hlt';rcases zW.1 d with rfl|d
      ·exact hat
      ·obtain⟨j,y⟩:=zQ d;rw[kL]at y;obtain⟨hi1,hi2⟩:=cW.1 Z;obtain⟨hj1,hj2⟩:=cW.1 y;have:=l3.1 Q i (Zd ss st+j) hi1 hj1 O;rw[hi2,hj2]at this;exact this
     ·cases Z
end Go.Ar
namespace Go.Proofs
open Go.Vc
set_option maxRecDepth 100000
def Xe.h:Hn:=.q .o1 (.q (.cR (.seq [.op,.op,.op,.cU true 5 (RI.ops 5),.op])) .l)
def Xe.v (a:R2)(b:Hp)(c:aO):Prop:=bV (λd e=>c d e) λf=>If (!a.isNone) (bD a 0 b λh=>f (decide (h>0)) b) (f false b)
theorem Xe.o {a b c}(d:Xe.v a b c):Xe.c a b c:=Wa Tryz.func180 (x:=Xe.h) (R0 d)
def ZJ.h:Hn:=.q .o2 (.q (.q (.cR (.seq [.op,.op,.op,.cU false 2 [.op,.op],.op,.cU false 2 [.op,.op],.op,.cU false 2 [.op,.op]])) .aJ) (.q .o6 .l))
def ZJ.v (a b:Int)(c:Hp)(d:Option Addr->Int->Hp->Prop):Prop:=bV (λe f=>bV (λg h=>bV (λi j=>If i (d none 1 j) (aV #[.I a,.I b,.I 0,.slice none 0 0] 266 j λk l=>d (some k) 0 l)) λm=>If g (m true h) (m (decide (b>8)) h)) λn=>If e (n true f) (n (decide (b<0)) f)) λo=>If (a<1) (o true c) (o (decide (a>32)) c)
theorem ZJ.o {a b c d}(e:ZJ.v a b c d):ZJ.c a b c d:=Wa Tryz.func200 (x:=ZJ.h) (R0 e)
def WA.h:Hn:=.q .o2 (.q (.k (.q .o4 (.c .aL (.q .o7 .aJ)))) (.q .o7 (.q .o8 (.q .gQ (.q .gQ (.q .o3 .l))))))
def WA.v (a:R2)(b:Hp)(c:Sl->Int->Hp->Prop):Prop:=Xe.c a b λd e=>If (!d) (c ⟨none,0,0⟩ 5 e) (bE a 3 e λg=>If (((g.len:Nat):Int)==0) (c ⟨none,0,0⟩ 4 e) (bE a 3 e λi=>bL (((i.len:Nat):Int)-1) λj=>bE a 3 e λl=>Ix l.a l.len j 1 λm=>jq m e λn=>bE a 3 e λp=>eY p 1 0 j (p.cap:Nat) λq=>bU a λr=>aR r 3 (.slice q.a q.len q.cap) e λs=>bD a 2 s λu=>bU a λv=>aR v 2 (.I (if j<u then j else u)) s λw=>c n 0 w))
theorem WA.o {a b c}(d:WA.v a b c):WA.c a b c:=Wa Tryz.func207 (x:=WA.h) (R0 d)
def W0.h:Hn:=.q .o2 (.q (.k (.q .o4 (.c .aL (.q .o8 (.c .aL (.q (.oq 11) .aJ)))))) (.q (.cR (.held true [8,11] (.tk [0,1,2,3,4,5] (.all [(6,.all [(7,.all [(8,.take 9 (.take 10 (.all [(11,.done)])))])])])))) .aL))
def W0.v (a:R2)(b:Sl)(c:Hp)(d:Bool->Int->Hp->Prop):Prop:=Xe.c a c λe f=>If (!e) (d false 5 f) (bD a 0 f λh=>If (((b.len:Nat):Int) != h) (d false 1 f) (bE a 3 f λj=>bD a 1 f λl=>If (((j.len:Nat):Int)≥l) (d false 0 f) (eO f λm=>bU a λn=>aT m n 3 λo=>WD.c b f λp q=>And (m q) <| aV #[.slice p.a p.len p.cap] 34 q λr s=>And (m s) <| App o 1 24 34 [.slice none 0 0] ⟨some r,1,1⟩ s λt u=>bU a λv=>aR v 3 (.slice t.a t.len t.cap) u λw=>d true 0 w)))
theorem W0.o {a b c d}(e:W0.v a b c d):W0.c a b c d:=Wa Tryz.func266 (x:=W0.h) (R0 e)
end Go.Proofs
namespace Go.Ar
open Go Go.Vc Go.Proofs
variable {U:Hp}{F:Rg}{p batch room:Nat}{t:gE}
def pv (s:Sl):Value:=.slice s.a s.len s.cap
def Wo (xs:List Int):List Value:=xs.map (Value.int .i64)
theorem Vu {l:List Int}:∀v∈Wo l,dQ v=true:=by
 intro v hv;simp only[Wo,zE]at hv;obtain⟨x,_,rfl⟩:=hv;rfl
def qx (sls:List Sl)(bs:List (List Int))(U:Hp)(D:Rg):Prop:=sls.length=bs.length/\∀(i:Nat) s xs,sls[i]?=some s->bs[i]?=some xs->cX s 1 (Wo xs) U D/\s.len<=s.cap
theorem qx.loc (sls:List Sl)(bs:List (List Int)):dM (qx sls bs):=λU j F G h e g=>⟨h.1,λi s d a b=>⟨cX.loc _ _ _ _ _ _ _ (h.2 i s d a b).1 e g,(h.2 i s d a b).2⟩⟩
def Dj (sls:List Sl):Prop:=sls.Pairwise λs t=>∀a a',s.a=some a->t.a=some a'->a.block≠a'.block
def ky (s:Sl)(b:Nat):Prop:=∃a,s.a=some a/\a.block=b
theorem _root_.Go.Vc.cX.lp {s:Sl}{sz:Nat}{xs:List Value}{D:Rg}(h:cX s sz xs U D):cX s sz xs U λb=>D b/\ky s b:=
 ⟨h.1,h.2.imp id λ⟨b,o,e,d,a,r⟩=>⟨b,o,e,⟨d,_,a,rfl⟩,a,r⟩⟩
theorem _root_.Go.Vc.cX.bT {s:Sl}{sz:Nat}{xs:List Value}{D:Rg}(h:cX s sz xs U D)(hx:xs≠[]){b:Nat}(hb:ky s b):D b/\b<U.size:=by
 rcases h.2 with h0|⟨b',o,cs,hq,ha,hc,_⟩
 ·exact absurd h0 hx
 ·obtain⟨a,d,rfl⟩:=hb;rw[ha]at d;cases d;exact⟨hq,hc.lt⟩
theorem Dj.snoc {sls:List Sl}{bs:List (List Int)}{D:Rg}{z:Nat}{s':Sl}{xs:List Value}{v:Hp}(h:Dj sls)(hB:qx sls bs U D)(hne:∀xs∈bs,xs≠[])(hz:∀b,D b->b<z)(hs:bS s' 1 xs v λb=>z<=b)(hx:xs≠[]):Dj (sls++[s']):=by
 refine px.2 ⟨h,List.pairwise_singleton _ _,λs e u j a r p w=>?_⟩;rw[zN]at j;subst j;obtain⟨i,m⟩:=zQ e;have g:=(cW.1 m).1;have d:bs[i]?=some (bs[i]'(by rw[←hB.1];exact g)):=cV _;have x:=((hB.2 i s _ m d).1.bT (by simp only[Wo,ne_eq,wQ];exact hne _ (zG d)) ⟨a,p,rfl⟩).1;have y:=(hs.gY.bT hx ⟨r,w,rfl⟩).1;have:=hz _ x;omega
structure jk (U:Hp) (F:Rg) (p batch room:Nat) (t:gE):Prop where
 mem:∃(sl:Sl) (sls:List Sl) (D:Rg),bY U p [.int .i64 (batch:Int),.int .i64 (room:Int),.int .i64 (t.low:Int),.slice sl.a sl.len sl.cap]/\bS sl 1 (sls.map pv) U (λb=>F b/\b≠p/\¬D b)/\qx sls t.bs U D/\(∀b,D b->F b/\b≠p)/\Dj sls
 fp:F p
 b1:1<=batch/\batch<=32
 r1:room<=8
 pw:t.bs.length<=room
 low:t.low<=t.bs.length
 all:∀xs∈t.bs,xs.length=batch
theorem jk.loc:dM λU F=>jk U F p batch room t:=λU x F G h m d=>by
 obtain⟨sl,j,D,a,s,w,i,u⟩:=h.mem;refine⟨⟨sl,j,λb=>D b/\b<U.size,?_,?_,?_,λb a=>⟨(d b a.2 (i b a.1).1).1,(i b a.1).2⟩,u⟩,(d p a.lt h.fp).1,h.b1,h.r1,h.pw,h.low,h.all⟩
 ·obtain⟨e,r⟩:=a;exact⟨e,(d p (bY.lt ⟨e,r⟩) h.fp).2.trans r⟩
 ·exact bS.loc _ _ _ _ _ _ _ s m λb a g=>⟨⟨(d b a g.1).1,g.2.1,λhd=>g.2.2 hd.1⟩,(d b a g.1).2⟩
 ·exact qx.loc _ _ _ _ _ _ w m λb a hd=>⟨⟨hd,a⟩,(d b a (i b hd).1).2⟩
theorem BG (h:jk U F p batch room t){R:aO}(hR:R true U):Xe.c (aW p) U R:=by
 refine Xe.o ?_;unfold Xe.v;obtain⟨sl,b,D,a,_⟩:=h.mem;have:=h.b1;refine bV.intro (cD rfl (aG (a.rI rfl ?_)));rw[zJ O];exact hR
theorem _root_.Go.Vc.cX.NW {s:Sl}{F:Rg}{sls:List Sl}(h:cX s 1 (sls.map pv) U F){i:Nat}{x:Sl}(hx:sls[i]?=some x){K:Sl->Prop}(hK:K x):Ix s.a s.len (i:Int) 1 λa=>jq a U K:=by
 have m:=(cW.1 hx).1;obtain⟨b,o,e,g⟩:=h.cell (j:=i) (v:=pv x) (by simp[hx]);have d:=h.1;rw[zl]at d;rw[e];refine ix O O ?_;rw[add_lit];exact nq (by simpa[pv]using g) hK
theorem LD (h1:1<=batch)(h2:batch<=32)(h3:room<=8){R:Option Addr->Int->Hp->Prop}(hR:∀σ' p,bK U σ'->U.size<=p->p<σ'.size->jk σ' (· = p) p batch room ⟨0,[]⟩->R (some ⟨p,0,none⟩) 0 σ'):ZJ.c batch room U R:=by
 refine ZJ.o ?_;unfold ZJ.v;refine bV.intro (fS O (bV.intro (fS O (bV.intro (fS O (fS O ?_))))));refine nw (cs:=[.int .i64 batch,.int .i64 room,.int .i64 0,.slice none 0 0]) λv d e a=>?_;exact hR v _ e (zD _) O ⟨⟨⟨none,0,0⟩,[],λ_=>False,a,bS.nil _ _ _ _,⟨rfl,λi s g h=>by simp at h⟩,λb h=>h.elim,List.Pairwise.nil⟩,rfl,⟨h1,h2⟩,h3,by simp,by simp,by simp⟩
theorem Oq (h:jk U F p batch room t){sl:Sl}{xs:List Int}{X:Rg}(hs:cX sl 1 (Wo xs) U X)(hl:xs.length<=1000000){R:Bool->Int->Hp->Prop}(h1:xs.length≠batch->R false 1 U)(h2:xs.length=batch->room<=t.bs.length->R false 0 U)
 (h3:xs.length=batch->t.bs.length<room->∀σ',Ext F U σ'->jk σ' (Grow F U) p batch room {t with bs:=t.bs++[xs]}->R true 0 σ'):W0.c (aW p) sl U R:=by
 refine W0.o ?_;unfold W0.v;have h:=jk.loc.cut h;obtain⟨C,z,D,d,hr,A,K,hJ⟩:=h.mem;have r:sl.len=xs.length:=by have:=hs.1;simp[Wo]at this;omega
 have hso:C.len=t.bs.length:=by have:=hr.1;rw[zl,A.1]at this;omega
 have hr8:=h.r1;have hb1:=h.b1;refine BG h (cB rfl (aG (d.rI rfl ?_)));rw[pI];refine cO (λy=>h1 (by rw[←r];simpa using y)) λM=>?_;have g:xs.length=batch:=by rw[←r];simpa using M
 refine aG (d.rS rfl (aG (d.rI rfl (cQ (λY=>h2 g (by simp only at Y;omega)) λV=>?_))));simp only at V;refine⟨λh'=>bY h' p [.int .i64 (batch:Int),.int .i64 (room:Int),.int .i64 (t.low:Int),.slice C.a C.len C.cap],d,aG ⟨C,λh' P=>by rw[add_lit,P.cell];rfl,?_⟩⟩;refine U5 hs Vu O λB v1 hl1 e1 w=>⟨e1.bT d id,?_⟩;refine nw (cs:=[.slice B.a B.len B.cap]) λv2 hz2 e2 L=>⟨(e1.trans e2).bT d id,?_⟩;have Q:=aI.bO (aI.bO hr e1) e2;refine Q.app (ys:=[pv B]) rfl rfl ?_ (by simp[dQ,pv]) ?_ ?_ mG λs2 v3 hl3 W S=>aG ?_
 ·intro j u hu;rw[add_lit,zH,L.cell];exact hu
 ·simp only;have:(C.len+1)*24<=9*24:=lR O O;omega
 ·simp only;omega
 ·have aa:=W.bT ((e1.trans e2).bT d id) λE=>E.2.1 rfl;have hplt:=d.lt;have hs1:=e1.1;refine aa.s1 aA λv4 o4 Z=>h3 g O v4 ?_ ?_
  ·exact((bK.to (e1.trans e2)).trans (W.sub λb d=>d.1.1)).trans (o4.ext.sub λb d=>d▸h.fp.1)
  ·refine⟨⟨s2,z++[B],λb=>D b/\b<U.size\/U.size<=b/\b<v1.size,Z,?_,⟨by simp[A.1],λi s ys x m=>?_⟩,λb d=>?_,?_⟩,.inl h.fp.1,h.b1,h.r1,by simp;omega,by have:=h.low;simp;omega,λys m=>?_⟩
   ·rw[kC];refine aI.bR (aI.mono S λb _ d=>?_) o4.ext λb _ d N=>d.2.1 N;rcases d with d|d
    ·exact⟨.inl d.1.1,d.2.1,λhd=>by
      rcases hd with hd|hd
      ·exact d.2.2 hd.1
      ·have:=d.1.2;omega⟩
    ·exact⟨.inr O,O,λhd=>by rcases hd with hd|hd<;>omega⟩
   ·have mv:∀{s:Sl} {ys:List Int} {G:Rg},cX s 1 (Wo ys) v2 G->(∀b,G b->b≠p/\¬(Cut F U b/\b≠p/\¬D b))->cX s 1 (Wo ys) v4 G:=λP hn=>
     aH.bR (aH.bR P W λb _ d=>(hn b d).2) o4.ext λb _ d N=>(hn b d).1 N
    rcases ku i z.length with hi'|hi'
    ·rw[zh hi']at x;rw[zh (by rw[←A.1];exact hi')]at m;obtain⟨k1,k2⟩:=A.2 i s ys x m;refine⟨aH.mono (mv (aH.bO (aH.bO (aH.mono k1 (G:=λb=>D b/\b<U.size) λb d hd=>⟨hd,d⟩) e1) e2) λb hd=>⟨(K b hd.1).2,λE=>E.2.2 hd.1⟩) λb _ hd=>.inl hd,k2⟩
    ·rw[zp hi']at x;rw[zp (by rw[←A.1];exact hi')]at m;have J:i-z.length=0:=by
      have:=(cW.1 x).1;simp at this;omega
     rw[J]at x;rw[show i-t.bs.length=0 by rw[←A.1];exact J]at m;simp at x m;subst x;subst m;have H:B.len<=B.cap:=by
      rcases w.2 with⟨q1,q2⟩|⟨_,_,_,_,_,q,_⟩
      ·omega
      ·exact q
     refine⟨aH.mono (mv (aH.bO (aH.mono w.gY (G:=λb=>U.size<=b/\b<v1.size) λb d hd=>⟨hd,d⟩) e2) λb hd=>⟨O,λE=>by have:=E.1.2;omega⟩) λb _ hd=>.inr hd,H⟩
   ·rcases d with hd|hd
    ·exact⟨.inl (K b hd.1).1.1,(K b hd.1).2⟩
    ·exact⟨.inr hd.1,O⟩
   ·have y:∀ys∈t.bs,ys≠[]:=λys m e=>by have:=jk.all ‹_› ys m;rw[e]at this;simp at this;omega
    exact hJ.snoc A y (λb hd=>(K b hd).1.2) w (by simp only[Wo,ne_eq,wQ];intro e;rw[e]at g;simp at g;omega)
   ·rcases zK.1 m with h|h
    ·exact jk.all ‹_› ys h
    ·simp at h;subst h;exact g
theorem PR (h:jk U F p batch room t)(h0:t.bs=[]){R:Sl->Int->Hp->Prop}(hR:R ⟨none,0,0⟩ 4 U):WA.c (aW p) U R:=by
 refine WA.o ?_;unfold WA.v;obtain⟨d,g,D,e,b,i,j,m⟩:=h.mem;have a:d.len=t.bs.length:=by have:=b.1;rw[zl,i.1]at this;omega
 refine BG h (cB rfl (aG (e.rS rfl (cD ?_ hR))));simp[a,h0]
theorem M8 (h:jk U F p batch room t)(h0:t.bs≠[]){R:Sl->Int->Hp->Prop}(hR:∀out σ',Ext F U σ'->(∀b,ky out b->F b)->cX out 1 (Wo (t.bs.getLast?.getD [])) σ' (ky out)->out.len<=out.cap->jk σ' (λb=>F b/\¬ky out b) p batch room t.rem->R out 0 σ'):WA.c (aW p) U R:=by
 refine WA.o ?_;unfold WA.v;obtain⟨N,g,D,d,H,z,B,X⟩:=h.mem;have hso:N.len=t.bs.length:=by have:=H.1;rw[zl,z.1]at this;omega
 have ab:=pf.2 h0;have ac:=h.r1;have hfw:=h.pw;have Z:=h.low;have L:t.bs.length-1<g.length:=by rw[z.1];omega
 obtain⟨o,K⟩:∃o,g[t.bs.length-1]?=some o:=⟨_,cV L⟩;have j:t.bs[t.bs.length-1]?=some (t.bs.getLast?.getD []):=by
  rw[List.getLast?_eq_getElem?,cV O];rfl
 obtain⟨Y,k2⟩:=z.2 _ o _ K j;refine BG h (cB rfl (aG (d.rS rfl (cB ?_ ?_))))
 ·simp only[mf];omega
 refine aG (d.rS rfl (cP (m:=t.bs.length-1) aC O (aG (d.rS rfl ?_))));refine H.gY.NW K (aG (d.rS rfl ?_));have aa:N.len<=N.cap:=by
  rcases H.2 with⟨q1,q2⟩|⟨_,_,_,_,_,q,_⟩
  ·omega
  ·exact q
 refine iU (lo:=0) O aD aD (aG (d.s1 aA λv1 o1 E=>aG (E.rI rfl (aG ?_))))
 refine E.s1 aA λv2 o2 r=>?_;have u:Ext (· = p) U v2:=o1.ext.trans o2.ext;have G:(if((t.bs.length-1:Nat):Int)<(t.low:Int)then((t.bs.length-1:Nat):Int)else(t.low:Int))=((min t.low (t.bs.length-1):Nat):Int):=by split<;>omega
 rw[G]at r;have M:∀A∈t.bs,A≠[]:=λA w e=>by have W:=h.all A w;have h2:=h.b1;rw[e]at W;simp at W;omega
 have x:∀b,ky o b->D b:=λb d=>(Y.bT (by simp only[Wo,ne_eq,wQ];exact M _ (zG j)) d).1;refine hR o v2 (u.sub λb d=>d▸h.fp) (λb d=>(B b (x b d)).1) (aH.mono (aH.bR Y u λb _ d C=>(B b d).2 C).lp λb _ hd=>hd.2) k2 ⟨⟨_,g.dropLast,λb=>D b/\¬ky o b,r,?_,⟨by simp[z.1,gE.rem],λi s A J w=>?_⟩,λb hd=>⟨⟨(B b hd.1).1,hd.2⟩,(B b hd.1).2⟩,List.Pairwise.sublist (List.dropLast_sublist _) X⟩,⟨h.fp,λd=>(B p (x p d)).2 rfl⟩,h.b1,h.r1,by simp[gE.rem];omega,by simp[gE.rem];omega,λA w=>h.all A (List.dropLast_subset _ w)⟩
 ·refine aI.bR ?_ u λb _ d C=>d.2.1 C;refine⟨by simp[z.1],?_⟩;rcases H.2 with⟨q1,q2⟩|⟨b,cs,hq,V,hbb,hle,hcl,ht⟩
  ·omega
  ·refine .inr ⟨b,cs,⟨⟨hq.1,λd=>hq.2.2 (x b d)⟩,hq.2.1,λhd=>hq.2.2 hd.1⟩,?_,hbb,by simp only;omega,by simp only;omega,?_⟩
   ·simp only[V];split<;>simp[add_lit]
   ·simp only[zl]at ht ⊢;have hd:g.dropLast.map pv=(g.map pv).take (g.length-1):=by rw[ym,List.map_take]
    rw[hd,←ht,xG,BV]
    congr 1;omega
 ·have y:i<t.bs.length-1:=by
   have:=(cW.1 w).1;simpa[gE.rem]using this
  rw[ym,zj]at J;simp only[gE.rem,ym,zj]at w;rw[zC (by rw[z.1];exact y)]at J;rw[zC y]at w;obtain⟨m1,m2⟩:=z.2 i s A J w;refine⟨aH.mono (aH.bR m1 u λb _ d C=>(B b d).2 C).lp λb _ d=>⟨d.1,λr=>?_⟩,m2⟩;obtain⟨a,V,e1⟩:=d.2;obtain⟨a',P,e2⟩:=r;obtain⟨S,rfl⟩:=cW.1 J;obtain⟨Q,rfl⟩:=cW.1 K;exact l3.1 X i _ S Q y a a' V P (e1.trans e2.symm)
def vF (out:Sl)(bs:List (List Int))(U:Hp)(G:Rg):Prop:=∃sls:List Sl,cX out 1 (sls.map pv) U G/\qx sls bs U G
theorem vF.loc (out:Sl)(bs:List (List Int)):dM (vF out bs):=λU i F G ⟨a,e,g⟩ b d=>⟨a,cX.loc _ _ _ _ _ _ _ e b d,qx.loc _ _ _ _ _ _ g b d⟩
end Go.Ar
namespace Go.Ar
open Go Go.Vc Go.Proofs
open Go.Bu (Zb)
variable {U:Hp}{F:Rg}{p:Nat}{ow:Nat->Nat}
def tV (ow:Nat->Nat)(x:Nat)(l:List (Nat×Nat×Nat)):Prop:=
 l.length<=x/\(∀r∈l,1<=r.2.1/\r.1+r.2.1<=x/\∀y,r.1<=y->y<r.1+r.2.1->ow y=r.2.2)/\∀y,y<x->ow y≠0->∃r∈l,r.1<=y/\y<r.1+r.2.1
theorem tV.new {x:Nat}{l:List (Nat×Nat×Nat)}(h:tV ow x l):tV ow (x+1) (l++[(x,1,ow x)]):=by
 refine⟨by simp;exact h.1,λr d=>?_,λy g e=>?_⟩
 ·rcases zK.1 d with a|a
  ·exact⟨(h.2.1 r a).1,by have:=(h.2.1 r a).2.1;omega,(h.2.1 r a).2.2⟩
  ·simp at a;subst a;exact⟨zD _,zD _,λy a b=>by simp only at a b ⊢;rw[show y=x by omega]⟩
 ·rcases ku y x with a|a
  ·obtain⟨r,d,b⟩:=h.2.2 y a e;exact⟨r,ke _ d,b⟩
  ·exact⟨(x,1,ow x),by simp,by simp only;omega⟩
theorem tV.more {x a m no:Nat}{l:List (Nat×Nat×Nat)}(h:tV ow x (l++[(a,m,no)]))(he:a+m=x)(hno:ow x=no):tV ow (x+1) (l++[(a,m+1,no)]):=by
 refine⟨by have:=h.1;simp at this ⊢;omega,λr e=>?_,λy i g=>?_⟩
 ·rcases zK.1 e with b|b
  ·have:=h.2.1 r (ke _ b);exact⟨this.1,O,this.2.2⟩
  ·simp at b;subst b;have:=h.2.1 (a,m,no) aA;refine⟨by simp only;omega,by simp only;omega,λy b d=>?_⟩;simp only at b d ⊢;rcases ku y (a+m)with h3|h3
   ·exact this.2.2 y b h3
   ·rw[show y=x by omega];exact hno
 ·rcases ku y x with b|b
  ·obtain⟨r,e,d⟩:=h.2.2 y b g;rcases zK.1 e with h3|h3
   ·exact⟨r,ke _ h3,d⟩
   ·simp at h3;subst h3;exact⟨(a,m+1,no),by simp,by simp only at d ⊢;omega⟩
  ·exact⟨(a,m+1,no),by simp,by simp only;have:=h.2.1 (a,m,no) aA;simp only at this;omega⟩
end Go.Ar
namespace Go.Proofs
open Go.Vc
set_option maxRecDepth 100000
def Yo.h:Hn:=.q .o1 (.q (.q .o4 (.q .o2 .aJ)) (.q .o5 .aM))
def Yo.v (a:R2)(b c:Int)(d:Hp)(e:aN):Prop:=Xn.c a b 1 d λf g=>If (f != 0) (e f g) (Nz 8<|bL (b.tdiv 8) λh=>Y3.c a h c g λi=>e 0 i)
theorem Yo.o {a b c d e}(f:Yo.v a b c d e):Yo.c a b c d e:=Wa Tryz.func62 (x:=Yo.h) (R0 f)
def YI.h:Hn:=.q .o2 (.q (.q .o4 (.q .o2 (.c (.q .o3 .l) .l))) (.q .o6 .l))
def YI.v (a:R2)(b:Int)(c:Hp)(d:Int->Int->Hp->Prop):Prop:=Xn.c a b 1 c λe f=>If (e != 0) (d 0 e f) (Nz 8<|bL (b.tdiv 8) λg=>Y4.c a g f λh i=>d h 0 i)
theorem YI.o {a b c d}(e:YI.v a b c d):YI.c a b c d:=Wa Tryz.func83 (x:=YI.h) (R0 e)
def Xn.h:Hn:=.q .o1 (.q (.k (.q .o4 (.c .aM (.q .o3 (.c .aM (.q (.cR (.seq [.op,.op,.op,.cU false 3 (RI.ops 3),.op])) .aK)))))) (.q .gQ (.q (.q (.cR (.hO true [] [(50,.one .b)] (.tk [0,1,2,3,4,5,6,7] (.split 39 (.tk [8,9,10,11,12,13,14,15,16,17,18] (.done)) (.tk [8,9,10,11,12,13,14,15,16] (.all [(17,.take 18 (.done))])))))) .aK) .aM)))
def Xn.v (a:R2)(b c:Int)(d:Hp)(e:aN):Prop:=Xu.c a d λf g=>If (!f) (e 5 g) (If (c==0) (e 0 g) (bV (λh i=>If h (e 7 i) (Nz 256<|bL (b.tdiv 256) λj=>Nz 8<|bL (b.tdiv 8) λk=>bL (k+c) λl=>bL (l-1) λm=>Nz 32<|bL (m.tdiv 32) λn=>Jn [.b] (λ(o:Bool) p=>If o (e 7 p) (e 0 p)) λq=>eO i λr=>bU a λs=>aT r s 0 λt=>If (n≥((t.len:Nat):Int)) (q true i) (bU a λu=>aT r u 0 λv=>bL (n+1) λw=>eY v 2 j w (v.cap:Nat) λx=>gD r .b ((Addr.mk 0 0 none).add 0) λ(y:Bool)=>gD r .b ((Addr.mk 0 0 none).add 1) λ(z:Bool)=>Wj.c x y z i λaa ab=>And (r ab) <| q aa ab))) λac=>If (b<0) (ac true g) (Nz 8 <| ac ((b.tmod 8) != 0) g)))
theorem Xn.o {a b c d e}(f:Xn.v a b c d e):Xn.c a b c d e:=Wa Tryz.func88 (x:=Xn.h) (R0 f)
def Y3.h:Hn:=.q .o3 (.kr [] (.q (.oq 9) (.c (.q (.cR (.tail 7 (RI.ops 7) [.op])) (.q (.cR (.held true [6] (.tk [0,1,2,3,4] (.all [(5,.all [(6,.done)])])))) (.cR (.tail 13 (RI.ops 13) [.op])))) .l)) (.o 11))
def Y3.v (a:R2)(b c:Int)(d:Hp)(e:aP):Prop:=Nz 32<|bL (b.tdiv 32) λf=>Jn [] (λg=>bI a 1 g λi=>Lk .i64 .s i f g λj=>Nz 32 <| Ix (j.getD ⟨none,0,0⟩).a (j.getD ⟨none,0,0⟩).len (b.tmod 32) 1 λk=>dX k (.I c) g λl=>e l) λm=>bE a 0 d λo=>Ix o.a o.len f 2 λp=>aZ p 0 d λq=>aZ p 1 d λr=>lg ((Addr.mk 1 0 none).add 0) d λs=>lg ((Addr.mk 1 0 none).add 1) d λt=>If (!((q==s)&&((r==t)&&true))) (bE a 0 d λv=>lg ((Addr.mk 1 0 none).add 0) d λw=>lg ((Addr.mk 1 0 none).add 1) d λx=>Ix v.a v.len f 2 λy=>aR y 0 (.bool w) d λz=>aR y 1 (.bool x) z λaa=>eO aa λab=>bU a λac=>gD ab .m (ac.add 1) λ(ad:Option Nat)=>Mk 32 32 8 3 [.I 0] aa λae af=>And (ab af) <| kc .i64 .s ad f ae af λag=>bD a 2 ag λai=>bI a 1 ag λak=>qE .i64 .s ak ag λal=>bU a λam=>aR am 2 (.I (if al>ai then al else ai)) ag λan=>m an) (m d)
theorem Y3.o {a b c d e}(f:Y3.v a b c d e):Y3.c a b c d e:=Wa Tryz.func89 (x:=Y3.h) (R0 f)
def XB.h:Hn:=.q .o1 (.q (.q .o3 .aK) (.q .o6 .l))
def XB.v (a:R2)(b:Hp)(c:aN):Prop:=Xu.c a b λd e=>If (!d) (c 0 e) (bE a 0 e λg=>c ((g.len:Nat):Int) e)
theorem XB.o {a b c}(d:XB.v a b c):XB.c a b c:=Wa Tryz.func108 (x:=XB.h) (R0 d)
def Xu.h:Hn:=.q .o1 (.q (.cR (.seq [.op,.op,.op,.cU true 6 (RI.ops 6),.op])) .l)
def Xu.v (a:R2)(b:Hp)(c:aO):Prop:=bV (λd e=>c d e) λf=>If (!a.isNone) (bE a 0 b λh=>f (decide (((h.len:Nat):Int)>0)) b) (f false b)
theorem Xu.o {a b c}(d:Xu.v a b c):Xu.c a b c:=Wa Tryz.func109 (x:=Xu.h) (R0 d)
def Y4.h:Hn:=.q .o1 (.q (.q (.o 12) (.q .o1 (.c (.q .o6 .l) .l))) .aM)
def Y4.v (a:R2)(b:Int)(c:Hp)(d:aN):Prop:=bI a 1 c λf=>Nz 32<|bL (b.tdiv 32) λg=>Lk .i64 .s f g c λh=>If h.isSome (Nz 32 <| Ix (h.getD ⟨none,0,0⟩).a (h.getD ⟨none,0,0⟩).len (b.tmod 32) 1 λi=>bM i c λj=>d j c) (d 0 c)
theorem Y4.o {a b c d}(e:Y4.v a b c d):Y4.c a b c d:=Wa Tryz.func117 (x:=Y4.h) (R0 e)
def QI.h:Hn:=.q .o2 (.q (.q (.cR (.seq [.op,.op,.op,.cU false 2 [.op,.op]])) .aJ) (.q .o7 .l))
def QI.v (a:Int)(b:Hp)(c:Option Addr->Int->Hp->Prop):Prop:=bV (λd e=>If d (c none 1 e) (Mk a a 2 161 [.bool false,.bool false] e λf g=>Nw (.map #[] 0) g λh i=>aV #[.slice f.a f.len f.cap,.map (some h.block),.I 0] 165 i λj k=>c (some j) 0 k)) λl=>If (a<1) (l true b) (l (decide (a>1024)) b)
theorem QI.o {a b c}(d:QI.v a b c):QI.c a b c:=Wa Tryz.func142 (x:=QI.h) (R0 d)
def YZ.h:Hn:=.q .o2 (.q (.k (.q .o4 (.c .aL (.q (.cR (.seq [.op,.op,.op,.cU false 2 [.op,.op],.op,.cU false 7 (RI.ops 7),.op,.cU false 9 (RI.ops 9),.op])) .aJ)))) (.q (.o 11) .l))
def YZ.v (a:R2)(b c:Int)(d:Hp)(e:Sl->Int->Hp->Prop):Prop:=Xu.c a d λf g=>If (!f) (e ⟨none,0,0⟩ 5 g) (bV (λh i=>bV (λj k=>bV (λl m=>If l (e ⟨none,0,0⟩ 1 m) (bE a 0 m λo=>bL (b+c) λp=>eY o 2 b p (o.cap:Nat) λq=>e q 0 m)) λr=>If j (r true k) (bE a 0 k λt=>bL (((t.len:Nat):Int)-b) λu=>r (decide (c>u)) k)) λv=>If h (v true i) (bE a 0 i λx=>v (decide (b>((x.len:Nat):Int))) i)) λy=>If (b<0) (y true g) (y (decide (c<1)) g))
theorem YZ.o {a b c d e}(f:YZ.v a b c d e):YZ.c a b c d e:=Wa Tryz.func273 (x:=YZ.h) (R0 f)
def Y5.h:Hn:=.q .o1 (.q .o2 (.k (.loop [(8,.I)] (.q (.q .o5 (.c .l .l)) (.q (.k (.q (.cR (.tail 7 (RI.ops 7) [.op])) .o6)) .o3)))))
def Y5.v (a:R2)(b c:Int)(d e:Bool)(f:Hp)(g:aP):Prop:=aV #[.bool d,.bool e] 161 f λh i=>Yp [bN] (λj=>j b i) λk (l:Int) m=>bL (b+c) λn=>If (l<n) (bE a 0 m λp=>aZ h 0 m λq=>aZ h 1 m λr=>Ix p.a p.len l 2 λs=>aR s 0 (.bool q) m λt=>aR s 1 (.bool r) t λu=>bI a 1 u λw=>lJ .i64 .s w l u λx=>bL (l+1) λy=>k y x) (g m)
theorem Y5.o {a b c d e f g}(h:Y5.v a b c d e f g):Y5.c a b c d e f g:=Wa Tryz.func274 (x:=Y5.h) (R0 h)
def YU.h:Hn:=.q .o1 (.q .o9 (.q (.k (.q .o3 (.c .aL (.q .o3 .aK)))) (.q .o5 .aM)))
def YU.v (a:R2)(b c:Int)(d:Hp)(e:aN):Prop:=YZ.c a b c d λf g h=>If (g != 0) (e g h) (Wg.c f ⟨309,#[],#[]⟩ h λi j=>If i (e 5 j) (lg ((Addr.mk 2 0 none).add 0) j λk=>lg ((Addr.mk 2 0 none).add 1) j λl=>Y5.c a b c k l j λm=>e 0 m))
theorem YU.o {a b c d e}(f:YU.v a b c d e):YU.c a b c d e:=Wa Tryz.func286 (x:=YU.h) (R0 f)
def Yt.h:Hn:=.q .o2 (.q .o4 .l)
def Yt.v (a b:Bool)(c:Hp)(d:aO):Prop:=aV #[.bool a,.bool b] 161 c λe f=>aZ e 0 f λg=>aZ e 1 f λh=>lg ((Addr.mk 0 0 none).add 0) f λi=>lg ((Addr.mk 0 0 none).add 1) f λj=>d (!((g==i)&&((h==j)&&true))) f
theorem Yt.o {a b c d}(e:Yt.v a b c d):Yt.c a b c d:=Wa Tryz.func309 (x:=Yt.h) (R0 e)
end Go.Proofs
namespace Go.Ar
open Go Go.Vc Go.Proofs
open Go.Bu (Zb)
variable {U:Hp}{F:Rg}{p q r:Nat}{sp:Sp}
structure Gl (U:Hp):Prop where
 c0:cell U ⟨2,0,none⟩=some (.bool true)
 c1:cell U ⟨2,1,none⟩=some (.bool false)
 u0:cell U ⟨0,0,none⟩=some (.bool false)
 u1:cell U ⟨0,1,none⟩=some (.bool false)
structure Gc (U:Hp):Prop where
 d0:cell U ⟨1,0,none⟩=some (.bool true)
 d1:cell U ⟨1,1,none⟩=some (.bool true)
structure Gd (U:Hp):Prop where
 lt:1<U.size
def iS (F:Rg):Prop:=∀b,F b->b≠2/\b≠0
theorem Ka {h:Hp}{b o:Nat}{v:Value}(hc:cell h ⟨b,o,none⟩=some v):b<h.size:=(Du hc).1
theorem Gl.bR {σ':Hp}(g:Gl U)(e:Ext F U σ')(hF:iS F):Gl σ':=by
 have b:¬F 2:=λh=>(hF _ h).1 rfl;have a:¬F 0:=λh=>(hF _ h).2 rfl;exact⟨(Q3 e (Ka g.c0) b).trans g.c0,(Q3 e (Ka g.c1) b).trans g.c1,(Q3 e (Ka g.u0) a).trans g.u0,(Q3 e (Ka g.u1) a).trans g.u1⟩
theorem Gc.bR {σ':Hp}(g:Gc U)(e:Ext F U σ')(hF:¬F 1):Gc σ':=⟨(Q3 e (Ka g.d0) hF).trans g.d0,(Q3 e (Ka g.d1) hF).trans g.d1⟩
theorem Gc.bO {σ':Hp}(g:Gc U)(e:bK U σ'):Gc σ':=g.bR e id
theorem Gd.bR {σ':Hp}(g:Gd U)(e:Ext F U σ')(hF:¬F 1):Gd σ':=⟨tJ g.lt e.1⟩
theorem Gd.bO {σ':Hp}(g:Gd U)(e:bK U σ'):Gd σ':=g.bR e id
theorem Gc.gd (g:Gc U):Gd U:=⟨Ka g.d0⟩
theorem Gl.bO {σ':Hp}(g:Gl U)(e:bK U σ'):Gl σ':=g.bR e λ_ h=>h.elim
theorem iS.grow (hF:iS F)(g:Gl U):iS (Grow F U):=λb a=>by
 rcases a with h|h
 ·exact hF b h
 ·have d:=Ka g.c0;have e:=Ka g.u0;exact⟨O,O⟩
theorem iS.sub {G:Rg}(hF:iS F)(h:∀b,G b->F b):iS G:=λb a=>hF b (h b a)
def fW:Nat->Bool×Bool
 | 0=>(false,false)
 | 1=>(true,false)
 | _=>(true,true)
def gP (st:List Nat):List Value:=st.flatMap λx=>[.bool (fW x).1,.bool (fW x).2]
theorem Vn (l:List Nat):(gP l).length=2*l.length:=by
 induction l with
 | nil=>rfl
 | cons x l ih=>simp only[gP,p8,zP,zY,lH]at *;omega
theorem B3 {l:List Nat}{i x:Nat}(h:l[i]?=some x):(gP l)[2*i]?=some (.bool (fW x).1)/\(gP l)[2*i+1]?=some (.bool (fW x).2):=by
 induction l generalizing i with
 | nil=>simp at h
 | cons y l ih=>
  have e:gP (y::l)=[.bool (fW y).1,.bool (fW y).2]++gP l:=by simp[gP]
  rw[e];cases i with
  | zero=>simp at h;subst h;simp
  | succ i=>
   have:=ih (i:=i) (by simpa using h);rw[show 2*(i+1)=2*i+2 by omega];simpa using this
theorem Ct {l:List Nat}{i v:Nat}(h:i<l.length)(rest:List Value):((gP l++rest).set (2*i) (.bool (fW v).1)).set (2*i+1) (.bool (fW v).2)=gP (l.set i v)++rest:=by
 induction l generalizing i with
 | nil=>simp at h
 | cons y l ih=>
  have e:∀z m,gP (z::m)=.bool (fW z).1 :: .bool (fW z).2::gP m:=λz m=>by simp[gP]
  cases i with
  | zero=>simp[e]
  | succ i=>
   have:=ih (i:=i) (by simpa using h);rw[q9,e,e,show 2*(i+1)=2*i+1+1 by omega];simp only[kW,q9];rw[this]
theorem Bg {x y:Nat}(hx:x<=2)(hy:y<=2):(((fW x).1==(fW y).1)&&(((fW x).2==(fW y).2)&&true))=(x==y):=by
 match x,y,hx,hy with
 | 0,0,_,_=>rfl
 | 1,1,_,_=>rfl
 | 2,2,_,_=>rfl
 | 0,1,_,_=>rfl
 | 0,2,_,_=>rfl
 | 1,0,_,_=>rfl
 | 1,2,_,_=>rfl
 | 2,0,_,_=>rfl
 | 2,1,_,_=>rfl
theorem Q6 {α:Type}(x:Int×α)(l:List (Int×α))(k:Int):bW (x::l) k=if x.1=k then some x.2 else bW l k:=by
 unfold bW;rw[uE];by_cases h:x.1=k
 ·simp[h]
 ·have:(x.1==k)=false:=by simpa using h
  rw[this,zB h]
theorem LN {α:Type}(l:List (Int×α))(n k:Int)(v:α):bW (l.map λx=>if x.1==n then(n,v)else x) k=if k=n then(if l.any (λx=>x.1==n)then some v else none)else bW l k:=by
 induction l with
 | nil=>simp[bW]
 | cons x l ih=>
  rw[zT,Q6,ih,Q6,List.any_cons];by_cases hx:x.1=n
  ·by_cases hk:k=n
   ·subst hk;simp[hx]
   ·have:¬n=k:=λe=>hk e.symm;simp[hx,hk,this]
  ·have a:(x.1==n)=false:=by simpa using hx
   simp only[a,zd,zy,xd];by_cases hk:k=n
   ·subst hk;simp[hx]
   ·simp[hk]
theorem NV {α:Type}(l:List (Int×α))(n k:Int)(v:α)(h:l.any (λx=>x.1==n)=false):bW (l++[(n,v)]) k=if k=n then some v else bW l k:=by
 induction l with
 | nil=>
  rw[sA,Q6];by_cases hk:k=n
  ·simp[hk]
  ·have:¬n=k:=λe=>hk e.symm;simp[hk,this,bW]
 | cons x l ih=>
  rw[List.any_cons,Bool.or_eq_false_iff]at h;rw[kW,Q6,ih h.2,Q6];have a:¬x.1=n:=by simpa using h.1
  by_cases hk:k=n
  ·subst hk;simp[a]
  ·simp[hk]
theorem V1 {α:Type}(l:List (Int×α))(n k:Int)(v:α):bW (dB l n v) k=if k=n then some v else bW l k:=by
 unfold dB;cases h:l.any (λx=>x.1==n)
 ·rw[zB aA,NV l n k v h]
 ·rw[zC rfl,LN,h];simp
theorem GJ {α:Type}(l:List (Int×α))(n k:Int):bW (cS l n) k=if k=n then none else bW l k:=by
 unfold cS
 induction l with
 | nil=>simp[bW]
 | cons x l ih=>
  rw[rQ,Q6];by_cases hx:x.1=n
  ·have:(!(x.1==n))=false:=by simp[hx]
   rw[this];simp only[zd,zy,ih];by_cases hk:k=n
   ·simp[hk]
   ·have:¬x.1=k:=λe=>hk (e.symm.trans hx);simp[hk,this]
  ·have:(!(x.1==n))=true:=by simpa using hx
   rw[this,zC rfl,Q6,ih];by_cases hk:k=n
   ·subst hk;simp[hx]
   ·simp[hk]
theorem Vf {α:Type}{l:List (Int×α)}{k:Int}{v:α}(h:bW l k=some v):(k,v)∈l:=by
 unfold bW at h;cases hf:l.find? (λx=>x.1==k)with
 | none=>rw[hf]at h;cases h
 | some x=>
  rw[hf]at h;have a:=sN hf;have b:=rU hf;have e:x.1=k:=by simpa using a
  have d:x.2=v:=by simpa using h
  rw[←e,←d];exact b
theorem Pn {α:Type}{l:List (Int×α)}{k:Int}:(bW l k).isSome=true↔k∈l.map (·.1):=by
 unfold bW;rw[Option.isSome_map,Au];simp
def E9 (U:Hp)(s:Sl)(b:Nat)(f:Nat->Int):Prop:=s.a=some ⟨b,0,none⟩/\s.len=32/\32<=s.cap/\∃cs,bY U b cs/\32<=cs.length/\∀j,j<32->cs[j]?=some (.int .i64 (f j))
structure fG (U:Hp) (F:Rg) (p q r:Nat) (l:List (Int×Sl)) (B:Nat->Nat) (sp:Sp):Prop where
 hd:∃cap,sp.st.length<=cap/\bY U p [.slice (some ⟨q,0,none⟩) sp.st.length cap,.map (some r),.int .i64 (sp.pk:Int)]
 row:∃rest,bY U q (gP sp.st++rest)
 map:dL U r .i64 .s l
 keys:∀x:Int,(bW l x).isSome=true↔∃k:Nat,x=k/\sp.st[k]?=some 2
 wd:∀(k:Nat) s,bW l (k:Int)=some s->E9 U s (B k) λj=>sp.wd (32*k+j)
 inj:∀k k':Nat,sp.st[k]?=some 2->sp.st[k']?=some 2->B k=B k'->k=k'
 out:∀k:Nat,sp.st[k]?=some 2->F (B k)/\B k≠p/\B k≠q/\B k≠r
 fs:F p/\F q/\F r/\p≠q/\p≠r/\q≠r
 zero:∀w:Nat,sp.st[w/32]?≠some 2->sp.wd w=0
 n1:1<=sp.st.length
 n2:sp.st.length<=1024
 rf:∀x∈sp.st,x<=2
 pk:sp.pk<=1024
def dK (U:Hp)(F:Rg)(p:Nat)(sp:Sp):Prop:=∃q r l B,fG U F p q r l B sp
theorem fG.entry {l:List (Int×Sl)}{B:Nat->Nat}(h:fG U F p q r l B sp){k:Nat}(hk:sp.st[k]?=some 2):∃s,bW l (k:Int)=some s/\E9 U s (B k) λj=>sp.wd (32*k+j):=by
 have:=(h.keys (k:Int)).2 ⟨k,rfl,hk⟩;obtain⟨s,a⟩:=pj.1 this;exact⟨s,a,h.wd k s a⟩
theorem fG.lf {l:List (Int×Sl)}{B:Nat->Nat}(h:fG U F p q r l B sp){k:Nat}{s:Sl}(hs:bW l (k:Int)=some s):sp.st[k]?=some 2:=by
 obtain⟨k',e,a⟩:=(h.keys (k:Int)).1 (by rw[hs];rfl);have:k=k':=by omega
 subst this;exact a
theorem dK.loc:dM λU F=>dK U F p sp:=λU M F G ⟨q,r,l,B,h⟩ P D=>by
 have g:∀{b:Nat} {d:List Value},bY U b d->F b->bY M b d/\G b:=by
  rintro b d ⟨e,y⟩ J;have:=D b (bY.lt ⟨e,y⟩) J;exact⟨⟨e,this.2.trans y⟩,this.1⟩
 obtain⟨c,H,hd⟩:=h.hd;obtain⟨m,a⟩:=h.row;obtain⟨L,w,x,N⟩:=h.map;have j:=D r (j3.1 x).1 h.fs.2.2.1;refine⟨q,r,l,B,⟨c,H,(g hd h.fs.1).1⟩,⟨m,(g a h.fs.2.1).1⟩,⟨L,w,j.2.trans x,N⟩,h.keys,λk s i=>?_,h.inj,λk i=>?_,⟨(g hd h.fs.1).2,(g a h.fs.2.1).2,j.1,h.fs.2.2.2⟩,h.zero,h.n1,h.n2,h.rf,h.pk⟩
 ·obtain⟨E,z,C,d,u,A⟩:=h.wd k s i;exact⟨E,z,C,d,(g u (h.out k (h.lf i)).1).1,A⟩
 ·obtain⟨s,K,E,z,C,d,u,A⟩:=h.entry i;exact⟨(g u (h.out k i).1).2,(h.out k i).2⟩
theorem dK.bO {σ':Hp}(h:dK U F p sp)(e:bK U σ'):dK σ' F p sp:=dM.bO dK.loc h e
variable {l:List (Int×Sl)}{B:Nat->Nat}
theorem fG.rS (h:fG U F p q r l B sp){K:Sl->Prop}(hK:∀cap,sp.st.length<=cap->K ⟨some ⟨q,0,none⟩,sp.st.length,cap⟩):jq (Addr.add ⟨p,0,none⟩ 0) U K:=by
 obtain⟨c,a,hd⟩:=h.hd;exact hd.rS rfl (hK c a)
theorem fG.rM (h:fG U F p q r l B sp){K:Option Nat->Prop}(hK:K (some r)):kZ (Addr.add ⟨p,0,none⟩ 1) U K:=by
 obtain⟨c,a,hd⟩:=h.hd;exact hd.rM rfl hK
theorem fG.xw (h:fG U F p q r l B sp){i x:Nat}(hx:sp.st[i]?=some x){K:Bool->Bool->Prop}(hK:K (fW x).1 (fW x).2):lg (Addr.add ⟨q,2*i,none⟩ 0) U λa=>lg (Addr.add ⟨q,2*i,none⟩ 1) U λb=>K a b:=by
 obtain⟨e,d⟩:=h.row;have j:=(cW.1 hx).1;have g:=B3 hx;refine d.rB (x:=(fW x).1) ?_ (d.rB (x:=(fW x).2) ?_ hK)
 ·rw[jY,zh (by rw[Vn];omega)];exact g.1
 ·rw[zh (by rw[Vn];omega)];exact g.2
theorem BE (h:dK U F p sp){R:aO}(hR:R true U):Xu.c (aW p) U R:=by
 refine Xu.o ?_;unfold Xu.v;obtain⟨q,r,l,B,h⟩:=h;have:=h.n1;refine bV.intro (cD rfl (aG (h.rS λcap _=>?_)));rw[zJ aC];exact hR
theorem C5 (h:dK U F p sp){R:aN}(hR:R (sp.st.length:Int) U):XB.c (aW p) U R:=by
 refine XB.o ?_;unfold XB.v;have a:=h;obtain⟨q,r,l,B,h⟩:=h;exact BE a (cB rfl (aG (h.rS λcap _=>hR)))
theorem fG.vp (h:fG U F p q r l B sp):l.length=sp.st.count 2:=by
 have m:=h.map.nodup;have j:(l.map (·.1)).Perm (((List.range sp.st.length).filter λk=>sp.st[k]?==some 2).map λk=>((k:Nat):Int)):=by
  rw[Bm m]
  ·intro x;rw[←Pn,h.keys];simp only[zE,zI,zc,zS];constructor
   ·rintro⟨k,rfl,hk⟩;exact⟨k,⟨(cW.1 hk).1,hk⟩,rfl⟩
   ·rintro⟨k,⟨_,hk⟩,rfl⟩;exact⟨k,rfl,hk⟩
  ·have d:((List.range sp.st.length).filter λk=>sp.st[k]?==some 2).Pairwise (· ≠ ·):=List.Pairwise.sublist sX List.nodup_range;exact List.Pairwise.map _ (λa b (g:a≠b) e=>g (by exact_mod_cast e)) d
 have i:=j.length_eq;simp only[zl]at i;rw[i,←wN];have key:∀st:List Nat,(List.range st.length).countP (λk=>st[k]?==some 2)=st.count 2:=by
  intro st
  induction st with
  | nil=>rfl
  | cons x st ih=>
   rw[zY,List.range_succ_eq_map,vX,List.countP_map,List.count_cons,←ih]
   congr 1
 exact key sp.st
end Go.Ar
namespace Go.Ar
open Go Go.Vc Go.Proofs
open Go.Bu (Zb)
variable {U:Hp}{F:Rg}{p q r:Nat}{sp:Sp}{l:List (Int×Sl)}{B:Nat->Nat}
theorem Ml (l:List Nat)(n:Nat):gP (l.take n)=(gP l).take (2*n):=by
 induction l generalizing n with
 | nil=>simp[gP]
 | cons y l ih=>
  have e:∀z m,gP (z::m)=.bool (fW z).1 :: .bool (fW z).2::gP m:=λz m=>by simp[gP]
  cases n with
  | zero=>simp[gP]
  | succ n=>
   rw[ug,e,e,ih,show 2*(n+1)=2*n+1+1 by omega];simp
theorem Nr (l:List Nat)(n:Nat):gP (l.drop n)=(gP l).drop (2*n):=by
 induction l generalizing n with
 | nil=>simp[gP]
 | cons y l ih=>
  have e:∀z m,gP (z::m)=.bool (fW z).1 :: .bool (fW z).2::gP m:=λz m=>by simp[gP]
  cases n with
  | zero=>simp[gP]
  | succ n=>
   rw[xH,e,ih,show 2*(n+1)=2*n+1+1 by omega];simp
theorem Sc (n v:Nat):gP (List.replicate n v)=(List.replicate n [Value.bool (fW v).1,.bool (fW v).2]).flatten:=by
 induction n with
 | zero=>rfl
 | succ n ih=>rw[wK,wK,wD,←ih];simp[gP]
theorem _root_.Go.Vc.cX.xw {s:Sl}{l:List Nat}(h:cX s 2 (gP l) U F){i x:Nat}(hx:l[i]?=some x){K:Bool->Bool->Prop}(hK:K (fW x).1 (fW x).2) :
 Ix s.a s.len (i:Int) 2 λa=>lg (a.add 0) U λu=>lg (a.add 1) U λw=>K u w:=by
 have y:=(cW.1 hx).1;have g:=B3 hx;obtain⟨b,o,j,p⟩:=h.cell g.1;obtain⟨r,o1,d,e⟩:=h.cell g.2;rw[j]at d;cases d;have m:=h.1;rw[Vn]at m;rw[j];refine ix O O ?_;rw[add_lit];refine mY ?_ (mY ?_ hK)<;>rw[add_lit]
 ·rw[show o+(i:Int).toNat*2+0=o+2*i by omega];exact p
 ·rw[show o+(i:Int).toNat*2+1=o+(2*i+1) by omega];exact e
theorem _root_.Go.Vc.cX.wB {s:Sl}{l:List Nat}(h:cX s 2 (gP l) U F):s.len=l.length:=by
 have:=h.1;rw[Vn]at this;omega
theorem NN {s:Sl}{xs:List Nat}(h:cX s 2 (gP xs) U F)(hl:xs.length<=1000000)(h2:∀x∈xs,x<=2){v:Nat}(hv:v<=2){R:aN}
 (hR:∀(t:Int) σ',bK U σ'->decide (t≥0)=xs.contains v->R t σ'):Wn.c s (fW v).1 (fW v).2 U R:=by
 refine Wn.o ?_;unfold Wn.v;have z:=h.wB;refine nw (cs:=[.bool (fW v).1,.bool (fW v).2]) λw E e A=>?_;have h:=aH.bO h e;refine ZS (a:=bN) (λ(t:Int) u=>∃i:Nat,t=(i:Int)/\i<=xs.length/\u=w/\∀j,j<i->xs[j]?≠some v) (λt _=>xs.length-t.toNat) ⟨0,rfl,O,rfl,λj g=>O⟩ ?_;rintro t u ⟨i,rfl,G,rfl,b⟩;refine cQ (λD=>?_) λC=>?_
 ·have d:i<xs.length:=by omega
  have y:xs[i]?=some xs[i]:=cV d;refine A.rB rfl (A.rB rfl (h.xw y ?_));rw[Bg hv (h2 _ (kg d))];refine cO (λp=>?_) λp=>?_
  ·have:v=xs[i]:=by simpa using p
   refine hR _ _ e ?_;have B:xs.contains v=true:=by rw[this];simp
   rw[B,zJ O]
  ·have r:¬v=xs[i]:=by simpa using p
   refine cP (m:=i+1) O O ⟨⟨i+1,rfl,O,rfl,λj g=>?_⟩,O⟩;by_cases e:j=i
   ·subst e;rw[y];intro e2;cases e2;exact r rfl
   ·exact b j O
 ·refine hR _ _ e ?_;have:xs.contains v=false:=by
   simp only[qH,decide_eq_false_iff_not];intro hm;obtain⟨j,g⟩:=zQ hm;have:=(cW.1 g).1;exact b j O g
  rw[this];rfl
theorem OR {s:Sl}{xs:List Nat}(h:cX s 2 (gP xs) U F)(hl:xs.length<=1000000)(h2:∀x∈xs,x<=2){v:Nat}(hv:v<=2){R:aO}
 (hR:∀σ',bK U σ'->R (xs.contains v) σ'):Wj.c s (fW v).1 (fW v).2 U R:=by
 refine Wj.o ?_;unfold Wj.v;refine nw (cs:=[.bool (fW v).1,.bool (fW v).2]) λw g e a=>a.rB rfl (a.rB rfl ?_);refine NN (aH.bO h e) hl h2 hv λt σ' d b=>?_;rw[b];exact hR σ' (Ext.trans e d)
theorem Md (g:Gl U){x:Nat}(hx:x<=2){R:aO}(hR:∀σ',bK U σ'->R (x != 0) σ'):Yt.c (fW x).1 (fW x).2 U R:=by
 refine Yt.o ?_;unfold Yt.v;refine nw (cs:=[.bool (fW x).1,.bool (fW x).2]) λv d e a=>a.rB rfl (a.rB rfl ?_);have g:=g.bO e;refine mY (by rw[←g.u0];rfl) (mY (by rw[←g.u1];rfl) ?_);have b:(((fW x).1==false)&&(((fW x).2==false)&&true))=(x==0):=Bg hx (y:=0) O;rw[b];exact hR v e
theorem RX {s:Sl}{xs:List Nat}(h:cX s 2 (gP xs) U F)(g:Gl U)(hl:xs.length<=1000000)(h2:∀x∈xs,x<=2){R:aO}
 (hR:∀σ',bK U σ'->R (xs.any (· != 0)) σ'):Wg.c s ⟨309,#[],#[]⟩ U R:=by
 refine Wg.o ?_;unfold Wg.v;refine Wm.o ?_;unfold Wm.v;have A:=h.wB;refine ZS (a:=bN) (λ(t:Int) C=>∃i:Nat,t=(i:Int)/\i<=xs.length/\bK U C/\∀(j x:Nat),j<i->xs[j]?=some x->x=0) (λt _=>xs.length-t.toNat) ⟨0,rfl,O,Ext.refl _ _,λj x r=>O⟩ ?_;rintro t w ⟨i,rfl,H,e,p⟩;refine cQ (λG=>?_) λE=>?_
 ·have d:i<xs.length:=by omega
  have z:xs[i]?=some xs[i]:=cV d;refine(aH.bO h e).xw z ?_;refine pd (all := #[.agg #[.bool (fW xs[i]).1,.bool (fW xs[i]).2]]) (by kernel_rfl) aA ?_;refine Md (g.bO e) (h2 _ (kg d)) λD B=>?_;refine cO (λu=>?_) λu=>?_
  ·have:xs.any (· != 0)=true:=j9.2 ⟨_,kg d,u⟩;have:=hR D (Ext.trans e B);rw[‹xs.any (· != 0)=true›]at this;show R (decide ((i:Int)≥0)) _;rw[zJ O];exact this
  ·have y:xs[i]=0:=by simpa using u
   refine cP (m:=i+1) O O ⟨⟨i+1,rfl,O,Ext.trans e B,λj x r b=>?_⟩,O⟩;by_cases e:j=i
   ·subst e;rw[z]at b;cases b;exact y
   ·exact p j x O b
 ·have:xs.any (· != 0)=false:=by
   rw[mh];intro x hm;obtain⟨j,r⟩:=zQ hm;have:=(cW.1 r).1;simpa using p j x O r
  have:=hR w e;rw[‹xs.any (· != 0)=false›]at this;exact this
theorem fG.part (h:fG U F p q r l B sp){x y c:Nat}(hl:x+y<=sp.st.length):cX ⟨some ⟨q,2*x,none⟩,y,c⟩ 2 (gP ((sp.st.drop x).take y)) U F:=by
 obtain⟨d,b⟩:=h.row;have a:(gP ((sp.st.drop x).take y)).length=y*2:=by rw[Vn,zZ,jX];omega
 refine⟨a,.inr ⟨q,2*x,_,h.fs.2.1,rfl,b.q,λj e=>?_⟩⟩;rw[a]at e;rw[zh (by rw[Vn];omega),Ml,Nr,zj,zC O,kL]
theorem PH (h:dK U F p sp)(a m:Int){R:Sl->Int->Hp->Prop}(h0:Zb sp.st.length a m=false->R ⟨none,0,0⟩ 1 U)
 (h1:∀(x y:Nat) s,a=x->m=y->1<=y->x+y<=sp.st.length->cX s 2 (gP ((sp.st.drop x).take y)) U F->R s 0 U):YZ.c (aW p) a m U R:=by
 refine YZ.o ?_;unfold YZ.v;have g:=h;obtain⟨q,r,l,B,h⟩:=h;have n2:=h.n2;have b:¬(0<=a/\1<=m/\m<=sp.st.length-a)->R ⟨none,0,0⟩ 1 U:=λA=>h0 (by simp only[Zb,←uB];exact zM A);refine BE g (cB rfl (bV.intro (cQ (λi=>bV.intro (cD rfl (bV.intro (cD rfl (cD rfl (b O)))))) λi=>?_)));refine bV.intro (cQ (λj=>bV.intro (cD rfl (cD rfl (b O)))) λj=>aG (h.rS λcap d=>?_));simp only;refine bV.intro (cQ (λz=>cD rfl (b O)) λz=>?_);refine aG (h.rS λcap d=>ar aC aC ?_);simp only;refine cQ (λw=>b O) λw=>?_;obtain⟨x,rfl⟩:=za (show 0<=a by omega);obtain⟨y,rfl⟩:=za (show 0<=m by omega);refine aG (h.rS λcap d=>cP (m:=x+y) O O ?_);refine iU O aC (zD _) ?_;simp only;rw[zB O];refine h1 x y _ rfl rfl O O ?_;have:=h.part (x:=x) (y:=y) (c:=cap-x) O;have e:(Option.map (λ(u:Addr)=>u.add (x*2)) (some (⟨q,0,none⟩:Addr)))=some ⟨q,2*x,none⟩:=by
  simp only[zX,add_lit];congr 2;omega
 rw[e,yr];exact this
def Sp.jH (s:Sp)(k v:Nat):Sp:={s with st:=s.st.set k v,wd:=λw=>if k*32<=w/\w<(k+1)*32 then 0 else s.wd w}
theorem FW {st:List Nat}(h:∀x∈st,x<=2){k v:Nat}(hv:v<=2):∀x∈st.set k v,x<=2:=by
 intro x hx;rcases wT hx with h1|h1
 ·exact h x h1
 ·omega
theorem fG.jH (h:fG U F p q r l B sp){k v:Nat}(hk:k<sp.st.length)(hv:v<=1){σ':Hp}(e:Ext (λb=>b=q\/b=r) U σ'){rest:List Value}
 (hb:bY σ' q (gP (sp.st.set k v)++rest)) (hm:dL σ' r .i64 .s (cS l (k:Int))):fG σ' F p q r (cS l (k:Int)) B (sp.jH k v):=by
 have d:∀j:Nat,(sp.st.set k v)[j]?=some 2↔j≠k/\sp.st[j]?=some 2:=λj=>by
  rw[mA];by_cases hjk:k=j
  ·subst hjk;rw[zC rfl,zC hk];constructor
   ·intro h;have:v=2:=by simpa using h
    omega
   ·intro h;exact absurd rfl h.1
  ·rw[zB hjk];exact⟨λh=>⟨λe=>hjk e.symm,h⟩,λh=>h.2⟩
 obtain⟨c,G,hd⟩:=h.hd;have J:¬(p=q\/p=r):=by have:=h.fs;omega
 refine⟨⟨c,by simpa[Sp.jH]using G,by simpa[Sp.jH]using e.bT hd J⟩,⟨rest,hb⟩,hm,λx=>?_,λj s g=>?_,λj y z m=>?_,λj a=>?_,h.fs,λw u=>?_,by simpa[Sp.jH]using h.n1,by simpa[Sp.jH]using h.n2,FW h.rf O,h.pk⟩
 ·rw[GJ];by_cases hx:x=(k:Int)
  ·rw[zC hx];constructor
   ·intro h;cases h
   ·rintro⟨j,rfl,a⟩;have:=(d j).1 a;omega
  ·rw[zB hx,h.keys];constructor
   ·rintro⟨j,rfl,a⟩;exact⟨j,rfl,(d j).2 ⟨O,a⟩⟩
   ·rintro⟨j,rfl,a⟩;exact⟨j,rfl,((d j).1 a).2⟩
 ·rw[GJ]at g;by_cases hx:(j:Int)=(k:Int)
  ·rw[zC hx]at g;cases g
  ·rw[zB hx]at g;obtain⟨K,M,D,A,L,C,H⟩:=h.wd j s g;have N:=h.out j (h.lf g);refine⟨K,M,D,A,e.bT L O,C,λi E=>?_⟩;rw[H i E];simp only[Sp.jH];rw[zB O]
 ·exact h.inj j y ((d j).1 z).2 ((d y).1 m).2
 ·exact h.out j ((d j).1 a).2
 ·simp only[Sp.jH]at u ⊢;by_cases hin:k*32<=w/\w<(k+1)*32
  ·rw[zC hin]
  ·rw[zB hin];refine h.zero w λm=>u ((d _).2 ⟨O,m⟩)
theorem Sp.oA (s:Sp)(a v:Nat):s.set a 0 v=s:=by
 have b:gg s.st a (a+0) v=s.st:=by
  apply zo;intro i;rw[UV];cases s.st[i]? with
  | none=>rfl
  | some x=>simp only[zX];rw[zB O]
 have d:(λw=>if a*32<=w/\w<(a+0)*32 then 0 else s.wd w)=s.wd:=by
  funext w;rw[zB O]
 simp only[Sp.set,b,d]
theorem Sp.oO (s:Sp)(a m v:Nat)(h:a+m<s.st.length):(s.set a m v).jH (a+m) v=s.set a (m+1) v:=by
 have b:(gg s.st a (a+m) v).set (a+m) v=gg s.st a (a+(m+1)) v:=by
  apply zo;intro i;rw[mA,UV,UV,Kv];by_cases hi:a+m=i
  ·subst hi;rw[zC rfl,zC h,cV h,zX,zC O]
  ·rw[zB hi];cases s.st[i]? with
   | none=>rfl
   | some x=>
    simp only[zX];by_cases hin:a<=i/\i<a+m
    ·rw[zC hin,zC O]
    ·rw[zB hin,zB O]
 have d:(λw=>if(a+m)*32<=w/\w<(a+m+1)*32 then 0 else(if a*32<=w/\w<(a+m)*32 then 0 else s.wd w))=λw=>if a*32<=w/\w<(a+(m+1))*32 then 0 else s.wd w:=by
  funext w
  by_cases b:(a+m)*32<=w/\w<(a+m+1)*32
  ·rw[zC b,zC O]
  ·rw[zB b];by_cases d:a*32<=w/\w<(a+m)*32
   ·rw[zC d,zC O]
   ·rw[zB d,zB O]
 simp only[Sp.set,Sp.jH,b,d]
theorem Lt (h:dK U F p sp){x y v:Nat}(hl:x+y<=sp.st.length)(hv:v<=1){R:aP}(hR:∀σ',Ext F U σ'->dK σ' F p (sp.set x y v)->R σ') :
 Y5.c (aW p) x y (fW v).1 (fW v).2 U R:=by
 refine Y5.o ?_;unfold Y5.v;have X:sp.st.length<=1024:=by obtain⟨q,r,l,B,h⟩:=h;exact h.n2
 have z:dK U (Cut F U) p sp:=dM.cut dK.loc h;refine nw (cs:=[.bool (fW v).1,.bool (fW v).2]) λu hz e g=>?_;have S:=z.bO e;refine ZS (a:=bN) (λ(t:Int) w=>∃i:Nat,t=((x+i:Nat):Int)/\i<=y/\Ext (Cut F U) u w/\bY w U.size [.bool (fW v).1,.bool (fW v).2]/\dK w (Cut F U) p (sp.set x i v)) (λt _=>x+y-t.toNat)
  ⟨0,rfl,O,Ext.refl _ _,g,by rw[Sp.oA];exact S⟩ ?_
 rintro t w ⟨i,rfl,hi,E,j,q,r,l,B,d⟩;refine cP (m:=x+y) O O (cQ (λV=>?_) λZ=>?_)
 ·have P:(sp.set x i v).st.length=sp.st.length:=Kv _ _ _ _;refine aG (d.rS λcap M=>j.rB rfl (j.rB rfl (ix O aC ?_)));rw[add_lit,show 0+((x+i:Nat):Int).toNat*2=2*(x+i) by omega];obtain⟨K,s⟩:=d.row;have L:x+i<(sp.set x i v).st.length:=by omega
  refine s.s1 (by rw[zP,Vn];omega) λw1 o1 Y=>Y.s1 (by rw[nK,zP,Vn];omega) λw2 o2 N=>?_;rw[jY,Ct L]at N;have e2:Ext (· = q) w w2:=o1.ext.trans o2.ext;obtain⟨c,Q,hd⟩:=d.hd;have D:=e2.bT hd d.fs.2.2.2.1;refine aG (D.rM rfl ⟨l,e2.fR d.map (λe=>d.fs.2.2.2.2.2 e.symm),λw3 A _ C=>?_⟩);have o3:=A r rfl;have G:Ext (λb=>b=q\/b=r) w w3:=(e2.sub λb g=>.inl g).trans (o3.ext.sub λb g=>.inr g);have J:=d.jH L hv G (Ws o3 N d.fs.2.2.2.2.2) C;rw[Sp.oO _ _ _ _ O]at J;have H:Ext (Cut F U) w w3:=G.sub λb g=>by
   rcases g with rfl|rfl
   ·exact d.fs.2.1
   ·exact d.fs.2.2.1
  refine cP (m:=x+(i+1)) O O ⟨⟨i+1,rfl,O,E.trans H,H.bT j λW=>by have:=W.2;omega,_,_,_,_,J⟩,O⟩
 ·have:i=y:=by omega
  subst this;refine hR w (Ext.cut (e.to.trans E)) (dM.mono dK.loc ⟨q,r,l,B,d⟩ λb _ g=>g.1)
theorem Pz (h:dK U F p sp)(g:Gl U)(hF:iS F)(a m:Int){R:aN}(hR:∀σ',Ext F U σ'->dK σ' F p (fT sp a m)->R (fB sp a m) σ') :
 YU.c (aW p) a m U R:=by
 refine YU.o ?_;unfold YU.v;have e:(∀x∈sp.st,x<=2)/\sp.st.length<=1024:=by obtain⟨q,r,l,B,h⟩:=h;exact⟨h.rf,h.n2⟩
 refine PH h a m (λi=>?_) λx y s H w K u J=>?_
 ·have e1:fB sp a m=1:=by unfold fB;rw[i];rfl
  have e2:fT sp a m=sp:=by unfold fT;rw[e1];rfl
  have:=hR U (Ext.refl _ _);rw[e1,e2]at this;exact cD rfl (this h)
 ·subst H;subst w;have i:Zb sp.st.length (x:Int) (y:Int)=true:=by simp only[Zb,zF,zU];omega
  refine cB rfl (RX J g (by rw[zZ,jX];omega) (λz C=>e.1 z (sd (vS C))) λD e1=>?_);have d:fB sp x y=if((sp.st.drop x).take y).any (· != 0)then 5 else 0:=by unfold fB;rw[i];rfl
  refine cO (λb=>?_) λb=>?_
  ·rw[b]at d;have e2:fT sp x y=sp:=by unfold fT;rw[d];rfl
   have:=hR D (bK.to e1);rw[d,e2]at this;exact this (h.bO e1)
  ·rw[b]at d;have e2:fT sp x y=sp.set x y 1:=by unfold fT;rw[d];rfl
   have j:=g.bO e1;refine mY (by rw[←j.c0];rfl) (mY (by rw[←j.c1];rfl) ?_);refine Lt (v:=1) (h.bO e1) u O λG A E=>?_;have:=hR G (Ext.trans (bK.to e1) A);rw[d,e2]at this;exact this E
theorem Fp (h:dK U F p sp)(g:Gl U)(x:Int)(hx:x<=9223372036854775807){R:aN}(hR:∀σ',bK U σ'->R (eH sp x) σ') :
 Xn.c (aW p) x 1 U R:=by
 refine Xn.o ?_;unfold Xn.v;have E:=h;obtain⟨q,r,l,B,h⟩:=h;have n2:=h.n2;have i:(x<0\/x%8≠0)->R 7 U:=λj=>by
  have:=hR U (Ext.refl _ _);unfold eH at this;rw[zC j]at this;exact this
 refine BE E (cB rfl (cB rfl (bV.intro (cQ (λA=>cD rfl (i (.inl A))) λA=>nz aB ?_))));obtain⟨y,rfl⟩:=za (show 0<=x by omega);refine cO (λd=>?_) λd=>?_
 ·refine i (.inr ?_);rw[Qm O]at d;simpa using d
 have K:y%8=0:=by
  rw[Qm O]at d;have:((y:Int)%8)=0:=by simpa using d
  omega
 have ok:¬((y:Int)<0\/(y:Int)%8≠0):=by omega
 refine nz aB (cP (m:=y/256) (by rw[Xs O];simp) O (nz aB (cP (m:=y/8) (by rw[Xs O];simp) O ?_)));refine cP (m:=y/8+1) O O (cP (m:=y/8) O O (nz aB (cP (m:=y/256) (by rw[Xs O];simp;omega) O ?_)));have fin:∀(b:Bool) σ',bK U σ'->(b=true↔sp.st.getD (y/256) 0=0)->If b (R 7 σ') (R 0 σ'):=λb σ' e j=>by
  have:=hR σ' e;unfold eH at this;rw[zB ok]at this;refine cO (λh=>?_) λh=>?_
  ·rw[zC (by simpa using j.1 h)]at this;exact this
  ·rw[zB (λH=>by rw[j.2 (by simpa using H)]at h;cases h)]at this;exact this
 obtain⟨c,J,hd⟩:=h.hd;refine Jn.intro ⟨λm=>bY m p [.slice (some ⟨q,0,none⟩) sp.st.length c,.map (some r),.int .i64 (sp.pk:Int)]/\Gl m,⟨hd,g⟩,?_⟩;refine aG ⟨⟨some ⟨q,0,none⟩,sp.st.length,c⟩,λm a=>by rw[add_lit,a.1.cell];rfl,?_⟩;refine cQ (λw=>?_) λw=>?_
 ·simp only at w;refine fin _ U (Ext.refl _ _) ⟨λ_=>?_,λ_=>rfl⟩;rw[zO,zV O];rfl
 simp only at w;refine aG ⟨⟨some ⟨q,0,none⟩,sp.st.length,c⟩,λm a=>by rw[add_lit,a.1.cell];rfl,?_⟩;refine cP (m:=y/256+1) O O (iU O aC (zD _) ?_);simp only;rw[zB O];refine⟨false,λm a=>a.2.u0,⟨false,λm a=>a.2.u1,?_⟩⟩;have e:(Option.map (λ(u:Addr)=>u.add (y/256*2)) (some (⟨q,0,none⟩:Addr)))=some ⟨q,2*(y/256),none⟩:=by
  simp only[zX,add_lit];congr 2;omega
 rw[e,yr];have D:=h.part (x:=y/256) (y:=1) (c:=c-y/256) O;refine OR (v:=0) D (by rw[zZ,jX];omega) (λz G=>h.rf z (sd (vS G))) O λσ' s=>?_;refine⟨⟨s.bT hd id,g.bO s⟩,fin _ σ' s ?_⟩;have C:y/256<sp.st.length:=by omega
 rw[zO,cV C,vG C,ug,yk];simp[eq_comm]
theorem Of (h:dK U F p sp){w:Nat}(hw:w<=2305843009213693952){R:aN}(hR:R (sp.wd w) U):Y4.c (aW p) (w:Int) U R:=by
 refine Y4.o ?_;unfold Y4.v;obtain⟨q,r,l,B,h⟩:=h;refine aG (h.rM (nz aB (cP (m:=w/32) (by rw[Xs O];simp) O ⟨l,h.map,?_⟩)));cases hg:bW l ((w/32:Nat):Int)with
 | none=>
  refine cB rfl ?_;have:sp.st[w/32]?≠some 2:=λb=>by
   have:=(h.keys _).2 ⟨_,rfl,b⟩;rw[hg]at this;cases this
  rw[h.zero w this]at hR;exact hR
 | some s=>
  obtain⟨d,x,u,i,g,j,a⟩:=h.wd _ s hg;refine cD rfl (nz aB ?_);simp only[pC];have e:((w:Int).tmod 32)=((w%32:Nat):Int):=by rw[Qm O];simp
  rw[d,e];refine ix O O ?_;rw[add_lit];refine g.ud ?_ hR;rw[show 0+((w%32:Nat):Int).toNat*1=w%32 by omega,a _ O];simp only;rw[show 32*(w/32)+w%32=w by omega]
theorem ID (h:dK U F p sp)(g:Gl U)(x:Int)(hx:x<=9223372036854775807){R:Int->Int->Hp->Prop}(hR:∀σ',bK U σ'->R (if eH sp x=0 then sp.wd (x.toNat/8)else 0) (eH sp x) σ') :
 YI.c (aW p) x U R:=by
 refine YI.o ?_;unfold YI.v;refine Fp h g x hx λσ' e=>?_;have:=hR σ' e;refine cO (λi=>?_) λi=>?_
 ·have b:¬eH sp x=0:=by simpa using i
  rw[zB b]at this;exact this
 ·have a:eH sp x=0:=by simpa using i
  rw[zC a,a]at this;have d:0<=x:=by
   rcases(by omega:x<0\/0<=x)with hlt|hge
   ·unfold eH at a;rw[zC (.inl hlt)]at a;cases a
   ·exact hge
  obtain⟨y,rfl⟩:=za d;exact nz aB (cP (m:=y/8) (by rw[Xs O];simp) O (Of (h.bO e) O this))
theorem fG.Ba (h:fG U F p q r l B sp){k:Nat}(hk:k<sp.st.length)(hn:sp.st[k]?≠some 2){σ':Hp}{b:Nat}{s:Sl}{T:Rg}(e:Ext T U σ')(hT:∀i,i<U.size->T i->i=q\/i=r)(hz:U.size<=b){rest:List Value}
 (hb:bY σ' q (gP (sp.st.set k 2)++rest)) (hm:dL σ' r .i64 .s (dB l (k:Int) s)) (ha:s.a=some ⟨b,0,none⟩) (hl:s.len=32) (hc:s.cap=32) (hw:bY σ' b (List.replicate 32 (.int .i64 0))) :
 fG σ' (Grow F U) p q r (dB l (k:Int) s) (λj=>if j=k then b else B j) {sp with st:=sp.st.set k 2}:=by
 have u:∀j:Nat,(sp.st.set k 2)[j]?=some 2↔j=k\/sp.st[j]?=some 2:=λj=>by
  rw[mA];by_cases hjk:k=j
  ·subst hjk;rw[zC rfl,zC hk];simp
  ·rw[zB hjk];exact⟨λh=>.inr h,λh=>h.resolve_left λe=>hjk e.symm⟩
 obtain⟨c,G,hd⟩:=h.hd;obtain⟨_,z⟩:=h.row;have V:=hd.lt;have X:=z.lt;have S:=h.map.lt;have W:=e.1;have g:=h.fs;have C:∀{j:Nat},sp.st[j]?=some 2->B j<U.size:=λ{j} d=>by
  obtain⟨t,_,_,_,_,cs,H,_⟩:=h.entry d;exact H.lt
 have cT:∀{i:Nat} {cs:List Value},bY U i cs->i≠q->i≠r->bY σ' i cs:=λ{i cs} E D y=>e.bT E λM=>by
  rcases hT i E.lt M with h|h
  ·exact D h
  ·exact y h
 refine⟨⟨c,by simpa using G,by simpa using cT hd g.2.2.2.1 g.2.2.2.2.1⟩,⟨rest,hb⟩,hm,λx=>?_,λj t d=>?_,λj A D y m=>?_,λj d=>?_,⟨.inl g.1,.inl g.2.1,.inl g.2.2.1,g.2.2.2⟩,λw J=>?_,by simpa using h.n1,by simpa using h.n2,FW h.rf O,h.pk⟩
 ·rw[V1];by_cases hx:x=(k:Int)
  ·rw[zC hx];subst hx;simp only[Option.isSome_some,true_iff];exact⟨k,rfl,(u k).2 (.inl rfl)⟩
  ·rw[zB hx,h.keys];constructor
   ·rintro⟨j,rfl,d⟩;exact⟨j,rfl,(u j).2 (.inr d)⟩
   ·rintro⟨j,rfl,d⟩;exact⟨j,rfl,((u j).1 d).resolve_left O⟩
 ·rw[V1]at d;by_cases hx:(j:Int)=(k:Int)
  ·have:j=k:=by omega
   subst this;rw[zC rfl]at d;cases d;rw[zC rfl];refine⟨ha,hl,O,_,hw,by simp,λi E=>?_⟩;rw[lX,zC E];simp only;rw[h.zero _ (by rw[show(32*j+i)/32=j by omega];exact hn)]
  ·rw[zB hx]at d;obtain⟨R,N,Q,cs,H,P,L⟩:=h.wd j t d;have K:=h.out j (h.lf d);rw[zB O];exact⟨R,N,Q,cs,cT H K.2.2.1 K.2.2.2,P,L⟩
 ·by_cases e1:j=k
  ·by_cases e2:A=k
   ·omega
   ·rw[zC e1,zB e2]at m;have:=C (((u A).1 y).resolve_left e2);omega
  ·rw[zB e1]at m;by_cases e2:A=k
   ·rw[zC e2]at m;have:=C (((u j).1 D).resolve_left e1);omega
   ·rw[zB e2]at m;exact h.inj j A (((u j).1 D).resolve_left e1) (((u A).1 y).resolve_left e2) m
 ·by_cases e1:j=k
  ·rw[zC e1];exact⟨.inr hz,O,O,O⟩
  ·rw[zB e1];have:=h.out j (((u j).1 d).resolve_left e1);exact⟨.inl this.1,this.2⟩
 ·refine h.zero w λy=>J ((u _).2 (.inr y))
theorem fG.Bw (h:fG U F p q r l B sp){σ':Hp}{n c:Nat}(hn:n<=1024)(ho:Qk U σ' p)(hc:sp.st.length<=c)(hb:bY σ' p [.slice (some ⟨q,0,none⟩) sp.st.length c,.map (some r),.int .i64 (n:Int)]):fG σ' F p q r l B {sp with pk:=n}:=by
 have d:=h.fs;obtain⟨a,b⟩:=h.row;refine⟨⟨c,hc,hb⟩,⟨a,Ws ho b O⟩,U4 ho h.map O,h.keys,λj t e=>?_,h.inj,h.out,d,h.zero,h.n1,h.n2,h.rf,hn⟩;obtain⟨u,x,s,g,w,i,m⟩:=h.wd j t e;exact⟨u,x,s,g,Ws ho w (h.out j (h.lf e)).2.1,i,m⟩
theorem fG.word (h:fG U F p q r l B sp){w:Nat}{v:Int}(hk:sp.st[w/32]?=some 2){σ':Hp}{cs:List Value}(h32:32<=cs.length)(ho:Qk U σ' (B (w/32)))(hcs:∀j,j<32->cs[j]?=some (.int .i64 (sp.wd (32*(w/32)+j))))
 (hb:bY σ' (B (w/32)) (cs.set (w%32) (.int .i64 v))):fG σ' F p q r l B {sp with wd:=λu=>if u=w then v else sp.wd u}:=by
 have s:=h.out _ hk;obtain⟨c,E,hd⟩:=h.hd;obtain⟨b,a⟩:=h.row;refine⟨⟨c,E,Ws ho hd O⟩,⟨b,Ws ho a O⟩,U4 ho h.map O,h.keys,λj t y=>?_,h.inj,h.out,h.fs,λu z=>?_,h.n1,h.n2,h.rf,h.pk⟩
 ·obtain⟨A,C,x,g,H,D,G⟩:=h.wd j t y;by_cases hjk:j=w/32
  ·subst hjk;refine⟨A,C,x,_,hb,by simpa using h32,λi d=>?_⟩;rw[mA];by_cases hiw:w%32=i
   ·rw[zC hiw,zC O];simp only;rw[zC O]
   ·rw[zB hiw];simp only;rw[zB O];exact hcs i d
  ·have m:B j≠B (w/32):=λe=>hjk (h.inj _ _ (h.lf y) hk e);refine⟨A,C,x,g,Ws ho H m,D,λi d=>?_⟩;rw[G i d];simp only;rw[zB O]
 ·have:u≠w:=λe=>by subst e;exact z hk
  simp only;rw[zB this];exact h.zero u z
theorem Mo (h:dK U F p sp)(g:Gc U){w:Nat}(hw:w/32<sp.st.length)(v:Int){R:aP}(hR:∀σ',Ext F U σ'->dK σ' (Grow F U) p (mU sp w v)->R σ') :
 Y3.c (aW p) (w:Int) v U R:=by
 refine Y3.o ?_;unfold Y3.v;obtain⟨q,r,l,B,h⟩:=h;have X:=h.n2;have x:sp.st[w/32]?=some sp.st[w/32]:=cV hw;have tm:((w:Int).tmod 32)=((w%32:Nat):Int):=by rw[Qm O];simp
 have word:∀(u:Hp) (s':Sp) (l':List (Int×Sl)) (B':Nat->Nat),Ext F U u->fG u (Grow F U) p q r l' B' s'->s'.st[w/32]?=some 2->({s' with wd:=λz=>if z=w then v else s'.wd z}:Sp)=mU sp w v →
  bU (some ⟨p,0,none⟩) λaa=>kZ (aa.add 1) u λS=>Lk .i64 .s S ((w/32:Nat):Int) u λC=>Nz 32<|Ix (C.getD ⟨none,0,0⟩).a (C.getD ⟨none,0,0⟩).len ((w:Int).tmod 32) 1 λW=>dX W (.int .i64 v) u λv1=>R v1:=by
  intro u s' l' B' eu hu A he;refine aG (hu.rM ⟨l',hu.map,nz aB ?_⟩);obtain⟨s,hs,w1,w2,w3,cs,w4,w5,w6⟩:=hu.entry A;rw[hs,tm];simp only[pC];rw[w1];refine ix O O ?_;rw[add_lit,show 0+((w%32:Nat):Int).toNat*1=w%32 by omega];refine w4.s0 O λu2 o2 N=>?_;have h2:=hu.word (v:=v) A w5 o2 w6 N;rw[he]at h2;exact hR u2 (eu.dV o2.ext λb d=>by subst d;exact(hu.out _ A).1) ⟨_,_,_,_,h2⟩
 refine nz aB (cP (m:=w/32) (by rw[Xs O];simp) O (Jn.intro (aG (h.rS λcap K=>ix O aC ?_))));rw[add_lit,show 0+((w/32:Nat):Int).toNat*2=2*(w/32) by omega];refine h.xw x (mY (n:=true) g.d0 (mY (n:=true) g.d1 ?_));have e0:(((fW sp.st[w/32]).1==true)&&(((fW sp.st[w/32]).2==true)&&true))=(sp.st[w/32]==2):=Bg (h.rf _ (kg hw)) (y:=2) O;rw[e0];refine cO (λhd=>?_) λhd=>?_
 ·have H:sp.st[w/32]≠2:=by simpa using hd
  refine aG (h.rS λcap K=>mY (n:=true) g.d0 (mY (n:=true) g.d1 (ix O aC ?_)));rw[add_lit,show 0+((w/32:Nat):Int).toNat*2=2*(w/32) by omega];obtain⟨D,E⟩:=h.row;refine E.s1 (by rw[zP,Vn];omega) λu1 o1 b1=>b1.s1 (by rw[nK,zP,Vn];omega) λu2 o2 N=>?_;rw[jY]at N;have Z:bY u2 q (gP (sp.st.set (w/32) 2)++D):=by rw[←Ct hw];exact N
  have e2:Ext (· = q) U u2:=o1.ext.trans o2.ext;obtain⟨c,hc,J⟩:=h.hd;have G:=e2.bT J h.fs.2.2.2.1;refine⟨λm=>bY m p [.slice (some ⟨q,0,none⟩) sp.st.length c,.map (some r),.int .i64 (sp.pk:Int)],G,aG ⟨some r,λm hm=>by rw[add_lit,hm.cell];rfl,?_⟩⟩;refine mk (n:=32) O O λu3 hz3 M b3=>⟨Ext.bT M G id,?_⟩;have ad:bY u3 u2.size (List.replicate 32 (.int .i64 0)):=b3;have q3:=Ext.bT M Z id;have Y:=e2.fR h.map (λe=>h.fs.2.2.2.2.2 e.symm);refine⟨r,l,rfl,Ext.fR M Y id,λu4 o4 V=>?_⟩;have sz2:u2.size=U.size:=by rw[o2.1,o1.1]
  have hrlt:=h.map.lt;have hplt:=J.lt;have e4:Ext (λb=>b=q\/b=r) U u4:=((e2.sub λb d=>.inl d).trans (bK.to M)).trans (o4.ext.sub λb d=>.inr d);have P:=h.Ba hw (by rw[x];simpa using H) (s:=⟨some ⟨u2.size,0,none⟩,32,32⟩) (b:=u2.size) e4 (λi _ L=>L) O (Ws o4 q3 h.fs.2.2.2.2.2) V rfl rfl rfl (Ws o4 ad O);obtain⟨c4,ac,j⟩:=P.hd;refine aG (j.rI rfl (aG (j.rM rfl ⟨_,P.map,aG ?_⟩)));rw[P.vp];have hcl:(sp.st.set (w/32) 2).count 2<=1024:=ze List.count_le_length (by simpa using X);have hpk:=h.pk;have hv:(if((List.count 2 (sp.st.set (w/32) 2):Nat):Int)>(sp.pk:Int)then((List.count 2 (sp.st.set (w/32) 2):Nat):Int)else(sp.pk:Int))=((max sp.pk ((sp.st.set (w/32) 2).count 2):Nat):Int):=by
   by_cases hgt:((List.count 2 (sp.st.set (w/32) 2):Nat):Int)>(sp.pk:Int)
   ·rw[zC hgt];omega
   ·rw[zB hgt];omega
  simp only;rw[hv];refine j.s1 aA λu5 o5 b5=>?_;have h5:=P.Bw O o5 ac b5;have e5:Ext F U u5:=(e4.sub λb d=>by
   rcases d with rfl|rfl
   ·exact h.fs.2.1
   ·exact h.fs.2.2.1).trans (o5.ext.sub λb d=>by subst d;exact h.fs.1)
  refine word u5 _ _ _ e5 h5 (by simp only;rw[mA,zC rfl,zC hw]) ?_;unfold mU;rw[zB (by rw[zO,x];exact H)]
 ·have Q:sp.st[w/32]=2:=by simpa using hd
  rw[Q]at x;have ab:fG U (Grow F U) p q r l B sp:={h with out:=λk A=>⟨.inl (h.out k A).1,(h.out k A).2⟩,fs:=⟨.inl h.fs.1,.inl h.fs.2.1,.inl h.fs.2.2.1,h.fs.2.2.2⟩};refine word U sp l B (Ext.refl _ _) ab x ?_;unfold mU;rw[zC (by rw[zO,x];rfl)];have:sp.st.set (w/32) 2=sp.st:=by
   apply zo;intro i;rw[mA];by_cases L:w/32=i
   ·subst L;rw[zC rfl,zC hw,x]
   ·rw[zB L]
  rw[this]
theorem MS (h:dK U F p sp)(g:Gl U)(gd:Gc U)(x:Int)(hx:x<=9223372036854775807)(v:Int){R:aN}(hR:∀σ',Ext F U σ'->dK σ' (Grow F U) p (ZU sp x v)->R (eH sp x) σ') :
 Yo.c (aW p) x v U R:=by
 refine Yo.o ?_;unfold Yo.v;have i:dK U (Cut F U) p sp:=dM.cut dK.loc h;refine Fp h g x hx λA e=>?_;have w:=i.bO e;have C:=g.bO e;refine cO (λu=>?_) λu=>?_
 ·have s:¬eH sp x=0:=by simpa using u
  refine hR A (bK.to e) ?_;unfold ZU;rw[zB s];exact dM.mono dK.loc w λb _ a=>.inl a.1
 ·have d:eH sp x=0:=by simpa using u
  have j:0<=x/\sp.st.getD (x.toNat/256) 0≠0:=by
   unfold eH at d;by_cases a:x<0\/x%8≠0
   ·rw[zC a]at d;cases d
   ·rw[zB a]at d;by_cases hz:sp.st.getD (x.toNat/256) 0=0
    ·rw[zC hz]at d;cases d
    ·exact⟨O,hz⟩
  obtain⟨y,rfl⟩:=za j.1;have r:y/8/32<sp.st.length:=by
   rcases ku (y/256) sp.st.length with h|h
   ·omega
   ·exact absurd (by rw[zO,zV (by simpa using h)];rfl) j.2
  refine nz aB (cP (m:=y/8) (by rw[Xs O];simp) O (Mo w (gd.bO e) r v λB e2 z=>?_));have:=hR B (Ext.cut ((bK.to e).trans e2)) ?_
  ·rw[d]at this;exact this
  ·unfold ZU;rw[zC d];exact dM.mono dK.loc z λb _ a=>by
    rcases a with a|a
    ·exact .inl a.1
    ·exact .inr (ze e.1 a)
def KY (n:Nat):Sp:=⟨List.replicate n 0,λ_=>0,0⟩
theorem RN {U:Hp}{F:Rg}{p q r n c:Nat}(h1:1<=n)(h2:n<=1024)(hc:n<=c)(hd:bY U p [.slice (some ⟨q,0,none⟩) n c,.map (some r),.int .i64 0])(hq:bY U q (gP (List.replicate n 0)))(hr:dL U r .i64 .s [])
 (hF:F p/\F q/\F r) (hne:p≠q/\p≠r/\q≠r):fG U F p q r [] (λ_=>0) (KY n):=by
 have b:∀k:Nat,(List.replicate n 0)[k]?≠some 2:=λk a=>by
  rw[lX]at a;split at a<;>cases a
 refine⟨⟨c,by simpa[KY]using hc,by simpa[KY]using hd⟩,⟨[],by simpa[KY]using hq⟩,hr,λx=>?_,λk s d=>(by cases d),λk g h1=>absurd h1 (b k),λk a=>absurd a (b k),⟨hF.1,hF.2.1,hF.2.2,hne⟩,λw _=>rfl,by simpa[KY]using h1,by simpa[KY]using h2,λx e=>?_,by simp[KY]⟩
 ·constructor
  ·intro h;cases h
  ·rintro⟨k,_,a⟩;exact absurd a (b k)
 ·have:=Av e;omega
theorem JS {n:Nat}(h1:1<=n)(h2:n<=1024){R:Option Addr->Int->Hp->Prop}(hR:∀σ' p',bK U σ'->U.size<=p'->dK σ' (λb=>U.size<=b) p' (KY n)->R (some ⟨p',0,none⟩) 0 σ'):QI.c (n:Int) U R:=by
 refine QI.o ?_;unfold QI.v;refine bV.intro (fS O ?_);rw[zM O];refine cB rfl (mk O O λd w e1 j=>r7 λu r e2 p=>nw (cs:=[.slice (some ⟨U.size,0,none⟩) n n,.map (some d.size),.int .i64 0]) λe x a i=>?_);have m:=Ext.bT a (Ext.bT e2 j id) id;have g:=Ext.fR a (p .i64 .s) id;refine hR e _ (Ext.trans (Ext.trans e1 e2) a) O ⟨U.size,d.size,[],_,RN h1 h2 (zD _) i ?_ g ⟨O,O,O⟩ O⟩;rw[Sc];exact m
end Go.Ar
namespace Go.Vc
open Go
def vv (h:Hp)(it r:Nat):Nat:=
 match h[it]?,h[r]? with
 | some (.mapIter _ _ seen _),some (.map es _)=>(es.toList.filter λe=>!seen.contains e.born).length
 | _,_=>0
variable {U:Hp}{k:IntKind}{c:CK}{l todo:List (Int×c.T)}{cur:Option (Int×c.T)}{r it:Nat}
theorem It.num {h:Hp}(hi:It h it k c (some r) l todo cur):vv h it r=todo.length:=by
 obtain⟨j,e,a,b,d,p,m,u,s,g,i⟩:=hi;unfold vv;rw[b,d];have:=congrArg List.length g;simpa using this
theorem It.bR {h h':Hp}(hi:It h it k c (some r) l todo cur)(h1:h'[it]?=h[it]?)(h2:h'[r]?=h[r]?):It h' it k c (some r) l todo cur:=by
 obtain⟨e,d,b,i,g,a⟩:=hi;exact⟨e,d,b,h1.trans i,h2.trans g,a⟩
theorem yu {A:aP}{body:Int->c.T->Hp->(Hp->Prop)->Prop}(hm:dL U r k c l)(I:List (Int×c.T)->Hp->Prop)
 (h0:∀v,v.size=U.size+1->bK U v->I l v)
 (hend:∀v,I [] v->A v)
 (hstep:∀todo n x v v' (J:aP),I todo v->(n,x)∈todo->Qk v v' U.size->U.size<v.size->(∀w,w[U.size]?=v'[U.size]?->w[r]?=v'[r]?->I (todo.filter λy=>!(y.1==n)) w->J w)->body n x v' J) :
 nC k c (some r) U λit v3=>Yp [] (λI=>I v3) λJ1 v4=>nF k c it v4 (A v4) λ_ _ v5=>nJ k c it v5 λkey1 val1=>body key1 val1 v5 J1:=by
 refine⟨l,hm,λv E L F=>?_⟩;have G:bK U v:=⟨O,λb i _=>L b i⟩;refine Cb (λw=>∃todo a,It w U.size k c (some r) l todo a/\I todo w/\U.size<w.size) (λw=>vv w U.size r) ⟨l,none,F,h0 v E G,O⟩ ?_;rintro w ⟨todo,a,g,z,p⟩;refine⟨rfl,some r,l,todo,a,g,λM=>?_,λn x C H D e=>?_⟩
 ·subst M;exact hend w z
 ·refine⟨rfl,some r,l,_,n,x,e,hstep todo n x w H _ z C D p λu m s j=>?_⟩;have d:=e.bR m s;refine⟨⟨_,_,d,j,?_⟩,?_⟩
  ·obtain⟨P,K,B,N,_⟩:=d;exact(j3.1 N).1
  ·rw[d.num,g.num];exact Bs.2 ⟨(n,x),C,by simp⟩
theorem tf {a:CK}{x0:a.T}{A:a.T->Hp->Prop}{body:Int->c.T->a.T->Hp->(a.T->Hp->Prop)->Prop}(hm:dL U r k c l)(I:List (Int×c.T)->a.T->Hp->Prop)
 (h0:∀v,v.size=U.size+1->bK U v->I l x0 v)
 (hend:∀z v,I [] z v->A z v)
 (hstep:∀todo n x z v v' (J:a.T->Hp->Prop),I todo z v->(n,x)∈todo->Qk v v' U.size->U.size<v.size->(∀z' w,w[U.size]?=v'[U.size]?->w[r]?=v'[r]?->I (todo.filter λy=>!(y.1==n)) z' w->J z' w)->body n x z v' J) :
 nC k c (some r) U λit v3=>Yp [a] (λI=>I x0 v3) λJ1 z v4=>nF k c it v4 (A z v4) λ_ _ v5=>nJ k c it v5 λkey1 val1=>body key1 val1 z v5 J1:=by
 refine⟨l,hm,λv G N H=>?_⟩;have K:bK U v:=⟨O,λb j _=>N b j⟩;refine ZS (a:=a) (λz w=>∃todo d,It w U.size k c (some r) l todo d/\I todo z w/\U.size<w.size) (λ_ w=>vv w U.size r) ⟨l,none,H,h0 v G K,O⟩ ?_;rintro z w ⟨todo,d,i,C,s⟩;refine⟨rfl,some r,l,todo,d,i,λP=>?_,λn x E L F g=>?_⟩
 ·subst P;exact hend z w C
 ·refine⟨rfl,some r,l,_,n,x,g,hstep todo n x z w L _ C E F s λz' u p B m=>?_⟩;have e:=g.bR p B;refine⟨⟨_,_,e,m,?_⟩,?_⟩
  ·obtain⟨R,M,D,Q,_⟩:=e;exact(j3.1 Q).1
  ·rw[e.num,i.num];exact Bs.2 ⟨(n,x),E,by simp⟩
end Go.Vc
namespace Go.Ar
open Go Go.Vc Go.Proofs
open Go.Bu (Zb)
variable {U:Hp}{F:Rg}{p q r:Nat}{sp:Sp}{l:List (Int×Sl)}{B:Nat->Nat}
theorem Kl {α:Type}{l:List (Int×α)}(hn:(l.map (·.1)).Nodup){n:Int}{x:α}(h:(n,x)∈l):bW l n=some x:=by
 induction l with
 | nil=>simp at h
 | cons y l ih=>
  rw[Q6];simp only[zT,zr]at hn;rcases zW.1 h with h1|h1
  ·subst h1;rw[zC rfl]
  ·have:¬y.1=n:=λe=>hn.1 (zE.2 ⟨_,h1,e.symm⟩);rw[zB this];exact ih hn.2 h1
end Go.Ar